/- Su: contracts: sums, multiples and orders of points over the rationals, both sides. No conditions. -/
import Derived.Test.YtakilincclnpdaaGreatDoorApz
import Derived.Test.YtakilincclnpdaaGreatDoorNgz
import Derived.Test.YtakilincclnpdaaGreatDoorAqz
namespace Go.Proofs.YtakilincclnpdaaGreatDoor
open Go.RowKit
set_option linter.unusedVariables false

/-- the k-th multiple of a point, none if a sum on the way is no point. -/
noncomputable def mulT (a x y e : Int) : Nat → Option (Int × Int × Int)
  | 0 => some (0, 0, 0)
  | k + 1 => (mulT a x y e k).bind fun t => addT a t.1 t.2.1 t.2.2 x y e
theorem mulT_succ {a x y e : Int} {k : Nat} {t : Int × Int × Int} (h : mulT a x y e k = some t) : mulT a x y e (k + 1) = addT a t.1 t.2.1 t.2.2 x y e := by
  show (mulT a x y e k).bind _ = _
  rw [h]; rfl
theorem on_zero (a b : Int) : onB a b 0 0 0 = true := onB_true.2 (.inl ⟨rfl, rfl, rfl⟩)
theorem mulT_on {a b x y e : Int} (hp : onB a b x y e = true) : ∀ (k : Nat) (t : Int × Int × Int), mulT a x y e k = some t → onB a b t.1 t.2.1 t.2.2 = true
  | 0, t, h => by cases h; exact on_zero a b
  | k + 1, t, h => by
    cases hk : mulT a x y e k with
    | none =>
      have : mulT a x y e (k + 1) = none := by show (mulT a x y e k).bind _ = _; rw [hk]; rfl
      rw [this] at h; cases h
    | some u =>
      rw [mulT_succ hk] at h
      exact addT_on (mulT_on hp k u hk) hp h
theorem mulT_none {a x y e : Int} {j : Nat} (h : mulT a x y e j = none) : ∀ k, j ≤ k → mulT a x y e k = none
  | 0, hk => by have : j = 0 := by omega
                subst this; exact h
  | k + 1, hk => by
    rcases Nat.lt_or_eq_of_le hk with g | g
    · show (mulT a x y e k).bind _ = _
      rw [mulT_none h k (by omega)]; rfl
    · rw [← g]; exact h
/-- the order, sought from n on. -/
noncomputable def ordO (a x y e : Int) : Nat → Nat → Option Nat
  | 0, _ => none
  | f + 1, n => match mulT a x y e n with
    | none => none
    | some t => if t.2.2 = 0 then some n else ordO a x y e f (n + 1)
theorem ordO_none {a x y e : Int} {f n : Nat} (h : mulT a x y e n = none) : ordO a x y e (f + 1) n = none := by
  rw [ordO]; rw [h]
theorem ordO_zero {a x y e : Int} {f n : Nat} {t : Int × Int × Int} (h : mulT a x y e n = some t) (h0 : t.2.2 = 0) : ordO a x y e (f + 1) n = some n := by
  rw [ordO]; rw [h]; exact if_pos h0
theorem ordO_next {a x y e : Int} {f n : Nat} {t : Int × Int × Int} (h : mulT a x y e n = some t) (h0 : ¬ t.2.2 = 0) : ordO a x y e (f + 1) n = ordO a x y e f (n + 1) := by
  rw [ordO]; rw [h]; exact if_neg h0
def ordW : Option Nat → Value
  | some n => .tuple #[.int .i64 (n : Int), .bool true]
  | none => .tuple #[.int .i64 0, .bool false]
theorem onB_neg {a b x y e : Int} (h : onB a b x y e = true) : onB a b x (-y) e = true := by
  rcases onB_true.1 h with ⟨h1, h2, h3⟩ | ⟨k1, k2, k3, k4, k5, k6⟩
  · exact onB_true.2 (.inl ⟨h1, by omega, h3⟩)
  · exact onB_true.2 (.inr ⟨k1, k2, k3, k4, k5, by rw [Int.neg_mul_neg]; exact k6⟩)
/-- a box of a point, block n. -/
def PB (w : World) (n : Nat) (x y e : Int) : Prop := n < w.heap.size ∧ w.cell? ⟨n, 0, none⟩ = some (.int .i64 x) ∧ w.cell? ⟨n, 1, none⟩ = some (.int .i64 y) ∧ w.cell? ⟨n, 2, none⟩ = some (.int .i64 e) ∧ w.frozen? ⟨n, 0, none⟩ = false ∧ w.frozen? ⟨n, 1, none⟩ = false ∧ w.frozen? ⟨n, 2, none⟩ = false
theorem PB.keep {w w' : World} {n m : Nat} {x y e : Int} (h : PB w n x y e) (hb : Below m w w') (hn : n < m) : PB w' n x y e :=
  ⟨Nat.lt_of_lt_of_le h.1 hb.size, (hb.cell (p := ⟨n, 0, none⟩) hn).trans h.2.1, (hb.cell (p := ⟨n, 1, none⟩) hn).trans h.2.2.1, (hb.cell (p := ⟨n, 2, none⟩) hn).trans h.2.2.2.1, (hb.frozen (p := ⟨n, 0, none⟩) hn).trans h.2.2.2.2.1, (hb.frozen (p := ⟨n, 1, none⟩) hn).trans h.2.2.2.2.2.1, (hb.frozen (p := ⟨n, 2, none⟩) hn).trans h.2.2.2.2.2.2⟩
theorem PB.alloc (w : World) (x y e : Int) (t : TypeId) : PB (w.alloc (.cells #[.int .i64 x, .int .i64 y, .int .i64 e] t)) w.heap.size x y e :=
  ⟨by simp, by simp [go_sem], by simp [go_sem], by simp [go_sem], by simp [go_sem], by simp [go_sem], by simp [go_sem]⟩
theorem PB.store {w : World} {n : Nat} {x y e x' y' e' : Int} (h : PB w n x y e) : PB (((w.setCell ⟨n, 0, none⟩ (.int .i64 x')).setCell ⟨n, 1, none⟩ (.int .i64 y')).setCell ⟨n, 2, none⟩ (.int .i64 e')) n x' y' e' := by
  obtain ⟨h1, h2, h3, h4, h5, h6, h7⟩ := h
  refine ⟨by simpa using h1, ?_, ?_, ?_, by simpa using h5, by simpa using h6, by simpa using h7⟩
  · simp [go_sem, h2]
  · simp [go_sem, h3]
  · simp [go_sem, h4]
/-- a box of a curve. -/
def CB (w : World) (n : Nat) (a b : Int) : Prop := n < w.heap.size ∧ w.cell? ⟨n, 0, none⟩ = some (.int .i64 a) ∧ w.cell? ⟨n, 1, none⟩ = some (.int .i64 b)
theorem CB.keep {w w' : World} {n m : Nat} {a b : Int} (h : CB w n a b) (hb : Below m w w') (hn : n < m) : CB w' n a b :=
  ⟨Nat.lt_of_lt_of_le h.1 hb.size, (hb.cell (p := ⟨n, 0, none⟩) hn).trans h.2.1, (hb.cell (p := ⟨n, 1, none⟩) hn).trans h.2.2⟩
theorem CB.alloc (w : World) (a b : Int) (t : TypeId) : CB (w.alloc (.cells #[.int .i64 a, .int .i64 b] t)) w.heap.size a b :=
  ⟨by simp, by simp [go_sem], by simp [go_sem]⟩
theorem PB.far {w : World} {n m o : Nat} {x y e : Int} {v : Value} (h : PB w n x y e) (hn : n ≠ m) : PB (w.setCell ⟨m, o, none⟩ v) n x y e := by
  have k := fun q => World.cell?_setCell_other w ⟨m, o, none⟩ ⟨n, q, none⟩ v (by intro e; injection e; omega)
  obtain ⟨h1, h2, h3, h4, h5, h6, h7⟩ := h
  exact ⟨by simpa using h1, (k _).trans h2, (k _).trans h3, (k _).trans h4, by simpa using h5, by simpa using h6, by simpa using h7⟩
theorem CB.far {w : World} {n m o : Nat} {a b : Int} {v : Value} (h : CB w n a b) (hn : n ≠ m) : CB (w.setCell ⟨m, o, none⟩ v) n a b := by
  have k := fun q => World.cell?_setCell_other w ⟨m, o, none⟩ ⟨n, q, none⟩ v (by intro e; injection e; omega)
  obtain ⟨h1, h2, h3⟩ := h
  exact ⟨by simpa using h1, (k _).trans h2, (k _).trans h3⟩
theorem bel_alloc1 (w : World) (o : Obj) : Below w.heap.size w (w.alloc o) := (Below.refl _ _).alloc (Nat.le_refl _) o
theorem PB.al {w : World} {n : Nat} {x y e : Int} (h : PB w n x y e) (o : Obj) : PB (w.alloc o) n x y e := h.keep (bel_alloc1 w o) h.1
theorem CB.al {w : World} {n : Nat} {a b : Int} (h : CB w n a b) (o : Obj) : CB (w.alloc o) n a b := h.keep (bel_alloc1 w o) h.1
/-- three cells of a box that is no older than n are stored, another box is laid. -/
theorem bel_box {n m : Nat} {w w' : World} {v0 v1 v2 : Value} (h : Below n w w') (hm : n ≤ m) : Below n w (((w'.setCell ⟨m, 0, none⟩ v0).setCell ⟨m, 1, none⟩ v1).setCell ⟨m, 2, none⟩ v2) :=
  ((h.setCell hm _).setCell hm _).setCell hm _
theorem bel_boxal {n m : Nat} {w w' : World} {v0 v1 v2 : Value} (h : Below n w w') (hm : n ≤ m) (hs : n ≤ w'.heap.size) (o : Obj) : Below n w ((((w'.setCell ⟨m, 0, none⟩ v0).setCell ⟨m, 1, none⟩ v1).setCell ⟨m, 2, none⟩ v2).alloc o) :=
  (bel_box h hm).alloc (by simpa using hs) o
theorem wp_gen {P : Program} {c : Code} {Q : Exit → Act → World → Prop} {a : Act} {w : World} (h : ∀ V, w = V → c.wp P Q a V) : c.wp P Q a w := h w rfl
set_option maxRecDepth 100000 in
set_option maxHeartbeats 4000000 in
theorem ptTimes_any (a b x y e n : Int) (w : World) (hcur : curveB a b = true) (hp : onB a b x y e = true) (n0 : -12 ≤ n) (n1 : n ≤ 12) :
    Calls Tryz.prog 91 #[.agg #[.int .i64 a, .int .i64 b], .agg #[.int .i64 x, .int .i64 y, .int .i64 e], .int .i64 n] w (Ret (ptO (mulT a x (if n < 0 then -y else y) e n.natAbs)) w) := by
  obtain ⟨N, hN⟩ : ∃ N : Nat, n.natAbs = N := ⟨_, rfl⟩
  obtain ⟨yy, hyy⟩ : ∃ yy, (if n < 0 then -y else y) = yy := ⟨_, rfl⟩
  rw [hN, hyy]
  have hpy : onB a b x yy e = true := by
    rw [← hyy]
    split
    · exact onB_neg hp
    · exact hp
  obtain ⟨_, _, p3, p4, _⟩ := PtBd.of (a := a) (b := b) (x := x) (y := y) (e := e) (by unfold pointB; rw [hcur, hp]; rfl)
  have HADD := Lib.hid (fun (t : Int × Int × Int) w' (h : onB a b t.1 t.2.1 t.2.2 = true) => ptAdd_any a b t.1 t.2.1 t.2.2 x yy e w' hcur h hpy)
  by_cases hn : n < 0
  · rw [if_pos hn] at hyy
    subst hyy
    obtain rfl : n = -(N : Int) := by omega
    go_enter Tryz.func91, Tryz.ntmps91
    go_wp2_with (go_at_call 130; refine (ptMinus_any _ _ _ _ p3 p4).mono ?_; rintro e w' ⟨rfl, hb⟩; (try replace hb := aft2 hb (by assumption)); have hz := hb.size; obtain ⟨hc, hf, hs1, hs2, hs3, hs4⟩ := aftz hb; (try simp at hz))
    obtain ⟨B0, hB0⟩ : ∃ B0, w.heap.size = B0 := ⟨_, rfl⟩
    obtain ⟨g1, g2, g3, g4⟩ : CB w' B0 a b ∧ PB w' (B0 + 1) x y e ∧ PB w' (B0 + 1 + 1) 0 0 0 ∧ Below w.heap.size w w' := by
      subst hB0
      refine ⟨CB.keep ?_ hb (by simp), PB.keep ?_ hb (by simp), PB.keep ?_ hb (by simp), bel_trans hb (by repeat (first | exact Below.refl _ _ | (with_reducible assumption) | refine bel_alloc ?_ _ | refine bel_drew ?_ | refine bel_drewN ?_ _ | refine Below.setCell ?_ (by dsimp only; omega) _ | refine bel_trans (by assumption) ?_))⟩
      · unfold CB; simp [go_sem]
      · unfold PB; simp [go_sem]
      · unfold PB; simp [go_sem]
    refine wp_gen ?_; intro V hV
    obtain ⟨B8, hB8⟩ : ∃ B8, w'.heap.size = B8 := ⟨_, rfl⟩
    obtain ⟨hbV, hlt, hC, hP, hR, hO⟩ : Below w.heap.size w V ∧ B0 + 1 + 1 < B8 ∧ CB V B0 a b ∧ PB V (B0 + 1) x (-y) e ∧ PB V (B0 + 1 + 1) 0 0 0 ∧ PB V B8 0 0 0 := by
      subst hV
      rw [hB0]
      refine ⟨?_, by have := g3.1; omega, (((g1.far (by omega)).far (by omega)).far (by omega)).al _, g2.store.al _, (((g3.far (by omega)).far (by omega)).far (by omega)).al _, ?_⟩
      · rw [← hB0]
        exact bel_alloc (bel_box g4 (by omega)) _
      · subst hB8
        unfold PB; simp [go_sem]
    rw [hB0, hB8]
    clear hV hb hc hf hs1 hs2 hs3 hs4 g1 g2 g3 g4
    go_loopw [2] (fun nn wr => ∃ k : Nat, k ≤ N ∧ nn = .int .i64 ((N : Int) - k) ∧ ∃ t, mulT a x (-y) e k = some t ∧ Below B8 V wr ∧ PB wr B8 t.1 t.2.1 t.2.2) (fun nn _ => (intOf nn).toNat)
    case atStart => exact ⟨0, by omega, by simp, _, rfl, Below.refl _ _, hO⟩
    case round =>
      obtain ⟨k, hk, rfl, t, ht, hbel, hbox⟩ := hrel
      have hton := mulT_on hpy k t ht
      obtain ⟨_, c0, c1⟩ := hC.keep hbel (by omega)
      obtain ⟨_, d0, d1, d2, _⟩ := hP.keep hbel (by omega)
      have hR' := hR.keep hbel (by omega)
      obtain ⟨o0, o1, o2, o3, o4, o5, o6⟩ := hbox
      by_cases hlast : k = N
      · subst hlast
        obtain ⟨r0, r1, r2, r3, r4, r5, r6⟩ := hR'
        go_wp2_with fail
        refine bodyPost_ret (by simp (maxDischargeDepth := 3) [results, Tryz.results91, go_sem, *]; try rfl) rfl ?_
        exact ret_eq (by rw [ht]; rfl) (bel_box (hbV.trans (hbel.mono (by omega))) (by omega))
      · have hkN : (0 : Int) < (N : Int) - k := by omega
        cases hadd : addT a t.1 t.2.1 t.2.2 x (-y) e with
        | none =>
          have hnone : mulT a x (-y) e N = none := mulT_none (by rw [mulT_succ ht]; exact hadd) N (show k + 1 ≤ N by omega)
          have hc := HADD.out t wr hton
          rw [hadd, ptO_none] at hc
          obtain ⟨r0, r1, r2, r3, r4, r5, r6⟩ := hR'
          go_wp2_with (go_at_call 131; refine (hc).mono ?_; rintro e w' ⟨rfl, hb⟩; (try replace hb := aft2 hb (by assumption)); have hz := hb.size; obtain ⟨hc, hf, hs1, hs2, hs3, hs4⟩ := aftz hb; (try simp at hz))
          refine bodyPost_ret (by simp (maxDischargeDepth := 3) [results, Tryz.results91, go_sem, *]; try rfl) rfl ?_
          have q1 : Below B8 V w' := hbel.trans (hb.mono (Nat.le_of_lt o0))
          have q2 : Below w.heap.size w w' := hbV.trans (q1.mono (by omega))
          exact ret_eq (by rw [hnone]; rfl) (bel_alloc (bel_box q2 (by omega)) _)
        | some u =>
          have hc := HADD.out t wr hton
          have hu : mulT a x (-y) e (k + 1) = some u := by rw [mulT_succ ht]; exact hadd
          rw [hadd, ptO_some] at hc
          go_wp2_with (go_at_call 131; refine (hc).mono ?_; rintro e w' ⟨rfl, hb⟩; (try replace hb := aft2 hb (by assumption)); have hz := hb.size; obtain ⟨hc, hf, hs1, hs2, hs3, hs4⟩ := aftz hb; (try simp at hz))
          go_roundw
          case rel =>
            have hob : PB w' B8 t.1 t.2.1 t.2.2 := PB.keep ⟨o0, o1, o2, o3, o4, o5, o6⟩ hb o0
            exact ⟨k + 1, by omega, by congr 1; omega, u, hu, bel_boxal (hbel.trans (hb.mono (Nat.le_of_lt o0))) (Nat.le_refl _) (by have := hob.1; omega) _, hob.store.al _⟩
          case measure => simp [intOf]; omega
  · rw [if_neg hn] at hyy
    subst hyy
    obtain rfl : n = (N : Int) := by omega
    go_enter Tryz.func91, Tryz.ntmps91
    go_wp2_with fail
    refine wp_gen ?_; intro V hV
    obtain ⟨B0, hB0⟩ : ∃ B0, w.heap.size = B0 := ⟨_, rfl⟩
    obtain ⟨B8, hB8⟩ : ∃ B8, B0 + 1 + 1 + 1 = B8 := ⟨_, rfl⟩
    obtain ⟨hbV, hlt, hC, hP, hR, hO⟩ : Below w.heap.size w V ∧ B0 + 1 + 1 < B8 ∧ CB V B0 a b ∧ PB V (B0 + 1) x y e ∧ PB V (B0 + 1 + 1) 0 0 0 ∧ PB V B8 0 0 0 := by
      subst hV; subst hB8; subst hB0
      exact ⟨(by repeat (first | exact Below.refl _ _ | (with_reducible assumption) | refine bel_alloc ?_ _ | refine bel_drew ?_ | refine bel_drewN ?_ _ | refine Below.setCell ?_ (by dsimp only; omega) _ | refine bel_trans (by assumption) ?_)), by omega, by unfold CB; simp [go_sem], by unfold PB; simp [go_sem], by unfold PB; simp [go_sem], by unfold PB; simp [go_sem]⟩
    rw [hB0, hB8]
    clear hV
    go_loopw [2] (fun nn wr => ∃ k : Nat, k ≤ N ∧ nn = .int .i64 ((N : Int) - k) ∧ ∃ t, mulT a x y e k = some t ∧ Below B8 V wr ∧ PB wr B8 t.1 t.2.1 t.2.2) (fun nn _ => (intOf nn).toNat)
    case atStart => exact ⟨0, by omega, by simp, _, rfl, Below.refl _ _, hO⟩
    case round =>
      obtain ⟨k, hk, rfl, t, ht, hbel, hbox⟩ := hrel
      have hton := mulT_on hp k t ht
      obtain ⟨_, c0, c1⟩ := hC.keep hbel (by omega)
      obtain ⟨_, d0, d1, d2, _⟩ := hP.keep hbel (by omega)
      have hR' := hR.keep hbel (by omega)
      obtain ⟨o0, o1, o2, o3, o4, o5, o6⟩ := hbox
      by_cases hlast : k = N
      · subst hlast
        obtain ⟨r0, r1, r2, r3, r4, r5, r6⟩ := hR'
        go_wp2_with fail
        refine bodyPost_ret (by simp (maxDischargeDepth := 3) [results, Tryz.results91, go_sem, *]; try rfl) rfl ?_
        exact ret_eq (by rw [ht]; rfl) (bel_box (hbV.trans (hbel.mono (by omega))) (by omega))
      · have hkN : (0 : Int) < (N : Int) - k := by omega
        cases hadd : addT a t.1 t.2.1 t.2.2 x y e with
        | none =>
          have hnone : mulT a x y e N = none := mulT_none (by rw [mulT_succ ht]; exact hadd) N (show k + 1 ≤ N by omega)
          have hc := HADD.out t wr hton
          rw [hadd, ptO_none] at hc
          obtain ⟨r0, r1, r2, r3, r4, r5, r6⟩ := hR'
          go_wp2_with (go_at_call 131; refine (hc).mono ?_; rintro e w' ⟨rfl, hb⟩; (try replace hb := aft2 hb (by assumption)); have hz := hb.size; obtain ⟨hc, hf, hs1, hs2, hs3, hs4⟩ := aftz hb; (try simp at hz))
          refine bodyPost_ret (by simp (maxDischargeDepth := 3) [results, Tryz.results91, go_sem, *]; try rfl) rfl ?_
          have q1 : Below B8 V w' := hbel.trans (hb.mono (Nat.le_of_lt o0))
          have q2 : Below w.heap.size w w' := hbV.trans (q1.mono (by omega))
          exact ret_eq (by rw [hnone]; rfl) (bel_alloc (bel_box q2 (by omega)) _)
        | some u =>
          have hc := HADD.out t wr hton
          have hu : mulT a x y e (k + 1) = some u := by rw [mulT_succ ht]; exact hadd
          rw [hadd, ptO_some] at hc
          go_wp2_with (go_at_call 131; refine (hc).mono ?_; rintro e w' ⟨rfl, hb⟩; (try replace hb := aft2 hb (by assumption)); have hz := hb.size; obtain ⟨hc, hf, hs1, hs2, hs3, hs4⟩ := aftz hb; (try simp at hz))
          go_roundw
          case rel =>
            have hob : PB w' B8 t.1 t.2.1 t.2.2 := PB.keep ⟨o0, o1, o2, o3, o4, o5, o6⟩ hb o0
            exact ⟨k + 1, by omega, by congr 1; omega, u, hu, bel_boxal (hbel.trans (hb.mono (Nat.le_of_lt o0))) (Nat.le_refl _) (by have := hob.1; omega) _, hob.store.al _⟩
          case measure => simp [intOf]; omega
end Go.Proofs.YtakilincclnpdaaGreatDoor
