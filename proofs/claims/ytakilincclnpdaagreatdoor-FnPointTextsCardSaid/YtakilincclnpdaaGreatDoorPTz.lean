/- Pk: the values of the calls of FnPointTexts, as packages. No conditions. -/
import Derived.Test.YtakilincclnpdaaGreatDoorQfz
import Derived.Test.YtakilincclnpdaaGreatDoorPAz
import Derived.Test.YtakilincclnpdaaGreatDoorQpz
import Derived.Test.YtakilincclnpdaaGreatDoorPxz
import Derived.Test.YtakilincclnpdaaGreatDoorHtz
import Derived.Test.YtakilincclnpdaaGreatDoorPDz
import Derived.Test.YtakilincclnpdaaGreatDoorPHz
/- The walk of FnExactParsePoint: where the library's variables lie as the text lays them. -/
namespace Go.Proofs.YtakilincclnpdaaGreatDoor
open Go.RowKit
theorem ppt_off {a b : Int} {s : ByteArray} (h : curveB a b = false) : ppt a b s = .tuple #[.agg #[.int .i64 0, .int .i64 0, .int .i64 0], .bool false] := ppt_no fun x y e h1 _ => by
  unfold pointB at h1
  rw [h] at h1
  cases h1
set_option maxHeartbeats 2000000 in
theorem iParsePoint_any (a b : Int) (s : ByteArray) (w : World) (hs : s.size ≤ 1048576) (ht : LibT w) :
    Calls Tryz.prog 38 #[.agg #[.int .i64 a, .int .i64 b], .string s] w (Ret (ppt a b s) w) := by
  cases hcur : curveB a b
  · rw [ppt_off hcur]
    have hc := fun w => isCurve_any a b w
    rw [hcur] at hc
    have HC := Lib.hid hc; clear hc hcur
    go_enter Tryz.func38, Tryz.ntmps38
    go_wp2_with (go_at_call 93; refine (HC.out _).mono ?_; rintro e w' ⟨rfl, hb⟩; (try replace hb := aft2 hb (by assumption)); obtain ⟨hc, hf, hs1, hs2, hs3, hs4⟩ := aftz hb)
    refine bodyPost_ret (by simp (maxDischargeDepth := 3) [results, Tryz.results38, go_sem, *]; try rfl) rfl ?_
    exact ret_eq (by rfl) (by repeat (first | exact Below.refl _ _ | (with_reducible assumption) | refine bel_alloc ?_ _ | refine bel_drew ?_ | refine bel_drewN ?_ _ | refine Below.setCell ?_ (by dsimp only; omega) _ | refine bel_trans (by assumption) ?_))
  · have hp := fun w h => parsePoint_any a b s w hcur hs h
    obtain ⟨x, y, e, ok, hv, _⟩ := ppt_parts a b s
    rw [hv] at hp ⊢
    have hc := fun w => isCurve_any a b w
    rw [hcur] at hc
    clear hv hcur
    have HC := Lib.hid hc; clear hc
    have HP := Lib.hid hp; clear hp
    have HT := Lib.hid ht; clear ht
    go_enter Tryz.func38, Tryz.ntmps38
    go_wp2_with (go_at_call 93; refine (HC.out _).mono ?_; rintro e w' ⟨rfl, hb⟩; (try replace hb := aft2 hb (by assumption)); obtain ⟨hc, hf, hs1, hs2, hs3, hs4⟩ := aftz hb)
    refine (HP.out _ (HT.out.keep (by repeat (first | exact Below.refl _ _ | (with_reducible assumption) | refine bel_alloc ?_ _ | refine bel_drew ?_ | refine bel_drewN ?_ _ | refine Below.setCell ?_ (by dsimp only; omega) _ | refine bel_trans (by assumption) ?_)))).mono ?_; rintro e w1 ⟨rfl, hb1⟩
    replace hb1 := aft2 hb1 (by assumption)
    obtain ⟨hc1, hf1, hg1, hg2, hg3, hg4⟩ := aftz hb1
    go_wp2_with fail
    refine bodyPost_ret (by simp (maxDischargeDepth := 3) [results, Tryz.results38, go_sem, *]; try rfl) rfl ?_
    exact ret_mk (by repeat (first | exact Below.refl _ _ | (with_reducible assumption) | refine bel_alloc ?_ _ | refine bel_drew ?_ | refine bel_drewN ?_ _ | refine Below.setCell ?_ (by dsimp only; omega) _ | refine bel_trans (by assumption) ?_))
set_option maxHeartbeats 2000000 in
theorem sParsePoint_any (a b : Int) (s : ByteArray) (w : World) (hs : s.size ≤ 1048576) :
    Calls Tryz.prog 39 #[.agg #[.int .i64 a, .int .i64 b], .string s] w (Ret (ppt a b s) w) := by
  cases hcur : curveB a b
  · rw [ppt_off hcur]
    have hc := fun w => ecGood_any a b w
    rw [hcur] at hc
    have HC := Lib.hid hc; clear hc hcur
    go_enter Tryz.func39, Tryz.ntmps39
    go_wp2_with (go_at_call 95; refine (HC.out _).mono ?_; rintro e w' ⟨rfl, hb⟩; (try replace hb := aft2 hb (by assumption)); obtain ⟨hc, hf, hs1, hs2, hs3, hs4⟩ := aftz hb)
    refine bodyPost_ret (by simp (maxDischargeDepth := 3) [results, Tryz.results39, go_sem, *]; try rfl) rfl ?_
    exact ret_eq (by rfl) (by repeat (first | exact Below.refl _ _ | (with_reducible assumption) | refine bel_alloc ?_ _ | refine bel_drew ?_ | refine bel_drewN ?_ _ | refine Below.setCell ?_ (by dsimp only; omega) _ | refine bel_trans (by assumption) ?_))
  · have hp := fun w => ptParse_any a b s w hcur hs
    obtain ⟨x, y, e, ok, hv, _⟩ := ppt_parts a b s
    rw [hv] at hp ⊢
    have hc := fun w => ecGood_any a b w
    rw [hcur] at hc
    clear hv hcur
    have HC := Lib.hid hc; clear hc
    have HP := Lib.hid hp; clear hp
    go_enter Tryz.func39, Tryz.ntmps39
    go_wp2_with (go_at_call 95; refine (HC.out _).mono ?_; rintro e w' ⟨rfl, hb⟩; (try replace hb := aft2 hb (by assumption)); obtain ⟨hc, hf, hs1, hs2, hs3, hs4⟩ := aftz hb)
    refine (HP.out _).mono ?_; rintro e w1 ⟨rfl, hb1⟩
    replace hb1 := aft2 hb1 (by assumption)
    obtain ⟨hc1, hf1, hg1, hg2, hg3, hg4⟩ := aftz hb1
    go_wp2_with fail
    refine bodyPost_ret (by simp (maxDischargeDepth := 3) [results, Tryz.results39, go_sem, *]; try rfl) rfl ?_
    exact ret_mk (by repeat (first | exact Below.refl _ _ | (with_reducible assumption) | refine bel_alloc ?_ _ | refine bel_drew ?_ | refine bel_drewN ?_ _ | refine Below.setCell ?_ (by dsimp only; omega) _ | refine bel_trans (by assumption) ?_))
end Go.Proofs.YtakilincclnpdaaGreatDoor
namespace Go.Proofs.YtakilincclnpdaaGreatDoor
open Go.RowKit

theorem gcd1_iff {x e : Int} : gcdI x e = 1 ↔ Nat.Coprime x.natAbs e.natAbs := by
  unfold gcdI Nat.Coprime
  rw [Int.gcd_eq_natAbs_gcd_natAbs]
  omega
theorem gcdI_sq {x e : Int} (h : gcdI x e = 1) : gcdI x (e * e) = 1 := by
  rw [gcd1_iff] at h ⊢
  rw [Int.natAbs_mul]
  exact Nat.Coprime.mul_right h h
theorem gcdI_of_sq {x e : Int} (h : gcdI x (e * e) = 1) : gcdI x e = 1 := by
  rw [gcd1_iff] at h ⊢
  rw [Int.natAbs_mul] at h
  exact Nat.Coprime.coprime_mul_left_right h
/-- the root is the only one. -/
theorem sq_same {k e : Int} (k0 : 0 ≤ k) (e0 : 0 ≤ e) (h1 : k * k ≤ e * e) (h2 : e * e < (k + 1) * (k + 1)) : k = e := by
  have h3 := sq_succ_lt e0
  have h4 := sq_lt (k := k) (B := e + 1) k0 (by omega) (by omega)
  have h5 := sq_lt (k := e) (B := k + 1) e0 (by omega) (by omega)
  omega
theorem frac_gcd {n d : Int} (h : fracB n d = true) : gcdI n d = 1 := by
  unfold fracB at h
  rw [Bool.and_eq_true, beq_iff_eq] at h
  exact h.2
theorem makV_low {n d : Int} (h0 : -1000000000 ≤ n) (h1 : n ≤ 1000000000) (d0 : 1 ≤ d) (d1 : d ≤ 1000000000) (hg : gcdI n d = 1) : makV n d = .tuple #[.agg #[.int .i64 n, .int .i64 d], .bool true] := by
  have e : sgcd n d = 1 := by unfold sgcd; rw [if_neg (by omega), hg]
  have e1 : lowN n d = n := by unfold lowN; rw [e, Int.tdiv_one]
  have e2 : lowD n d = d := by unfold lowD; rw [e, Int.tdiv_one]
  have e3 : fracB n d = true := by
    unfold fracB
    rw [inB_true.2 ⟨d0, d1⟩, inB_true.2 ⟨h0, h1⟩, hg]
    rfl
  unfold makV
  rw [e1, e2, e3]
  rfl
theorem fractionOf_any (n d : Int) (w : World) (h0 : -1000000000 ≤ n) (h1 : n ≤ 1000000000) (d0 : 1 ≤ d) (d1 : d ≤ 1000000000) (hg : gcdI n d = 1) :
    Calls Tryz.prog 45 #[.int .i64 n, .int .i64 d] w (Ret (.tuple #[.agg #[.int .i64 n, .int .i64 d], .bool true]) w) := by
  have hf := fun w => frMake_any n d w (by omega) (by omega) (by omega) (by omega) (by omega)
  rw [makV_low h0 h1 d0 d1 hg] at hf
  have HF := Lib.hid hf; clear hf hg
  have i0 : inB n (-1000000000000000000) 1000000000000000000 = true := inB_true.2 ⟨by omega, by omega⟩
  have i1 : inB d (-1000000000000000000) 1000000000000000000 = true := inB_true.2 ⟨by omega, by omega⟩
  have dz : (d == 0) = false := by simp; omega
  have dz' : ¬ d = 0 := by omega
  go_enter Tryz.func45, Tryz.ntmps45
  go_wp2_with (go_at_call 68; refine (l1In_any _ _ _ _).mono ?_; rintro e w' ⟨rfl, rfl⟩)
  refine (HF.out _).mono ?_; rintro e w1 ⟨rfl, hb⟩
  have hbx : Below w.heap.size w w1 := (by repeat (first | exact Below.refl _ _ | (with_reducible assumption) | refine bel_alloc ?_ _ | refine bel_drew ?_ | refine bel_drewN ?_ _ | refine Below.setCell ?_ (by dsimp only; omega) _ | refine bel_trans (by assumption) ?_))
  have hlt : w.heap.size < w1.heap.size := by have := hb.size; simp at this; omega
  have c0 : w1.cell? ⟨w.heap.size, 0, none⟩ = some (.int .i64 0) := (hb.cell (p := ⟨w.heap.size, 0, none⟩) (by simp)).trans (by simp [go_sem])
  have c1 : w1.cell? ⟨w.heap.size, 1, none⟩ = some (.int .i64 0) := (hb.cell (p := ⟨w.heap.size, 1, none⟩) (by simp)).trans (by simp [go_sem])
  have f0 : w1.frozen? ⟨w.heap.size, 0, none⟩ = false := (hb.frozen (p := ⟨w.heap.size, 0, none⟩) (by simp)).trans (by simp [go_sem])
  have f1 : w1.frozen? ⟨w.heap.size, 1, none⟩ = false := (hb.frozen (p := ⟨w.heap.size, 1, none⟩) (by simp)).trans (by simp [go_sem])
  clear hb
  go_wp2_with fail
  refine bodyPost_ret (by simp (maxDischargeDepth := 3) [results, Tryz.results45, go_sem, *]; try rfl) rfl ?_
  exact ret_eq (by rfl) ((hbx.setCell (by dsimp only; omega) _).setCell (by dsimp only; omega) _)
/-- what is asked of a point with its own x. -/
structure PA (a b x y e : Int) (l : List Int) : Prop where
  fo : ∀ w, Calls Tryz.prog 45 #[.int .i64 x, .int .i64 (e * e)] w (Ret (.tuple #[.agg #[.int .i64 x, .int .i64 (e * e)], .bool true]) w)
  p0 : ∀ w, Calls Tryz.prog 41 #[.agg #[.int .i64 a, .int .i64 b], .agg #[.int .i64 x, .int .i64 (e * e)]] w (RetPx l true w)
  p1 : ∀ w, Calls Tryz.prog 42 #[.agg #[.int .i64 a, .int .i64 b], .agg #[.int .i64 x, .int .i64 (e * e)]] w (RetPx l true w)
  fnd : l = [x, y, e] ∨ l = [x, -y, e, x, y, e] ∨ l = [x, y, e, x, -y, e]
  e1 : 1 ≤ e
  e2 : e ≤ 20
structure PT (a b x y e : Int) (t : ByteArray) (h : Int) (ok : Bool) : Prop where
  t0 : ∀ w, PowT w → Calls Tryz.prog 33 #[.agg #[.int .i64 a, .int .i64 b], .agg #[.int .i64 x, .int .i64 y, .int .i64 e]] w (Ret (.tuple #[.string t, .bool ok]) w)
  t1 : ∀ w, Calls Tryz.prog 34 #[.agg #[.int .i64 a, .int .i64 b], .agg #[.int .i64 x, .int .i64 y, .int .i64 e]] w (Ret (.tuple #[.string t, .bool ok]) w)
  h0 : ∀ w, Calls Tryz.prog 35 #[.agg #[.int .i64 a, .int .i64 b], .agg #[.int .i64 x, .int .i64 y, .int .i64 e]] w (Ret (.tuple #[.int .i64 h, .bool ok]) w)
  h1 : ∀ w, Calls Tryz.prog 36 #[.agg #[.int .i64 a, .int .i64 b], .agg #[.int .i64 x, .int .i64 y, .int .i64 e]] w (Ret (.tuple #[.int .i64 h, .bool ok]) w)
  isP : ∀ w, Calls Tryz.prog 44 #[.agg #[.int .i64 a, .int .i64 b], .agg #[.int .i64 x, .int .i64 y, .int .i64 e]] w (Ret (.bool ok) w)
  hh : ok = true → 1 ≤ h
  back : ok = true → ∀ w, LibT w → Calls Tryz.prog 38 #[.agg #[.int .i64 a, .int .i64 b], .string t] w (Ret (.tuple #[.agg #[.int .i64 x, .int .i64 y, .int .i64 e], .bool true]) w)
  zer : ok = true → e = 0 → h = 1
  fin : ok = true → e ≠ 0 → ∃ l, PA a b x y e l
theorem ptfacts (a b x y e : Int) (hs : ∀ {x y e : Int}, -10000 ≤ x → x ≤ 10000 → -1800000 ≤ y → y ≤ 1800000 → 0 ≤ e → e ≤ 20 → (ptT x y e).size ≤ 100) : ∃ t h ok, PT a b x y e t h ok := by
  have t0 := fun w (ht : PowT w) => iPointText_any a b x y e w ht
  have t1 := fun w => sPointText_any a b x y e w
  have h0 := fun w => iPointHeight_any a b x y e w
  have h1 := fun w => sPointHeight_any a b x y e w
  have isP := fun w => iIsPointOf_any a b x y e w
  unfold ptV at t0 t1
  cases hp : pointB a b x y e
  · rw [hp] at h0 h1 isP
    rw [if_neg (by rw [hp]; decide)] at t0 t1
    exact ⟨_, _, false, t0, t1, h0, h1, isP, fun h => (by cases h), fun h => (by cases h), fun h => (by cases h), fun h => (by cases h)⟩
  · rw [hp] at h0 h1 isP
    rw [if_pos hp] at t0 t1
    obtain ⟨b1, b2, b3, b4, b5, b6, hcur, hon⟩ := pointB_bd hp
    refine ⟨_, _, true, t0, t1, h0, h1, isP, fun _ => ?_, fun _ w ht => ?_, fun _ he => ?_, fun _ he => ?_⟩
    · unfold heightI; omega
    · have k := iParsePoint_any a b (ptT x y e) w (by have := hs b1 b2 b5 b6 b3 b4; omega) ht
      rwa [ppt_yes hp] at k
    · subst he
      obtain ⟨rfl, rfl⟩ := pointB_zero hp
      rfl
    · rcases onB_true.1 hon with ⟨_, _, k⟩ | ⟨_, _, e1, e2, hg, hy⟩
      · exact absurd k he
      · have ee := mul_bd (a := e) (b := e) (A := 20) (B := 20) (by omega) (by omega) (by omega) (by omega)
        have ep : 1 ≤ e * e := by have := Int.mul_le_mul_of_nonneg_left (a := 1) (b := e) (c := e) (by omega) (by omega); omega
        have hg2 := gcdI_sq hg
        have p0 := fun w => iPointsAtX_any a b x (e * e) w
        have p1 := fun w => sPointsAtX_any a b x (e * e) w
        have his := atx_is a b x (e * e)
        generalize atxV a b x (e * e) = l at p0 p1 his
        generalize atxB a b x (e * e) = ok at p0 p1 his
        have hfr : fracB x (e * e) = true := by
          unfold fracB
          rw [inB_true.2 ⟨by omega, by omega⟩, inB_true.2 ⟨by omega, by omega⟩, hg2]
          rfl
        have hin : inB x (-10000) 10000 = true := inB_true.2 ⟨b1, b2⟩
        cases his with
        | bad h => rw [hcur, hfr, hin] at h; simp at h
        | root k hc hf hn k0 h1 h2 h3 =>
          exfalso
          have hk : k = e := sq_same k0 (by omega) h1 h2
          subst hk
          exact h3 ⟨rfl, e2⟩
        | good k _ hc hf hn k0 h1 h2 h3 =>
          have hk : k = e := sq_same (by omega) (by omega) (by omega) (by have := sq_succ_lt (k := k) (by omega); omega)
          subst hk
          refine ⟨_, fun w => fractionOf_any x (k * k) w (by omega) (by omega) ep (by omega) hg2, p0, p1, ?_, e1, e2⟩
          cases h3 with
          | neg h => have h5 := Int.mul_nonneg (a := (y.natAbs : Int)) (b := (y.natAbs : Int)) (by omega) (by omega); rw [Int.natAbs_mul_self'] at h5; omega
          | no q h q0 q1 q2 q3 =>
            exfalso
            have h5 := Int.natAbs_mul_self' y
            have hq : q = (y.natAbs : Int) := sq_same q0 (by omega) (by omega) (by omega)
            exact q3 (by rw [hq, h5, hy])
          | zero h =>
            rw [h] at hy
            have hy0 : y = 0 := by rcases Int.mul_eq_zero.1 hy with h | h <;> exact h
            subst hy0
            exact .inl rfl
          | two q q0 h =>
            rw [← hy] at h
            have hq : q = y ∨ q = -y := by
              have h6 : (q - y) * (q + y) = 0 := by
                rw [Int.sub_mul, Int.mul_add, Int.mul_add, h, Int.mul_comm y q]; omega
              rcases Int.mul_eq_zero.1 h6 with h | h
              · left; omega
              · right; omega
            rcases hq with rfl | rfl
            · exact .inr (.inl rfl)
            · rw [Int.neg_neg]; exact .inr (.inr rfl)
/-- a point that PointsAtX names. -/
structure PxQ (a b n d y k : Int) : Prop where
  isP : ∀ w, Calls Tryz.prog 44 #[.agg #[.int .i64 a, .int .i64 b], .agg #[.int .i64 n, .int .i64 y, .int .i64 k]] w (Ret (.bool true) w)
  sq : k * k = d
  k1 : 1 ≤ k
  k2 : k ≤ 20
  y0 : -1800000 ≤ y
  y1 : y ≤ 1800000
def PxL (a b n d : Int) (l : List Int) : Prop := l = [] ∨ (∃ y k, l = [n, y, k] ∧ PxQ a b n d y k) ∨ (∃ y k, l = [n, -y, k, n, y, k] ∧ PxQ a b n d (-y) k ∧ PxQ a b n d y k)
structure PX (a b n d : Int) (l : List Int) (five : Bool) : Prop where
  p0 : ∀ w, Calls Tryz.prog 41 #[.agg #[.int .i64 a, .int .i64 b], .agg #[.int .i64 n, .int .i64 d]] w (RetPx l five w)
  p1 : ∀ w, Calls Tryz.prog 42 #[.agg #[.int .i64 a, .int .i64 b], .agg #[.int .i64 n, .int .i64 d]] w (RetPx l five w)
  sh : PxL a b n d l
theorem pxQ_mk {a b n d y k : Int} (hcur : curveB a b = true) (hf : fracB n d = true) (hn : inB n (-10000) 10000 = true) (k0 : 1 ≤ k) (h1 : k * k = d) (h2 : k ≤ 20) (hy : y * y = valI a b n k) : PxQ a b n d y k := by
  obtain ⟨n0, n1⟩ := inB_true.1 hn
  have hg : gcdI n k = 1 := gcdI_of_sq (by rw [h1]; exact frac_gcd hf)
  have hp : pointB a b n y k = true := by
    unfold pointB
    rw [hcur, onB_true.2 (.inr ⟨n0, n1, k0, h2, hg, hy⟩)]
    rfl
  obtain ⟨_, _, _, _, y0, y1, _, _⟩ := pointB_bd hp
  have isP := fun w => iIsPointOf_any a b n y k w
  rw [hp] at isP
  exact ⟨isP, h1, k0, h2, y0, y1⟩
theorem pxfacts (a b n d : Int) : ∃ l five, PX a b n d l five := by
  have his := atx_is a b n d
  refine ⟨_, _, fun w => iPointsAtX_any a b n d w, fun w => sPointsAtX_any a b n d w, ?_⟩
  generalize atxV a b n d = l at his ⊢
  generalize atxB a b n d = ok at his
  cases his with
  | bad h => exact .inl rfl
  | root k hc hf hn k0 h1 h2 h3 => exact .inl rfl
  | good k _ hc hf hn k0 h1 h2 h3 =>
    cases h3 with
    | neg h => exact .inl rfl
    | no q h q0 q1 q2 q3 => exact .inl rfl
    | zero h => exact .inr (.inl ⟨0, k, rfl, pxQ_mk hc hf hn k0 h1 h2 (by rw [h]; rfl)⟩)
    | two q q0 h => exact .inr (.inr ⟨q, k, rfl, pxQ_mk hc hf hn k0 h1 h2 (by rw [Int.neg_mul_neg]; exact h), pxQ_mk hc hf hn k0 h1 h2 h⟩)
/-- the points as they lie in the slice. -/
theorem px_rows {a b n d : Int} {l : List Int} {w : World} {v : Value} {N : Nat} (h : RdPN N w v l) (hl : PxL a b n d l) :
    ∃ ad m c, v = .slice ad m c ∧ m ≤ 2 ∧ (0 < m → ∃ g off, ad = some ⟨g, off, none⟩ ∧ g < w.heap.size ∧ ∀ i, i < m → ∃ y k, PxQ a b n d y k ∧ w.cell? ⟨g, off + i * 3, none⟩ = some (.int .i64 n) ∧ w.cell? ⟨g, off + i * 3 + 1, none⟩ = some (.int .i64 y) ∧ w.cell? ⟨g, off + i * 3 + 2, none⟩ = some (.int .i64 k) ∧ (i = 1 → w.cell? ⟨g, off + 1, none⟩ = some (.int .i64 (-y)))) := by
  obtain ⟨hN, ad, m, c, rfl, hm, _, hc⟩ := h
  refine ⟨ad, m, c, rfl, ?_, fun hp => ?_⟩
  · rcases hl with rfl | ⟨y, k, rfl, _⟩ | ⟨y, k, rfl, _⟩ <;> simp at hm <;> omega
  · obtain ⟨g, off, rfl, hg, hcell⟩ := hc hp
    refine ⟨g, off, rfl, by omega, fun i hi => ?_⟩
    rcases hl with rfl | ⟨y, k, rfl, hq⟩ | ⟨y, k, rfl, hq, hq2⟩
    · simp at hm; omega
    · have hi0 : i = 0 := by simp at hm; omega
      subst hi0
      exact ⟨y, k, hq, hcell 0 (by simp), hcell 1 (by simp), hcell 2 (by simp), fun h => by cases h⟩
    · rcases (by simp at hm; omega : i = 0 ∨ i = 1) with rfl | rfl
      · exact ⟨-y, k, hq, hcell 0 (by simp), hcell 1 (by simp), hcell 2 (by simp), fun h => by cases h⟩
      · exact ⟨y, k, hq2, hcell 3 (by simp), hcell 4 (by simp), hcell 5 (by simp), fun _ => hcell 1 (by simp)⟩
/-- the point itself lies among them. -/
theorem fnd_rows {x y e : Int} {l : List Int} {w : World} {v : Value} {N : Nat} (h : RdPN N w v l) (hl : l = [x, y, e] ∨ l = [x, -y, e, x, y, e] ∨ l = [x, y, e, x, -y, e]) :
    ∃ g off m c J, v = .slice (some ⟨g, off, none⟩) m c ∧ m ≤ 2 ∧ J < m ∧ g < w.heap.size ∧ (∀ i, i < m → ∃ u1 u2 u3 : Int, w.cell? ⟨g, off + i * 3, none⟩ = some (.int .i64 u1) ∧ w.cell? ⟨g, off + i * 3 + 1, none⟩ = some (.int .i64 u2) ∧ w.cell? ⟨g, off + i * 3 + 2, none⟩ = some (.int .i64 u3) ∧ (i = J → u1 = x ∧ u2 = y ∧ u3 = e)) := by
  obtain ⟨hN, ad, m, c, rfl, hm, _, hc⟩ := h
  have hp : 0 < m := by rcases hl with rfl | rfl | rfl <;> simp at hm <;> omega
  obtain ⟨g, off, rfl, hg, hcell⟩ := hc hp
  rcases hl with rfl | rfl | rfl
  · refine ⟨g, off, m, c, 0, rfl, by simp at hm; omega, hp, by omega, fun i hi => ?_⟩
    have hi0 : i = 0 := by simp at hm; omega
    subst hi0
    exact ⟨x, y, e, hcell 0 (by simp), hcell 1 (by simp), hcell 2 (by simp), fun _ => ⟨rfl, rfl, rfl⟩⟩
  · refine ⟨g, off, m, c, 1, rfl, by simp at hm; omega, by simp at hm; omega, by omega, fun i hi => ?_⟩
    rcases (by simp at hm; omega : i = 0 ∨ i = 1) with rfl | rfl
    · exact ⟨x, -y, e, hcell 0 (by simp), hcell 1 (by simp), hcell 2 (by simp), fun h => by cases h⟩
    · exact ⟨x, y, e, hcell 3 (by simp), hcell 4 (by simp), hcell 5 (by simp), fun _ => ⟨rfl, rfl, rfl⟩⟩
  · refine ⟨g, off, m, c, 0, rfl, by simp at hm; omega, hp, by omega, fun i hi => ?_⟩
    rcases (by simp at hm; omega : i = 0 ∨ i = 1) with rfl | rfl
    · exact ⟨x, y, e, hcell 0 (by simp), hcell 1 (by simp), hcell 2 (by simp), fun _ => ⟨rfl, rfl, rfl⟩⟩
    · exact ⟨x, -y, e, hcell 3 (by simp), hcell 4 (by simp), hcell 5 (by simp), fun h => by cases h⟩
/-- what ParsePoint answers. -/
structure PP (a b : Int) (s : ByteArray) (x y e : Int) (ok : Bool) : Prop where
  p0 : ∀ w, LibT w → Calls Tryz.prog 38 #[.agg #[.int .i64 a, .int .i64 b], .string s] w (Ret (.tuple #[.agg #[.int .i64 x, .int .i64 y, .int .i64 e], .bool ok]) w)
  p1 : ∀ w, Calls Tryz.prog 39 #[.agg #[.int .i64 a, .int .i64 b], .string s] w (Ret (.tuple #[.agg #[.int .i64 x, .int .i64 y, .int .i64 e], .bool ok]) w)
  isP : ok = true → ∀ w, Calls Tryz.prog 44 #[.agg #[.int .i64 a, .int .i64 b], .agg #[.int .i64 x, .int .i64 y, .int .i64 e]] w (Ret (.bool true) w)
theorem ppfacts (a b : Int) (s : ByteArray) (hs : s.size ≤ 1000) : ∃ x y e ok, PP a b s x y e ok := by
  obtain ⟨x, y, e, ok, hv, hc⟩ := ppt_parts a b s
  have p0 := fun w (ht : LibT w) => iParsePoint_any a b s w (by omega) ht
  have p1 := fun w => sParsePoint_any a b s w (by omega)
  rw [hv] at p0 p1
  refine ⟨x, y, e, ok, p0, p1, fun hok => ?_⟩
  rcases hc with ⟨_, hp, _⟩ | ⟨hf, _⟩
  · have isP := fun w => iIsPointOf_any a b x y e w
    rwa [hp] at isP
  · rw [hf] at hok; cases hok
end Go.Proofs.YtakilincclnpdaaGreatDoor
