/- Mq: contracts: the multiples of a point, both sides. No conditions. -/
import Derived.Test.YtnphdgekoelpjaaSv
import Derived.Test.YtnphdgekoelpjaaMp
namespace Go.Proofs.Ytnphdgekoelpjaa
open Go.RowKit
set_option linter.unusedVariables false

/-- the numbers of the first multiples, one after the other. -/
noncomputable def mulsF (a x y e : Int) : Nat → List Int
  | 0 => []
  | k + 1 => mulsF a x y e k ++ match mulT a x y e (k + 1) with | some t => [t.1, t.2.1, t.2.2] | none => [0, 0, 0]
theorem mulsF_succ {a x y e : Int} {k : Nat} {t : Int × Int × Int} (h : mulT a x y e (k + 1) = some t) : mulsF a x y e (k + 1) = mulsF a x y e k ++ [t.1, t.2.1, t.2.2] := by
  rw [mulsF]; rw [h]
theorem mulsF_len (a x y e : Int) : ∀ k, (mulsF a x y e k).length = 3 * k
  | 0 => rfl
  | k + 1 => by
    rw [mulsF, List.length_append, mulsF_len a x y e k]
    cases mulT a x y e (k + 1) with
    | none => simp; omega
    | some t => simp; omega
/-- returned the call's own points and a truth value. -/
def RetPsB (xs : List Int) (ok : Bool) (w : World) (e : Ending) (w' : World) : Prop := ∃ v, e = .returned (.tuple #[v, .bool ok]) ∧ Below w.heap.size w w' ∧ OwnP w' w.heap.size v xs
theorem retPs_nil {w w' : World} {ok : Bool} (h : Below w.heap.size w w') : RetPsB [] ok w (.returned (.tuple #[.slice none 0 0, .bool ok])) w' := ⟨_, rfl, h, OwnP.nil _ _⟩
noncomputable def mulsL (a x y e : Int) (N : Nat) : List Int := match mulT a x y e N with | some _ => mulsF a x y e N | none => []
theorem mulsL_none {a x y e : Int} {N : Nat} (h : mulT a x y e N = none) : mulsL a x y e N = [] := by unfold mulsL; rw [h]
theorem mulsL_some {a x y e : Int} {N : Nat} {t : Int × Int × Int} (h : mulT a x y e N = some t) : mulsL a x y e N = mulsF a x y e N := by unfold mulsL; rw [h]
theorem Try.info_pt : (Try.prog.info? 26).map (fun i => (i.zero, i.size, i.bytes)) = some (some (.agg #[.int .i64 0, .int .i64 0, .int .i64 0]), 3, 24) := by kernel_rfl
theorem grown_pb {w w' : World} {r : Option Nat} {n : Nat} {x y e : Int} (h : PB w n x y e) (hg : w.grownBy w' r) (hne : some n ≠ r) : PB w' n x y e := by
  have hb : w'.heap[n]? = w.heap[n]? := hg.block n h.1 hne
  have k : ∀ o, w'.cell? ⟨n, o, none⟩ = w.cell? ⟨n, o, none⟩ := fun o => World.cell?_of_block hb
  have kf : ∀ o, w'.frozen? ⟨n, o, none⟩ = w.frozen? ⟨n, o, none⟩ := fun o => World.frozen?_of_block hb
  exact ⟨Nat.lt_of_lt_of_le h.1 hg.size, (k _).trans h.2.1, (k _).trans h.2.2.1, (k _).trans h.2.2.2.1, (kf _).trans h.2.2.2.2.1, (kf _).trans h.2.2.2.2.2.1, (kf _).trans h.2.2.2.2.2.2⟩
theorem set3_grown (w : World) (n : Nat) (v0 v1 v2 : Value) : w.grownBy (((w.setCell ⟨n, 0, none⟩ v0).setCell ⟨n, 1, none⟩ v1).setCell ⟨n, 2, none⟩ v2) (some n) :=
  ⟨rfl, rfl, rfl, by simp, fun i hi hne => by
    have hne' : ¬ i = n := fun e => hne (by rw [e])
    rw [Below.heap_setCell _ _ _ _ hne', Below.heap_setCell _ _ _ _ hne', Below.heap_setCell _ _ _ _ hne']⟩
theorem rowP_keep {w w' : World} {B n : Nat} {v : Value} {xs : List Value} {e : TypeId} {sz : Nat} (h : w.ownsRow B e sz v n xs) (hb : Below w.heap.size w w') : w'.ownsRow B e sz v n xs :=
  h.kept (row := none) ⟨hb.os, hb.tape, hb.output, hb.size, fun i hi _ => hb.block i hi⟩ (by cases hv : v.ownBlock <;> simp)
/-- a row whose blocks are at least B, in a world in which an older block was stored to. -/
theorem rowP_far {w : World} {B n m : Nat} {v : Value} {xs : List Value} {e : TypeId} {sz : Nat} {v0 v1 v2 : Value} (h : w.ownsRow B e sz v n xs) (hm : m < B) : (((w.setCell ⟨m, 0, none⟩ v0).setCell ⟨m, 1, none⟩ v1).setCell ⟨m, 2, none⟩ v2).ownsRow B e sz v n xs :=
  h.kept (set3_grown w m v0 v1 v2) (by
    cases hv : v.ownBlock with
    | none => exact .inl rfl
    | some g =>
      right
      intro e
      have := (h.lt g hv).1
      simp only [Option.some.injEq] at e
      omega)
set_option maxRecDepth 100000 in
set_option maxHeartbeats 4000000 in
theorem multiples_any (a b x y e : Int) (N : Nat) (w : World) (hcur : curveB a b = true) (hp : onB a b x y e = true) (hN : N ≤ 12) :
    Calls Try.prog 94 #[.agg #[.int .i64 a, .int .i64 b], .agg #[.int .i64 x, .int .i64 y, .int .i64 e], .int .i64 (N : Int)] w (RetPsB (mulsL a x y e N) (mulT a x y e N).isSome w) := by
  obtain ⟨i0, hi, hz0, hz1, hz2⟩ := info_parts Try.info_pt
  have HADD := Lib.hid (fun (t : Int × Int × Int) w' (h : onB a b t.1 t.2.1 t.2.2 = true) => addPoints_any a b t.1 t.2.1 t.2.2 x y e w' hcur h hp)
  go_enter Try.func94, Try.ntmps94
  go_wp2_with fail
  refine wp_gen ?_; intro V hV
  obtain ⟨B0, hB0⟩ : ∃ B0, w.heap.size = B0 := ⟨_, rfl⟩
  obtain ⟨B8, hB8⟩ : ∃ B8, B0 + 1 + 1 = B8 := ⟨_, rfl⟩
  obtain ⟨hbV, hlt, hC, hP, hO, hVs⟩ : Below w.heap.size w V ∧ B0 + 1 < B8 ∧ CB V B0 a b ∧ PB V (B0 + 1) x y e ∧ PB V B8 0 0 0 ∧ V.heap.size = B8 + 1 := by
    subst hV; subst hB8; subst hB0
    exact ⟨(by repeat (first | exact Below.refl _ _ | (with_reducible assumption) | refine bel_alloc ?_ _ | refine bel_drew ?_ | refine bel_drewN ?_ _ | refine Below.setCell ?_ (by dsimp only; omega) _ | refine bel_trans (by assumption) ?_)), by omega, by unfold CB; simp [go_sem], by unfold PB; simp [go_sem], by unfold PB; simp [go_sem], by simp⟩
  rw [hB0, hB8]
  clear hV
  go_loopw [8, 14] (fun vo nn wr => ∃ k : Nat, k ≤ N ∧ nn = .int .i64 (k : Int) ∧ ∃ t, mulT a x y e k = some t ∧ Below B8 V wr ∧ PB wr B8 t.1 t.2.1 t.2.2 ∧ OwnP wr (B8 + 1) vo (mulsF a x y e k)) (fun _ nn _ => N - (intOf nn).toNat)
  case atStart => exact ⟨0, by omega, rfl, _, rfl, Below.refl _ _, hO, OwnP.nil _ _⟩
  case round =>
    obtain ⟨k, hk, rfl, t, ht, hbel, hbox, hown⟩ := hrel
    have hton := mulT_on hp k t ht
    obtain ⟨_, c0, c1⟩ := hC.keep hbel (by omega)
    obtain ⟨_, d0, d1, d2, _⟩ := hP.keep hbel (by omega)
    obtain ⟨o0, o1, o2, o3, o4, o5, o6⟩ := hbox
    have HqV : True → Below w.heap.size w wr := fun _ => hbV.trans (hbel.mono (by omega))
    have HBV : True → Below B8 V wr := fun _ => hbel
    clear hbel
    by_cases hlast : k = N
    · subst hlast
      go_wp2_with fail
      refine bodyPost_ret (by simp (maxDischargeDepth := 3) [results, Try.results94, go_sem, *]; try rfl) rfl ?_
      rw [mulsL_some ht, ht]
      exact ⟨_, rfl, HqV trivial, hown.le (by omega)⟩
    · have hkN : (k : Int) < (N : Int) := by omega
      cases hadd : addT a t.1 t.2.1 t.2.2 x y e with
      | none =>
        have hnone : mulT a x y e N = none := mulT_none (by rw [mulT_succ ht]; exact hadd) N (show k + 1 ≤ N by omega)
        have hcon := HADD.out t wr hton
        rw [hadd, ptO_none] at hcon
        clear hown
        go_wp2_with (go_at_call 86; refine (hcon).mono ?_; rintro e w' ⟨rfl, hb⟩; (try replace hb := aft2 hb (by assumption)); have hz := hb.size; obtain ⟨hc, hf, hs1, hs2, hs3, hs4⟩ := aftz hb; (try simp at hz))
        refine bodyPost_ret (by simp (maxDischargeDepth := 3) [results, Try.results94, go_sem, *]; try rfl) rfl ?_
        rw [mulsL_none hnone, hnone]
        exact retPs_nil (bel_alloc (bel_trans hb (HqV trivial)) _)
      | some u =>
        have hcon := HADD.out t wr hton
        have hu : mulT a x y e (k + 1) = some u := by rw [mulT_succ ht]; exact hadd
        rw [hadd, ptO_some] at hcon
        have hml := mulsF_len a x y e k
        have hms := mulsF_succ hu
        obtain ⟨n, hn3, hrow⟩ := hown
        obtain rfl : n = k := by omega
        have HROW := Lib.hid hrow; clear hrow
        have hlz : (mulsF a x y e n).length ≤ 36 := by omega
        go_wp2_with (first | (go_at_call 86; refine (hcon).mono ?_; rintro e w' ⟨rfl, hb⟩; (try replace hb := aft2 hb (by assumption)); have hz := hb.size; obtain ⟨hc, hf, hs1, hs2, hs3, hs4⟩ := aftz hb; (try simp at hz)) | (at_builtin; refine wpList_append_own _ rfl _ _ 43 rfl (B8 + 1) 26 i0 (.agg #[.int .i64 0, .int .i64 0, .int .i64 0]) 3 24 Try.underlying43 hi hz0 hz1 hz2 rfl (by decide) _ _ _ rfl (((rowP_far (rowP_keep HROW.out hb) (by omega)).alloc _).alloc _) ⟨_, 0, none⟩ 1 1 [.int .i64 u.1, .int .i64 u.2.1, .int .i64 u.2.2] rfl rfl ?_ ?_ ?_ ?_ ?_ ?_))
        · intro j q hj
          match j, hj with
          | 0, hj => simp at hj; subst hj; simp [Addr.add, go_sem]
          | 1, hj => simp at hj; subst hj; simp [Addr.add, go_sem]
          | 2, hj => simp at hj; subst hj; simp [Addr.add, go_sem]
        · intro q hq
          simp only [List.mem_cons, List.mem_nil_iff, or_false] at hq
          rcases hq with rfl | rfl | rfl <;> rfl
        · unfold maxLen; omega
        · omega
        · simp; omega
        · intro v' w2 hown2 hgrow _
          have hob : PB w' B8 t.1 t.2.1 t.2.2 := PB.keep ⟨o0, o1, o2, o3, o4, o5, o6⟩ hb o0
          have q1 : Below B8 V w' := (HBV trivial).trans (hb.mono (Nat.le_of_lt o0))
          have q0 := hob.1
          have hgB : ∀ g, Value.ownBlock u8 = some g → B8 + 1 ≤ g := fun g hg => (World.ownsRow.lt HROW.out g hg).1
          have q2 := ((bel_boxal q1 (Nat.le_refl _) (by omega) _).alloc (by simp; omega) _).grown hgrow (by simp; omega) (fun g hg => by have := hgB g hg; omega)
          have q3 := grown_pb ((hob.store.al _).al _) hgrow (fun e => by have := hgB B8 e.symm; omega)
          have q4 : OwnP w2 (B8 + 1) v' (mulsF a x y e (n + 1)) := ⟨n + 1, by rw [mulsF_len], by rw [hms, List.map_append]; exact hown2⟩
          clear hown2 hgrow HROW
          go_wp2_with fail
          go_roundw
          case rel => exact ⟨n + 1, by omega, by go_num, u, hu, q2, q3, q4⟩
          case measure => simp [intOf]; omega
noncomputable def mulsB (a b x y e n : Int) : Bool := pointB a b x y e && inB n 1 12 && (mulT a x y e n.toNat).isSome
noncomputable def mulsV (a b x y e n : Int) : List Int := bif pointB a b x y e && inB n 1 12 then mulsL a x y e n.toNat else []
theorem mulsL_len (a x y e : Int) (N : Nat) (h : N ≤ 12) : (mulsL a x y e N).length ≤ 36 := by
  unfold mulsL
  split
  · have := mulsF_len a x y e N; omega
  · simp
theorem mulsV_len (a b x y e n : Int) : (mulsV a b x y e n).length ≤ 36 := by
  unfold mulsV
  cases h : pointB a b x y e && inB n 1 12
  · simp
  · rw [Bool.and_eq_true] at h
    have := inB_true.1 h.2
    exact mulsL_len a x y e n.toNat (by omega)
theorem inside_known {n lo hi : Int} {r : Bool} (h : inB n lo hi = r) (w : World) : Calls Try.prog 93 #[.int .i64 n, .int .i64 lo, .int .i64 hi] w (fun e w' => e = .returned (.bool r) ∧ w = w') := by
  subst h; exact inside_any n lo hi w
theorem iMultiplesOf_any (a b x y e n : Int) (w : World) :
    Calls Try.prog 29 #[.agg #[.int .i64 a, .int .i64 b], .agg #[.int .i64 x, .int .i64 y, .int .i64 e], .int .i64 n] w (RetPsB (mulsV a b x y e n) (mulsB a b x y e n) w) := by
  unfold mulsV mulsB
  cases hpt : pointB a b x y e
  · go_enter Try.func29, Try.ntmps29
    go_wp2_with (go_at_call 85; refine (isPoint_any _ _ _ _ _ _).mono ?_; rintro e w' ⟨rfl, hb⟩; (try replace hb := aft2 hb (by assumption)); obtain ⟨hc, hf, hs1, hs2, hs3, hs4⟩ := aftz hb)
    refine bodyPost_ret (by simp (maxDischargeDepth := 3) [results, Try.results29, go_sem, *]; try rfl) rfl ?_
    exact retPs_nil (by repeat (first | exact Below.refl _ _ | (with_reducible assumption) | refine bel_alloc ?_ _ | refine bel_drew ?_ | refine bel_drewN ?_ _ | refine Below.setCell ?_ (by dsimp only; omega) _ | refine bel_trans (by assumption) ?_))
  · cases hn : inB n 1 12
    · go_enter Try.func29, Try.ntmps29
      go_wp2_with (first | (go_at_call 85; refine (isPoint_any _ _ _ _ _ _).mono ?_; rintro e w' ⟨rfl, hb⟩; (try replace hb := aft2 hb (by assumption)); obtain ⟨hc, hf, hs1, hs2, hs3, hs4⟩ := aftz hb) | (go_at_call 93; refine (inside_known hn _).mono ?_; rintro e w' ⟨rfl, rfl⟩))
      refine bodyPost_ret (by simp (maxDischargeDepth := 3) [results, Try.results29, go_sem, *]; try rfl) rfl ?_
      exact retPs_nil (by repeat (first | exact Below.refl _ _ | (with_reducible assumption) | refine bel_alloc ?_ _ | refine bel_drew ?_ | refine bel_drewN ?_ _ | refine Below.setCell ?_ (by dsimp only; omega) _ | refine bel_trans (by assumption) ?_))
    · obtain ⟨n1, n2⟩ := inB_true.1 hn
      obtain ⟨N, hN⟩ : ∃ N : Nat, n.toNat = N := ⟨_, rfl⟩
      obtain rfl : n = (N : Int) := by omega
      rw [hN]
      have hmu := fun w => multiples_any a b x y e N w (pointB_on hpt).1 (pointB_on hpt).2 (by omega)
      obtain ⟨xs, hxs⟩ : ∃ xs, mulsL a x y e N = xs := ⟨_, rfl⟩
      obtain ⟨ok, hok⟩ : ∃ ok, (mulT a x y e N).isSome = ok := ⟨_, rfl⟩
      rw [hxs, hok] at hmu ⊢
      clear hN hxs hok
      go_enter Try.func29, Try.ntmps29
      go_wp2_with (first | (go_at_call 85; refine (isPoint_any _ _ _ _ _ _).mono ?_; rintro e w' ⟨rfl, hb⟩; (try replace hb := aft2 hb (by assumption)); obtain ⟨hc, hf, hs1, hs2, hs3, hs4⟩ := aftz hb) | (go_at_call 93; refine (inside_known hn _).mono ?_; rintro e w' ⟨rfl, rfl⟩) | (go_at_call 94; refine (hmu _).mono ?_; rintro ee w' ⟨v, rfl, hbq, ho⟩))
      refine bodyPost_ret (by simp (maxDischargeDepth := 3) [results, Try.results29, go_sem, *]; try rfl) rfl ?_
      exact ⟨_, rfl, (by repeat (first | exact Below.refl _ _ | (with_reducible assumption) | refine bel_alloc ?_ _ | refine bel_drew ?_ | refine bel_drewN ?_ _ | refine Below.setCell ?_ (by dsimp only; omega) _ | refine bel_trans (by assumption) ?_)), ho.le (by have := hb.size; simp at this; omega)⟩
set_option maxRecDepth 100000 in
set_option maxHeartbeats 4000000 in
theorem sMultiplesOf_any (a b x y e n : Int) (w : World) :
    Calls Try.prog 28 #[.agg #[.int .i64 a, .int .i64 b], .agg #[.int .i64 x, .int .i64 y, .int .i64 e], .int .i64 n] w (RetPsB (mulsV a b x y e n) (mulsB a b x y e n) w) := by
  unfold mulsV mulsB
  cases hpt : pointB a b x y e
  · go_enter Try.func28, Try.ntmps28
    go_wp2_with (go_at_call 83; refine (sIsPointOf_any _ _ _ _ _ _).mono ?_; rintro e w' ⟨rfl, hb⟩; (try replace hb := aft2 hb (by assumption)); obtain ⟨hc, hf, hs1, hs2, hs3, hs4⟩ := aftz hb)
    refine bodyPost_ret (by simp (maxDischargeDepth := 3) [results, Try.results28, go_sem, *]; try rfl) rfl ?_
    exact retPs_nil (by repeat (first | exact Below.refl _ _ | (with_reducible assumption) | refine bel_alloc ?_ _ | refine bel_drew ?_ | refine bel_drewN ?_ _ | refine Below.setCell ?_ (by dsimp only; omega) _ | refine bel_trans (by assumption) ?_))
  · cases hn : inB n 1 12
    · go_enter Try.func28, Try.ntmps28
      go_wp2_with (first | (go_at_call 83; refine (sIsPointOf_any _ _ _ _ _ _).mono ?_; rintro e w' ⟨rfl, hb⟩; (try replace hb := aft2 hb (by assumption)); obtain ⟨hc, hf, hs1, hs2, hs3, hs4⟩ := aftz hb) | (go_at_call 91; refine (l1In_known hn _).mono ?_; rintro e w' ⟨rfl, rfl⟩))
      refine bodyPost_ret (by simp (maxDischargeDepth := 3) [results, Try.results28, go_sem, *]; try rfl) rfl ?_
      exact retPs_nil (by repeat (first | exact Below.refl _ _ | (with_reducible assumption) | refine bel_alloc ?_ _ | refine bel_drew ?_ | refine bel_drewN ?_ _ | refine Below.setCell ?_ (by dsimp only; omega) _ | refine bel_trans (by assumption) ?_))
    · obtain ⟨n1, n2⟩ := inB_true.1 hn
      obtain ⟨N, hN⟩ : ∃ N : Nat, n.toNat = N := ⟨_, rfl⟩
      obtain rfl : n = (N : Int) := by omega
      rw [hN]
      clear hN
      obtain ⟨hcur, hp⟩ := pointB_on hpt
      obtain ⟨i0, hi, hz0, hz1, hz2⟩ := info_parts Try.info_pt
      have HT := Lib.hid (fun (k : Nat) w' (h : k ≤ 12) => ptTimes_any a b x y e (k : Int) w' hcur hp (by omega) (by omega))
      go_enter Try.func28, Try.ntmps28
      go_wp2_with (first | (go_at_call 83; refine (sIsPointOf_any _ _ _ _ _ _).mono ?_; rintro e w' ⟨rfl, hb⟩; (try replace hb := aft2 hb (by assumption)); obtain ⟨hc, hf, hs1, hs2, hs3, hs4⟩ := aftz hb) | (go_at_call 91; refine (l1In_known hn _).mono ?_; rintro e w' ⟨rfl, rfl⟩))
      refine wp_gen ?_; intro V hV
      obtain ⟨B0, hB0⟩ : ∃ B0, w.heap.size = B0 := ⟨_, rfl⟩
      obtain ⟨hbV, hC, hP⟩ : Below w.heap.size w V ∧ CB V B0 a b ∧ PB V (B0 + 1) x y e := by
        subst hV; subst hB0
        refine ⟨(by repeat (first | exact Below.refl _ _ | (with_reducible assumption) | refine bel_alloc ?_ _ | refine bel_drew ?_ | refine bel_drewN ?_ _ | refine Below.setCell ?_ (by dsimp only; omega) _ | refine bel_trans (by assumption) ?_)), CB.keep ?_ hb (by simp), PB.keep ?_ hb (by simp)⟩
        · unfold CB; simp [go_sem]
        · unfold PB; simp [go_sem]
      rw [hB0]
      clear hV hb hc hf hs1 hs2 hs3 hs4
      go_loopw [8, 9] (fun vo nn wr => ∃ k : Nat, k ≤ N ∧ nn = .int .i64 ((k : Int) + 1) ∧ (∃ t, mulT a x y e k = some t) ∧ Below V.heap.size V wr ∧ OwnP wr V.heap.size vo (mulsF a x y e k)) (fun _ nn _ => (13 - intOf nn).toNat)
      case atStart => exact ⟨0, by omega, rfl, ⟨_, rfl⟩, Below.refl _ _, OwnP.nil _ _⟩
      case round =>
        obtain ⟨k, hk, rfl, ⟨t, ht⟩, hbel, hown⟩ := hrel
        obtain ⟨_, c0, c1⟩ := hC.keep hbel hC.1
        obtain ⟨_, d0, d1, d2, _⟩ := hP.keep hbel hP.1
        have hk0 : (0 : Int) ≤ (k : Int) := Int.natCast_nonneg _
        have hVs := hbV.size
        have hVr := hbel.size
        have HqV : True → Below w.heap.size w wr := fun _ => bel_trans hbel hbV
        have HBV : True → Below V.heap.size V wr := fun _ => hbel
        clear hbel
        by_cases hlast : k = N
        · subst hlast
          go_wp2_with fail
          refine bodyPost_ret (by simp (maxDischargeDepth := 3) [results, Try.results28, go_sem, *]; try rfl) rfl ?_
          rw [mulsL_some ht, ht]
          exact ⟨_, rfl, HqV trivial, hown.le hVs⟩
        · have hkN : (k : Int) + 1 ≤ (N : Int) := by omega
          have hcon := HT.out (k + 1) wr (by omega)
          rw [if_neg (by omega), show (((k + 1 : Nat) : Int)).natAbs = k + 1 by omega, show ((k + 1 : Nat) : Int) = (k : Int) + 1 by omega] at hcon
          cases hm : mulT a x y e (k + 1) with
          | none =>
            have hnone : mulT a x y e N = none := mulT_none hm N (show k + 1 ≤ N by omega)
            rw [hm, ptO_none] at hcon
            clear hown
            go_wp2_with (go_at_call 92; refine (hcon).mono ?_; rintro e w' ⟨rfl, hb⟩; (try replace hb := aft2 hb (by assumption)); have hz := hb.size; obtain ⟨hc, hf, hs1, hs2, hs3, hs4⟩ := aftz hb; (try simp at hz))
            refine bodyPost_ret (by simp (maxDischargeDepth := 3) [results, Try.results28, go_sem, *]; try rfl) rfl ?_
            rw [mulsL_none hnone, hnone]
            exact retPs_nil (bel_alloc (bel_trans hb (HqV trivial)) _)
          | some u =>
            rw [hm, ptO_some] at hcon
            have hml := mulsF_len a x y e k
            have hms := mulsF_succ hm
            obtain ⟨n, hn3, hrow⟩ := hown
            obtain rfl : n = k := by omega
            have HROW := Lib.hid hrow; clear hrow
            have hlz : (mulsF a x y e n).length ≤ 36 := by omega
            go_wp2_with (first | (go_at_call 92; refine (hcon).mono ?_; rintro e w' ⟨rfl, hb⟩; (try replace hb := aft2 hb (by assumption)); have hz := hb.size; obtain ⟨hc, hf, hs1, hs2, hs3, hs4⟩ := aftz hb; (try simp at hz)) | (at_builtin; refine wpList_append_own _ rfl _ _ 43 rfl V.heap.size 26 i0 (.agg #[.int .i64 0, .int .i64 0, .int .i64 0]) 3 24 Try.underlying43 hi hz0 hz1 hz2 rfl (by decide) _ _ _ rfl (((rowP_keep HROW.out hb).alloc _).alloc _) ⟨_, 0, none⟩ 1 1 [.int .i64 u.1, .int .i64 u.2.1, .int .i64 u.2.2] rfl rfl ?_ ?_ ?_ ?_ ?_ ?_))
            · intro j q hj
              match j, hj with
              | 0, hj => simp at hj; subst hj; simp [Addr.add, go_sem]
              | 1, hj => simp at hj; subst hj; simp [Addr.add, go_sem]
              | 2, hj => simp at hj; subst hj; simp [Addr.add, go_sem]
            · intro q hq
              simp only [List.mem_cons, List.mem_nil_iff, or_false] at hq
              rcases hq with rfl | rfl | rfl <;> rfl
            · unfold maxLen; omega
            · omega
            · have := hb.size; simp; omega
            · intro v' w2 hown2 hgrow _
              have hgB : ∀ g, Value.ownBlock u8 = some g → V.heap.size ≤ g := fun g hg => (World.ownsRow.lt HROW.out g hg).1
              have q1 : Below V.heap.size V w' := bel_trans hb (HBV trivial)
              have q2 := (bel_alloc (bel_alloc q1 _) _).grown hgrow (by have := hb.size; simp; omega) hgB
              have q4 : OwnP w2 V.heap.size v' (mulsF a x y e (n + 1)) := ⟨n + 1, by rw [mulsF_len], by rw [hms, List.map_append]; exact hown2⟩
              clear hown2 hgrow HROW
              go_wp2_with fail
              go_roundw
              case rel => exact ⟨n + 1, by omega, by go_num, ⟨u, hm⟩, q2, q4⟩
              case measure => simp [intOf]; omega
end Go.Proofs.Ytnphdgekoelpjaa
