/- Mu: contracts: MultiplePoint, the program's side. No conditions. -/
import Derived.Test.YtnphdgekoelpjaaMq
namespace Go.Proofs.Ytnphdgekoelpjaa
open Go.RowKit
set_option linter.unusedVariables false

set_option maxRecDepth 100000 in
set_option maxHeartbeats 4000000 in
theorem iMultiplePoint_any (a b x y e n : Int) (w : World) :
    Calls Try.prog 27 #[.agg #[.int .i64 a, .int .i64 b], .agg #[.int .i64 x, .int .i64 y, .int .i64 e], .int .i64 n] w (Ret (ptO (mulO a b x y e n)) w) := by
  obtain ⟨yy, hyy⟩ : ∃ yy, (if n < 0 then -y else y) = yy := ⟨_, rfl⟩
  unfold mulO
  rw [hyy]
  cases hpt : pointB a b x y e
  · clear hyy
    go_enter Try.func27, Try.ntmps27
    go_wp2_with (go_at_call 85; refine (isPoint_any _ _ _ _ _ _).mono ?_; rintro e w' ⟨rfl, hb⟩; (try replace hb := aft2 hb (by assumption)); obtain ⟨hc, hf, hs1, hs2, hs3, hs4⟩ := aftz hb)
    refine bodyPost_ret (by simp (maxDischargeDepth := 3) [results, Try.results27, go_sem, *]; try rfl) rfl ?_
    exact ret_eq rfl (by repeat (first | exact Below.refl _ _ | (with_reducible assumption) | refine bel_alloc ?_ _ | refine bel_drew ?_ | refine bel_drewN ?_ _ | refine Below.setCell ?_ (by dsimp only; omega) _ | refine bel_trans (by assumption) ?_))
  cases hn : inB n (-12) 12
  · clear hyy
    go_enter Try.func27, Try.ntmps27
    go_wp2_with (first | (go_at_call 85; refine (isPoint_any _ _ _ _ _ _).mono ?_; rintro e w' ⟨rfl, hb⟩; (try replace hb := aft2 hb (by assumption)); obtain ⟨hc, hf, hs1, hs2, hs3, hs4⟩ := aftz hb) | (go_at_call 93; refine (inside_known hn _).mono ?_; rintro e w' ⟨rfl, rfl⟩))
    refine bodyPost_ret (by simp (maxDischargeDepth := 3) [results, Try.results27, go_sem, *]; try rfl) rfl ?_
    exact ret_eq rfl (by repeat (first | exact Below.refl _ _ | (with_reducible assumption) | refine bel_alloc ?_ _ | refine bel_drew ?_ | refine bel_drewN ?_ _ | refine Below.setCell ?_ (by dsimp only; omega) _ | refine bel_trans (by assumption) ?_))
  obtain ⟨n1, n2⟩ := inB_true.1 hn
  obtain ⟨hcur, hp⟩ := pointB_on hpt
  obtain ⟨_, _, _, _, p3, p4, _, _⟩ := pointB_bd hpt
  obtain ⟨N, hN⟩ : ∃ N : Nat, n.natAbs = N := ⟨_, rfl⟩
  rw [hN]
  have hpy : onB a b x yy e = true := by
    rw [← hyy]
    split
    · exact onB_neg hp
    · exact hp
  have hmu := fun w => multiples_any a b x yy e N w hcur hpy (by omega)
  cases hm : mulT a x yy e N with
  | none =>
    rw [mulsL_none hm, hm] at hmu
    have hN0 : N ≠ 0 := by rintro rfl; cases hm
    by_cases hneg : n < 0
    · rw [if_pos hneg] at hyy
      subst hyy
      obtain rfl : n = -(N : Int) := by omega
      go_enter Try.func27, Try.ntmps27
      go_wp2_with (first | (go_at_call 85; refine (isPoint_any _ _ _ _ _ _).mono ?_; rintro e w' ⟨rfl, hb⟩; (try replace hb := aft2 hb (by assumption)); obtain ⟨hc, hf, hs1, hs2, hs3, hs4⟩ := aftz hb) | (go_at_call 93; refine (inside_known hn _).mono ?_; rintro e w' ⟨rfl, rfl⟩) | (go_at_call 88; refine (opposite_any _ _ _ _ p3 p4).mono ?_; rintro e w' ⟨rfl, hb⟩; (try replace hb := aft2 hb (by assumption)); obtain ⟨hc, hf, hs1, hs2, hs3, hs4⟩ := aftz hb) | (go_at_call 94; refine (hmu _).mono ?_; rintro ee w' ⟨v, rfl, hb, ho⟩; (try replace hb := aft2 hb (by assumption)); obtain ⟨hc, hf, hs1, hs2, hs3, hs4⟩ := aftz hb))
      refine bodyPost_ret (by simp (maxDischargeDepth := 3) [results, Try.results27, go_sem, *]; try rfl) rfl ?_
      exact ret_eq rfl (by repeat (first | exact Below.refl _ _ | (with_reducible assumption) | refine bel_alloc ?_ _ | refine bel_drew ?_ | refine bel_drewN ?_ _ | refine Below.setCell ?_ (by dsimp only; omega) _ | refine bel_trans (by assumption) ?_))
    · rw [if_neg hneg] at hyy
      subst hyy
      obtain rfl : n = (N : Int) := by omega
      go_enter Try.func27, Try.ntmps27
      go_wp2_with (first | (go_at_call 85; refine (isPoint_any _ _ _ _ _ _).mono ?_; rintro e w' ⟨rfl, hb⟩; (try replace hb := aft2 hb (by assumption)); obtain ⟨hc, hf, hs1, hs2, hs3, hs4⟩ := aftz hb) | (go_at_call 93; refine (inside_known hn _).mono ?_; rintro e w' ⟨rfl, rfl⟩) | (go_at_call 88; refine (opposite_any _ _ _ _ p3 p4).mono ?_; rintro e w' ⟨rfl, hb⟩; (try replace hb := aft2 hb (by assumption)); obtain ⟨hc, hf, hs1, hs2, hs3, hs4⟩ := aftz hb) | (go_at_call 94; refine (hmu _).mono ?_; rintro ee w' ⟨v, rfl, hb, ho⟩; (try replace hb := aft2 hb (by assumption)); obtain ⟨hc, hf, hs1, hs2, hs3, hs4⟩ := aftz hb))
      refine bodyPost_ret (by simp (maxDischargeDepth := 3) [results, Try.results27, go_sem, *]; try rfl) rfl ?_
      exact ret_eq rfl (by repeat (first | exact Below.refl _ _ | (with_reducible assumption) | refine bel_alloc ?_ _ | refine bel_drew ?_ | refine bel_drewN ?_ _ | refine Below.setCell ?_ (by dsimp only; omega) _ | refine bel_trans (by assumption) ?_))
  | some t =>
    rw [mulsL_some hm, hm] at hmu
    by_cases hN0 : N = 0
    · subst hN0
      obtain rfl : n = 0 := by omega
      cases hm
      have hy : yy = y := by rw [← hyy]; rfl
      subst hy
      clear hyy
      go_enter Try.func27, Try.ntmps27
      go_wp2_with (first | (go_at_call 85; refine (isPoint_any _ _ _ _ _ _).mono ?_; rintro e w' ⟨rfl, hb⟩; (try replace hb := aft2 hb (by assumption)); obtain ⟨hc, hf, hs1, hs2, hs3, hs4⟩ := aftz hb) | (go_at_call 93; refine (inside_known hn _).mono ?_; rintro e w' ⟨rfl, rfl⟩) | (go_at_call 88; refine (opposite_any _ _ _ _ p3 p4).mono ?_; rintro e w' ⟨rfl, hb⟩; (try replace hb := aft2 hb (by assumption)); obtain ⟨hc, hf, hs1, hs2, hs3, hs4⟩ := aftz hb) | (go_at_call 94; refine (hmu _).mono ?_; rintro ee w' ⟨v, rfl, hb, ho⟩; (try replace hb := aft2 hb (by assumption)); obtain ⟨hc, hf, hs1, hs2, hs3, hs4⟩ := aftz hb))
      refine bodyPost_ret (by simp (maxDischargeDepth := 3) [results, Try.results27, go_sem, *]; try rfl) rfl ?_
      exact ret_eq rfl (by repeat (first | exact Below.refl _ _ | (with_reducible assumption) | refine bel_alloc ?_ _ | refine bel_drew ?_ | refine bel_drewN ?_ _ | refine Below.setCell ?_ (by dsimp only; omega) _ | refine bel_trans (by assumption) ?_))
    obtain ⟨M, rfl⟩ : ∃ M, N = M + 1 := ⟨N - 1, by omega⟩
    by_cases hneg : n < 0
    · rw [if_pos hneg] at hyy
      subst hyy
      obtain rfl : n = -((M + 1 : Nat) : Int) := by omega
      go_enter Try.func27, Try.ntmps27
      go_wp2_with (first | (go_at_call 85; refine (isPoint_any _ _ _ _ _ _).mono ?_; rintro e w' ⟨rfl, hb⟩; (try replace hb := aft2 hb (by assumption)); obtain ⟨hc, hf, hs1, hs2, hs3, hs4⟩ := aftz hb) | (go_at_call 93; refine (inside_known hn _).mono ?_; rintro e w' ⟨rfl, rfl⟩) | (go_at_call 88; refine (opposite_any _ _ _ _ p3 p4).mono ?_; rintro e w' ⟨rfl, hb⟩; (try replace hb := aft2 hb (by assumption)); obtain ⟨hc, hf, hs1, hs2, hs3, hs4⟩ := aftz hb))
      refine (hmu _).mono ?_; rintro ee wm ⟨v, rfl, hbm, ho⟩
      (try replace hbm := aft2 hbm (by assumption))
      rcases ho.shape with ⟨_, h0⟩ | ⟨g, l, cap, rfl, hlen, hg1, hg2, hlc, hcm, hrow⟩
      · have := mulsF_len a x (-y) e (M + 1); rw [h0] at this; simp at this
      · obtain rfl : l = M + 1 := by rw [mulsF_len] at hlen; omega
        have cell := fun o (ho : o < 3) => (World.ownsRow.cellAt hrow (M * 3 + o) (by omega)).trans (show ((mulsF a x (-y) e (M + 1)).map (Value.int .i64))[M * 3 + o]? = some (.int .i64 ([t.1, t.2.1, t.2.2].getD o 0)) by
          rw [mulsF_succ hm, List.getElem?_map, List.getElem?_append_right (by rw [mulsF_len]; omega), mulsF_len, show M * 3 + o - 3 * M = o by omega]
          match o, ho with
          | 0, _ => rfl
          | 1, _ => rfl
          | 2, _ => rfl)
        have e0 := cell 0 (by omega)
        have e1 := cell 1 (by omega)
        have e2 := cell 2 (by omega)
        simp only [List.getD_cons_zero, List.getD_cons_succ, Nat.add_zero] at e0 e1 e2
        clear cell hrow ho
        unfold maxLen at hcm
        obtain ⟨hcq, hfq, hq1, hq2, hq3, hq4⟩ := aftz hbm
        have hMi : ((M + 1 : Nat) : Int) - 1 = (M : Int) := by omega
        go_wp2_with fail
        refine bodyPost_ret (by simp (maxDischargeDepth := 3) [results, Try.results27, go_sem, *]; try rfl) rfl ?_
        exact ret_eq rfl (by repeat (first | exact Below.refl _ _ | (with_reducible assumption) | refine bel_alloc ?_ _ | refine bel_drew ?_ | refine bel_drewN ?_ _ | refine Below.setCell ?_ (by dsimp only; omega) _ | refine bel_trans (by assumption) ?_))
    · rw [if_neg hneg] at hyy
      subst hyy
      obtain rfl : n = ((M + 1 : Nat) : Int) := by omega
      go_enter Try.func27, Try.ntmps27
      go_wp2_with (first | (go_at_call 85; refine (isPoint_any _ _ _ _ _ _).mono ?_; rintro e w' ⟨rfl, hb⟩; (try replace hb := aft2 hb (by assumption)); obtain ⟨hc, hf, hs1, hs2, hs3, hs4⟩ := aftz hb) | (go_at_call 93; refine (inside_known hn _).mono ?_; rintro e w' ⟨rfl, rfl⟩) | (go_at_call 88; refine (opposite_any _ _ _ _ p3 p4).mono ?_; rintro e w' ⟨rfl, hb⟩; (try replace hb := aft2 hb (by assumption)); obtain ⟨hc, hf, hs1, hs2, hs3, hs4⟩ := aftz hb))
      refine (hmu _).mono ?_; rintro ee wm ⟨v, rfl, hbm, ho⟩
      (try replace hbm := aft2 hbm (by assumption))
      rcases ho.shape with ⟨_, h0⟩ | ⟨g, l, cap, rfl, hlen, hg1, hg2, hlc, hcm, hrow⟩
      · have := mulsF_len a x y e (M + 1); rw [h0] at this; simp at this
      · obtain rfl : l = M + 1 := by rw [mulsF_len] at hlen; omega
        have cell := fun o (ho : o < 3) => (World.ownsRow.cellAt hrow (M * 3 + o) (by omega)).trans (show ((mulsF a x y e (M + 1)).map (Value.int .i64))[M * 3 + o]? = some (.int .i64 ([t.1, t.2.1, t.2.2].getD o 0)) by
          rw [mulsF_succ hm, List.getElem?_map, List.getElem?_append_right (by rw [mulsF_len]; omega), mulsF_len, show M * 3 + o - 3 * M = o by omega]
          match o, ho with
          | 0, _ => rfl
          | 1, _ => rfl
          | 2, _ => rfl)
        have e0 := cell 0 (by omega)
        have e1 := cell 1 (by omega)
        have e2 := cell 2 (by omega)
        simp only [List.getD_cons_zero, List.getD_cons_succ, Nat.add_zero] at e0 e1 e2
        clear cell hrow ho
        unfold maxLen at hcm
        obtain ⟨hcq, hfq, hq1, hq2, hq3, hq4⟩ := aftz hbm
        have hMi : ((M + 1 : Nat) : Int) - 1 = (M : Int) := by omega
        go_wp2_with fail
        refine bodyPost_ret (by simp (maxDischargeDepth := 3) [results, Try.results27, go_sem, *]; try rfl) rfl ?_
        exact ret_eq rfl (by repeat (first | exact Below.refl _ _ | (with_reducible assumption) | refine bel_alloc ?_ _ | refine bel_drew ?_ | refine bel_drewN ?_ _ | refine Below.setCell ?_ (by dsimp only; omega) _ | refine bel_trans (by assumption) ?_))
end Go.Proofs.Ytnphdgekoelpjaa
