/- Yb: contracts: the tests of wholes, both sides; what comes of too many limbs. No conditions. -/
import Derived.Test.YtakilincclnpdaaGreatDoorYay
namespace Go.Proofs.YtakilincclnpdaaGreatDoor
open Go.RowKit

theorem zero_wo (w : World) (B : Nat) : WO w B (.agg #[.bool false, .slice none 0 0]) 0 :=
  ⟨none, 0, by simp [digs_zero], by have := Own.nil w B; simpa [digs_zero] using this⟩
theorem goodW_nil (neg : Bool) : goodW neg [] = !neg := by cases neg <;> rfl
theorem goodW_cons {neg : Bool} {xs : List Int} (h : 0 < xs.length) : goodW neg xs = (decide (xs.length ≤ 400) && allB xs 0 9999 && decide (0 < xs.getD (xs.length - 1) 0)) := by
  have h0 : ¬ xs.length = 0 := by omega
  unfold goodW
  rw [decide_eq_true h, decide_eq_false h0, Bool.true_or, Bool.false_or, Bool.and_true]
set_option maxHeartbeats 2000000 in
theorem bgGood_any (v : Value) (neg : Bool) (xs : List Int) (w : World) (h : RW w v neg xs) (hl : xs.length ≤ 1000000) :
    Calls Tryz.prog 51 #[v] w (Ret (.bool (goodW neg xs)) w) := by
  obtain ⟨ad, cap, rfl, hr, -⟩ := h
  have hall := fun w' (hb : Below w.heap.size w w') => l1All_any (.slice ad xs.length cap) xs 0 9999 w' (hr.keep hb)
  by_cases hz : xs.length = 0
  · have hx := List.eq_nil_of_length_eq_zero hz
    subst hx
    rw [goodW_nil]
    have hab : allB [] 0 9999 = true := rfl
    rw [hab] at hall
    have HA := Lib.hid hall; clear hall hab hr
    cases neg
    all_goals
      go_enter Tryz.func51, Tryz.ntmps51
      go_wp2_with fail
      refine (HA.out _ (by repeat (first | exact Below.refl _ _ | (with_reducible assumption) | refine bel_alloc ?_ _ | refine bel_drew ?_ | refine bel_drewN ?_ _ | refine Below.setCell ?_ (by dsimp only; omega) _ | refine bel_trans (by assumption) ?_))).mono ?_; rintro e w1 ⟨rfl, hb1⟩
      obtain ⟨hc1, hf1⟩ := aft hb1
      go_wp2_with fail
      go_ret
      exact ret_eq rfl (by repeat (first | exact Below.refl _ _ | (with_reducible assumption) | refine bel_alloc ?_ _ | refine bel_drew ?_ | refine bel_drewN ?_ _ | refine Below.setCell ?_ (by dsimp only; omega) _ | refine bel_trans (by assumption) ?_))
  · have hp : 0 < xs.length := by omega
    rw [goodW_cons hp]
    obtain ⟨b, off, rfl, hlt, hcell⟩ := rd_cell hr hp
    have hck := hcell (xs.length - 1) (by omega)
    clear hcell hr
    generalize xs.getD (xs.length - 1) 0 = y at hck ⊢
    have HA := Lib.hid hall; clear hall
    generalize allB xs 0 9999 = ab at HA ⊢
    generalize xs.length = n at hck hz hp hl HA ⊢
    have hp' : (0 : Int) < (n : Int) := by omega
    have hz' : ((n : Int) == 0) = false := by simp; omega
    by_cases h4 : n ≤ 400
    · have h4' : (n : Int) ≤ 400 := by omega
      rw [decide_eq_true h4]
      cases ab
      · go_enter Tryz.func51, Tryz.ntmps51
        go_wp2_with fail
        refine (HA.out _ (by repeat (first | exact Below.refl _ _ | (with_reducible assumption) | refine bel_alloc ?_ _ | refine bel_drew ?_ | refine bel_drewN ?_ _ | refine Below.setCell ?_ (by dsimp only; omega) _ | refine bel_trans (by assumption) ?_))).mono ?_; rintro e w1 ⟨rfl, hb1⟩
        obtain ⟨hc1, hf1⟩ := aft hb1
        go_wp2_with fail
        go_ret
        exact ret_eq rfl (by repeat (first | exact Below.refl _ _ | (with_reducible assumption) | refine bel_alloc ?_ _ | refine bel_drew ?_ | refine bel_drewN ?_ _ | refine Below.setCell ?_ (by dsimp only; omega) _ | refine bel_trans (by assumption) ?_))
      · by_cases hy : 0 < y
        · go_enter Tryz.func51, Tryz.ntmps51
          go_wp2_with fail
          refine (HA.out _ (by repeat (first | exact Below.refl _ _ | (with_reducible assumption) | refine bel_alloc ?_ _ | refine bel_drew ?_ | refine bel_drewN ?_ _ | refine Below.setCell ?_ (by dsimp only; omega) _ | refine bel_trans (by assumption) ?_))).mono ?_; rintro e w1 ⟨rfl, hb1⟩
          obtain ⟨hc1, hf1⟩ := aft hb1
          go_wp2_with fail
          go_ret
          exact ret_eq (by simp [hy]) (by repeat (first | exact Below.refl _ _ | (with_reducible assumption) | refine bel_alloc ?_ _ | refine bel_drew ?_ | refine bel_drewN ?_ _ | refine Below.setCell ?_ (by dsimp only; omega) _ | refine bel_trans (by assumption) ?_))
        · go_enter Tryz.func51, Tryz.ntmps51
          go_wp2_with fail
          refine (HA.out _ (by repeat (first | exact Below.refl _ _ | (with_reducible assumption) | refine bel_alloc ?_ _ | refine bel_drew ?_ | refine bel_drewN ?_ _ | refine Below.setCell ?_ (by dsimp only; omega) _ | refine bel_trans (by assumption) ?_))).mono ?_; rintro e w1 ⟨rfl, hb1⟩
          obtain ⟨hc1, hf1⟩ := aft hb1
          go_wp2_with fail
          go_ret
          exact ret_eq (by simp) (by repeat (first | exact Below.refl _ _ | (with_reducible assumption) | refine bel_alloc ?_ _ | refine bel_drew ?_ | refine bel_drewN ?_ _ | refine Below.setCell ?_ (by dsimp only; omega) _ | refine bel_trans (by assumption) ?_))
    · have h4' : ¬ (n : Int) ≤ 400 := by omega
      rw [decide_eq_false h4]
      go_enter Tryz.func51, Tryz.ntmps51
      go_wp2_with fail
      go_ret
      exact ret_eq rfl (by repeat (first | exact Below.refl _ _ | (with_reducible assumption) | refine bel_alloc ?_ _ | refine bel_drew ?_ | refine bel_drewN ?_ _ | refine Below.setCell ?_ (by dsimp only; omega) _ | refine bel_trans (by assumption) ?_))
set_option maxHeartbeats 2000000 in
theorem isWhole_any (v : Value) (neg : Bool) (xs : List Int) (w : World) (h : RW w v neg xs) (hl : xs.length ≤ 1000000) :
    Calls Tryz.prog 49 #[v] w (Ret (.bool (goodW neg xs)) w) := by
  obtain ⟨ad, cap, rfl, hr, -⟩ := h
  by_cases hz : xs.length = 0
  · have hx := List.eq_nil_of_length_eq_zero hz
    subst hx
    rw [goodW_nil]
    clear hr
    cases neg
    · go_enter Tryz.func49, Tryz.ntmps49
      go_wp2_with fail
      refine wp_loop_rounds 1 ?_; rw [rounds_succ]
      go_wp2_with fail
      go_ret
      exact ret_eq rfl (by repeat (first | exact Below.refl _ _ | (with_reducible assumption) | refine bel_alloc ?_ _ | refine bel_drew ?_ | refine bel_drewN ?_ _ | refine Below.setCell ?_ (by dsimp only; omega) _ | refine bel_trans (by assumption) ?_))
    · go_enter Tryz.func49, Tryz.ntmps49
      go_wp2_with fail
      go_ret
      exact ret_eq rfl (by repeat (first | exact Below.refl _ _ | (with_reducible assumption) | refine bel_alloc ?_ _ | refine bel_drew ?_ | refine bel_drewN ?_ _ | refine Below.setCell ?_ (by dsimp only; omega) _ | refine bel_trans (by assumption) ?_))
  · have hp : 0 < xs.length := by omega
    rw [goodW_cons hp]
    obtain ⟨b, off, rfl, hlt, hcell⟩ := rd_cell hr hp
    have hck := hcell (xs.length - 1) (by omega)
    have HC := Lib.hid hcell
    clear hcell hr
    generalize xs.getD (xs.length - 1) 0 = y at hck ⊢
    obtain ⟨n, hn⟩ : ∃ n, xs.length = n := ⟨_, rfl⟩
    have HN := Lib.hid hn
    rw [hn] at hck hz hp hl ⊢
    clear hn
    have hp' : (0 : Int) < (n : Int) := by omega
    have hz' : ((n : Int) == 0) = false := by simp; omega
    by_cases h4 : n ≤ 400
    · have h4' : (n : Int) ≤ 400 := by omega
      rw [decide_eq_true h4, Bool.true_and]
      by_cases hy : y = 0
      · subst hy
        rw [show decide ((0 : Int) < 0) = false from rfl, Bool.and_false]
        go_enter Tryz.func49, Tryz.ntmps49
        go_wp2_with fail
        go_ret
        exact ret_eq rfl (by repeat (first | exact Below.refl _ _ | (with_reducible assumption) | refine bel_alloc ?_ _ | refine bel_drew ?_ | refine bel_drewN ?_ _ | refine Below.setCell ?_ (by dsimp only; omega) _ | refine bel_trans (by assumption) ?_))
      · have hyb : (y == 0) = false := by simp [hy]
        obtain ⟨G, hG⟩ : ∃ G, (allB xs 0 9999 && decide (0 < y)) = G := ⟨_, rfl⟩
        rw [hG]
        have HG := Lib.hid hG; clear hG
        have hyl : y = xs.getD (n - 1) 0 := by
          have := HC.out (n - 1) (by rw [HN.out]; omega)
          rw [hck] at this
          injection this with this
          injection this
        have HYL := Lib.hid hyl; clear hyl
        go_enter Tryz.func49, Tryz.ntmps49
        go_wp2_with fail
        go_loopw [35] (fun i wr => ∃ k : Nat, k ≤ n ∧ i = .int .i64 k ∧ Hid (allB xs 0 9999 = allB (xs.drop k) 0 9999) ∧ Below w.heap.size w wr) (fun i _ => n - (intOf i).toNat)
        case atStart => exact ⟨0, Nat.zero_le _, rfl, rfl, (by repeat (first | exact Below.refl _ _ | (with_reducible assumption) | refine bel_alloc ?_ _ | refine bel_drew ?_ | refine bel_drewN ?_ _ | refine Below.setCell ?_ (by dsimp only; omega) _ | refine bel_trans (by assumption) ?_))⟩
        case round =>
          obtain ⟨k, hk, rfl, HA, hbel⟩ := hrel
          by_cases hlt2 : k < n
          · have hkc := (hbel.cell (p := ⟨b, off + k, none⟩) hlt).trans (HC.out k (by rw [HN.out]; exact hlt2))
            have hst := allB_step (xs := xs) (lo := 0) (hi := 9999) (k := k) (by rw [HN.out]; exact hlt2)
            have hk1 : (k : Int) < (n : Int) := by omega
            have hk0 : (0 : Int) ≤ (k : Int) := Int.natCast_nonneg _
            cases hin : inB (xs.getD k 0) 0 9999
            · have hf : G = false := by rw [← HG.out, HA.out, hst, hin]; rfl
              subst hf
              clear hst
              generalize xs.getD k 0 = x at *
              clear hck
              go_wp2_with (go_at_call 66; refine (inside_any _ _ _ _).mono ?_; rintro e w' ⟨rfl, rfl⟩)
              go_ret
              exact ret_eq rfl (by repeat (first | exact Below.refl _ _ | (with_reducible assumption) | refine bel_alloc ?_ _ | refine bel_drew ?_ | refine bel_drewN ?_ _ | refine Below.setCell ?_ (by dsimp only; omega) _ | refine bel_trans (by assumption) ?_))
            · have hf : Hid (allB xs 0 9999 = allB (xs.drop (k + 1)) 0 9999) := by unfold Hid; rw [HA.out, hst, hin]; rfl
              clear hst
              generalize xs.getD k 0 = x at *
              clear hck
              go_wp2_with (go_at_call 66; refine (inside_any _ _ _ _).mono ?_; rintro e w' ⟨rfl, rfl⟩)
              go_roundw
              case rel => exact ⟨k + 1, by omega, by go_num, hf, (by repeat (first | exact Below.refl _ _ | (with_reducible assumption) | refine bel_alloc ?_ _ | refine bel_drew ?_ | refine bel_drewN ?_ _ | refine Below.setCell ?_ (by dsimp only; omega) _ | refine bel_trans (by assumption) ?_))⟩
              case measure => simp [intOf]; omega
          · have hkn : k = n := by omega
            have hab : allB xs 0 9999 = true := by rw [HA.out, List.drop_of_length_le (by rw [HN.out]; omega)]; rfl
            have hpos : 0 < y := by
              have := (allB_dig.1 hab).at (i := n - 1) (by rw [HN.out]; omega)
              rw [← HYL.out] at this
              omega
            have hf : G = true := by rw [← HG.out, hab, decide_eq_true hpos]; rfl
            subst hf
            clear hck hab
            go_wp2_with fail
            go_ret
            exact ret_eq rfl (by repeat (first | exact Below.refl _ _ | (with_reducible assumption) | refine bel_alloc ?_ _ | refine bel_drew ?_ | refine bel_drewN ?_ _ | refine Below.setCell ?_ (by dsimp only; omega) _ | refine bel_trans (by assumption) ?_))
    · have h4' : (n : Int) > 400 := by omega
      rw [decide_eq_false h4]
      go_enter Tryz.func49, Tryz.ntmps49
      go_wp2_with fail
      go_ret
      exact ret_eq rfl (by repeat (first | exact Below.refl _ _ | (with_reducible assumption) | refine bel_alloc ?_ _ | refine bel_drew ?_ | refine bel_drewN ?_ _ | refine Below.setCell ?_ (by dsimp only; omega) _ | refine bel_trans (by assumption) ?_))
/-- returned a whole of the call's own, if it has not too many limbs. -/
def RetWO (z : Int) (w : World) (e : Ending) (w' : World) : Prop := ∃ v, e = .returned (.tuple #[v, .bool (decide ((digs z.natAbs).length ≤ 400))]) ∧ Below w.heap.size w w' ∧ WV w' v (if (digs z.natAbs).length ≤ 400 then z else 0)
set_option maxHeartbeats 2000000 in
theorem wholeResult_any (v : Value) (z : Int) (w : World) (h : WV w v z) (hl : (digs z.natAbs).length ≤ 1000000) :
    Calls Tryz.prog 53 #[v] w (RetWO z w) := by
  have HV := Lib.hid h
  obtain ⟨ad, cap, rfl, -, -⟩ := h
  unfold RetWO
  by_cases h4 : (digs z.natAbs).length ≤ 400
  · rw [decide_eq_true h4, if_pos h4]
    generalize decide (z < 0) = bb at HV ⊢
    generalize (digs z.natAbs).length = n at *
    have h4' : ¬ (n : Int) > 400 := by omega
    go_enter Tryz.func53, Tryz.ntmps53
    go_wp2_with fail
    refine bodyPost_ret (by simp (maxDischargeDepth := 3) [results, Tryz.results53, go_sem, *]; try rfl) rfl ?_
    exact ⟨_, rfl, (by repeat (first | exact Below.refl _ _ | (with_reducible assumption) | refine bel_alloc ?_ _ | refine bel_drew ?_ | refine bel_drewN ?_ _ | refine Below.setCell ?_ (by dsimp only; omega) _ | refine bel_trans (by assumption) ?_)), HV.out.keep (by repeat (first | exact Below.refl _ _ | (with_reducible assumption) | refine bel_alloc ?_ _ | refine bel_drew ?_ | refine bel_drewN ?_ _ | refine Below.setCell ?_ (by dsimp only; omega) _ | refine bel_trans (by assumption) ?_))⟩
  · rw [decide_eq_false h4, if_neg h4]
    generalize decide (z < 0) = bb at HV ⊢
    generalize (digs z.natAbs).length = n at *
    have h4' : (n : Int) > 400 := by omega
    go_enter Tryz.func53, Tryz.ntmps53
    go_wp2_with fail
    refine bodyPost_ret (by simp (maxDischargeDepth := 3) [results, Tryz.results53, go_sem, *]; try rfl) rfl ?_
    exact ⟨_, rfl, (by repeat (first | exact Below.refl _ _ | (with_reducible assumption) | refine bel_alloc ?_ _ | refine bel_drew ?_ | refine bel_drewN ?_ _ | refine Below.setCell ?_ (by dsimp only; omega) _ | refine bel_trans (by assumption) ?_)), (zero_wo _ 0).wv⟩
set_option maxHeartbeats 2000000 in
theorem bgIf_any (v : Value) (z : Int) (w : World) (h : WV w v z) (hl : (digs z.natAbs).length ≤ 1000000) :
    Calls Tryz.prog 56 #[v] w (RetWO z w) := by
  have hg := fun w' (hb : Below w.heap.size w w') => bgGood_any v (decide (z < 0)) (digs z.natAbs) w' (h.keep hb).rw hl
  rw [goodW_dig] at hg
  have HV := Lib.hid h
  obtain ⟨ad, cap, rfl, -, -⟩ := h
  unfold RetWO
  by_cases h4 : (digs z.natAbs).length ≤ 400
  · rw [decide_eq_true h4] at hg ⊢
    rw [if_pos h4]
    generalize decide (z < 0) = bb at HV hg ⊢
    generalize (digs z.natAbs).length = n at *
    have HG := Lib.hid hg; clear hg
    go_enter Tryz.func56, Tryz.ntmps56
    go_wp2_with fail
    refine (HG.out _ (by repeat (first | exact Below.refl _ _ | (with_reducible assumption) | refine bel_alloc ?_ _ | refine bel_drew ?_ | refine bel_drewN ?_ _ | refine Below.setCell ?_ (by dsimp only; omega) _ | refine bel_trans (by assumption) ?_))).mono ?_; rintro e w1 ⟨rfl, hb1⟩
    obtain ⟨hc1, hf1⟩ := aft hb1
    go_wp2_with fail
    refine bodyPost_ret (by simp (maxDischargeDepth := 3) [results, Tryz.results56, go_sem, *]; try rfl) rfl ?_
    exact ⟨_, rfl, (by repeat (first | exact Below.refl _ _ | (with_reducible assumption) | refine bel_alloc ?_ _ | refine bel_drew ?_ | refine bel_drewN ?_ _ | refine Below.setCell ?_ (by dsimp only; omega) _ | refine bel_trans (by assumption) ?_)), HV.out.keep (by repeat (first | exact Below.refl _ _ | (with_reducible assumption) | refine bel_alloc ?_ _ | refine bel_drew ?_ | refine bel_drewN ?_ _ | refine Below.setCell ?_ (by dsimp only; omega) _ | refine bel_trans (by assumption) ?_))⟩
  · rw [decide_eq_false h4] at hg ⊢
    rw [if_neg h4]
    generalize decide (z < 0) = bb at HV hg ⊢
    generalize (digs z.natAbs).length = n at *
    have HG := Lib.hid hg; clear hg
    go_enter Tryz.func56, Tryz.ntmps56
    go_wp2_with fail
    refine (HG.out _ (by repeat (first | exact Below.refl _ _ | (with_reducible assumption) | refine bel_alloc ?_ _ | refine bel_drew ?_ | refine bel_drewN ?_ _ | refine Below.setCell ?_ (by dsimp only; omega) _ | refine bel_trans (by assumption) ?_))).mono ?_; rintro e w1 ⟨rfl, hb1⟩
    obtain ⟨hc1, hf1⟩ := aft hb1
    go_wp2_with fail
    refine bodyPost_ret (by simp (maxDischargeDepth := 3) [results, Tryz.results56, go_sem, *]; try rfl) rfl ?_
    exact ⟨_, rfl, (by repeat (first | exact Below.refl _ _ | (with_reducible assumption) | refine bel_alloc ?_ _ | refine bel_drew ?_ | refine bel_drewN ?_ _ | refine Below.setCell ?_ (by dsimp only; omega) _ | refine bel_trans (by assumption) ?_)), (zero_wo _ 0).wv⟩
end Go.Proofs.YtakilincclnpdaaGreatDoor
