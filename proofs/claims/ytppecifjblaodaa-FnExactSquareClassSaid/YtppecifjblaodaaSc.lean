/- Sc: contracts: fractions, classes of squares. No conditions. -/
import Derived.Test.YtppecifjblaodaaFx
import Derived.Test.YtppecifjblaodaaTwo
namespace Go.Proofs.Ytppecifjblaodaa
open Go.RowKit

def fracB (n d : Int) : Bool := (inB d 1 1000000000 && inB n (-1000000000) 1000000000) && (gcdI n d == 1)
theorem frac_bd {n d : Int} (h : fracB n d = true) : 1 ≤ d ∧ d ≤ 1000000000 ∧ -1000000000 ≤ n ∧ n ≤ 1000000000 := by
  unfold fracB at h
  rw [Bool.and_eq_true, Bool.and_eq_true] at h
  have h1 := inB_true.1 h.1.1
  have h2 := inB_true.1 h.1.2
  omega
theorem isFraction_any (n d : Int) (w : World) :
    Calls Try.prog 63 #[.agg #[.int .i64 n, .int .i64 d]] w (Ret (.bool (fracB n d)) w) := by
  have hv : fracB n d = ((inB d 1 1000000000 && inB n (-1000000000) 1000000000) && (gcdI n d == 1)) := rfl
  by_cases h1 : 1 ≤ d ∧ d ≤ 1000000000
  · have i1 := inB_true.2 h1
    by_cases h2 : -1000000000 ≤ n ∧ n ≤ 1000000000
    · have i2 := inB_true.2 h2
      rw [i1, i2] at hv
      cases hg : (gcdI n d == 1)
      all_goals
        rw [hg] at hv
        have HV := Lib.hid hv; clear hv
        go_enter Try.func63, Try.ntmps63
        go_wp2_with (first | (go_at_call 92; refine (inside_any _ _ _ _).mono ?_; rintro e w' ⟨rfl, rfl⟩) | (go_at_call 101; refine (gcd_any _ _ _ (by omega) (by omega) (by omega) (by omega)).mono ?_; rintro e w' ⟨rfl, hb⟩; (try replace hb := aft2 hb (by assumption)); obtain ⟨hc, hf⟩ := aft hb))
        go_ret
        exact ret_eq (by rw [HV.out]; rfl) (by repeat (first | exact Below.refl _ _ | (with_reducible assumption) | refine bel_alloc ?_ _ | refine bel_drew ?_ | refine bel_drewN ?_ _ | refine Below.setCell ?_ (by dsimp only; omega) _ | refine bel_trans (by assumption) ?_))
    · have i2 := inB_false.2 h2
      rw [i1, i2] at hv
      have HV := Lib.hid hv; clear hv
      go_enter Try.func63, Try.ntmps63
      go_wp2_with (go_at_call 92; refine (inside_any _ _ _ _).mono ?_; rintro e w' ⟨rfl, rfl⟩)
      go_ret
      exact ret_eq (by rw [HV.out]; rfl) (by repeat (first | exact Below.refl _ _ | (with_reducible assumption) | refine bel_alloc ?_ _ | refine bel_drew ?_ | refine bel_drewN ?_ _ | refine Below.setCell ?_ (by dsimp only; omega) _ | refine bel_trans (by assumption) ?_))
  · have i1 := inB_false.2 h1
    rw [i1] at hv
    have HV := Lib.hid hv; clear hv
    go_enter Try.func63, Try.ntmps63
    go_wp2_with (go_at_call 92; refine (inside_any _ _ _ _).mono ?_; rintro e w' ⟨rfl, rfl⟩)
    go_ret
    exact ret_eq (by rw [HV.out]; rfl) (by repeat (first | exact Below.refl _ _ | (with_reducible assumption) | refine bel_alloc ?_ _ | refine bel_drew ?_ | refine bel_drewN ?_ _ | refine Below.setCell ?_ (by dsimp only; omega) _ | refine bel_trans (by assumption) ?_))
theorem l1In_known {n lo hi : Int} {r : Bool} (h : inB n lo hi = r) (w : World) : Calls Try.prog 87 #[.int .i64 n, .int .i64 lo, .int .i64 hi] w (fun e w' => e = .returned (.bool r) ∧ w = w') := by
  have := l1In_any n lo hi w
  rw [h] at this
  exact this
theorem frGood_any (n d : Int) (w : World) :
    Calls Try.prog 61 #[.agg #[.int .i64 n, .int .i64 d]] w (Ret (.bool (fracB n d)) w) := by
  have hv : fracB n d = ((inB d 1 1000000000 && inB n (-1000000000) 1000000000) && (gcdI n d == 1)) := rfl
  by_cases h1 : 1 ≤ d ∧ d ≤ 1000000000
  · have i1 := inB_true.2 h1
    by_cases h2 : -1000000000 ≤ n ∧ n ≤ 1000000000
    · have i2 := inB_true.2 h2
      rw [i1, i2] at hv
      have hga : gcdI (n.natAbs : Int) d = gcdI n d := by
        rw [← gcdI_natAbs n d, show ((d.natAbs : Nat) : Int) = d by omega]
      rw [← hga] at hv
      clear hga
      have HV := Lib.hid hv; clear hv
      go_enter Try.func61, Try.ntmps61
      go_wp2_with (fail)
      refine wp_region_grow (by kernel_rfl) (by kernel_rfl) ?_
      repeat (go_big_quiet_step (((first | (go_at_call 87; exact grow_same (l1In_known (by first | with_reducible exact i1 | with_reducible exact i2) _)) | (go_at_call 90; exact grow_same (l1Abs_any _ _ (by omega) (by omega))) | (go_at_call 99; exact grow_ret (bgCommon_any _ _ _ (by omega) (by omega) (by omega) (by omega)))))))
      refine wpQuiet_nil ?_
      rintro wg hbg
      (try replace hbg := aft2 hbg (by assumption))
      obtain ⟨hcg, hfg, hg1, hg2, hg3, hg4⟩ := aftz hbg
      go_wp2_with fail
      go_ret
      exact ret_eq (by rw [HV.out]; rfl) (by repeat (first | exact Below.refl _ _ | (with_reducible assumption) | refine bel_alloc ?_ _ | refine bel_drew ?_ | refine bel_drewN ?_ _ | refine Below.setCell ?_ (by dsimp only; omega) _ | refine bel_trans (by assumption) ?_))
    · have i2 := inB_false.2 h2
      rw [i1, i2] at hv
      have HV := Lib.hid hv; clear hv
      go_enter Try.func61, Try.ntmps61
      go_wp2_with (fail)
      refine wp_region_grow (by kernel_rfl) (by kernel_rfl) ?_
      repeat (go_big_quiet_step (((first | (go_at_call 87; exact grow_same (l1In_known (by first | with_reducible exact i1 | with_reducible exact i2) _))))))
      refine wpQuiet_nil ?_
      rintro wg hbg
      (try replace hbg := aft2 hbg (by assumption))
      obtain ⟨hcg, hfg, hg1, hg2, hg3, hg4⟩ := aftz hbg
      go_wp2_with fail
      go_ret
      exact ret_eq (by rw [HV.out]; rfl) (by repeat (first | exact Below.refl _ _ | (with_reducible assumption) | refine bel_alloc ?_ _ | refine bel_drew ?_ | refine bel_drewN ?_ _ | refine Below.setCell ?_ (by dsimp only; omega) _ | refine bel_trans (by assumption) ?_))
  · have i1 := inB_false.2 h1
    rw [i1] at hv
    have HV := Lib.hid hv; clear hv
    go_enter Try.func61, Try.ntmps61
    go_wp2_with (fail)
    refine wp_region_grow (by kernel_rfl) (by kernel_rfl) ?_
    repeat (go_big_quiet_step (((go_at_call 87; exact grow_same (l1In_known i1 _)))))
    refine wpQuiet_nil ?_
    rintro wg hbg
    (try replace hbg := aft2 hbg (by assumption))
    obtain ⟨hcg, hfg, hg1, hg2, hg3, hg4⟩ := aftz hbg
    go_wp2_with fail
    go_ret
    exact ret_eq (by rw [HV.out]; rfl) (by repeat (first | exact Below.refl _ _ | (with_reducible assumption) | refine bel_alloc ?_ _ | refine bel_drew ?_ | refine bel_drewN ?_ _ | refine Below.setCell ?_ (by dsimp only; omega) _ | refine bel_trans (by assumption) ?_))
noncomputable def scI (b n d : Int) : Int := if n = 0 then classI b else wrap64 (classI n * classI d)
theorem iSquareClass_any (a b n d : Int) (w : World) :
    Calls Try.prog 28 #[.agg #[.int .i64 a, .int .i64 b], .agg #[.int .i64 n, .int .i64 d]] w (Ret (bif twoB a b && fracB n d then .tuple #[.int .i64 (scI b n d), .bool true] else .tuple #[.int .i64 0, .bool false]) w) := by
  cases htw : twoB a b
  · go_enter Try.func28, Try.ntmps28
    go_wp2_with (go_at_call 54; refine (isTwoCurve_any _ _ _).mono ?_; rintro e w' ⟨rfl, hb⟩; (try replace hb := aft2 hb (by assumption)); obtain ⟨hc, hf⟩ := aft hb)
    refine bodyPost_ret (by simp (maxDischargeDepth := 3) [results, Try.results28, go_sem, *]; try rfl) rfl ?_
    exact ret_eq rfl (by repeat (first | exact Below.refl _ _ | (with_reducible assumption) | refine bel_alloc ?_ _ | refine bel_drew ?_ | refine bel_drewN ?_ _ | refine Below.setCell ?_ (by dsimp only; omega) _ | refine bel_trans (by assumption) ?_))
  · obtain ⟨t1, t2, t3, t4, t5, _⟩ := twoB_true.1 htw
    cases hfr : fracB n d
    · go_enter Try.func28, Try.ntmps28
      go_wp2_with (first | (go_at_call 54; refine (isTwoCurve_any _ _ _).mono ?_; rintro e w' ⟨rfl, hb⟩; (try replace hb := aft2 hb (by assumption)); obtain ⟨hc, hf, hs1, hs2, hs3, hs4⟩ := aftz hb) | (go_at_call 63; refine (isFraction_any _ _ _).mono ?_; rintro e w' ⟨rfl, hb⟩; (try replace hb := aft2 hb (by assumption)); obtain ⟨hc, hf⟩ := aft hb))
      refine bodyPost_ret (by simp (maxDischargeDepth := 3) [results, Try.results28, go_sem, *]; try rfl) rfl ?_
      exact ret_eq rfl (by repeat (first | exact Below.refl _ _ | (with_reducible assumption) | refine bel_alloc ?_ _ | refine bel_drew ?_ | refine bel_drewN ?_ _ | refine Below.setCell ?_ (by dsimp only; omega) _ | refine bel_trans (by assumption) ?_))
    · obtain ⟨f1, f2, f3, f4⟩ := frac_bd hfr
      by_cases hn : n = 0
      · subst hn
        have hs : scI b 0 d = classI b := by unfold scI; rw [if_pos rfl]
        rw [hs]
        clear hs
        go_enter Try.func28, Try.ntmps28
        go_wp2_with (first | (go_at_call 54; refine (isTwoCurve_any _ _ _).mono ?_; rintro e w' ⟨rfl, hb⟩; (try replace hb := aft2 hb (by assumption)); obtain ⟨hc, hf, hs1, hs2, hs3, hs4⟩ := aftz hb) | (go_at_call 63; refine (isFraction_any _ _ _).mono ?_; rintro e w' ⟨rfl, hb⟩; (try replace hb := aft2 hb (by assumption)); obtain ⟨hc, hf, hs1, hs2, hs3, hs4⟩ := aftz hb) | (go_at_call 64; refine (squarefree_any _ _ t5 (by omega) (by omega)).mono ?_; rintro e w' ⟨rfl, hb⟩; (try replace hb := aft2 hb (by assumption)); obtain ⟨hc, hf⟩ := aft hb))
        refine bodyPost_ret (by simp (maxDischargeDepth := 3) [results, Try.results28, go_sem, *]; try rfl) rfl ?_
        exact ret_eq rfl (by repeat (first | exact Below.refl _ _ | (with_reducible assumption) | refine bel_alloc ?_ _ | refine bel_drew ?_ | refine bel_drewN ?_ _ | refine Below.setCell ?_ (by dsimp only; omega) _ | refine bel_trans (by assumption) ?_))
      · have hs : scI b n d = wrap64 (classI n * classI d) := by unfold scI; rw [if_neg hn]
        rw [hs]
        clear hs
        have hnb : (n == 0) = false := by simp [hn]
        go_enter Try.func28, Try.ntmps28
        go_wp2_with (first | (go_at_call 54; refine (isTwoCurve_any _ _ _).mono ?_; rintro e w' ⟨rfl, hb⟩; (try replace hb := aft2 hb (by assumption)); obtain ⟨hc, hf, hs1, hs2, hs3, hs4⟩ := aftz hb) | (go_at_call 63; refine (isFraction_any _ _ _).mono ?_; rintro e w' ⟨rfl, hb⟩; (try replace hb := aft2 hb (by assumption)); obtain ⟨hc, hf, hs1, hs2, hs3, hs4⟩ := aftz hb))
        refine wp_region_grow (by kernel_rfl) (by kernel_rfl) ?_
        repeat (go_big_quiet_step (((go_at_call 64; exact grow_ret (squarefree_any _ _ (by first | with_reducible exact hn | omega) (by omega) (by omega))))))
        refine wpQuiet_nil ?_
        rintro wg hbg
        (try replace hbg := aft2 hbg (by assumption))
        obtain ⟨hcg, hfg, hg1, hg2, hg3, hg4⟩ := aftz hbg
        go_wp2_with fail
        refine bodyPost_ret (by simp (maxDischargeDepth := 3) [results, Try.results28, go_sem, *]; try rfl) rfl ?_
        exact ret_eq rfl (by repeat (first | exact Below.refl _ _ | (with_reducible assumption) | refine bel_alloc ?_ _ | refine bel_drew ?_ | refine bel_drewN ?_ _ | refine Below.setCell ?_ (by dsimp only; omega) _ | refine bel_trans (by assumption) ?_))
theorem sSquareClass_any (a b n d : Int) (w : World) :
    Calls Try.prog 26 #[.agg #[.int .i64 a, .int .i64 b], .agg #[.int .i64 n, .int .i64 d]] w (Ret (bif twoB a b && fracB n d then .tuple #[.int .i64 (scI b n d), .bool true] else .tuple #[.int .i64 0, .bool false]) w) := by
  cases htw : twoB a b
  · go_enter Try.func26, Try.ntmps26
    go_wp2_with (go_at_call 52; refine (tcGood_any _ _ _).mono ?_; rintro e w' ⟨rfl, hb⟩; (try replace hb := aft2 hb (by assumption)); obtain ⟨hc, hf⟩ := aft hb)
    refine bodyPost_ret (by simp (maxDischargeDepth := 3) [results, Try.results26, go_sem, *]; try rfl) rfl ?_
    exact ret_eq rfl (by repeat (first | exact Below.refl _ _ | (with_reducible assumption) | refine bel_alloc ?_ _ | refine bel_drew ?_ | refine bel_drewN ?_ _ | refine Below.setCell ?_ (by dsimp only; omega) _ | refine bel_trans (by assumption) ?_))
  · obtain ⟨t1, t2, t3, t4, t5, _⟩ := twoB_true.1 htw
    cases hfr : fracB n d
    · go_enter Try.func26, Try.ntmps26
      go_wp2_with (first | (go_at_call 52; refine (tcGood_any _ _ _).mono ?_; rintro e w' ⟨rfl, hb⟩; (try replace hb := aft2 hb (by assumption)); obtain ⟨hc, hf, hs1, hs2, hs3, hs4⟩ := aftz hb) | (go_at_call 61; refine (frGood_any _ _ _).mono ?_; rintro e w' ⟨rfl, hb⟩; (try replace hb := aft2 hb (by assumption)); obtain ⟨hc, hf⟩ := aft hb))
      refine bodyPost_ret (by simp (maxDischargeDepth := 3) [results, Try.results26, go_sem, *]; try rfl) rfl ?_
      exact ret_eq rfl (by repeat (first | exact Below.refl _ _ | (with_reducible assumption) | refine bel_alloc ?_ _ | refine bel_drew ?_ | refine bel_drewN ?_ _ | refine Below.setCell ?_ (by dsimp only; omega) _ | refine bel_trans (by assumption) ?_))
    · obtain ⟨f1, f2, f3, f4⟩ := frac_bd hfr
      by_cases hn : n = 0
      · subst hn
        have hs : scI b 0 d = classI b := by unfold scI; rw [if_pos rfl]
        rw [hs]
        clear hs
        go_enter Try.func26, Try.ntmps26
        go_wp2_with (first | (go_at_call 52; refine (tcGood_any _ _ _).mono ?_; rintro e w' ⟨rfl, hb⟩; (try replace hb := aft2 hb (by assumption)); obtain ⟨hc, hf, hs1, hs2, hs3, hs4⟩ := aftz hb) | (go_at_call 61; refine (frGood_any _ _ _).mono ?_; rintro e w' ⟨rfl, hb⟩; (try replace hb := aft2 hb (by assumption)); obtain ⟨hc, hf, hs1, hs2, hs3, hs4⟩ := aftz hb) | (go_at_call 62; refine (tcClass_any _ _ t5 (by omega) (by omega)).mono ?_; rintro e w' ⟨rfl, hb⟩; (try replace hb := aft2 hb (by assumption)); obtain ⟨hc, hf⟩ := aft hb))
        refine bodyPost_ret (by simp (maxDischargeDepth := 3) [results, Try.results26, go_sem, *]; try rfl) rfl ?_
        exact ret_eq rfl (by repeat (first | exact Below.refl _ _ | (with_reducible assumption) | refine bel_alloc ?_ _ | refine bel_drew ?_ | refine bel_drewN ?_ _ | refine Below.setCell ?_ (by dsimp only; omega) _ | refine bel_trans (by assumption) ?_))
      · have hs : scI b n d = wrap64 (classI n * classI d) := by unfold scI; rw [if_neg hn]
        rw [hs]
        clear hs
        have hnb : (n == 0) = false := by simp [hn]
        go_enter Try.func26, Try.ntmps26
        go_wp2_with (first | (go_at_call 52; refine (tcGood_any _ _ _).mono ?_; rintro e w' ⟨rfl, hb⟩; (try replace hb := aft2 hb (by assumption)); obtain ⟨hc, hf, hs1, hs2, hs3, hs4⟩ := aftz hb) | (go_at_call 61; refine (frGood_any _ _ _).mono ?_; rintro e w' ⟨rfl, hb⟩; (try replace hb := aft2 hb (by assumption)); obtain ⟨hc, hf, hs1, hs2, hs3, hs4⟩ := aftz hb))
        refine wp_region_grow (by kernel_rfl) (by kernel_rfl) ?_
        repeat (go_big_quiet_step (((go_at_call 62; exact grow_ret (tcClass_any _ _ (by first | with_reducible exact hn | omega) (by omega) (by omega))))))
        refine wpQuiet_nil ?_
        rintro wg hbg
        (try replace hbg := aft2 hbg (by assumption))
        obtain ⟨hcg, hfg, hg1, hg2, hg3, hg4⟩ := aftz hbg
        go_wp2_with fail
        refine bodyPost_ret (by simp (maxDischargeDepth := 3) [results, Try.results26, go_sem, *]; try rfl) rfl ?_
        exact ret_eq rfl (by repeat (first | exact Below.refl _ _ | (with_reducible assumption) | refine bel_alloc ?_ _ | refine bel_drew ?_ | refine bel_drewN ?_ _ | refine Below.setCell ?_ (by dsimp only; omega) _ | refine bel_trans (by assumption) ?_))
end Go.Proofs.Ytppecifjblaodaa
