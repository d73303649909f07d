/- Fr: contracts: valid fractions. No conditions. -/
import Derived.Test.YtadijbaphfgeiaaDoorNum
namespace Go.Proofs.YtadijbaphfgeiaaDoor
open Go.RowKit

def fracB (n d : Int) : Bool := (inB d 1 1000000000 && inB n (-1000000000) 1000000000) && (gcdI n d == 1)
theorem frac_bd {n d : Int} (h : fracB n d = true) : 1 ≤ d ∧ d ≤ 1000000000 ∧ -1000000000 ≤ n ∧ n ≤ 1000000000 := by
  unfold fracB at h
  rw [Bool.and_eq_true, Bool.and_eq_true] at h
  have h1 := inB_true.1 h.1.1
  have h2 := inB_true.1 h.1.2
  omega
theorem isFraction_any (n d : Int) (w : World) :
    Calls Tryd.prog 55 #[.agg #[.int .i64 n, .int .i64 d]] w (Ret (.bool (fracB n d)) w) := by
  have hv : fracB n d = ((inB d 1 1000000000 && inB n (-1000000000) 1000000000) && (gcdI n d == 1)) := rfl
  by_cases h1 : 1 ≤ d ∧ d ≤ 1000000000
  · have i1 := inB_true.2 h1
    by_cases h2 : -1000000000 ≤ n ∧ n ≤ 1000000000
    · have i2 := inB_true.2 h2
      rw [i1, i2] at hv
      cases hg : (gcdI n d == 1)
      all_goals
        rw [hg] at hv
        have HV := Lib.hid hv; clear hv
        go_enter Tryd.func55, Tryd.ntmps55
        go_wp2_with (first | (go_at_call 23; refine (inside_any _ _ _ _).mono ?_; rintro e w' ⟨rfl, rfl⟩) | (go_at_call 58; refine (gcd_any _ _ _ (by omega) (by omega) (by omega) (by omega)).mono ?_; rintro e w' ⟨rfl, hb⟩; (try replace hb := aft2 hb (by assumption)); obtain ⟨hc, hf⟩ := aft hb))
        go_ret
        exact ret_eq (by rw [HV.out]; rfl) (by repeat (first | exact Below.refl _ _ | (with_reducible assumption) | refine bel_alloc ?_ _ | refine bel_drew ?_ | refine bel_drewN ?_ _ | refine Below.setCell ?_ (by dsimp only; omega) _ | refine bel_trans (by assumption) ?_))
    · have i2 := inB_false.2 h2
      rw [i1, i2] at hv
      have HV := Lib.hid hv; clear hv
      go_enter Tryd.func55, Tryd.ntmps55
      go_wp2_with (go_at_call 23; refine (inside_any _ _ _ _).mono ?_; rintro e w' ⟨rfl, rfl⟩)
      go_ret
      exact ret_eq (by rw [HV.out]; rfl) (by repeat (first | exact Below.refl _ _ | (with_reducible assumption) | refine bel_alloc ?_ _ | refine bel_drew ?_ | refine bel_drewN ?_ _ | refine Below.setCell ?_ (by dsimp only; omega) _ | refine bel_trans (by assumption) ?_))
  · have i1 := inB_false.2 h1
    rw [i1] at hv
    have HV := Lib.hid hv; clear hv
    go_enter Tryd.func55, Tryd.ntmps55
    go_wp2_with (go_at_call 23; refine (inside_any _ _ _ _).mono ?_; rintro e w' ⟨rfl, rfl⟩)
    go_ret
    exact ret_eq (by rw [HV.out]; rfl) (by repeat (first | exact Below.refl _ _ | (with_reducible assumption) | refine bel_alloc ?_ _ | refine bel_drew ?_ | refine bel_drewN ?_ _ | refine Below.setCell ?_ (by dsimp only; omega) _ | refine bel_trans (by assumption) ?_))
theorem l1In_known {n lo hi : Int} {r : Bool} (h : inB n lo hi = r) (w : World) : Calls Tryd.prog 26 #[.int .i64 n, .int .i64 lo, .int .i64 hi] w (fun e w' => e = .returned (.bool r) ∧ w = w') := by
  have := l1In_any n lo hi w
  rw [h] at this
  exact this
theorem frGood_any (n d : Int) (w : World) :
    Calls Tryd.prog 47 #[.agg #[.int .i64 n, .int .i64 d]] w (Ret (.bool (fracB n d)) w) := by
  have hv : fracB n d = ((inB d 1 1000000000 && inB n (-1000000000) 1000000000) && (gcdI n d == 1)) := rfl
  by_cases h1 : 1 ≤ d ∧ d ≤ 1000000000
  · have i1 := inB_true.2 h1
    by_cases h2 : -1000000000 ≤ n ∧ n ≤ 1000000000
    · have i2 := inB_true.2 h2
      rw [i1, i2] at hv
      have hga : gcdI (n.natAbs : Int) d = gcdI n d := by
        rw [← gcdI_natAbs n d, show ((d.natAbs : Nat) : Int) = d by omega]
      rw [← hga] at hv
      clear hga
      have HV := Lib.hid hv; clear hv
      go_enter Tryd.func47, Tryd.ntmps47
      go_wp2_with (fail)
      refine wp_region_grow (by kernel_rfl) (by kernel_rfl) ?_
      repeat (go_big_quiet_step (((first | (go_at_call 26; exact grow_same (l1In_known (by first | with_reducible exact i1 | with_reducible exact i2) _)) | (go_at_call 50; exact grow_same (l1Abs_any _ _ (by omega) (by omega))) | (go_at_call 49; exact grow_ret (bgCommon_any _ _ _ (by omega) (by omega) (by omega) (by omega)))))))
      refine wpQuiet_nil ?_
      rintro wg hbg
      (try replace hbg := aft2 hbg (by assumption))
      obtain ⟨hcg, hfg, hg1, hg2, hg3, hg4⟩ := aftz hbg
      go_wp2_with fail
      go_ret
      exact ret_eq (by rw [HV.out]; rfl) (by repeat (first | exact Below.refl _ _ | (with_reducible assumption) | refine bel_alloc ?_ _ | refine bel_drew ?_ | refine bel_drewN ?_ _ | refine Below.setCell ?_ (by dsimp only; omega) _ | refine bel_trans (by assumption) ?_))
    · have i2 := inB_false.2 h2
      rw [i1, i2] at hv
      have HV := Lib.hid hv; clear hv
      go_enter Tryd.func47, Tryd.ntmps47
      go_wp2_with (fail)
      refine wp_region_grow (by kernel_rfl) (by kernel_rfl) ?_
      repeat (go_big_quiet_step (((first | (go_at_call 26; exact grow_same (l1In_known (by first | with_reducible exact i1 | with_reducible exact i2) _))))))
      refine wpQuiet_nil ?_
      rintro wg hbg
      (try replace hbg := aft2 hbg (by assumption))
      obtain ⟨hcg, hfg, hg1, hg2, hg3, hg4⟩ := aftz hbg
      go_wp2_with fail
      go_ret
      exact ret_eq (by rw [HV.out]; rfl) (by repeat (first | exact Below.refl _ _ | (with_reducible assumption) | refine bel_alloc ?_ _ | refine bel_drew ?_ | refine bel_drewN ?_ _ | refine Below.setCell ?_ (by dsimp only; omega) _ | refine bel_trans (by assumption) ?_))
  · have i1 := inB_false.2 h1
    rw [i1] at hv
    have HV := Lib.hid hv; clear hv
    go_enter Tryd.func47, Tryd.ntmps47
    go_wp2_with (fail)
    refine wp_region_grow (by kernel_rfl) (by kernel_rfl) ?_
    repeat (go_big_quiet_step (((go_at_call 26; exact grow_same (l1In_known i1 _)))))
    refine wpQuiet_nil ?_
    rintro wg hbg
    (try replace hbg := aft2 hbg (by assumption))
    obtain ⟨hcg, hfg, hg1, hg2, hg3, hg4⟩ := aftz hbg
    go_wp2_with fail
    go_ret
    exact ret_eq (by rw [HV.out]; rfl) (by repeat (first | exact Below.refl _ _ | (with_reducible assumption) | refine bel_alloc ?_ _ | refine bel_drew ?_ | refine bel_drewN ?_ _ | refine Below.setCell ?_ (by dsimp only; omega) _ | refine bel_trans (by assumption) ?_))
end Go.Proofs.YtadijbaphfgeiaaDoor
