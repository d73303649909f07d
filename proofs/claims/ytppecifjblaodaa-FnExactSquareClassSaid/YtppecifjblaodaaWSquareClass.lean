/- The walk of FnExactSquareClass. No conditions. -/
import Derived.Test.YtppecifjblaodaaSc
namespace Go.Proofs.Ytppecifjblaodaa.fnExactSquareClass
open Go.RowKit
theorem walk (a b n d : Int) (w : World) (_ha : I64 a) (_hb : I64 b) (_hn : I64 n) (_hd : I64 d) :
    Calls Try.prog 6 #[.agg #[.int .i64 a, .int .i64 b], .agg #[.int .i64 n, .int .i64 d]] w (Ret (.bool true) w) := by
  cases hok : (twoB a b && fracB n d)
  all_goals
    go_enter Try.func6, Try.ntmps6
    go_wp2_with fail
    refine wp_region_grow (by kernel_rfl) (by kernel_rfl) ?_
    repeat (go_big_quiet_step (((first | (go_at_call 22; exact grow_ret (toTwoCurve_any _ _ _)) | (go_at_call 27; exact grow_ret (toFraction_any _ _ _)) | (go_at_call 26; exact grow_ret (sSquareClass_any _ _ _ _ _)) | (go_at_call 28; exact grow_ret (iSquareClass_any _ _ _ _ _))))))
    refine wpQuiet_nil ?_
    rintro wg hbg
    (try replace hbg := aft2 hbg (by assumption))
    obtain ⟨hcg, hfg, hg1, hg2, hg3, hg4⟩ := aftz hbg
    go_wp2_with (first | (go_at_call 22; refine (toTwoCurve_any _ _ _).mono ?_; rintro e w' ⟨rfl, hb⟩; (try replace hb := aft2 hb (by assumption)); obtain ⟨hc, hf, hs1, hs2, hs3, hs4⟩ := aftz hb) | (go_at_call 27; refine (toFraction_any _ _ _).mono ?_; rintro e w' ⟨rfl, hb⟩; (try replace hb := aft2 hb (by assumption)); obtain ⟨hc, hf, hs1, hs2, hs3, hs4⟩ := aftz hb) | (go_at_call 26; refine (sSquareClass_any _ _ _ _ _).mono ?_; rintro e w' ⟨rfl, hb⟩; (try replace hb := aft2 hb (by assumption)); obtain ⟨hc, hf, hs1, hs2, hs3, hs4⟩ := aftz hb) | (go_at_call 28; refine (iSquareClass_any _ _ _ _ _).mono ?_; rintro e w' ⟨rfl, hb⟩; (try replace hb := aft2 hb (by assumption)); obtain ⟨hc, hf, hs1, hs2, hs3, hs4⟩ := aftz hb))
    refine wp_region_grow (by kernel_rfl) (by kernel_rfl) ?_
    repeat (go_big_quiet_step (((first | (go_at_call 22; exact grow_ret (toTwoCurve_any _ _ _)) | (go_at_call 27; exact grow_ret (toFraction_any _ _ _)) | (go_at_call 26; exact grow_ret (sSquareClass_any _ _ _ _ _)) | (go_at_call 28; exact grow_ret (iSquareClass_any _ _ _ _ _))))))
    refine wpQuiet_nil ?_
    rintro wg hbg
    (try replace hbg := aft2 hbg (by assumption))
    obtain ⟨hcg, hfg, hg1, hg2, hg3, hg4⟩ := aftz hbg
    go_wp2_with (first | (go_at_call 22; refine (toTwoCurve_any _ _ _).mono ?_; rintro e w' ⟨rfl, hb⟩; (try replace hb := aft2 hb (by assumption)); obtain ⟨hc, hf, hs1, hs2, hs3, hs4⟩ := aftz hb) | (go_at_call 27; refine (toFraction_any _ _ _).mono ?_; rintro e w' ⟨rfl, hb⟩; (try replace hb := aft2 hb (by assumption)); obtain ⟨hc, hf, hs1, hs2, hs3, hs4⟩ := aftz hb) | (go_at_call 26; refine (sSquareClass_any _ _ _ _ _).mono ?_; rintro e w' ⟨rfl, hb⟩; (try replace hb := aft2 hb (by assumption)); obtain ⟨hc, hf, hs1, hs2, hs3, hs4⟩ := aftz hb) | (go_at_call 28; refine (iSquareClass_any _ _ _ _ _).mono ?_; rintro e w' ⟨rfl, hb⟩; (try replace hb := aft2 hb (by assumption)); obtain ⟨hc, hf, hs1, hs2, hs3, hs4⟩ := aftz hb))
    go_ret
    exact ret_mk (by repeat (first | exact Below.refl _ _ | (with_reducible assumption) | refine bel_alloc ?_ _ | refine bel_drew ?_ | refine bel_drewN ?_ _ | refine Below.setCell ?_ (by dsimp only; omega) _ | refine bel_trans (by assumption) ?_))
end Go.Proofs.Ytppecifjblaodaa.fnExactSquareClass
