/- The walk of FnExactIsPointOf. No conditions. -/
import Derived.Test.YtcgnnhlopcnbpaaPt
namespace Go.Proofs.Ytcgnnhlopcnbpaa.fnExactIsPointOf
open Go.RowKit
theorem walk (a b x y e : Int) (w : World) (_ha : I64 a) (_hb : I64 b) (_hx : I64 x) (_hy : I64 y) (_he : I64 e) :
    Calls Try.prog 9 #[.agg #[.int .i64 a, .int .i64 b], .agg #[.int .i64 x, .int .i64 y, .int .i64 e]] w (Ret (.bool true) w) := by
  cases hpt : pointB a b x y e
  all_goals
    go_enter Try.func9, Try.ntmps9
    go_wp2_with fail
    refine wp_region_grow (by kernel_rfl) (by kernel_rfl) ?_
    repeat (go_big_quiet_step (((first | (go_at_call 26; exact grow_ret (toCurve_any _ _ _)) | (go_at_call 32; exact grow_ret (toPoint_any _ _ _ _)) | (go_at_call 31; exact grow_ret (sIsPointOf_any _ _ _ _ _ _)) | (go_at_call 33; exact grow_ret (iIsPointOf_any _ _ _ _ _ _))))))
    refine wpQuiet_nil ?_
    rintro wg hbg
    (try replace hbg := aft2 hbg (by assumption))
    obtain ⟨hcg, hfg, hg1, hg2, hg3, hg4⟩ := aftz hbg
    go_wp2_with (first | (go_at_call 26; refine (toCurve_any _ _ _).mono ?_; rintro e w' ⟨rfl, hb⟩; (try replace hb := aft2 hb (by assumption)); obtain ⟨hc, hf, hs1, hs2, hs3, hs4⟩ := aftz hb) | (go_at_call 32; refine (toPoint_any _ _ _ _).mono ?_; rintro e w' ⟨rfl, hb⟩; (try replace hb := aft2 hb (by assumption)); obtain ⟨hc, hf, hs1, hs2, hs3, hs4⟩ := aftz hb) | (go_at_call 31; refine (sIsPointOf_any _ _ _ _ _ _).mono ?_; rintro e w' ⟨rfl, hb⟩; (try replace hb := aft2 hb (by assumption)); obtain ⟨hc, hf, hs1, hs2, hs3, hs4⟩ := aftz hb) | (go_at_call 33; refine (iIsPointOf_any _ _ _ _ _ _).mono ?_; rintro e w' ⟨rfl, hb⟩; (try replace hb := aft2 hb (by assumption)); obtain ⟨hc, hf, hs1, hs2, hs3, hs4⟩ := aftz hb))
    refine wp_region_grow (by kernel_rfl) (by kernel_rfl) ?_
    repeat (go_big_quiet_step (((first | (go_at_call 26; exact grow_ret (toCurve_any _ _ _)) | (go_at_call 32; exact grow_ret (toPoint_any _ _ _ _)) | (go_at_call 31; exact grow_ret (sIsPointOf_any _ _ _ _ _ _)) | (go_at_call 33; exact grow_ret (iIsPointOf_any _ _ _ _ _ _))))))
    refine wpQuiet_nil ?_
    rintro wg hbg
    (try replace hbg := aft2 hbg (by assumption))
    obtain ⟨hcg, hfg, hg1, hg2, hg3, hg4⟩ := aftz hbg
    go_wp2_with (first | (go_at_call 26; refine (toCurve_any _ _ _).mono ?_; rintro e w' ⟨rfl, hb⟩; (try replace hb := aft2 hb (by assumption)); obtain ⟨hc, hf, hs1, hs2, hs3, hs4⟩ := aftz hb) | (go_at_call 32; refine (toPoint_any _ _ _ _).mono ?_; rintro e w' ⟨rfl, hb⟩; (try replace hb := aft2 hb (by assumption)); obtain ⟨hc, hf, hs1, hs2, hs3, hs4⟩ := aftz hb) | (go_at_call 31; refine (sIsPointOf_any _ _ _ _ _ _).mono ?_; rintro e w' ⟨rfl, hb⟩; (try replace hb := aft2 hb (by assumption)); obtain ⟨hc, hf, hs1, hs2, hs3, hs4⟩ := aftz hb) | (go_at_call 33; refine (iIsPointOf_any _ _ _ _ _ _).mono ?_; rintro e w' ⟨rfl, hb⟩; (try replace hb := aft2 hb (by assumption)); obtain ⟨hc, hf, hs1, hs2, hs3, hs4⟩ := aftz hb))
    go_ret
    exact ret_mk (by repeat (first | exact Below.refl _ _ | (with_reducible assumption) | refine bel_alloc ?_ _ | refine bel_drew ?_ | refine bel_drewN ?_ _ | refine Below.setCell ?_ (by dsimp only; omega) _ | refine bel_trans (by assumption) ?_))
end Go.Proofs.Ytcgnnhlopcnbpaa.fnExactIsPointOf
