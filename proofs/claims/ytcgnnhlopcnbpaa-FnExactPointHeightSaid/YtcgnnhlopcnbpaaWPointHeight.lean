/- The walk of FnExactPointHeight. No conditions. -/
import Derived.Test.YtcgnnhlopcnbpaaHt
namespace Go.Proofs.Ytcgnnhlopcnbpaa.fnExactPointHeight
open Go.RowKit
theorem walk (a b x y e : Int) (w : World) (_ha : I64 a) (_hb : I64 b) (_hx : I64 x) (_hy : I64 y) (_he : I64 e) :
    Calls Try.prog 12 #[.agg #[.int .i64 a, .int .i64 b], .agg #[.int .i64 x, .int .i64 y, .int .i64 e]] w (Ret (.bool true) w) := by
  cases hpt : pointB a b x y e
  all_goals
    go_enter Try.func12, Try.ntmps12
    go_wp2_with fail
    refine wp_region_grow (by kernel_rfl) (by kernel_rfl) ?_
    repeat (go_big_quiet_step (((first | (go_at_call 26; exact grow_ret (toCurve_any _ _ _)) | (go_at_call 32; exact grow_ret (toPoint_any _ _ _ _)) | (go_at_call 38; exact grow_ret (sPointHeight_any _ _ _ _ _ _)) | (go_at_call 39; exact grow_ret (iPointHeight_any _ _ _ _ _ _))))))
    refine wpQuiet_nil ?_
    rintro wg hbg
    (try replace hbg := aft2 hbg (by assumption))
    obtain ⟨hcg, hfg, hg1, hg2, hg3, hg4⟩ := aftz hbg
    go_wp2_with (first | (go_at_call 26; refine (toCurve_any _ _ _).mono ?_; rintro e w' ⟨rfl, hb⟩; (try replace hb := aft2 hb (by assumption)); obtain ⟨hc, hf, hs1, hs2, hs3, hs4⟩ := aftz hb) | (go_at_call 32; refine (toPoint_any _ _ _ _).mono ?_; rintro e w' ⟨rfl, hb⟩; (try replace hb := aft2 hb (by assumption)); obtain ⟨hc, hf, hs1, hs2, hs3, hs4⟩ := aftz hb) | (go_at_call 38; refine (sPointHeight_any _ _ _ _ _ _).mono ?_; rintro e w' ⟨rfl, hb⟩; (try replace hb := aft2 hb (by assumption)); obtain ⟨hc, hf, hs1, hs2, hs3, hs4⟩ := aftz hb) | (go_at_call 39; refine (iPointHeight_any _ _ _ _ _ _).mono ?_; rintro e w' ⟨rfl, hb⟩; (try replace hb := aft2 hb (by assumption)); obtain ⟨hc, hf, hs1, hs2, hs3, hs4⟩ := aftz hb))
    refine wp_region_grow (by kernel_rfl) (by kernel_rfl) ?_
    repeat (go_big_quiet_step (((first | (go_at_call 26; exact grow_ret (toCurve_any _ _ _)) | (go_at_call 32; exact grow_ret (toPoint_any _ _ _ _)) | (go_at_call 38; exact grow_ret (sPointHeight_any _ _ _ _ _ _)) | (go_at_call 39; exact grow_ret (iPointHeight_any _ _ _ _ _ _))))))
    refine wpQuiet_nil ?_
    rintro wg hbg
    (try replace hbg := aft2 hbg (by assumption))
    obtain ⟨hcg, hfg, hg1, hg2, hg3, hg4⟩ := aftz hbg
    go_wp2_with (first | (go_at_call 26; refine (toCurve_any _ _ _).mono ?_; rintro e w' ⟨rfl, hb⟩; (try replace hb := aft2 hb (by assumption)); obtain ⟨hc, hf, hs1, hs2, hs3, hs4⟩ := aftz hb) | (go_at_call 32; refine (toPoint_any _ _ _ _).mono ?_; rintro e w' ⟨rfl, hb⟩; (try replace hb := aft2 hb (by assumption)); obtain ⟨hc, hf, hs1, hs2, hs3, hs4⟩ := aftz hb) | (go_at_call 38; refine (sPointHeight_any _ _ _ _ _ _).mono ?_; rintro e w' ⟨rfl, hb⟩; (try replace hb := aft2 hb (by assumption)); obtain ⟨hc, hf, hs1, hs2, hs3, hs4⟩ := aftz hb) | (go_at_call 39; refine (iPointHeight_any _ _ _ _ _ _).mono ?_; rintro e w' ⟨rfl, hb⟩; (try replace hb := aft2 hb (by assumption)); obtain ⟨hc, hf, hs1, hs2, hs3, hs4⟩ := aftz hb))
    go_ret
    exact ret_mk (by repeat (first | exact Below.refl _ _ | (with_reducible assumption) | refine bel_alloc ?_ _ | refine bel_drew ?_ | refine bel_drewN ?_ _ | refine Below.setCell ?_ (by dsimp only; omega) _ | refine bel_trans (by assumption) ?_))
end Go.Proofs.Ytcgnnhlopcnbpaa.fnExactPointHeight
