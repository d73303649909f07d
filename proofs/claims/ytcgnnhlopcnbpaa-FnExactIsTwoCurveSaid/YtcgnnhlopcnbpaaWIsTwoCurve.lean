/- The walk of FnExactIsTwoCurve. No conditions. -/
import Derived.Test.YtcgnnhlopcnbpaaTwo
namespace Go.Proofs.Ytcgnnhlopcnbpaa.fnExactIsTwoCurve
open Go.RowKit
theorem walk (a b : Int) (w : World) (_ha : I64 a) (_hb : I64 b) :
    Calls Try.prog 3 #[.agg #[.int .i64 a, .int .i64 b]] w (Ret (.bool true) w) := by
  go_enter Try.func3, Try.ntmps3
  go_wp2_with fail
  refine (toTwoCurve_any _ _ _).mono ?_; rintro e w1 ⟨rfl, hb1⟩
  obtain ⟨hc1, hf1⟩ := aft hb1
  go_wp2_with fail
  refine (sIsTwoCurve_any _ _ _).mono ?_; rintro e w2 ⟨rfl, hb2⟩
  replace hb2 := aft2 hb2 hb1
  obtain ⟨hc2, hf2⟩ := aft hb2
  go_wp2_with fail
  refine (toTwoCurve_any _ _ _).mono ?_; rintro e w3 ⟨rfl, hb3⟩
  replace hb3 := aft2 hb3 hb2
  obtain ⟨hc3, hf3⟩ := aft hb3
  go_wp2_with fail
  refine (iIsTwoCurve_any _ _ _).mono ?_; rintro e w4 ⟨rfl, hb4⟩
  replace hb4 := aft2 hb4 hb3
  go_wp2_with fail
  go_ret
  exact ret_mk (by repeat (first | exact Below.refl _ _ | refine bel_alloc ?_ _ | refine bel_trans (by assumption) ?_))
end Go.Proofs.Ytcgnnhlopcnbpaa.fnExactIsTwoCurve
