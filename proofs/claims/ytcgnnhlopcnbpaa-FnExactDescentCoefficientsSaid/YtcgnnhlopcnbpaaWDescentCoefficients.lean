/- The walk of FnExactDescentCoefficients. No conditions. -/
import Derived.Test.YtcgnnhlopcnbpaaTwo
namespace Go.Proofs.Ytcgnnhlopcnbpaa.fnExactDescentCoefficients
open Go.RowKit
theorem walk (a b : Int) (d : Bool) (w : World) (_ha : I64 a) (_hb : I64 b) :
    Calls Try.prog 5 #[.agg #[.int .i64 a, .int .i64 b], .bool d] w (Ret (.bool true) w) := by
  cases h : twoB a b
  all_goals
    go_enter Try.func5, Try.ntmps5
    go_wp2_with (first | (go_at_call 16; refine (toTwoCurve_any _ _ _).mono ?_; rintro e w' ⟨rfl, hb⟩; (try replace hb := aft2 hb (by assumption)); obtain ⟨hc, hf⟩ := aft hb) | (go_at_call 20; refine (sDescentCoefficients_any _ _ _ _).mono ?_; rintro e w' ⟨rfl, hb⟩; (try replace hb := aft2 hb (by assumption)); obtain ⟨hc, hf⟩ := aft hb) | (go_at_call 21; refine (iDescentCoefficients_any _ _ _ _).mono ?_; rintro e w' ⟨rfl, hb⟩; (try replace hb := aft2 hb (by assumption)); obtain ⟨hc, hf⟩ := aft hb))
    go_ret
    exact ret_mk (by repeat (first | exact Below.refl _ _ | (with_reducible assumption) | refine bel_alloc ?_ _ | refine bel_drew ?_ | refine bel_drewN ?_ _ | refine Below.setCell ?_ (by dsimp only; omega) _ | refine bel_trans (by assumption) ?_))
end Go.Proofs.Ytcgnnhlopcnbpaa.fnExactDescentCoefficients
