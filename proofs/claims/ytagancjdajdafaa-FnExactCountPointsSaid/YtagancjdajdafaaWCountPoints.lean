/- The walk of FnExactCountPoints. No conditions. -/
import Derived.Test.YtagancjdajdafaaCp
namespace Go.Proofs.Ytagancjdajdafaa.fnExactCountPoints
open Go.RowKit
theorem walk (a b p : Int) (w : World) (_ha : I64 a) (_hb : I64 b) (_hp : I64 p) :
    Calls Try.prog 4 #[.agg #[.int .i64 a, .int .i64 b], .int .i64 p] w (Ret (.bool true) w) := by
  cases hcp : cpB a b p
  all_goals
    go_enter Try.func4, Try.ntmps4
    go_wp2_with (first | (go_at_call 16; refine (toCurve_any _ _ _).mono ?_; rintro e w' ⟨rfl, hb⟩; (try replace hb := aft2 hb (by assumption)); obtain ⟨hc, hf, hs1, hs2, hs3, hs4⟩ := aftz hb) | (go_at_call 21; refine (sCountPoints_any _ _ _ _ _hp).mono ?_; rintro e w' ⟨rfl, hb⟩; (try replace hb := aft2 hb (by assumption)); obtain ⟨hc, hf, hs1, hs2, hs3, hs4⟩ := aftz hb) | (go_at_call 22; refine (iCountPoints_any _ _ _ _ _hp).mono ?_; rintro e w' ⟨rfl, hb⟩; (try replace hb := aft2 hb (by assumption)); obtain ⟨hc, hf, hs1, hs2, hs3, hs4⟩ := aftz hb))
    go_ret
    exact ret_mk (by repeat (first | exact Below.refl _ _ | (with_reducible assumption) | refine bel_alloc ?_ _ | refine bel_drew ?_ | refine bel_drewN ?_ _ | refine Below.setCell ?_ (by dsimp only; omega) _ | refine bel_trans (by assumption) ?_))
end Go.Proofs.Ytagancjdajdafaa.fnExactCountPoints
