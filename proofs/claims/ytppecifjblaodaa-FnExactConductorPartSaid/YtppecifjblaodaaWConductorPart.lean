/- The walk of FnExactConductorPart. No conditions. -/
import Derived.Test.YtppecifjblaodaaCn
namespace Go.Proofs.Ytppecifjblaodaa.fnExactConductorPart
open Go.RowKit
theorem walk (a b : Int) (w : World) (_ha : I64 a) (_hb : I64 b) :
    Calls Try.prog 13 #[.agg #[.int .i64 a, .int .i64 b]] w (Ret (.bool true) w) := by
  cases hok : bbOk a b
  all_goals
    go_enter Try.func13, Try.ntmps13
    go_wp2_with (first | (go_at_call 16; refine (toCurve_any _ _ _).mono ?_; rintro e w' ⟨rfl, hb⟩; (try replace hb := aft2 hb (by assumption)); obtain ⟨hc, hf, hs1, hs2, hs3, hs4⟩ := aftz hb) | (go_at_call 43; refine (sConductorPart_any _ _ _).mono ?_; rintro e w' ⟨rfl, hb⟩; (try replace hb := aft2 hb (by assumption)); obtain ⟨hc, hf, hs1, hs2, hs3, hs4⟩ := aftz hb) | (go_at_call 44; refine (iConductorPart_any _ _ _).mono ?_; rintro e w' ⟨rfl, hb⟩; (try replace hb := aft2 hb (by assumption)); obtain ⟨hc, hf, hs1, hs2, hs3, hs4⟩ := aftz hb))
    go_ret
    exact ret_mk (by repeat (first | exact Below.refl _ _ | (with_reducible assumption) | refine bel_alloc ?_ _ | refine bel_drew ?_ | refine bel_drewN ?_ _ | refine Below.setCell ?_ (by dsimp only; omega) _ | refine bel_trans (by assumption) ?_))
end Go.Proofs.Ytppecifjblaodaa.fnExactConductorPart
