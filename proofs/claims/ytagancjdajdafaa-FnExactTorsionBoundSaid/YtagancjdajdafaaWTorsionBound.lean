/- The walk of FnExactTorsionBound. No conditions. -/
import Derived.Test.YtagancjdajdafaaTb
namespace Go.Proofs.Ytagancjdajdafaa.fnExactTorsionBound
open Go.RowKit
theorem walk (a b k : Int) (w : World) (_ha : I64 a) (_hb : I64 b) (_hk : I64 k) :
    Calls Try.prog 7 #[.agg #[.int .i64 a, .int .i64 b], .int .i64 k] w (Ret (.bool true) w) := by
  cases hgp : gpB a b k
  all_goals
    go_enter Try.func7, Try.ntmps7
    go_wp2_with (first | (go_at_call 16; refine (toCurve_any _ _ _).mono ?_; rintro e w' ⟨rfl, hb⟩; (try replace hb := aft2 hb (by assumption)); obtain ⟨hc, hf, hs1, hs2, hs3, hs4⟩ := aftz hb) | (go_at_call 31; refine (sTorsionBound_any _ _ _ _ _hk).mono ?_; rintro e w' ⟨rfl, hb⟩; (try replace hb := aft2 hb (by assumption)); obtain ⟨hc, hf, hs1, hs2, hs3, hs4⟩ := aftz hb) | (go_at_call 32; refine (iTorsionBound_any _ _ _ _ _hk).mono ?_; rintro e w' ⟨rfl, hb⟩; (try replace hb := aft2 hb (by assumption)); obtain ⟨hc, hf, hs1, hs2, hs3, hs4⟩ := aftz hb))
    go_ret
    exact ret_mk (by repeat (first | exact Below.refl _ _ | (with_reducible assumption) | refine bel_alloc ?_ _ | refine bel_drew ?_ | refine bel_drewN ?_ _ | refine Below.setCell ?_ (by dsimp only; omega) _ | refine bel_trans (by assumption) ?_))
end Go.Proofs.Ytagancjdajdafaa.fnExactTorsionBound
