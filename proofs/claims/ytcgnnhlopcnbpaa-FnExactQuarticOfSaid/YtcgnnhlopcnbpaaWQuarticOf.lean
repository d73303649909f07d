/- The walk of FnExactQuarticOf. No conditions. -/
import Derived.Test.YtcgnnhlopcnbpaaTwo
namespace Go.Proofs.Ytcgnnhlopcnbpaa.fnExactQuarticOf
open Go.RowKit
theorem walk (a b d : Int) (w : World) (_ha : I64 a) (_hb : I64 b) (_hd : I64 d) :
    Calls Try.prog 6 #[.agg #[.int .i64 a, .int .i64 b], .int .i64 d] w (Ret (.bool true) w) := by
  cases h : twoB a b <;> cases h2 : divB b d
  all_goals
    go_enter Try.func6, Try.ntmps6
    go_wp2_with (first | (go_at_call 16; refine (toTwoCurve_any _ _ _).mono ?_; rintro e w' ⟨rfl, hb⟩; (try replace hb := aft2 hb (by assumption)); obtain ⟨hc, hf, hs1, hs2, hs3, hs4⟩ := aftz hb) | (go_at_call 22; refine (sQuarticOf_any _ _ _ _).mono ?_; rintro e w' ⟨rfl, hb⟩; (try replace hb := aft2 hb (by assumption)); obtain ⟨hc, hf, hs1, hs2, hs3, hs4⟩ := aftz hb) | (go_at_call 23; refine (iQuarticOf_any _ _ _ _).mono ?_; rintro e w' ⟨rfl, hb⟩; (try replace hb := aft2 hb (by assumption)); obtain ⟨hc, hf, hs1, hs2, hs3, hs4⟩ := aftz hb) | (go_at_call 24; refine (eqQuartic_same _ _ _ _).mono ?_; rintro e w' ⟨rfl, hb⟩; (try replace hb := aft2 hb (by assumption)); obtain ⟨hc, hf, hs1, hs2, hs3, hs4⟩ := aftz hb))
    go_ret
    exact ret_mk (by repeat (first | exact Below.refl _ _ | (with_reducible assumption) | refine bel_alloc ?_ _ | refine bel_drew ?_ | refine bel_drewN ?_ _ | refine Below.setCell ?_ (by dsimp only; omega) _ | refine bel_trans (by assumption) ?_))
end Go.Proofs.Ytcgnnhlopcnbpaa.fnExactQuarticOf
