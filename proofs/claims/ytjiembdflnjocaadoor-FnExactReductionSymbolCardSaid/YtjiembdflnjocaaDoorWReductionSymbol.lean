/- The walk of FnExactReductionSymbol. No conditions. -/
import Derived.Test.YtjiembdflnjocaaDoorSyl
namespace Go.Proofs.YtjiembdflnjocaaDoor.fnExactReductionSymbol
open Go.RowKit
theorem walk (a b p : Int) (w : World) (_ha : I64 a) (_hb : I64 b) (_hp : I64 p) :
    Calls Tryd.prog 4 #[.agg #[.int .i64 a, .int .i64 b], .int .i64 p] w (Ret (.bool true) w) := by
  have hi := fun w => iReductionSymbol_any a b p w
  have hs := fun w => sReductionSymbol_any a b p w
  obtain ⟨s, ok, hv⟩ : ∃ s ok, rsV a b p = .tuple #[.string s, .bool ok] := by
    unfold rsV
    cases (curveB a b && p5B p)
    · exact ⟨_, _, rfl⟩
    · exact ⟨_, _, rfl⟩
  rw [hv] at hi hs
  clear hv
  go_enter Tryd.func4, Tryd.ntmps4
  go_wp2_with (first | (go_at_call 7; refine (toCurve_any _ _ _).mono ?_; rintro e w' ⟨rfl, hb⟩; (try replace hb := aft2 hb (by assumption)); obtain ⟨hc, hf, hs1, hs2, hs3, hs4⟩ := aftz hb) | (go_at_call 9; refine (hs _).mono ?_; rintro e w' ⟨rfl, hb⟩; (try replace hb := aft2 hb (by assumption)); obtain ⟨hc, hf, hs1, hs2, hs3, hs4⟩ := aftz hb) | (go_at_call 10; refine (hi _).mono ?_; rintro e w' ⟨rfl, hb⟩; (try replace hb := aft2 hb (by assumption)); obtain ⟨hc, hf, hs1, hs2, hs3, hs4⟩ := aftz hb))
  go_ret
  exact ret_mk (by repeat (first | exact Below.refl _ _ | (with_reducible assumption) | refine bel_alloc ?_ _ | refine bel_drew ?_ | refine bel_drewN ?_ _ | refine Below.setCell ?_ (by dsimp only; omega) _ | refine bel_trans (by assumption) ?_))
end Go.Proofs.YtjiembdflnjocaaDoor.fnExactReductionSymbol
