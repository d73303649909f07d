/- The walk of FnExactGroupShape. No conditions. -/
import Derived.Test.YtnphdgekoelpjaaGs
namespace Go.Proofs.Ytnphdgekoelpjaa.fnExactGroupShape
open Go.RowKit
set_option maxHeartbeats 1000000 in
theorem walk (a b p : Int) (w : World) (_ha : I64 a) (_hb : I64 b) (_hp : I64 p) :
    Calls Try.prog 13 #[.agg #[.int .i64 a, .int .i64 b], .int .i64 p] w (Ret (.bool true) w) := by
  have hsp := fun z => sGroupShape_any a b p z
  have him := fun z => iGroupShape_any a b p z
  obtain ⟨m, n, ok, hval⟩ := shV_shape a b p
  rw [hval] at hsp him
  clear hval
  go_enter Try.func13, Try.ntmps13
  go_wp2_with (first | (go_at_call 16; refine (toCurve_any _ _ _).mono ?_; rintro e w' ⟨rfl, hb⟩; (try replace hb := aft2 hb (by assumption)); obtain ⟨hc, hf, hs1, hs2, hs3, hs4⟩ := aftz hb) | (go_at_call 72; refine (hsp _).mono ?_; rintro e w' ⟨rfl, hb⟩; (try replace hb := aft2 hb (by assumption)); obtain ⟨hc, hf, hs1, hs2, hs3, hs4⟩ := aftz hb) | (go_at_call 73; refine (him _).mono ?_; rintro e w' ⟨rfl, hb⟩; (try replace hb := aft2 hb (by assumption)); obtain ⟨hc, hf, hs1, hs2, hs3, hs4⟩ := aftz hb))
  go_ret
  exact ret_mk (by repeat (first | exact Below.refl _ _ | (with_reducible assumption) | refine bel_alloc ?_ _ | refine bel_drew ?_ | refine bel_drewN ?_ _ | refine Below.setCell ?_ (by dsimp only; omega) _ | refine bel_trans (by assumption) ?_))
end Go.Proofs.Ytnphdgekoelpjaa.fnExactGroupShape
