/- The walk of FnExactIsSemistableFromFive. No conditions. -/
import Derived.Test.YtfiemlglhgonnaaIs
namespace Go.Proofs.Ytfiemlglhgonnaa.fnExactIsSemistableFromFive
open Go.RowKit
set_option maxHeartbeats 1000000 in
theorem walk (a b : Int) (w : World) (_ha : I64 a) (_hb : I64 b) :
    Calls Try.prog 3 #[.agg #[.int .i64 a, .int .i64 b]] w (Ret (.bool true) w) := by
  have hsp := fun z => sIsSemistableFromFive_any a b z
  have him := fun z => iIsSemistableFromFive_any a b z
  obtain ⟨k, hk⟩ : ∃ k, (curveB a b && semB a b) = k := ⟨_, rfl⟩
  obtain ⟨ok, hok⟩ : ∃ ok, (curveB a b && bfOk a b) = ok := ⟨_, rfl⟩
  rw [hk, hok] at hsp him
  clear hk hok
  cases k <;> cases ok
  all_goals
    go_enter Try.func3, Try.ntmps3
    go_wp2_with (first | (go_at_call 6; refine (toCurve_any _ _ _).mono ?_; rintro e w' ⟨rfl, hb⟩; (try replace hb := aft2 hb (by assumption)); obtain ⟨hc, hf, hs1, hs2, hs3, hs4⟩ := aftz hb) | (go_at_call 5; refine (hsp _).mono ?_; rintro e w' ⟨rfl, hb⟩; (try replace hb := aft2 hb (by assumption)); obtain ⟨hc, hf, hs1, hs2, hs3, hs4⟩ := aftz hb) | (go_at_call 7; refine (him _).mono ?_; rintro e w' ⟨rfl, hb⟩; (try replace hb := aft2 hb (by assumption)); obtain ⟨hc, hf, hs1, hs2, hs3, hs4⟩ := aftz hb))
    go_ret
    exact ret_mk (by repeat (first | exact Below.refl _ _ | (with_reducible assumption) | refine bel_alloc ?_ _ | refine bel_drew ?_ | refine bel_drewN ?_ _ | refine Below.setCell ?_ (by dsimp only; omega) _ | refine bel_trans (by assumption) ?_))
end Go.Proofs.Ytfiemlglhgonnaa.fnExactIsSemistableFromFive
