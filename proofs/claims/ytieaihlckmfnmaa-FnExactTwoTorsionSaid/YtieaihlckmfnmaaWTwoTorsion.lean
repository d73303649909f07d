/- The walk of FnExactTwoTorsion. No conditions. -/
import Derived.Test.YtieaihlckmfnmaaTt
namespace Go.Proofs.Ytieaihlckmfnmaa.fnExactTwoTorsion
open Go.RowKit
set_option maxHeartbeats 1000000 in
theorem walk (a b : Int) (w : World) (_ha : I64 a) (_hb : I64 b) :
    Calls Try.prog 13 #[.agg #[.int .i64 a, .int .i64 b]] w (Ret (.bool true) w) := by
  have hsp := fun z => sTwoTorsion_any a b z
  have him := fun z => iTwoTorsion_any a b z
  obtain ⟨k, hk⟩ : ∃ k : Int, ttI a b = k := ⟨_, rfl⟩
  obtain ⟨ok, hok⟩ : ∃ ok, twoB a b = ok := ⟨_, rfl⟩
  rw [hk, hok] at hsp him
  clear hk hok
  cases ok
  all_goals
    go_enter Try.func13, Try.ntmps13
    go_wp2_with (first | (go_at_call 46; refine (toTwoCurve_any _ _ _).mono ?_; rintro e w' ⟨rfl, hb⟩; (try replace hb := aft2 hb (by assumption)); obtain ⟨hc, hf, hs1, hs2, hs3, hs4⟩ := aftz hb) | (go_at_call 45; refine (hsp _).mono ?_; rintro e w' ⟨rfl, hb⟩; (try replace hb := aft2 hb (by assumption)); obtain ⟨hc, hf, hs1, hs2, hs3, hs4⟩ := aftz hb) | (go_at_call 47; refine (him _).mono ?_; rintro e w' ⟨rfl, hb⟩; (try replace hb := aft2 hb (by assumption)); obtain ⟨hc, hf, hs1, hs2, hs3, hs4⟩ := aftz hb))
    go_ret
    exact ret_mk (by repeat (first | exact Below.refl _ _ | (with_reducible assumption) | refine bel_alloc ?_ _ | refine bel_drew ?_ | refine bel_drewN ?_ _ | refine Below.setCell ?_ (by dsimp only; omega) _ | refine bel_trans (by assumption) ?_))
end Go.Proofs.Ytieaihlckmfnmaa.fnExactTwoTorsion
