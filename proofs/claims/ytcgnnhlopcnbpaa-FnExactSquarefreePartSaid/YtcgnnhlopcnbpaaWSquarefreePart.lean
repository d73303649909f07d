/- The walk of FnExactSquarefreePart. No conditions. -/
import Derived.Test.YtcgnnhlopcnbpaaFx
namespace Go.Proofs.Ytcgnnhlopcnbpaa.fnExactSquarefreePart
open Go.RowKit
theorem walk (n : Int) (w : World) (_hn : I64 n) :
    Calls Try.prog 14 #[.int .i64 n] w (Ret (.bool true) w) := by
  cases h : smallN n
  all_goals
    go_enter Try.func14, Try.ntmps14
    go_wp2_with (first | (go_at_call 44; refine (sSquarefreePart_any _ _).mono ?_; rintro e w' ⟨rfl, hb⟩; (try replace hb := aft2 hb (by assumption)); obtain ⟨hc, hf, hs1, hs2, hs3, hs4⟩ := aftz hb) | (go_at_call 45; refine (iSquarefreePart_any _ _).mono ?_; rintro e w' ⟨rfl, hb⟩; (try replace hb := aft2 hb (by assumption)); obtain ⟨hc, hf, hs1, hs2, hs3, hs4⟩ := aftz hb))
    go_ret
    exact ret_mk (by repeat (first | exact Below.refl _ _ | (with_reducible assumption) | refine bel_alloc ?_ _ | refine bel_drew ?_ | refine bel_drewN ?_ _ | refine Below.setCell ?_ (by dsimp only; omega) _ | refine bel_trans (by assumption) ?_))
end Go.Proofs.Ytcgnnhlopcnbpaa.fnExactSquarefreePart
