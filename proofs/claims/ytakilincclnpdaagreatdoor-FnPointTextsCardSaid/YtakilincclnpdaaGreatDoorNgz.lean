/- Ng: contracts: the opposite of a point. No conditions. -/
import Derived.Test.YtakilincclnpdaaGreatDoorHtz
namespace Go.Proofs.YtakilincclnpdaaGreatDoor
open Go.RowKit

theorem ptMinus_any (x y e : Int) (w : World) (h1 : -1800000 ≤ y) (h2 : y ≤ 1800000) :
    Calls Tryz.prog 130 #[.agg #[.int .i64 x, .int .i64 y, .int .i64 e]] w (Ret (.agg #[.int .i64 x, .int .i64 (-y), .int .i64 e]) w) := by
  go_enter Tryz.func130, Tryz.ntmps130
  go_wp2_with fail
  refine bodyPost_ret (by simp (maxDischargeDepth := 3) [results, Tryz.results130, go_sem, *]; try rfl) rfl ?_
  exact ret_eq rfl (by repeat (first | exact Below.refl _ _ | (with_reducible assumption) | refine bel_alloc ?_ _ | refine bel_drew ?_ | refine bel_drewN ?_ _ | refine Below.setCell ?_ (by dsimp only; omega) _ | refine bel_trans (by assumption) ?_))
end Go.Proofs.YtakilincclnpdaaGreatDoor
