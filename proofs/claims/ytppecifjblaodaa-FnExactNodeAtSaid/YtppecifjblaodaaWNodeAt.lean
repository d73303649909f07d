/- The walk of FnExactNodeAt. No conditions. -/
import Derived.Test.YtppecifjblaodaaKj
namespace Go.Proofs.Ytppecifjblaodaa.fnExactNodeAt
open Go.RowKit
@[simp, go_sem] theorem nodeT_0 (x p : Int) : nodeT 0 x p = .tuple #[.int .i64 0, .int .i64 0, .bool false] := rfl
@[simp, go_sem] theorem nodeT_1 (x p : Int) : nodeT 1 x p = .tuple #[.int .i64 0, .int .i64 0, .bool false] := rfl
@[simp, go_sem] theorem nodeT_2 (x p : Int) : nodeT 2 x p = .tuple #[.int .i64 x, .int .i64 (3 * x % p), .bool true] := rfl
@[simp, go_sem] theorem nodeT_3 (x p : Int) : nodeT 3 x p = .tuple #[.int .i64 x, .int .i64 (3 * x % p), .bool true] := rfl
theorem walk (a b p : Int) (w : World) (_ha : I64 a) (_hb : I64 b) (_hp : I64 p) :
    Calls Try.prog 7 #[.agg #[.int .i64 a, .int .i64 b], .int .i64 p] w (Ret (.bool true) w) := by
  rcases kind_cases (minA a b p) b p with hk | hk | hk | hk
  all_goals cases hcpx : (curveB a b && p5B p)
  all_goals
    go_enter Try.func7, Try.ntmps7
    go_wp2_with (first | (go_at_call 16; refine (toCurve_any _ _ _).mono ?_; rintro e w' ⟨rfl, hb⟩; (try replace hb := aft2 hb (by assumption)); obtain ⟨hc, hf, hs1, hs2, hs3, hs4⟩ := aftz hb) | (go_at_call 29; refine (sNodeAt_any _ _ _ _).mono ?_; rintro e w' ⟨rfl, hb⟩; (try replace hb := aft2 hb (by assumption)); obtain ⟨hc, hf, hs1, hs2, hs3, hs4⟩ := aftz hb) | (go_at_call 30; refine (iNodeAt_any _ _ _ _).mono ?_; rintro e w' ⟨rfl, hb⟩; (try replace hb := aft2 hb (by assumption)); obtain ⟨hc, hf, hs1, hs2, hs3, hs4⟩ := aftz hb))
    go_ret
    exact ret_mk (by repeat (first | exact Below.refl _ _ | (with_reducible assumption) | refine bel_alloc ?_ _ | refine bel_drew ?_ | refine bel_drewN ?_ _ | refine Below.setCell ?_ (by dsimp only; omega) _ | refine bel_trans (by assumption) ?_))
end Go.Proofs.Ytppecifjblaodaa.fnExactNodeAt
