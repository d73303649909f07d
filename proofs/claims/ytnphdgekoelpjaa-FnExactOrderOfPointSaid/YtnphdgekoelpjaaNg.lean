/- Ng: contracts: the opposite of a point. No conditions. -/
import Derived.Test.YtnphdgekoelpjaaHt
namespace Go.Proofs.Ytnphdgekoelpjaa
open Go.RowKit

theorem opposite_any (x y e : Int) (w : World) (h1 : -1800000 ≤ y) (h2 : y ≤ 1800000) :
    Calls Try.prog 88 #[.agg #[.int .i64 x, .int .i64 y, .int .i64 e]] w (Ret (.agg #[.int .i64 x, .int .i64 (-y), .int .i64 e]) w) := by
  go_enter Try.func88, Try.ntmps88
  go_wp2_with fail
  refine bodyPost_ret (by simp (maxDischargeDepth := 3) [results, Try.results88, go_sem, *]; try rfl) rfl ?_
  exact ret_eq rfl (by repeat (first | exact Below.refl _ _ | (with_reducible assumption) | refine bel_alloc ?_ _ | refine bel_drew ?_ | refine bel_drewN ?_ _ | refine Below.setCell ?_ (by dsimp only; omega) _ | refine bel_trans (by assumption) ?_))
theorem ptMinus_any (x y e : Int) (w : World) (h1 : -1800000 ≤ y) (h2 : y ≤ 1800000) :
    Calls Try.prog 87 #[.agg #[.int .i64 x, .int .i64 y, .int .i64 e]] w (Ret (.agg #[.int .i64 x, .int .i64 (-y), .int .i64 e]) w) := by
  go_enter Try.func87, Try.ntmps87
  go_wp2_with fail
  refine bodyPost_ret (by simp (maxDischargeDepth := 3) [results, Try.results87, go_sem, *]; try rfl) rfl ?_
  exact ret_eq rfl (by repeat (first | exact Below.refl _ _ | (with_reducible assumption) | refine bel_alloc ?_ _ | refine bel_drew ?_ | refine bel_drewN ?_ _ | refine Below.setCell ?_ (by dsimp only; omega) _ | refine bel_trans (by assumption) ?_))
theorem iNegatePoint_any (a b x y e : Int) (w : World) :
    Calls Try.prog 76 #[.agg #[.int .i64 a, .int .i64 b], .agg #[.int .i64 x, .int .i64 y, .int .i64 e]] w (Ret (bif pointB a b x y e then .tuple #[.agg #[.int .i64 x, .int .i64 (-y), .int .i64 e], .bool true] else .tuple #[.agg #[.int .i64 0, .int .i64 0, .int .i64 0], .bool false]) w) := by
  cases hpt : pointB a b x y e
  · go_enter Try.func76, Try.ntmps76
    go_wp2_with (go_at_call 85; refine (isPoint_any _ _ _ _ _ _).mono ?_; rintro e w' ⟨rfl, hb⟩; (try replace hb := aft2 hb (by assumption)); obtain ⟨hc, hf, hs1, hs2, hs3, hs4⟩ := aftz hb)
    refine bodyPost_ret (by simp (maxDischargeDepth := 3) [results, Try.results76, go_sem, *]; try rfl) rfl ?_
    exact ret_eq rfl (by repeat (first | exact Below.refl _ _ | (with_reducible assumption) | refine bel_alloc ?_ _ | refine bel_drew ?_ | refine bel_drewN ?_ _ | refine Below.setCell ?_ (by dsimp only; omega) _ | refine bel_trans (by assumption) ?_))
  · obtain ⟨_, _, _, _, y1, y2, _, _⟩ := pointB_bd hpt
    go_enter Try.func76, Try.ntmps76
    go_wp2_with (first | (go_at_call 85; refine (isPoint_any _ _ _ _ _ _).mono ?_; rintro e w' ⟨rfl, hb⟩; (try replace hb := aft2 hb (by assumption)); obtain ⟨hc, hf, hs1, hs2, hs3, hs4⟩ := aftz hb) | (go_at_call 88; refine (opposite_any _ _ _ _ y1 y2).mono ?_; rintro e w' ⟨rfl, hb⟩; (try replace hb := aft2 hb (by assumption)); obtain ⟨hc, hf, hs1, hs2, hs3, hs4⟩ := aftz hb))
    refine bodyPost_ret (by simp (maxDischargeDepth := 3) [results, Try.results76, go_sem, *]; try rfl) rfl ?_
    exact ret_eq rfl (by repeat (first | exact Below.refl _ _ | (with_reducible assumption) | refine bel_alloc ?_ _ | refine bel_drew ?_ | refine bel_drewN ?_ _ | refine Below.setCell ?_ (by dsimp only; omega) _ | refine bel_trans (by assumption) ?_))
theorem sNegatePoint_any (a b x y e : Int) (w : World) :
    Calls Try.prog 77 #[.agg #[.int .i64 a, .int .i64 b], .agg #[.int .i64 x, .int .i64 y, .int .i64 e]] w (Ret (bif pointB a b x y e then .tuple #[.agg #[.int .i64 x, .int .i64 (-y), .int .i64 e], .bool true] else .tuple #[.agg #[.int .i64 0, .int .i64 0, .int .i64 0], .bool false]) w) := by
  cases hpt : pointB a b x y e
  · go_enter Try.func77, Try.ntmps77
    go_wp2_with (go_at_call 83; refine (sIsPointOf_any _ _ _ _ _ _).mono ?_; rintro e w' ⟨rfl, hb⟩; (try replace hb := aft2 hb (by assumption)); obtain ⟨hc, hf, hs1, hs2, hs3, hs4⟩ := aftz hb)
    refine bodyPost_ret (by simp (maxDischargeDepth := 3) [results, Try.results77, go_sem, *]; try rfl) rfl ?_
    exact ret_eq rfl (by repeat (first | exact Below.refl _ _ | (with_reducible assumption) | refine bel_alloc ?_ _ | refine bel_drew ?_ | refine bel_drewN ?_ _ | refine Below.setCell ?_ (by dsimp only; omega) _ | refine bel_trans (by assumption) ?_))
  · obtain ⟨_, _, _, _, y1, y2, _, _⟩ := pointB_bd hpt
    go_enter Try.func77, Try.ntmps77
    go_wp2_with (first | (go_at_call 83; refine (sIsPointOf_any _ _ _ _ _ _).mono ?_; rintro e w' ⟨rfl, hb⟩; (try replace hb := aft2 hb (by assumption)); obtain ⟨hc, hf, hs1, hs2, hs3, hs4⟩ := aftz hb) | (go_at_call 87; refine (ptMinus_any _ _ _ _ y1 y2).mono ?_; rintro e w' ⟨rfl, hb⟩; (try replace hb := aft2 hb (by assumption)); obtain ⟨hc, hf, hs1, hs2, hs3, hs4⟩ := aftz hb))
    refine bodyPost_ret (by simp (maxDischargeDepth := 3) [results, Try.results77, go_sem, *]; try rfl) rfl ?_
    exact ret_eq rfl (by repeat (first | exact Below.refl _ _ | (with_reducible assumption) | refine bel_alloc ?_ _ | refine bel_drew ?_ | refine bel_drewN ?_ _ | refine Below.setCell ?_ (by dsimp only; omega) _ | refine bel_trans (by assumption) ?_))
end Go.Proofs.Ytnphdgekoelpjaa
