/- Ng: contracts: the opposite of a point. No conditions. -/
import Derived.Test.YtnhlcgbknkdbiaaHt
namespace Go.Proofs.Ytnhlcgbknkdbiaa
open Go.RowKit

theorem opposite_any (x y e : Int) (w : World) (h1 : -1800000 ≤ y) (h2 : y ≤ 1800000) :
    Calls Try.prog 64 #[.agg #[.int .i64 x, .int .i64 y, .int .i64 e]] w (Ret (.agg #[.int .i64 x, .int .i64 (-y), .int .i64 e]) w) := by
  go_enter Try.func64, Try.ntmps64
  go_wp2_with fail
  refine bodyPost_ret (by simp (maxDischargeDepth := 3) [results, Try.results64, go_sem, *]; try rfl) rfl ?_
  exact ret_eq rfl (by repeat (first | exact Below.refl _ _ | (with_reducible assumption) | refine bel_alloc ?_ _ | refine bel_drew ?_ | refine bel_drewN ?_ _ | refine Below.setCell ?_ (by dsimp only; omega) _ | refine bel_trans (by assumption) ?_))
theorem ptMinus_any (x y e : Int) (w : World) (h1 : -1800000 ≤ y) (h2 : y ≤ 1800000) :
    Calls Try.prog 57 #[.agg #[.int .i64 x, .int .i64 y, .int .i64 e]] w (Ret (.agg #[.int .i64 x, .int .i64 (-y), .int .i64 e]) w) := by
  go_enter Try.func57, Try.ntmps57
  go_wp2_with fail
  refine bodyPost_ret (by simp (maxDischargeDepth := 3) [results, Try.results57, go_sem, *]; try rfl) rfl ?_
  exact ret_eq rfl (by repeat (first | exact Below.refl _ _ | (with_reducible assumption) | refine bel_alloc ?_ _ | refine bel_drew ?_ | refine bel_drewN ?_ _ | refine Below.setCell ?_ (by dsimp only; omega) _ | refine bel_trans (by assumption) ?_))
theorem iNegatePoint_any (a b x y e : Int) (w : World) :
    Calls Try.prog 25 #[.agg #[.int .i64 a, .int .i64 b], .agg #[.int .i64 x, .int .i64 y, .int .i64 e]] w (Ret (bif pointB a b x y e then .tuple #[.agg #[.int .i64 x, .int .i64 (-y), .int .i64 e], .bool true] else .tuple #[.agg #[.int .i64 0, .int .i64 0, .int .i64 0], .bool false]) w) := by
  cases hpt : pointB a b x y e
  · go_enter Try.func25, Try.ntmps25
    go_wp2_with (go_at_call 59; refine (isPoint_any _ _ _ _ _ _).mono ?_; rintro e w' ⟨rfl, hb⟩; (try replace hb := aft2 hb (by assumption)); obtain ⟨hc, hf, hs1, hs2, hs3, hs4⟩ := aftz hb)
    refine bodyPost_ret (by simp (maxDischargeDepth := 3) [results, Try.results25, go_sem, *]; try rfl) rfl ?_
    exact ret_eq rfl (by repeat (first | exact Below.refl _ _ | (with_reducible assumption) | refine bel_alloc ?_ _ | refine bel_drew ?_ | refine bel_drewN ?_ _ | refine Below.setCell ?_ (by dsimp only; omega) _ | refine bel_trans (by assumption) ?_))
  · obtain ⟨_, _, _, _, y1, y2, _, _⟩ := pointB_bd hpt
    go_enter Try.func25, Try.ntmps25
    go_wp2_with (first | (go_at_call 59; refine (isPoint_any _ _ _ _ _ _).mono ?_; rintro e w' ⟨rfl, hb⟩; (try replace hb := aft2 hb (by assumption)); obtain ⟨hc, hf, hs1, hs2, hs3, hs4⟩ := aftz hb) | (go_at_call 64; refine (opposite_any _ _ _ _ y1 y2).mono ?_; rintro e w' ⟨rfl, hb⟩; (try replace hb := aft2 hb (by assumption)); obtain ⟨hc, hf, hs1, hs2, hs3, hs4⟩ := aftz hb))
    refine bodyPost_ret (by simp (maxDischargeDepth := 3) [results, Try.results25, go_sem, *]; try rfl) rfl ?_
    exact ret_eq rfl (by repeat (first | exact Below.refl _ _ | (with_reducible assumption) | refine bel_alloc ?_ _ | refine bel_drew ?_ | refine bel_drewN ?_ _ | refine Below.setCell ?_ (by dsimp only; omega) _ | refine bel_trans (by assumption) ?_))
theorem sNegatePoint_any (a b x y e : Int) (w : World) :
    Calls Try.prog 26 #[.agg #[.int .i64 a, .int .i64 b], .agg #[.int .i64 x, .int .i64 y, .int .i64 e]] w (Ret (bif pointB a b x y e then .tuple #[.agg #[.int .i64 x, .int .i64 (-y), .int .i64 e], .bool true] else .tuple #[.agg #[.int .i64 0, .int .i64 0, .int .i64 0], .bool false]) w) := by
  cases hpt : pointB a b x y e
  · go_enter Try.func26, Try.ntmps26
    go_wp2_with (go_at_call 61; refine (sIsPointOf_any _ _ _ _ _ _).mono ?_; rintro e w' ⟨rfl, hb⟩; (try replace hb := aft2 hb (by assumption)); obtain ⟨hc, hf, hs1, hs2, hs3, hs4⟩ := aftz hb)
    refine bodyPost_ret (by simp (maxDischargeDepth := 3) [results, Try.results26, go_sem, *]; try rfl) rfl ?_
    exact ret_eq rfl (by repeat (first | exact Below.refl _ _ | (with_reducible assumption) | refine bel_alloc ?_ _ | refine bel_drew ?_ | refine bel_drewN ?_ _ | refine Below.setCell ?_ (by dsimp only; omega) _ | refine bel_trans (by assumption) ?_))
  · obtain ⟨_, _, _, _, y1, y2, _, _⟩ := pointB_bd hpt
    go_enter Try.func26, Try.ntmps26
    go_wp2_with (first | (go_at_call 61; refine (sIsPointOf_any _ _ _ _ _ _).mono ?_; rintro e w' ⟨rfl, hb⟩; (try replace hb := aft2 hb (by assumption)); obtain ⟨hc, hf, hs1, hs2, hs3, hs4⟩ := aftz hb) | (go_at_call 57; refine (ptMinus_any _ _ _ _ y1 y2).mono ?_; rintro e w' ⟨rfl, hb⟩; (try replace hb := aft2 hb (by assumption)); obtain ⟨hc, hf, hs1, hs2, hs3, hs4⟩ := aftz hb))
    refine bodyPost_ret (by simp (maxDischargeDepth := 3) [results, Try.results26, go_sem, *]; try rfl) rfl ?_
    exact ret_eq rfl (by repeat (first | exact Below.refl _ _ | (with_reducible assumption) | refine bel_alloc ?_ _ | refine bel_drew ?_ | refine bel_drewN ?_ _ | refine Below.setCell ?_ (by dsimp only; omega) _ | refine bel_trans (by assumption) ?_))
end Go.Proofs.Ytnhlcgbknkdbiaa
