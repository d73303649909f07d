/- Cur: contracts of the functions on curves: discriminants, validity. No conditions. -/
import Derived.Test.YtnhlcgbknkdbiaaNum
namespace Go.Proofs.Ytnhlcgbknkdbiaa
open Go.RowKit

theorem core_any (a b : Int) (w : World) (h1 : -1000 ≤ a) (h2 : a ≤ 1000) (h3 : -10000 ≤ b) (h4 : b ≤ 10000) :
    Calls Try.prog 107 #[.agg #[.int .i64 a, .int .i64 b]] w (Ret (.int .i64 (discI a b)) w) := by
  unfold discI
  have b1 := mul_bd (a := 4 * a) (b := a) (A := 4000) (B := 1000) (by omega) (by omega) (by omega) (by omega)
  have b2 := mul_bd (a := 4 * a * a) (b := a) (A := 4000000) (B := 1000) (by omega) (by omega) (by omega) (by omega)
  have b3 := mul_bd (a := 27 * b) (b := b) (A := 270000) (B := 10000) (by omega) (by omega) (by omega) (by omega)
  go_enter Try.func107, Try.ntmps107
  go_wp2
  go_ret
  exact ret_mk (by repeat (first | exact Below.refl _ _ | (with_reducible assumption) | refine bel_alloc ?_ _ | refine bel_drew ?_ | refine bel_drewN ?_ _ | refine Below.setCell ?_ (by dsimp only; omega) _ | refine bel_trans (by assumption) ?_))
theorem ecDisc_any (a b : Int) (w : World) (h1 : -1000 ≤ a) (h2 : a ≤ 1000) (h3 : -10000 ≤ b) (h4 : b ≤ 10000) :
    Calls Try.prog 104 #[.agg #[.int .i64 a, .int .i64 b]] w (Ret (.int .i64 (discI a b)) w) := by
  unfold discI
  have b1 := mul_bd (a := 4 * a) (b := a) (A := 4000) (B := 1000) (by omega) (by omega) (by omega) (by omega)
  have b2 := mul_bd (a := 4 * a * a) (b := a) (A := 4000000) (B := 1000) (by omega) (by omega) (by omega) (by omega)
  have b3 := mul_bd (a := 27 * b) (b := b) (A := 270000) (B := 10000) (by omega) (by omega) (by omega) (by omega)
  go_enter Try.func104, Try.ntmps104
  go_wp2
  go_ret
  exact ret_mk (by repeat (first | exact Below.refl _ _ | (with_reducible assumption) | refine bel_alloc ?_ _ | refine bel_drew ?_ | refine bel_drewN ?_ _ | refine Below.setCell ?_ (by dsimp only; omega) _ | refine bel_trans (by assumption) ?_))
theorem isCurve_any (a b : Int) (w : World) :
    Calls Try.prog 86 #[.agg #[.int .i64 a, .int .i64 b]] w (Ret (.bool (curveB a b)) w) := by
  by_cases h : -1000 ≤ a ∧ a ≤ 1000 ∧ -10000 ≤ b ∧ b ≤ 10000
  · obtain ⟨h1, h2, h3, h4⟩ := h
    have i1 := inB_true.2 ⟨h1, h2⟩
    have i2 := inB_true.2 ⟨h3, h4⟩
    go_enter Try.func86, Try.ntmps86
    go_wp2_with (first | (go_at_call 49; refine (inside_any _ _ _ _).mono ?_; rintro e w' ⟨rfl, rfl⟩) | (go_at_call 107; refine (core_any _ _ _ h1 h2 h3 h4).mono ?_; rintro e w' ⟨rfl, hb⟩; (try replace hb := aft2 hb (by assumption)); obtain ⟨hc, hf⟩ := aft hb))
    all_goals (go_ret; exact ret_eq (congrArg Value.bool (by rw [Bool.eq_iff_iff, curveB_true]; simp; try omega)) (by repeat (first | exact Below.refl _ _ | (with_reducible assumption) | refine bel_alloc ?_ _ | refine bel_drew ?_ | refine bel_drewN ?_ _ | refine Below.setCell ?_ (by dsimp only; omega) _ | refine bel_trans (by assumption) ?_)))
  · have hf := curveB_false.2 (fun k => h ⟨k.1, k.2.1, k.2.2.1, k.2.2.2.1⟩)
    by_cases h1 : -1000 ≤ a ∧ a ≤ 1000
    · have i1 := inB_true.2 h1
      have i2 := inB_false.2 (fun k => h ⟨h1.1, h1.2, k⟩)
      go_enter Try.func86, Try.ntmps86
      go_wp2_with (go_at_call 49; refine (inside_any _ _ _ _).mono ?_; rintro e w' ⟨rfl, rfl⟩)
      go_ret; exact ret_eq (congrArg Value.bool hf.symm) (by repeat (first | exact Below.refl _ _ | (with_reducible assumption) | refine bel_alloc ?_ _ | refine bel_drew ?_ | refine bel_drewN ?_ _ | refine Below.setCell ?_ (by dsimp only; omega) _ | refine bel_trans (by assumption) ?_))
    · have i1 := inB_false.2 h1
      go_enter Try.func86, Try.ntmps86
      go_wp2_with (go_at_call 49; refine (inside_any _ _ _ _).mono ?_; rintro e w' ⟨rfl, rfl⟩)
      go_ret; exact ret_eq (congrArg Value.bool hf.symm) (by repeat (first | exact Below.refl _ _ | (with_reducible assumption) | refine bel_alloc ?_ _ | refine bel_drew ?_ | refine bel_drewN ?_ _ | refine Below.setCell ?_ (by dsimp only; omega) _ | refine bel_trans (by assumption) ?_))
theorem ecGood_any (a b : Int) (w : World) :
    Calls Try.prog 84 #[.agg #[.int .i64 a, .int .i64 b]] w (Ret (.bool (curveB a b)) w) := by
  by_cases h : -1000 ≤ a ∧ a ≤ 1000 ∧ -10000 ≤ b ∧ b ≤ 10000
  · obtain ⟨h1, h2, h3, h4⟩ := h
    have i1 := inB_true.2 ⟨h1, h2⟩
    have i2 := inB_true.2 ⟨h3, h4⟩
    go_enter Try.func84, Try.ntmps84
    go_wp2_with (first | (go_at_call 53; refine (l1In_any _ _ _ _).mono ?_; rintro e w' ⟨rfl, rfl⟩) | (go_at_call 104; refine (ecDisc_any _ _ _ h1 h2 h3 h4).mono ?_; rintro e w' ⟨rfl, hb⟩; (try replace hb := aft2 hb (by assumption)); obtain ⟨hc, hf⟩ := aft hb))
    all_goals (go_ret; exact ret_eq (congrArg Value.bool (by rw [Bool.eq_iff_iff, curveB_true]; simp; try omega)) (by repeat (first | exact Below.refl _ _ | (with_reducible assumption) | refine bel_alloc ?_ _ | refine bel_drew ?_ | refine bel_drewN ?_ _ | refine Below.setCell ?_ (by dsimp only; omega) _ | refine bel_trans (by assumption) ?_)))
  · have hf := curveB_false.2 (fun k => h ⟨k.1, k.2.1, k.2.2.1, k.2.2.2.1⟩)
    by_cases h1 : -1000 ≤ a ∧ a ≤ 1000
    · have i1 := inB_true.2 h1
      have i2 := inB_false.2 (fun k => h ⟨h1.1, h1.2, k⟩)
      go_enter Try.func84, Try.ntmps84
      go_wp2_with (go_at_call 53; refine (l1In_any _ _ _ _).mono ?_; rintro e w' ⟨rfl, rfl⟩)
      go_ret; exact ret_eq (congrArg Value.bool hf.symm) (by repeat (first | exact Below.refl _ _ | (with_reducible assumption) | refine bel_alloc ?_ _ | refine bel_drew ?_ | refine bel_drewN ?_ _ | refine Below.setCell ?_ (by dsimp only; omega) _ | refine bel_trans (by assumption) ?_))
    · have i1 := inB_false.2 h1
      go_enter Try.func84, Try.ntmps84
      go_wp2_with (go_at_call 53; refine (l1In_any _ _ _ _).mono ?_; rintro e w' ⟨rfl, rfl⟩)
      go_ret; exact ret_eq (congrArg Value.bool hf.symm) (by repeat (first | exact Below.refl _ _ | (with_reducible assumption) | refine bel_alloc ?_ _ | refine bel_drew ?_ | refine bel_drewN ?_ _ | refine Below.setCell ?_ (by dsimp only; omega) _ | refine bel_trans (by assumption) ?_))
end Go.Proofs.Ytnhlcgbknkdbiaa
