/- Cur: contracts of the functions on curves: discriminants, validity. No conditions. -/
import Derived.Test.YtadijbaphfgeiaaDoorNum
namespace Go.Proofs.YtadijbaphfgeiaaDoor
open Go.RowKit

theorem core_any (a b : Int) (w : World) (h1 : -1000 ≤ a) (h2 : a ≤ 1000) (h3 : -10000 ≤ b) (h4 : b ≤ 10000) :
    Calls Tryd.prog 32 #[.agg #[.int .i64 a, .int .i64 b]] w (Ret (.int .i64 (discI a b)) w) := by
  unfold discI
  have b1 := mul_bd (a := 4 * a) (b := a) (A := 4000) (B := 1000) (by omega) (by omega) (by omega) (by omega)
  have b2 := mul_bd (a := 4 * a * a) (b := a) (A := 4000000) (B := 1000) (by omega) (by omega) (by omega) (by omega)
  have b3 := mul_bd (a := 27 * b) (b := b) (A := 270000) (B := 10000) (by omega) (by omega) (by omega) (by omega)
  go_enter Tryd.func32, Tryd.ntmps32
  go_wp2
  go_ret
  exact ret_mk (by repeat (first | exact Below.refl _ _ | (with_reducible assumption) | refine bel_alloc ?_ _ | refine bel_drew ?_ | refine bel_drewN ?_ _ | refine Below.setCell ?_ (by dsimp only; omega) _ | refine bel_trans (by assumption) ?_))
theorem ecDisc_any (a b : Int) (w : World) (h1 : -1000 ≤ a) (h2 : a ≤ 1000) (h3 : -10000 ≤ b) (h4 : b ≤ 10000) :
    Calls Tryd.prog 27 #[.agg #[.int .i64 a, .int .i64 b]] w (Ret (.int .i64 (discI a b)) w) := by
  unfold discI
  have b1 := mul_bd (a := 4 * a) (b := a) (A := 4000) (B := 1000) (by omega) (by omega) (by omega) (by omega)
  have b2 := mul_bd (a := 4 * a * a) (b := a) (A := 4000000) (B := 1000) (by omega) (by omega) (by omega) (by omega)
  have b3 := mul_bd (a := 27 * b) (b := b) (A := 270000) (B := 10000) (by omega) (by omega) (by omega) (by omega)
  go_enter Tryd.func27, Tryd.ntmps27
  go_wp2
  go_ret
  exact ret_mk (by repeat (first | exact Below.refl _ _ | (with_reducible assumption) | refine bel_alloc ?_ _ | refine bel_drew ?_ | refine bel_drewN ?_ _ | refine Below.setCell ?_ (by dsimp only; omega) _ | refine bel_trans (by assumption) ?_))
theorem isCurve_any (a b : Int) (w : World) :
    Calls Tryd.prog 16 #[.agg #[.int .i64 a, .int .i64 b]] w (Ret (.bool (curveB a b)) w) := by
  by_cases h : -1000 ≤ a ∧ a ≤ 1000 ∧ -10000 ≤ b ∧ b ≤ 10000
  · obtain ⟨h1, h2, h3, h4⟩ := h
    have i1 := inB_true.2 ⟨h1, h2⟩
    have i2 := inB_true.2 ⟨h3, h4⟩
    go_enter Tryd.func16, Tryd.ntmps16
    go_wp2_with (first | (go_at_call 23; refine (inside_any _ _ _ _).mono ?_; rintro e w' ⟨rfl, rfl⟩) | (go_at_call 32; refine (core_any _ _ _ h1 h2 h3 h4).mono ?_; rintro e w' ⟨rfl, hb⟩; (try replace hb := aft2 hb (by assumption)); obtain ⟨hc, hf⟩ := aft hb))
    all_goals (go_ret; exact ret_eq (congrArg Value.bool (by rw [Bool.eq_iff_iff, curveB_true]; simp; try omega)) (by repeat (first | exact Below.refl _ _ | (with_reducible assumption) | refine bel_alloc ?_ _ | refine bel_drew ?_ | refine bel_drewN ?_ _ | refine Below.setCell ?_ (by dsimp only; omega) _ | refine bel_trans (by assumption) ?_)))
  · have hf := curveB_false.2 (fun k => h ⟨k.1, k.2.1, k.2.2.1, k.2.2.2.1⟩)
    by_cases h1 : -1000 ≤ a ∧ a ≤ 1000
    · have i1 := inB_true.2 h1
      have i2 := inB_false.2 (fun k => h ⟨h1.1, h1.2, k⟩)
      go_enter Tryd.func16, Tryd.ntmps16
      go_wp2_with (go_at_call 23; refine (inside_any _ _ _ _).mono ?_; rintro e w' ⟨rfl, rfl⟩)
      go_ret; exact ret_eq (congrArg Value.bool hf.symm) (by repeat (first | exact Below.refl _ _ | (with_reducible assumption) | refine bel_alloc ?_ _ | refine bel_drew ?_ | refine bel_drewN ?_ _ | refine Below.setCell ?_ (by dsimp only; omega) _ | refine bel_trans (by assumption) ?_))
    · have i1 := inB_false.2 h1
      go_enter Tryd.func16, Tryd.ntmps16
      go_wp2_with (go_at_call 23; refine (inside_any _ _ _ _).mono ?_; rintro e w' ⟨rfl, rfl⟩)
      go_ret; exact ret_eq (congrArg Value.bool hf.symm) (by repeat (first | exact Below.refl _ _ | (with_reducible assumption) | refine bel_alloc ?_ _ | refine bel_drew ?_ | refine bel_drewN ?_ _ | refine Below.setCell ?_ (by dsimp only; omega) _ | refine bel_trans (by assumption) ?_))
theorem ecGood_any (a b : Int) (w : World) :
    Calls Tryd.prog 14 #[.agg #[.int .i64 a, .int .i64 b]] w (Ret (.bool (curveB a b)) w) := by
  by_cases h : -1000 ≤ a ∧ a ≤ 1000 ∧ -10000 ≤ b ∧ b ≤ 10000
  · obtain ⟨h1, h2, h3, h4⟩ := h
    have i1 := inB_true.2 ⟨h1, h2⟩
    have i2 := inB_true.2 ⟨h3, h4⟩
    go_enter Tryd.func14, Tryd.ntmps14
    go_wp2_with (first | (go_at_call 26; refine (l1In_any _ _ _ _).mono ?_; rintro e w' ⟨rfl, rfl⟩) | (go_at_call 27; refine (ecDisc_any _ _ _ h1 h2 h3 h4).mono ?_; rintro e w' ⟨rfl, hb⟩; (try replace hb := aft2 hb (by assumption)); obtain ⟨hc, hf⟩ := aft hb))
    all_goals (go_ret; exact ret_eq (congrArg Value.bool (by rw [Bool.eq_iff_iff, curveB_true]; simp; try omega)) (by repeat (first | exact Below.refl _ _ | (with_reducible assumption) | refine bel_alloc ?_ _ | refine bel_drew ?_ | refine bel_drewN ?_ _ | refine Below.setCell ?_ (by dsimp only; omega) _ | refine bel_trans (by assumption) ?_)))
  · have hf := curveB_false.2 (fun k => h ⟨k.1, k.2.1, k.2.2.1, k.2.2.2.1⟩)
    by_cases h1 : -1000 ≤ a ∧ a ≤ 1000
    · have i1 := inB_true.2 h1
      have i2 := inB_false.2 (fun k => h ⟨h1.1, h1.2, k⟩)
      go_enter Tryd.func14, Tryd.ntmps14
      go_wp2_with (go_at_call 26; refine (l1In_any _ _ _ _).mono ?_; rintro e w' ⟨rfl, rfl⟩)
      go_ret; exact ret_eq (congrArg Value.bool hf.symm) (by repeat (first | exact Below.refl _ _ | (with_reducible assumption) | refine bel_alloc ?_ _ | refine bel_drew ?_ | refine bel_drewN ?_ _ | refine Below.setCell ?_ (by dsimp only; omega) _ | refine bel_trans (by assumption) ?_))
    · have i1 := inB_false.2 h1
      go_enter Tryd.func14, Tryd.ntmps14
      go_wp2_with (go_at_call 26; refine (l1In_any _ _ _ _).mono ?_; rintro e w' ⟨rfl, rfl⟩)
      go_ret; exact ret_eq (congrArg Value.bool hf.symm) (by repeat (first | exact Below.refl _ _ | (with_reducible assumption) | refine bel_alloc ?_ _ | refine bel_drew ?_ | refine bel_drewN ?_ _ | refine Below.setCell ?_ (by dsimp only; omega) _ | refine bel_trans (by assumption) ?_))
theorem toCurve_any (a b : Int) (w : World) :
    Calls Tryd.prog 9 #[.agg #[.int .i64 a, .int .i64 b]] w (Ret (.agg #[.int .i64 a, .int .i64 b]) w) := by
  go_enter Tryd.func9, Tryd.ntmps9
  go_wp2
  go_returns
  exact ret_mk (by repeat (first | exact Below.refl _ _ | (with_reducible assumption) | refine bel_alloc ?_ _ | refine bel_drew ?_ | refine bel_drewN ?_ _ | refine Below.setCell ?_ (by dsimp only; omega) _ | refine bel_trans (by assumption) ?_))
theorem eqCurve_same (a b : Int) (w : World) :
    Calls Tryd.prog 7 #[.agg #[.int .i64 a, .int .i64 b], .agg #[.int .i64 a, .int .i64 b]] w (Ret (.bool true) w) := by
  go_enter Tryd.func7, Tryd.ntmps7
  go_wp2
  go_ret
  exact ret_mk (by repeat (first | exact Below.refl _ _ | (with_reducible assumption) | refine bel_alloc ?_ _ | refine bel_drew ?_ | refine bel_drewN ?_ _ | refine Below.setCell ?_ (by dsimp only; omega) _ | refine bel_trans (by assumption) ?_))
theorem eqPoint_same (a b c : Int) (w : World) :
    Calls Tryd.prog 11 #[.agg #[.int .i64 a, .int .i64 b, .int .i64 c], .agg #[.int .i64 a, .int .i64 b, .int .i64 c]] w (Ret (.bool true) w) := by
  go_enter Tryd.func11, Tryd.ntmps11
  go_wp2
  go_ret
  exact ret_mk (by repeat (first | exact Below.refl _ _ | (with_reducible assumption) | refine bel_alloc ?_ _ | refine bel_drew ?_ | refine bel_drewN ?_ _ | refine Below.setCell ?_ (by dsimp only; omega) _ | refine bel_trans (by assumption) ?_))
end Go.Proofs.YtadijbaphfgeiaaDoor
