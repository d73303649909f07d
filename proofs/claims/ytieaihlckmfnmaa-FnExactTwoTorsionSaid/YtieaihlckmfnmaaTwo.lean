/- Two: the contracts of the functions on two-curves. No conditions. -/
import Derived.Test.YtieaihlckmfnmaaCur
namespace Go.Proofs.Ytieaihlckmfnmaa
open Go.RowKit

/-- the coefficients of the dual. -/
theorem dual_bd {a b : Int} (h : twoB a b = true) : -600 ≤ -2 * a ∧ -2 * a ≤ 600 ∧ -91200 ≤ a * a - 4 * b ∧ a * a - 4 * b ≤ 91200 := by
  obtain ⟨h1, h2, h3, h4, _, _⟩ := twoB_true.1 h
  have p := mul_bd h1 h2 h1 h2
  omega
theorem isTwoCurve_any (a b : Int) (w : World) :
    Calls Try.prog 84 #[.agg #[.int .i64 a, .int .i64 b]] w (Ret (.bool (twoB a b)) w) := by
  by_cases h : -300 ≤ a ∧ a ≤ 300 ∧ -300 ≤ b ∧ b ≤ 300
  · obtain ⟨h1, h2, h3, h4⟩ := h
    have p1 := mul_bd h1 h2 h1 h2
    have i1 := inB_true.2 ⟨h1, h2⟩
    have i2 := inB_true.2 ⟨h3, h4⟩
    go_enter Try.func84, Try.ntmps84
    go_wp2_with (go_at_call 74; refine (inside_any _ _ _ _).mono ?_; rintro e w' ⟨rfl, rfl⟩)
    all_goals (go_ret; exact ret_eq (congrArg Value.bool (by rw [Bool.eq_iff_iff, twoB_true]; simp; try omega)) (by repeat (first | exact Below.refl _ _ | (with_reducible assumption) | refine bel_alloc ?_ _ | refine bel_drew ?_ | refine bel_drewN ?_ _ | refine Below.setCell ?_ (by dsimp only; omega) _ | refine bel_trans (by assumption) ?_)))
  · have hf := twoB_false.2 (fun k => h ⟨k.1, k.2.1, k.2.2.1, k.2.2.2.1⟩)
    by_cases h1 : -300 ≤ a ∧ a ≤ 300
    · have i1 := inB_true.2 h1
      have i2 := inB_false.2 (fun k => h ⟨h1.1, h1.2, k⟩)
      go_enter Try.func84, Try.ntmps84
      go_wp2_with (go_at_call 74; refine (inside_any _ _ _ _).mono ?_; rintro e w' ⟨rfl, rfl⟩)
      go_ret; exact ret_eq (congrArg Value.bool hf.symm) (by repeat (first | exact Below.refl _ _ | (with_reducible assumption) | refine bel_alloc ?_ _ | refine bel_drew ?_ | refine bel_drewN ?_ _ | refine Below.setCell ?_ (by dsimp only; omega) _ | refine bel_trans (by assumption) ?_))
    · have i1 := inB_false.2 h1
      go_enter Try.func84, Try.ntmps84
      go_wp2_with (go_at_call 74; refine (inside_any _ _ _ _).mono ?_; rintro e w' ⟨rfl, rfl⟩)
      go_ret; exact ret_eq (congrArg Value.bool hf.symm) (by repeat (first | exact Below.refl _ _ | (with_reducible assumption) | refine bel_alloc ?_ _ | refine bel_drew ?_ | refine bel_drewN ?_ _ | refine Below.setCell ?_ (by dsimp only; omega) _ | refine bel_trans (by assumption) ?_))
theorem tcGood_any (a b : Int) (w : World) :
    Calls Try.prog 82 #[.agg #[.int .i64 a, .int .i64 b]] w (Ret (.bool (twoB a b)) w) := by
  by_cases h : -300 ≤ a ∧ a ≤ 300 ∧ -300 ≤ b ∧ b ≤ 300
  · obtain ⟨h1, h2, h3, h4⟩ := h
    have p1 := mul_bd h1 h2 h1 h2
    have i1 := inB_true.2 ⟨h1, h2⟩
    have i2 := inB_true.2 ⟨h3, h4⟩
    go_enter Try.func82, Try.ntmps82
    go_wp2_with (go_at_call 72; refine (l1In_any _ _ _ _).mono ?_; rintro e w' ⟨rfl, rfl⟩)
    all_goals (go_ret; exact ret_eq (congrArg Value.bool (by rw [Bool.eq_iff_iff, twoB_true]; simp; try omega)) (by repeat (first | exact Below.refl _ _ | (with_reducible assumption) | refine bel_alloc ?_ _ | refine bel_drew ?_ | refine bel_drewN ?_ _ | refine Below.setCell ?_ (by dsimp only; omega) _ | refine bel_trans (by assumption) ?_)))
  · have hf := twoB_false.2 (fun k => h ⟨k.1, k.2.1, k.2.2.1, k.2.2.2.1⟩)
    by_cases h1 : -300 ≤ a ∧ a ≤ 300
    · have i1 := inB_true.2 h1
      have i2 := inB_false.2 (fun k => h ⟨h1.1, h1.2, k⟩)
      go_enter Try.func82, Try.ntmps82
      go_wp2_with (go_at_call 72; refine (l1In_any _ _ _ _).mono ?_; rintro e w' ⟨rfl, rfl⟩)
      go_ret; exact ret_eq (congrArg Value.bool hf.symm) (by repeat (first | exact Below.refl _ _ | (with_reducible assumption) | refine bel_alloc ?_ _ | refine bel_drew ?_ | refine bel_drewN ?_ _ | refine Below.setCell ?_ (by dsimp only; omega) _ | refine bel_trans (by assumption) ?_))
    · have i1 := inB_false.2 h1
      go_enter Try.func82, Try.ntmps82
      go_wp2_with (go_at_call 72; refine (l1In_any _ _ _ _).mono ?_; rintro e w' ⟨rfl, rfl⟩)
      go_ret; exact ret_eq (congrArg Value.bool hf.symm) (by repeat (first | exact Below.refl _ _ | (with_reducible assumption) | refine bel_alloc ?_ _ | refine bel_drew ?_ | refine bel_drewN ?_ _ | refine Below.setCell ?_ (by dsimp only; omega) _ | refine bel_trans (by assumption) ?_))

/-- an integer divides B. -/
def divB (b d : Int) : Bool := decide (d ≠ 0 ∧ b.tmod d = 0)
theorem divB_true {b d : Int} : divB b d = true ↔ (d ≠ 0 ∧ b.tmod d = 0) := by simp [divB]
theorem divB_false {b d : Int} : divB b d = false ↔ ¬ (d ≠ 0 ∧ b.tmod d = 0) := by simp only [divB, decide_eq_false_iff_not]
theorem divB_small {b d : Int} (h : divB b d = true) (hb : b ≠ 0) : -(b.natAbs : Int) ≤ d ∧ d ≤ (b.natAbs : Int) := by
  have hd := Int.dvd_of_tmod_eq_zero (divB_true.1 h).2
  have := Nat.le_of_dvd (by omega) (Int.natAbs_dvd_natAbs.2 hd)
  omega
end Go.Proofs.Ytieaihlckmfnmaa
