/- Two: the contracts of the functions on two-curves. No conditions. -/
import Derived.Test.YtcgnnhlopcnbpaaPlain
namespace Go.Proofs.Ytcgnnhlopcnbpaa
open Go.RowKit

theorem inside_any (n lo hi : Int) (w : World) :
    Calls Try.prog 57 #[.int .i64 n, .int .i64 lo, .int .i64 hi] w fun e w' => e = .returned (.bool (inB n lo hi)) ∧ w = w' := by
  unfold inB
  go_enter Try.func57, Try.ntmps57
  go_wp2
  all_goals (go_ret; exact ⟨by simp [*]; try omega, rfl⟩)
theorem l1In_any (n lo hi : Int) (w : World) :
    Calls Try.prog 80 #[.int .i64 n, .int .i64 lo, .int .i64 hi] w fun e w' => e = .returned (.bool (inB n lo hi)) ∧ w = w' := by
  unfold inB
  go_enter Try.func80, Try.ntmps80
  go_wp2
  all_goals (go_ret; exact ⟨by simp [*]; try omega, rfl⟩)

theorem isTwoCurve_any (a b : Int) (w : World) :
    Calls Try.prog 47 #[.agg #[.int .i64 a, .int .i64 b]] w (Ret (.bool (twoB a b)) w) := by
  by_cases h : -300 ≤ a ∧ a ≤ 300 ∧ -300 ≤ b ∧ b ≤ 300
  · obtain ⟨h1, h2, h3, h4⟩ := h
    have p1 := mul_bd h1 h2 h1 h2
    have i1 := inB_true.2 ⟨h1, h2⟩
    have i2 := inB_true.2 ⟨h3, h4⟩
    go_enter Try.func47, Try.ntmps47
    go_wp2_with (go_at_call 57; refine (inside_any _ _ _ _).mono ?_; rintro e w' ⟨rfl, rfl⟩)
    all_goals (go_ret; exact ret_eq (congrArg Value.bool (by rw [Bool.eq_iff_iff, twoB_true]; simp; try omega)) (by go_grown))
  · have hf := twoB_false.2 (fun k => h ⟨k.1, k.2.1, k.2.2.1, k.2.2.2.1⟩)
    by_cases h1 : -300 ≤ a ∧ a ≤ 300
    · have i1 := inB_true.2 h1
      have i2 := inB_false.2 (fun k => h ⟨h1.1, h1.2, k⟩)
      go_enter Try.func47, Try.ntmps47
      go_wp2_with (go_at_call 57; refine (inside_any _ _ _ _).mono ?_; rintro e w' ⟨rfl, rfl⟩)
      go_ret; exact ret_eq (congrArg Value.bool hf.symm) (by go_grown)
    · have i1 := inB_false.2 h1
      go_enter Try.func47, Try.ntmps47
      go_wp2_with (go_at_call 57; refine (inside_any _ _ _ _).mono ?_; rintro e w' ⟨rfl, rfl⟩)
      go_ret; exact ret_eq (congrArg Value.bool hf.symm) (by go_grown)
theorem tcGood_any (a b : Int) (w : World) :
    Calls Try.prog 46 #[.agg #[.int .i64 a, .int .i64 b]] w (Ret (.bool (twoB a b)) w) := by
  by_cases h : -300 ≤ a ∧ a ≤ 300 ∧ -300 ≤ b ∧ b ≤ 300
  · obtain ⟨h1, h2, h3, h4⟩ := h
    have p1 := mul_bd h1 h2 h1 h2
    have i1 := inB_true.2 ⟨h1, h2⟩
    have i2 := inB_true.2 ⟨h3, h4⟩
    go_enter Try.func46, Try.ntmps46
    go_wp2_with (go_at_call 80; refine (l1In_any _ _ _ _).mono ?_; rintro e w' ⟨rfl, rfl⟩)
    all_goals (go_ret; exact ret_eq (congrArg Value.bool (by rw [Bool.eq_iff_iff, twoB_true]; simp; try omega)) (by go_grown))
  · have hf := twoB_false.2 (fun k => h ⟨k.1, k.2.1, k.2.2.1, k.2.2.2.1⟩)
    by_cases h1 : -300 ≤ a ∧ a ≤ 300
    · have i1 := inB_true.2 h1
      have i2 := inB_false.2 (fun k => h ⟨h1.1, h1.2, k⟩)
      go_enter Try.func46, Try.ntmps46
      go_wp2_with (go_at_call 80; refine (l1In_any _ _ _ _).mono ?_; rintro e w' ⟨rfl, rfl⟩)
      go_ret; exact ret_eq (congrArg Value.bool hf.symm) (by go_grown)
    · have i1 := inB_false.2 h1
      go_enter Try.func46, Try.ntmps46
      go_wp2_with (go_at_call 80; refine (l1In_any _ _ _ _).mono ?_; rintro e w' ⟨rfl, rfl⟩)
      go_ret; exact ret_eq (congrArg Value.bool hf.symm) (by go_grown)

theorem toTwoCurve_any (a b : Int) (w : World) :
    Calls Try.prog 16 #[.agg #[.int .i64 a, .int .i64 b]] w (Ret (.agg #[.int .i64 a, .int .i64 b]) w) := by
  go_enter Try.func16, Try.ntmps16
  go_wp2
  go_returns
  exact ret_mk (by go_grown)
theorem iIsTwoCurve_any (a b : Int) (w : World) :
    Calls Try.prog 17 #[.agg #[.int .i64 a, .int .i64 b]] w (Ret (.bool (twoB a b)) w) := by
  go_enter Try.func17, Try.ntmps17
  go_wp2_with (go_at_call 47; refine (isTwoCurve_any _ _ _).mono ?_; rintro e w' ⟨rfl, hb⟩)
  go_ret
  exact ret_mk (by repeat (first | exact Below.refl _ _ | refine bel_alloc ?_ _ | refine bel_trans (by assumption) ?_))
theorem sIsTwoCurve_any (a b : Int) (w : World) :
    Calls Try.prog 15 #[.agg #[.int .i64 a, .int .i64 b]] w (Ret (.bool (twoB a b)) w) := by
  go_enter Try.func15, Try.ntmps15
  go_wp2_with (go_at_call 46; refine (tcGood_any _ _ _).mono ?_; rintro e w' ⟨rfl, hb⟩)
  go_ret
  exact ret_mk (by repeat (first | exact Below.refl _ _ | refine bel_alloc ?_ _ | refine bel_trans (by assumption) ?_))
end Go.Proofs.Ytcgnnhlopcnbpaa
