/- Two: the contracts of the functions on two-curves. No conditions. -/
import Derived.Test.YtcgnnhlopcnbpaaCur
namespace Go.Proofs.Ytcgnnhlopcnbpaa
open Go.RowKit

/-- the coefficients of the dual. -/
theorem dual_bd {a b : Int} (h : twoB a b = true) : -600 ≤ -2 * a ∧ -2 * a ≤ 600 ∧ -91200 ≤ a * a - 4 * b ∧ a * a - 4 * b ≤ 91200 := by
  obtain ⟨h1, h2, h3, h4, _, _⟩ := twoB_true.1 h
  have p := mul_bd h1 h2 h1 h2
  omega
theorem isTwoCurve_any (a b : Int) (w : World) :
    Calls Try.prog 47 #[.agg #[.int .i64 a, .int .i64 b]] w (Ret (.bool (twoB a b)) w) := by
  by_cases h : -300 ≤ a ∧ a ≤ 300 ∧ -300 ≤ b ∧ b ≤ 300
  · obtain ⟨h1, h2, h3, h4⟩ := h
    have p1 := mul_bd h1 h2 h1 h2
    have i1 := inB_true.2 ⟨h1, h2⟩
    have i2 := inB_true.2 ⟨h3, h4⟩
    go_enter Try.func47, Try.ntmps47
    go_wp2_with (go_at_call 57; refine (inside_any _ _ _ _).mono ?_; rintro e w' ⟨rfl, rfl⟩)
    all_goals (go_ret; exact ret_eq (congrArg Value.bool (by rw [Bool.eq_iff_iff, twoB_true]; simp; try omega)) (by repeat (first | exact Below.refl _ _ | (with_reducible assumption) | refine bel_alloc ?_ _ | refine bel_drew ?_ | refine bel_drewN ?_ _ | refine Below.setCell ?_ (by dsimp only; omega) _ | refine bel_trans (by assumption) ?_)))
  · have hf := twoB_false.2 (fun k => h ⟨k.1, k.2.1, k.2.2.1, k.2.2.2.1⟩)
    by_cases h1 : -300 ≤ a ∧ a ≤ 300
    · have i1 := inB_true.2 h1
      have i2 := inB_false.2 (fun k => h ⟨h1.1, h1.2, k⟩)
      go_enter Try.func47, Try.ntmps47
      go_wp2_with (go_at_call 57; refine (inside_any _ _ _ _).mono ?_; rintro e w' ⟨rfl, rfl⟩)
      go_ret; exact ret_eq (congrArg Value.bool hf.symm) (by repeat (first | exact Below.refl _ _ | (with_reducible assumption) | refine bel_alloc ?_ _ | refine bel_drew ?_ | refine bel_drewN ?_ _ | refine Below.setCell ?_ (by dsimp only; omega) _ | refine bel_trans (by assumption) ?_))
    · have i1 := inB_false.2 h1
      go_enter Try.func47, Try.ntmps47
      go_wp2_with (go_at_call 57; refine (inside_any _ _ _ _).mono ?_; rintro e w' ⟨rfl, rfl⟩)
      go_ret; exact ret_eq (congrArg Value.bool hf.symm) (by repeat (first | exact Below.refl _ _ | (with_reducible assumption) | refine bel_alloc ?_ _ | refine bel_drew ?_ | refine bel_drewN ?_ _ | refine Below.setCell ?_ (by dsimp only; omega) _ | refine bel_trans (by assumption) ?_))
theorem tcGood_any (a b : Int) (w : World) :
    Calls Try.prog 46 #[.agg #[.int .i64 a, .int .i64 b]] w (Ret (.bool (twoB a b)) w) := by
  by_cases h : -300 ≤ a ∧ a ≤ 300 ∧ -300 ≤ b ∧ b ≤ 300
  · obtain ⟨h1, h2, h3, h4⟩ := h
    have p1 := mul_bd h1 h2 h1 h2
    have i1 := inB_true.2 ⟨h1, h2⟩
    have i2 := inB_true.2 ⟨h3, h4⟩
    go_enter Try.func46, Try.ntmps46
    go_wp2_with (go_at_call 80; refine (l1In_any _ _ _ _).mono ?_; rintro e w' ⟨rfl, rfl⟩)
    all_goals (go_ret; exact ret_eq (congrArg Value.bool (by rw [Bool.eq_iff_iff, twoB_true]; simp; try omega)) (by repeat (first | exact Below.refl _ _ | (with_reducible assumption) | refine bel_alloc ?_ _ | refine bel_drew ?_ | refine bel_drewN ?_ _ | refine Below.setCell ?_ (by dsimp only; omega) _ | refine bel_trans (by assumption) ?_)))
  · have hf := twoB_false.2 (fun k => h ⟨k.1, k.2.1, k.2.2.1, k.2.2.2.1⟩)
    by_cases h1 : -300 ≤ a ∧ a ≤ 300
    · have i1 := inB_true.2 h1
      have i2 := inB_false.2 (fun k => h ⟨h1.1, h1.2, k⟩)
      go_enter Try.func46, Try.ntmps46
      go_wp2_with (go_at_call 80; refine (l1In_any _ _ _ _).mono ?_; rintro e w' ⟨rfl, rfl⟩)
      go_ret; exact ret_eq (congrArg Value.bool hf.symm) (by repeat (first | exact Below.refl _ _ | (with_reducible assumption) | refine bel_alloc ?_ _ | refine bel_drew ?_ | refine bel_drewN ?_ _ | refine Below.setCell ?_ (by dsimp only; omega) _ | refine bel_trans (by assumption) ?_))
    · have i1 := inB_false.2 h1
      go_enter Try.func46, Try.ntmps46
      go_wp2_with (go_at_call 80; refine (l1In_any _ _ _ _).mono ?_; rintro e w' ⟨rfl, rfl⟩)
      go_ret; exact ret_eq (congrArg Value.bool hf.symm) (by repeat (first | exact Below.refl _ _ | (with_reducible assumption) | refine bel_alloc ?_ _ | refine bel_drew ?_ | refine bel_drewN ?_ _ | refine Below.setCell ?_ (by dsimp only; omega) _ | refine bel_trans (by assumption) ?_))
theorem iIsTwoCurve_any (a b : Int) (w : World) :
    Calls Try.prog 17 #[.agg #[.int .i64 a, .int .i64 b]] w (Ret (.bool (twoB a b)) w) := by
  go_enter Try.func17, Try.ntmps17
  go_wp2_with (go_at_call 47; refine (isTwoCurve_any _ _ _).mono ?_; rintro e w' ⟨rfl, hb⟩; (try replace hb := aft2 hb (by assumption)); obtain ⟨hc, hf⟩ := aft hb)
  go_ret
  exact ret_mk (by repeat (first | exact Below.refl _ _ | (with_reducible assumption) | refine bel_alloc ?_ _ | refine bel_drew ?_ | refine bel_drewN ?_ _ | refine Below.setCell ?_ (by dsimp only; omega) _ | refine bel_trans (by assumption) ?_))
theorem sIsTwoCurve_any (a b : Int) (w : World) :
    Calls Try.prog 15 #[.agg #[.int .i64 a, .int .i64 b]] w (Ret (.bool (twoB a b)) w) := by
  go_enter Try.func15, Try.ntmps15
  go_wp2_with (go_at_call 46; refine (tcGood_any _ _ _).mono ?_; rintro e w' ⟨rfl, hb⟩; (try replace hb := aft2 hb (by assumption)); obtain ⟨hc, hf⟩ := aft hb)
  go_ret
  exact ret_mk (by repeat (first | exact Below.refl _ _ | (with_reducible assumption) | refine bel_alloc ?_ _ | refine bel_drew ?_ | refine bel_drewN ?_ _ | refine Below.setCell ?_ (by dsimp only; omega) _ | refine bel_trans (by assumption) ?_))
theorem tcDual_any (a b : Int) (w : World) (h : twoB a b = true) :
    Calls Try.prog 48 #[.agg #[.int .i64 a, .int .i64 b]] w (Ret (.tuple #[.int .i64 (-2 * a), .int .i64 (a * a - 4 * b)]) w) := by
  obtain ⟨h1, h2, h3, h4, _, _⟩ := twoB_true.1 h
  have p1 := mul_bd h1 h2 h1 h2
  clear h
  go_enter Try.func48, Try.ntmps48
  go_wp2
  go_quiet (fail)
  go_wp2
  go_returns
  exact ret_mk (by repeat (first | exact Below.refl _ _ | (with_reducible assumption) | refine bel_alloc ?_ _ | refine bel_drew ?_ | refine bel_drewN ?_ _ | refine Below.setCell ?_ (by dsimp only; omega) _ | refine bel_trans (by assumption) ?_))
theorem side_any (a b : Int) (d : Bool) (w : World) (h : twoB a b = true) :
    Calls Try.prog 49 #[.agg #[.int .i64 a, .int .i64 b], .bool d] w (Ret (.tuple #[.int .i64 (bif d then -2 * a else a), .int .i64 (bif d then a * a - 4 * b else b)]) w) := by
  obtain ⟨h1, h2, h3, h4, _, _⟩ := twoB_true.1 h
  have p1 := mul_bd h1 h2 h1 h2
  clear h
  cases d
  · go_enter Try.func49, Try.ntmps49
    go_wp2
    go_quiet (fail)
    go_wp2
    go_returns
    exact ret_mk (by repeat (first | exact Below.refl _ _ | (with_reducible assumption) | refine bel_alloc ?_ _ | refine bel_drew ?_ | refine bel_drewN ?_ _ | refine Below.setCell ?_ (by dsimp only; omega) _ | refine bel_trans (by assumption) ?_))
  · go_enter Try.func49, Try.ntmps49
    go_wp2
    go_quiet (fail)
    go_wp2
    go_returns
    exact ret_mk (by repeat (first | exact Below.refl _ _ | (with_reducible assumption) | refine bel_alloc ?_ _ | refine bel_drew ?_ | refine bel_drewN ?_ _ | refine Below.setCell ?_ (by dsimp only; omega) _ | refine bel_trans (by assumption) ?_))
theorem dsSide_any (a b : Int) (d : Bool) (w : World) (h : twoB a b = true) :
    Calls Try.prog 50 #[.agg #[.int .i64 a, .int .i64 b], .bool d] w (Ret (.tuple #[.int .i64 (bif d then -2 * a else a), .int .i64 (bif d then a * a - 4 * b else b)]) w) := by
  cases d
  · go_enter Try.func50, Try.ntmps50
    go_wp2
    go_quiet (fail)
    go_wp2
    go_returns
    exact ret_mk (by repeat (first | exact Below.refl _ _ | (with_reducible assumption) | refine bel_alloc ?_ _ | refine bel_drew ?_ | refine bel_drewN ?_ _ | refine Below.setCell ?_ (by dsimp only; omega) _ | refine bel_trans (by assumption) ?_))
  · go_enter Try.func50, Try.ntmps50
    go_wp2_with (go_at_call 48; refine (tcDual_any _ _ _ h).mono ?_; rintro e w' ⟨rfl, hb⟩; (try replace hb := aft2 hb (by assumption)); obtain ⟨hc, hf⟩ := aft hb)
    go_returns
    exact ret_mk (by repeat (first | exact Below.refl _ _ | (with_reducible assumption) | refine bel_alloc ?_ _ | refine bel_drew ?_ | refine bel_drewN ?_ _ | refine Below.setCell ?_ (by dsimp only; omega) _ | refine bel_trans (by assumption) ?_))
theorem iDualOf_any (a b : Int) (w : World) :
    Calls Try.prog 19 #[.agg #[.int .i64 a, .int .i64 b]] w (Ret (bif twoB a b then .tuple #[.int .i64 (-2 * a), .int .i64 (a * a - 4 * b), .bool true] else .tuple #[.int .i64 0, .int .i64 0, .bool false]) w) := by
  cases h : twoB a b
  · go_enter Try.func19, Try.ntmps19
    go_wp2_with (go_at_call 47; refine (isTwoCurve_any _ _ _).mono ?_; rintro e w' ⟨rfl, hb⟩; (try replace hb := aft2 hb (by assumption)); obtain ⟨hc, hf⟩ := aft hb)
    go_returns
    exact ret_mk (by repeat (first | exact Below.refl _ _ | (with_reducible assumption) | refine bel_alloc ?_ _ | refine bel_drew ?_ | refine bel_drewN ?_ _ | refine Below.setCell ?_ (by dsimp only; omega) _ | refine bel_trans (by assumption) ?_))
  · go_enter Try.func19, Try.ntmps19
    go_wp2_with (first | (go_at_call 47; refine (isTwoCurve_any _ _ _).mono ?_; rintro e w' ⟨rfl, hb⟩; (try replace hb := aft2 hb (by assumption)); obtain ⟨hc, hf⟩ := aft hb) | (go_at_call 49; refine (side_any _ _ _ _ h).mono ?_; rintro e w' ⟨rfl, hb⟩; (try replace hb := aft2 hb (by assumption)); obtain ⟨hc, hf⟩ := aft hb))
    go_returns
    exact ret_mk (by repeat (first | exact Below.refl _ _ | (with_reducible assumption) | refine bel_alloc ?_ _ | refine bel_drew ?_ | refine bel_drewN ?_ _ | refine Below.setCell ?_ (by dsimp only; omega) _ | refine bel_trans (by assumption) ?_))
theorem sDualOf_any (a b : Int) (w : World) :
    Calls Try.prog 18 #[.agg #[.int .i64 a, .int .i64 b]] w (Ret (bif twoB a b then .tuple #[.int .i64 (-2 * a), .int .i64 (a * a - 4 * b), .bool true] else .tuple #[.int .i64 0, .int .i64 0, .bool false]) w) := by
  cases h : twoB a b
  · go_enter Try.func18, Try.ntmps18
    go_wp2_with (go_at_call 46; refine (tcGood_any _ _ _).mono ?_; rintro e w' ⟨rfl, hb⟩; (try replace hb := aft2 hb (by assumption)); obtain ⟨hc, hf⟩ := aft hb)
    go_returns
    exact ret_mk (by repeat (first | exact Below.refl _ _ | (with_reducible assumption) | refine bel_alloc ?_ _ | refine bel_drew ?_ | refine bel_drewN ?_ _ | refine Below.setCell ?_ (by dsimp only; omega) _ | refine bel_trans (by assumption) ?_))
  · go_enter Try.func18, Try.ntmps18
    go_wp2_with (first | (go_at_call 46; refine (tcGood_any _ _ _).mono ?_; rintro e w' ⟨rfl, hb⟩; (try replace hb := aft2 hb (by assumption)); obtain ⟨hc, hf⟩ := aft hb) | (go_at_call 48; refine (tcDual_any _ _ _ h).mono ?_; rintro e w' ⟨rfl, hb⟩; (try replace hb := aft2 hb (by assumption)); obtain ⟨hc, hf⟩ := aft hb))
    go_returns
    exact ret_mk (by repeat (first | exact Below.refl _ _ | (with_reducible assumption) | refine bel_alloc ?_ _ | refine bel_drew ?_ | refine bel_drewN ?_ _ | refine Below.setCell ?_ (by dsimp only; omega) _ | refine bel_trans (by assumption) ?_))
theorem iDescentCoefficients_any (a b : Int) (d : Bool) (w : World) :
    Calls Try.prog 21 #[.agg #[.int .i64 a, .int .i64 b], .bool d] w (Ret (bif twoB a b then .tuple #[.int .i64 (bif d then -2 * a else a), .int .i64 (bif d then a * a - 4 * b else b), .bool true] else .tuple #[.int .i64 0, .int .i64 0, .bool false]) w) := by
  cases h : twoB a b
  · go_enter Try.func21, Try.ntmps21
    go_wp2_with (go_at_call 47; refine (isTwoCurve_any _ _ _).mono ?_; rintro e w' ⟨rfl, hb⟩; (try replace hb := aft2 hb (by assumption)); obtain ⟨hc, hf⟩ := aft hb)
    go_returns
    exact ret_mk (by repeat (first | exact Below.refl _ _ | (with_reducible assumption) | refine bel_alloc ?_ _ | refine bel_drew ?_ | refine bel_drewN ?_ _ | refine Below.setCell ?_ (by dsimp only; omega) _ | refine bel_trans (by assumption) ?_))
  · go_enter Try.func21, Try.ntmps21
    go_wp2_with (first | (go_at_call 47; refine (isTwoCurve_any _ _ _).mono ?_; rintro e w' ⟨rfl, hb⟩; (try replace hb := aft2 hb (by assumption)); obtain ⟨hc, hf⟩ := aft hb) | (go_at_call 49; refine (side_any _ _ _ _ h).mono ?_; rintro e w' ⟨rfl, hb⟩; (try replace hb := aft2 hb (by assumption)); obtain ⟨hc, hf⟩ := aft hb))
    go_returns
    exact ret_mk (by repeat (first | exact Below.refl _ _ | (with_reducible assumption) | refine bel_alloc ?_ _ | refine bel_drew ?_ | refine bel_drewN ?_ _ | refine Below.setCell ?_ (by dsimp only; omega) _ | refine bel_trans (by assumption) ?_))
theorem sDescentCoefficients_any (a b : Int) (d : Bool) (w : World) :
    Calls Try.prog 20 #[.agg #[.int .i64 a, .int .i64 b], .bool d] w (Ret (bif twoB a b then .tuple #[.int .i64 (bif d then -2 * a else a), .int .i64 (bif d then a * a - 4 * b else b), .bool true] else .tuple #[.int .i64 0, .int .i64 0, .bool false]) w) := by
  cases h : twoB a b
  · go_enter Try.func20, Try.ntmps20
    go_wp2_with (go_at_call 46; refine (tcGood_any _ _ _).mono ?_; rintro e w' ⟨rfl, hb⟩; (try replace hb := aft2 hb (by assumption)); obtain ⟨hc, hf⟩ := aft hb)
    go_returns
    exact ret_mk (by repeat (first | exact Below.refl _ _ | (with_reducible assumption) | refine bel_alloc ?_ _ | refine bel_drew ?_ | refine bel_drewN ?_ _ | refine Below.setCell ?_ (by dsimp only; omega) _ | refine bel_trans (by assumption) ?_))
  · go_enter Try.func20, Try.ntmps20
    go_wp2_with (first | (go_at_call 46; refine (tcGood_any _ _ _).mono ?_; rintro e w' ⟨rfl, hb⟩; (try replace hb := aft2 hb (by assumption)); obtain ⟨hc, hf⟩ := aft hb) | (go_at_call 50; refine (dsSide_any _ _ _ _ h).mono ?_; rintro e w' ⟨rfl, hb⟩; (try replace hb := aft2 hb (by assumption)); obtain ⟨hc, hf⟩ := aft hb))
    go_returns
    exact ret_mk (by repeat (first | exact Below.refl _ _ | (with_reducible assumption) | refine bel_alloc ?_ _ | refine bel_drew ?_ | refine bel_drewN ?_ _ | refine Below.setCell ?_ (by dsimp only; omega) _ | refine bel_trans (by assumption) ?_))

/-- an integer divides B. -/
def divB (b d : Int) : Bool := decide (d ≠ 0 ∧ b.tmod d = 0)
theorem divB_true {b d : Int} : divB b d = true ↔ (d ≠ 0 ∧ b.tmod d = 0) := by simp [divB]
theorem divB_false {b d : Int} : divB b d = false ↔ ¬ (d ≠ 0 ∧ b.tmod d = 0) := by simp only [divB, decide_eq_false_iff_not]
theorem divB_small {b d : Int} (h : divB b d = true) (hb : b ≠ 0) : -(b.natAbs : Int) ≤ d ∧ d ≤ (b.natAbs : Int) := by
  have hd := Int.dvd_of_tmod_eq_zero (divB_true.1 h).2
  have := Nat.le_of_dvd (by omega) (Int.natAbs_dvd_natAbs.2 hd)
  omega
theorem tcDivides_any (a b d : Int) (w : World) (h3 : -300 ≤ b) (h4 : b ≤ 300) (h0 : b ≠ 0) :
    Calls Try.prog 51 #[.agg #[.int .i64 a, .int .i64 b], .int .i64 d] w (Ret (.bool (divB b d)) w) := by
  by_cases hd : -300 ≤ d ∧ d ≤ 300
  · have i1 := inB_true.2 hd
    by_cases hz : d = 0
    · subst hz
      have hf : divB b 0 = false := by simp [divB]
      go_enter Try.func51, Try.ntmps51
      go_wp2_with (go_at_call 80; refine (l1In_any _ _ _ _).mono ?_; rintro e w' ⟨rfl, rfl⟩)
      go_ret
      exact ret_eq (congrArg Value.bool (by rw [hf])) (by repeat (first | exact Below.refl _ _ | (with_reducible assumption) | refine bel_alloc ?_ _ | refine bel_drew ?_ | refine bel_drewN ?_ _ | refine Below.setCell ?_ (by dsimp only; omega) _ | refine bel_trans (by assumption) ?_))
    · have hz' : (d == 0) = false := by simp [hz]
      have hz2 : (d != 0) = true := by simp [hz]
      go_enter Try.func51, Try.ntmps51
      go_wp2_with (go_at_call 80; refine (l1In_any _ _ _ _).mono ?_; rintro e w' ⟨rfl, rfl⟩)
      go_ret
      exact ret_eq (congrArg Value.bool (by rw [Bool.eq_iff_iff, divB_true]; simp [hz])) (by repeat (first | exact Below.refl _ _ | (with_reducible assumption) | refine bel_alloc ?_ _ | refine bel_drew ?_ | refine bel_drewN ?_ _ | refine Below.setCell ?_ (by dsimp only; omega) _ | refine bel_trans (by assumption) ?_))
  · have i1 := inB_false.2 hd
    have hf : divB b d = false := by
      cases h : divB b d
      · rfl
      · have := divB_small h h0; omega
    go_enter Try.func51, Try.ntmps51
    go_wp2_with (go_at_call 80; refine (l1In_any _ _ _ _).mono ?_; rintro e w' ⟨rfl, rfl⟩)
    go_ret
    exact ret_eq (congrArg Value.bool hf.symm) (by repeat (first | exact Below.refl _ _ | (with_reducible assumption) | refine bel_alloc ?_ _ | refine bel_drew ?_ | refine bel_drewN ?_ _ | refine Below.setCell ?_ (by dsimp only; omega) _ | refine bel_trans (by assumption) ?_))
theorem tcQuartic_any (a b d : Int) (w : World) (h0 : d ≠ 0) :
    Calls Try.prog 52 #[.agg #[.int .i64 a, .int .i64 b], .int .i64 d] w (Ret (.agg #[.int .i64 d, .int .i64 a, .int .i64 (wrap64 (b.tdiv d))]) w) := by
  have hz' : (d == 0) = false := by simp [h0]
  have hz2 : (d != 0) = true := by simp [h0]
  go_enter Try.func52, Try.ntmps52
  go_wp2
  refine wp_region_tail 8 (by kernel_rfl) (by kernel_rfl) ?_
  simp only [List.take_succ_cons, List.take_zero, List.drop_succ_cons, List.drop_zero]
  repeat (go_big_quiet_step (fail))
  refine wpQuiet_nil ?_
  go_wp2_with fail
  refine bodyPost_ret (by simp (maxDischargeDepth := 3) [results, Try.results52, go_sem, *]; try rfl) rfl ?_
  exact ret_mk (by repeat (first | exact Below.refl _ _ | (with_reducible assumption) | refine bel_alloc ?_ _ | refine bel_drew ?_ | refine bel_drewN ?_ _ | refine Below.setCell ?_ (by dsimp only; omega) _ | refine bel_trans (by assumption) ?_))
theorem sQuarticOf_any (a b d : Int) (w : World) :
    Calls Try.prog 22 #[.agg #[.int .i64 a, .int .i64 b], .int .i64 d] w (Ret (bif twoB a b && divB b d then .tuple #[.agg #[.int .i64 d, .int .i64 a, .int .i64 (wrap64 (b.tdiv d))], .bool true] else .tuple #[.agg #[.int .i64 0, .int .i64 0, .int .i64 0], .bool false]) w) := by
  cases h : twoB a b
  · go_enter Try.func22, Try.ntmps22
    go_wp2_with (go_at_call 46; refine (tcGood_any _ _ _).mono ?_; rintro e w' ⟨rfl, hb⟩; (try replace hb := aft2 hb (by assumption)); obtain ⟨hc, hf⟩ := aft hb)
    refine bodyPost_ret (by simp (maxDischargeDepth := 3) [results, Try.results22, go_sem, *]; try rfl) rfl ?_
    exact ret_mk (by repeat (first | exact Below.refl _ _ | (with_reducible assumption) | refine bel_alloc ?_ _ | refine bel_drew ?_ | refine bel_drewN ?_ _ | refine Below.setCell ?_ (by dsimp only; omega) _ | refine bel_trans (by assumption) ?_))
  · obtain ⟨h1, h2, h3, h4, h5, _⟩ := twoB_true.1 h
    cases hq : divB b d
    · go_enter Try.func22, Try.ntmps22
      go_wp2_with (first | (go_at_call 46; refine (tcGood_any _ _ _).mono ?_; rintro e w' ⟨rfl, hb⟩; (try replace hb := aft2 hb (by assumption)); obtain ⟨hc, hf⟩ := aft hb) | (go_at_call 51; refine (tcDivides_any _ _ _ _ h3 h4 h5).mono ?_; rintro e w' ⟨rfl, hb⟩; (try replace hb := aft2 hb (by assumption)); obtain ⟨hc, hf⟩ := aft hb))
      refine bodyPost_ret (by simp (maxDischargeDepth := 3) [results, Try.results22, go_sem, *]; try rfl) rfl ?_
      exact ret_mk (by repeat (first | exact Below.refl _ _ | (with_reducible assumption) | refine bel_alloc ?_ _ | refine bel_drew ?_ | refine bel_drewN ?_ _ | refine Below.setCell ?_ (by dsimp only; omega) _ | refine bel_trans (by assumption) ?_))
    · have h0 := (divB_true.1 hq).1
      go_enter Try.func22, Try.ntmps22
      go_wp2_with (first | (go_at_call 46; refine (tcGood_any _ _ _).mono ?_; rintro e w' ⟨rfl, hb⟩; (try replace hb := aft2 hb (by assumption)); obtain ⟨hc, hf⟩ := aft hb) | (go_at_call 51; refine (tcDivides_any _ _ _ _ h3 h4 h5).mono ?_; rintro e w' ⟨rfl, hb⟩; (try replace hb := aft2 hb (by assumption)); obtain ⟨hc, hf⟩ := aft hb) | (go_at_call 52; refine (tcQuartic_any _ _ _ _ h0).mono ?_; rintro e w' ⟨rfl, hb⟩; (try replace hb := aft2 hb (by assumption)); obtain ⟨hc, hf⟩ := aft hb))
      refine bodyPost_ret (by simp (maxDischargeDepth := 3) [results, Try.results22, go_sem, *]; try rfl) rfl ?_
      exact ret_mk (by repeat (first | exact Below.refl _ _ | (with_reducible assumption) | refine bel_alloc ?_ _ | refine bel_drew ?_ | refine bel_drewN ?_ _ | refine Below.setCell ?_ (by dsimp only; omega) _ | refine bel_trans (by assumption) ?_))
theorem iQuarticOf_any (a b d : Int) (w : World) :
    Calls Try.prog 23 #[.agg #[.int .i64 a, .int .i64 b], .int .i64 d] w (Ret (bif twoB a b && divB b d then .tuple #[.agg #[.int .i64 d, .int .i64 a, .int .i64 (wrap64 (b.tdiv d))], .bool true] else .tuple #[.agg #[.int .i64 0, .int .i64 0, .int .i64 0], .bool false]) w) := by
  cases h : twoB a b
  · go_enter Try.func23, Try.ntmps23
    go_wp2_with (go_at_call 47; refine (isTwoCurve_any _ _ _).mono ?_; rintro e w' ⟨rfl, hb⟩; (try replace hb := aft2 hb (by assumption)); obtain ⟨hc, hf⟩ := aft hb)
    refine bodyPost_ret (by simp (maxDischargeDepth := 3) [results, Try.results23, go_sem, *]; try rfl) rfl ?_
    exact ret_mk (by repeat (first | exact Below.refl _ _ | (with_reducible assumption) | refine bel_alloc ?_ _ | refine bel_drew ?_ | refine bel_drewN ?_ _ | refine Below.setCell ?_ (by dsimp only; omega) _ | refine bel_trans (by assumption) ?_))
  · obtain ⟨h1, h2, h3, h4, h5, _⟩ := twoB_true.1 h
    by_cases hz : d = 0
    · subst hz
      have hdf : divB b 0 = false := by simp [divB]
      go_enter Try.func23, Try.ntmps23
      go_wp2_with (go_at_call 47; refine (isTwoCurve_any _ _ _).mono ?_; rintro e w' ⟨rfl, hb⟩; (try replace hb := aft2 hb (by assumption)); obtain ⟨hc, hf⟩ := aft hb)
      refine bodyPost_ret (by simp (maxDischargeDepth := 3) [results, Try.results23, go_sem, *]; try rfl) rfl ?_
      exact ret_eq (by rw [hdf]; rfl) (by repeat (first | exact Below.refl _ _ | (with_reducible assumption) | refine bel_alloc ?_ _ | refine bel_drew ?_ | refine bel_drewN ?_ _ | refine Below.setCell ?_ (by dsimp only; omega) _ | refine bel_trans (by assumption) ?_))
    · have hz' : (d == 0) = false := by simp [hz]
      have hz2 : (d != 0) = true := by simp [hz]
      cases hq : divB b d
      · have hm : (b.tmod d != 0) = true := by have := divB_false.1 hq; simp [hz] at this; simp [this]
        go_enter Try.func23, Try.ntmps23
        go_wp2_with (go_at_call 47; refine (isTwoCurve_any _ _ _).mono ?_; rintro e w' ⟨rfl, hb⟩; (try replace hb := aft2 hb (by assumption)); obtain ⟨hc, hf⟩ := aft hb)
        refine bodyPost_ret (by simp (maxDischargeDepth := 3) [results, Try.results23, go_sem, *]; try rfl) rfl ?_
        exact ret_mk (by repeat (first | exact Below.refl _ _ | (with_reducible assumption) | refine bel_alloc ?_ _ | refine bel_drew ?_ | refine bel_drewN ?_ _ | refine Below.setCell ?_ (by dsimp only; omega) _ | refine bel_trans (by assumption) ?_))
      · have hm : (b.tmod d != 0) = false := by have := divB_true.1 hq; simp [this.2]
        go_enter Try.func23, Try.ntmps23
        go_wp2_with (go_at_call 47; refine (isTwoCurve_any _ _ _).mono ?_; rintro e w' ⟨rfl, hb⟩; (try replace hb := aft2 hb (by assumption)); obtain ⟨hc, hf⟩ := aft hb)
        refine wp_region_tail 8 (by kernel_rfl) (by kernel_rfl) ?_
        simp only [List.take_succ_cons, List.take_zero, List.drop_succ_cons, List.drop_zero]
        repeat (go_big_quiet_step (fail))
        refine wpQuiet_nil ?_
        go_wp2_with fail
        refine bodyPost_ret (by simp (maxDischargeDepth := 3) [results, Try.results23, go_sem, *]; try rfl) rfl ?_
        exact ret_mk (by repeat (first | exact Below.refl _ _ | (with_reducible assumption) | refine bel_alloc ?_ _ | refine bel_drew ?_ | refine bel_drewN ?_ _ | refine Below.setCell ?_ (by dsimp only; omega) _ | refine bel_trans (by assumption) ?_))
end Go.Proofs.Ytcgnnhlopcnbpaa
