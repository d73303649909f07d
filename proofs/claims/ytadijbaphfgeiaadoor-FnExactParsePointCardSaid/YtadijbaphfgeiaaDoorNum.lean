/- Num: contracts of the small functions on numbers: inside, absolute values, greatest common divisors, primes, residues. No conditions. -/
import Derived.Test.YtadijbaphfgeiaaDoorPlain
namespace Go.Proofs.YtadijbaphfgeiaaDoor
open Go.RowKit

theorem inside_any (n lo hi : Int) (w : World) :
    Calls Tryd.prog 23 #[.int .i64 n, .int .i64 lo, .int .i64 hi] w fun e w' => e = .returned (.bool (inB n lo hi)) ∧ w = w' := by
  unfold inB
  go_enter Tryd.func23, Tryd.ntmps23
  go_wp2
  all_goals (go_ret; exact ⟨by simp [*]; try omega, rfl⟩)
theorem l1In_any (n lo hi : Int) (w : World) :
    Calls Tryd.prog 26 #[.int .i64 n, .int .i64 lo, .int .i64 hi] w fun e w' => e = .returned (.bool (inB n lo hi)) ∧ w = w' := by
  unfold inB
  go_enter Tryd.func26, Tryd.ntmps26
  go_wp2
  all_goals (go_ret; exact ⟨by simp [*]; try omega, rfl⟩)
theorem l1Most_any (a b : Int) (w : World) :
    Calls Tryd.prog 71 #[.int .i64 a, .int .i64 b] w fun e w' => e = .returned (.int .i64 (max a b)) ∧ w = w' := by
  by_cases h : b < a
  · go_enter Tryd.func71, Tryd.ntmps71
    go_wp2
    go_ret
    exact ⟨by rw [show max a b = a by omega]; rfl, rfl⟩
  · go_enter Tryd.func71, Tryd.ntmps71
    go_wp2
    go_ret
    exact ⟨by rw [show max a b = b by omega]; rfl, rfl⟩
theorem l1Abs_any (a : Int) (w : World) (h1 : -9223372036854775807 ≤ a) (h2 : a ≤ 9223372036854775807) :
    Calls Tryd.prog 50 #[.int .i64 a] w fun e w' => e = .returned (.int .i64 (a.natAbs : Int)) ∧ w = w' := by
  have hm : max a (-a) = (a.natAbs : Int) := by omega
  have HM := Lib.hid hm; clear hm
  go_enter Tryd.func50, Tryd.ntmps50
  go_wp2_with (go_at_call 71; refine (l1Most_any _ _ _).mono ?_; rintro e w' ⟨rfl, rfl⟩)
  go_ret
  exact ⟨by rw [← HM.out]; rfl, rfl⟩
theorem gcd_any (a b : Int) (w : World) (ha1 : -9223372036854775807 ≤ a) (ha2 : a ≤ 9223372036854775807) (hb1 : -9223372036854775807 ≤ b) (hb2 : b ≤ 9223372036854775807) :
    Calls Tryd.prog 58 #[.int .i64 a, .int .i64 b] w (Ret (.int .i64 (gcdI a b)) w) := by
  go_enter Tryd.func58, Tryd.ntmps58
  go_wp2
  go_loopw [0, 1] (fun x y wr => ∃ u v : Int, x = .int .i64 u ∧ y = .int .i64 v ∧ -9223372036854775807 ≤ u ∧ u ≤ 9223372036854775807 ∧ -9223372036854775807 ≤ v ∧ v ≤ 9223372036854775807 ∧ Int.gcd u v = Int.gcd a b ∧ Below w.heap.size w wr)
    (fun _ y _ => (intOf y).natAbs)
  case atStart => exact ⟨a, b, rfl, rfl, ha1, ha2, hb1, hb2, rfl, Below.refl _ _⟩
  case round =>
    obtain ⟨u, v, rfl, rfl, h1, h2, h3, h4, hg, hbel⟩ := hrel
    have HG := Lib.hid hg; clear hg
    by_cases hv : v = 0
    · subst hv
      have hm : max u (-u) = (u.natAbs : Int) := by omega
      have HM := Lib.hid hm; clear hm
      go_wp2
      all_goals (go_ret; exact ret_eq (congrArg (Value.int .i64) (by unfold gcdI; rw [← HG.out, Int.gcd_zero]; omega)) (by repeat (first | exact Below.refl _ _ | (with_reducible assumption) | refine bel_alloc ?_ _ | refine bel_drew ?_ | refine bel_drewN ?_ _ | refine Below.setCell ?_ (by dsimp only; omega) _ | refine bel_trans (by assumption) ?_)))
    · have hv' : (v != 0) = true := by simp [hv]
      have hv'' : (v == 0) = false := by simp [hv]
      have hb := natAbs_tmod_le u v
      have hb3 := natAbs_tmod_lt u hv
      go_wp2
      go_quiet (fail)
      go_wp2
      go_roundw
      case rel => exact ⟨v, u.tmod v, rfl, rfl, by omega, by omega, by omega, by omega, by rw [gcd_step]; exact HG.out, (by repeat (first | exact Below.refl _ _ | (with_reducible assumption) | refine bel_alloc ?_ _ | refine bel_drew ?_ | refine bel_drewN ?_ _ | refine Below.setCell ?_ (by dsimp only; omega) _ | refine bel_trans (by assumption) ?_))⟩
      case measure => exact hb3
theorem bgCommon_any (a b : Int) (w : World) (ha1 : 0 ≤ a) (ha2 : a ≤ 9223372036854775807) (hb1 : 0 ≤ b) (hb2 : b ≤ 9223372036854775807) :
    Calls Tryd.prog 49 #[.int .i64 a, .int .i64 b] w (Ret (.int .i64 (gcdI a b)) w) := by
  go_enter Tryd.func49, Tryd.ntmps49
  go_wp2
  go_loop [0, 1] (fun x y => ∃ u v : Int, x = .int .i64 u ∧ y = .int .i64 v ∧ 0 ≤ u ∧ u ≤ 9223372036854775807 ∧ 0 ≤ v ∧ v ≤ 9223372036854775807 ∧ Hid (Int.gcd u v = Int.gcd a b))
    (fun _ y => (intOf y).toNat)
  case atStart => exact ⟨a, b, rfl, rfl, ha1, ha2, hb1, hb2, rfl⟩
  case round =>
    obtain ⟨u, v, rfl, rfl, h1, h2, h3, h4, HG⟩ := hrel
    by_cases hv : 0 < v
    · have hv' : (v == 0) = false := by simp; omega
      have hm1 := Int.emod_nonneg u (show v ≠ 0 by omega)
      have hm2 := Int.emod_lt_of_pos u hv
      have hs := gcd_step u v
      rw [Int.tmod_eq_emod_of_nonneg h1] at hs
      have HS := Lib.hid hs; clear hs
      go_wp2
      go_round
      case rel => exact ⟨v, u % v, rfl, rfl, by omega, by omega, by omega, by omega, by unfold Hid; rw [HS.out]; exact HG.out⟩
      case measure => simp [intOf]; omega
    · have hv0 : v = 0 := by omega
      subst hv0
      go_wp2
      go_ret
      exact ret_eq (congrArg (Value.int .i64) (by unfold gcdI; rw [← HG.out, Int.gcd_zero]; omega)) (by repeat (first | exact Below.refl _ _ | (with_reducible assumption) | refine bel_alloc ?_ _ | refine bel_drew ?_ | refine bel_drewN ?_ _ | refine Below.setCell ?_ (by dsimp only; omega) _ | refine bel_trans (by assumption) ?_))
end Go.Proofs.YtadijbaphfgeiaaDoor
