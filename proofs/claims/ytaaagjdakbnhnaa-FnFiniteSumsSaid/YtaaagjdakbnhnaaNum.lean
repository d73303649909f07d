/- Num: contracts of the small functions on numbers: inside, absolute values, greatest common divisors, primes, residues. No conditions. -/
import Derived.Test.YtaaagjdakbnhnaaPlain
namespace Go.Proofs.Ytaaagjdakbnhnaa
open Go.RowKit

theorem inside_any (n lo hi : Int) (w : World) :
    Calls Try.prog 30 #[.int .i64 n, .int .i64 lo, .int .i64 hi] w fun e w' => e = .returned (.bool (inB n lo hi)) ∧ w = w' := by
  unfold inB
  go_enter Try.func30, Try.ntmps30
  go_wp2
  all_goals (go_ret; exact ⟨by simp [*]; try omega, rfl⟩)
theorem l1In_any (n lo hi : Int) (w : World) :
    Calls Try.prog 32 #[.int .i64 n, .int .i64 lo, .int .i64 hi] w fun e w' => e = .returned (.bool (inB n lo hi)) ∧ w = w' := by
  unfold inB
  go_enter Try.func32, Try.ntmps32
  go_wp2
  all_goals (go_ret; exact ⟨by simp [*]; try omega, rfl⟩)
end Go.Proofs.Ytaaagjdakbnhnaa
