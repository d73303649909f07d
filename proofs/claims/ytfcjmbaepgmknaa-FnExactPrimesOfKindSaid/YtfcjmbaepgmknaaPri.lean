/- Pri: contracts of primality tests and residues. No conditions. -/
import Derived.Test.YtfcjmbaepgmknaaCur
namespace Go.Proofs.Ytfcjmbaepgmknaa
open Go.RowKit

theorem modulo_any (a m : Int) (w : World) (h1 : 1 ≤ m) (h2 : m ≤ 1000000000000) :
    Calls Try.prog 93 #[.int .i64 a, .int .i64 m] w (Ret (.int .i64 (a % m)) w) := by
  have ht := tmod_bd a h1
  have hm := tmod_fix a h1
  have HM := Lib.hid hm; clear hm
  have h0 : (m == 0) = false := by simp; omega
  go_enter Try.func93, Try.ntmps93
  go_wp2
  go_ret
  exact ret_eq (congrArg (Value.int .i64) HM.out) (by repeat (first | exact Below.refl _ _ | (with_reducible assumption) | refine bel_alloc ?_ _ | refine bel_drew ?_ | refine bel_drewN ?_ _ | refine Below.setCell ?_ (by dsimp only; omega) _ | refine bel_trans (by assumption) ?_))
theorem mdMod_any (a m : Int) (w : World) (h1 : 1 ≤ m) (h2 : m ≤ 1000000000000) :
    Calls Try.prog 101 #[.int .i64 a, .int .i64 m] w (Ret (.int .i64 (a % m)) w) := by
  have ht := tmod_bd a h1
  have hm := tmod_fix a h1
  have HM := Lib.hid hm; clear hm
  have h0 : (m == 0) = false := by simp; omega
  go_enter Try.func101, Try.ntmps101
  go_wp2
  go_ret
  exact ret_eq (congrArg (Value.int .i64) HM.out) (by repeat (first | exact Below.refl _ _ | (with_reducible assumption) | refine bel_alloc ?_ _ | refine bel_drew ?_ | refine bel_drewN ?_ _ | refine Below.setCell ?_ (by dsimp only; omega) _ | refine bel_trans (by assumption) ?_))
end Go.Proofs.Ytfcjmbaepgmknaa
