/- Fr: contracts: valid fractions. No conditions. -/
import Derived.Test.YtagfnahgibccfaaNum
namespace Go.Proofs.Ytagfnahgibccfaa
open Go.RowKit

def fracB (n d : Int) : Bool := (inB d 1 1000000000 && inB n (-1000000000) 1000000000) && (gcdI n d == 1)
theorem frac_bd {n d : Int} (h : fracB n d = true) : 1 ≤ d ∧ d ≤ 1000000000 ∧ -1000000000 ≤ n ∧ n ≤ 1000000000 := by
  unfold fracB at h
  rw [Bool.and_eq_true, Bool.and_eq_true] at h
  have h1 := inB_true.1 h.1.1
  have h2 := inB_true.1 h.1.2
  omega
end Go.Proofs.Ytagfnahgibccfaa
