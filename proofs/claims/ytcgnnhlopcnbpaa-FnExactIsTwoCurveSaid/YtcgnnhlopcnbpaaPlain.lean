/- Plain: the plain functions that the program's functions compute. No conditions. -/
import Derived.Test.YtcgnnhlopcnbpaaBase
namespace Go.Proofs.Ytcgnnhlopcnbpaa

def inB (n lo hi : Int) : Bool := decide (lo ≤ n ∧ n ≤ hi)
theorem inB_true {n lo hi : Int} : inB n lo hi = true ↔ lo ≤ n ∧ n ≤ hi := by simp [inB]
theorem inB_false {n lo hi : Int} : inB n lo hi = false ↔ ¬ (lo ≤ n ∧ n ≤ hi) := by simp [inB]

/-- a two-curve's conditions. -/
def twoB (a b : Int) : Bool := decide (-300 ≤ a ∧ a ≤ 300 ∧ -300 ≤ b ∧ b ≤ 300 ∧ b ≠ 0 ∧ a * a ≠ 4 * b)
theorem twoB_true {a b : Int} : twoB a b = true ↔ (-300 ≤ a ∧ a ≤ 300 ∧ -300 ≤ b ∧ b ≤ 300 ∧ b ≠ 0 ∧ a * a ≠ 4 * b) := by simp [twoB]
theorem twoB_false {a b : Int} : twoB a b = false ↔ ¬ (-300 ≤ a ∧ a ≤ 300 ∧ -300 ≤ b ∧ b ≤ 300 ∧ b ≠ 0 ∧ a * a ≠ 4 * b) := by simp only [twoB, decide_eq_false_iff_not]
end Go.Proofs.Ytcgnnhlopcnbpaa
