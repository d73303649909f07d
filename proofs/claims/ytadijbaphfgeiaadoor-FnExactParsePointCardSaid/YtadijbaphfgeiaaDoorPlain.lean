/- Plain: the plain functions that the program's functions compute, and what is true of them. No conditions. -/
import Derived.Test.YtadijbaphfgeiaaDoorBase
namespace Go.Proofs.YtadijbaphfgeiaaDoor

def inB (n lo hi : Int) : Bool := decide (lo ≤ n ∧ n ≤ hi)
theorem inB_true {n lo hi : Int} : inB n lo hi = true ↔ lo ≤ n ∧ n ≤ hi := by simp [inB]
theorem inB_false {n lo hi : Int} : inB n lo hi = false ↔ ¬ (lo ≤ n ∧ n ≤ hi) := by simp [inB]

/-- a two-curve's conditions. -/
def twoB (a b : Int) : Bool := decide (-300 ≤ a ∧ a ≤ 300 ∧ -300 ≤ b ∧ b ≤ 300 ∧ b ≠ 0 ∧ a * a ≠ 4 * b)
theorem twoB_true {a b : Int} : twoB a b = true ↔ (-300 ≤ a ∧ a ≤ 300 ∧ -300 ≤ b ∧ b ≤ 300 ∧ b ≠ 0 ∧ a * a ≠ 4 * b) := by simp [twoB]
theorem twoB_false {a b : Int} : twoB a b = false ↔ ¬ (-300 ≤ a ∧ a ≤ 300 ∧ -300 ≤ b ∧ b ≤ 300 ∧ b ≠ 0 ∧ a * a ≠ 4 * b) := by simp only [twoB, decide_eq_false_iff_not]

/-- 4 A^3 + 27 B^2 -/
def discI (a b : Int) : Int := 4 * a * a * a + 27 * b * b
def curveB (a b : Int) : Bool := decide (-1000 ≤ a ∧ a ≤ 1000 ∧ -10000 ≤ b ∧ b ≤ 10000 ∧ discI a b ≠ 0)
theorem curveB_true {a b : Int} : curveB a b = true ↔ (-1000 ≤ a ∧ a ≤ 1000 ∧ -10000 ≤ b ∧ b ≤ 10000 ∧ discI a b ≠ 0) := by simp [curveB]
theorem curveB_false {a b : Int} : curveB a b = false ↔ ¬ (-1000 ≤ a ∧ a ≤ 1000 ∧ -10000 ≤ b ∧ b ≤ 10000 ∧ discI a b ≠ 0) := by simp only [curveB, decide_eq_false_iff_not]
theorem disc_bd {a b : Int} (h1 : -1000 ≤ a) (h2 : a ≤ 1000) (h3 : -10000 ≤ b) (h4 : b ≤ 10000) : -6700000000 ≤ discI a b ∧ discI a b ≤ 6700000000 := by
  have b1 := mul_bd (a := 4 * a) (b := a) (A := 4000) (B := 1000) (by omega) (by omega) (by omega) (by omega)
  have b2 := mul_bd (a := 4 * a * a) (b := a) (A := 4000000) (B := 1000) (by omega) (by omega) (by omega) (by omega)
  have b3 := mul_bd (a := 27 * b) (b := b) (A := 270000) (B := 10000) (by omega) (by omega) (by omega) (by omega)
  unfold discI
  omega

/-- the greatest common divisor, as a number of the program. -/
def gcdI (a b : Int) : Int := (Int.gcd a b : Int)
theorem gcdI_nonneg (a b : Int) : 0 ≤ gcdI a b := by unfold gcdI; omega
theorem gcd_step (u v : Int) : Int.gcd v (u.tmod v) = Int.gcd u v := by
  rw [Int.gcd_eq_natAbs_gcd_natAbs, Int.gcd_eq_natAbs_gcd_natAbs, Int.natAbs_tmod, Nat.gcd_comm v.natAbs, ← Nat.gcd_rec, Nat.gcd_comm]
theorem gcdI_natAbs (a b : Int) : gcdI (a.natAbs : Int) (b.natAbs : Int) = gcdI a b := by simp [gcdI, Int.gcd_eq_natAbs_gcd_natAbs]

theorem tmod_bd (a : Int) {m : Int} (h : 1 ≤ m) : -m < a.tmod m ∧ a.tmod m < m := by
  have h1 := Int.natAbs_tmod a m
  have h2 : a.natAbs % m.natAbs < m.natAbs := Nat.mod_lt _ (by omega)
  omega
theorem natAbs_tmod_le (u v : Int) : (u.tmod v).natAbs ≤ u.natAbs := by rw [Int.natAbs_tmod]; exact Nat.mod_le _ _
theorem natAbs_tmod_lt (u : Int) {v : Int} (h : ¬ v = 0) : (u.tmod v).natAbs < v.natAbs := by rw [Int.natAbs_tmod]; exact Nat.mod_lt _ (by omega)
theorem tmod_fix (a : Int) {m : Int} (_h : 1 ≤ m) : (a.tmod m + m) % m = a % m := by
  rw [Int.add_emod_right, Int.tmod_def, Int.sub_mul_emod_self_left]
theorem tmod_zero_iff {a m : Int} : a.tmod m = 0 ↔ a % m = 0 := by
  rw [← Int.dvd_iff_tmod_eq_zero, ← Int.dvd_iff_emod_eq_zero]

/-- a prime number. -/
def Pr (n : Int) : Prop := 2 ≤ n ∧ ∀ d : Int, 2 ≤ d → d < n → n % d ≠ 0
open Classical in
noncomputable def primeB (n : Int) : Bool := decide (Pr n)
theorem primeB_true {n : Int} : primeB n = true ↔ Pr n := by simp [primeB]
theorem primeB_false {n : Int} : primeB n = false ↔ ¬ Pr n := by simp [primeB]
/-- no divisor up to the root: none at all. -/
theorem pr_of_root {n k : Int} (h2 : 2 ≤ n) (hk : n < k * k) (hk2 : 2 ≤ k) (hno : ∀ d : Int, 2 ≤ d → d < k → n % d ≠ 0) : Pr n := by
  refine ⟨h2, fun d hd hdn hz => ?_⟩
  by_cases hlt : d < k
  · exact hno d hd hlt hz
  · obtain ⟨q, hq⟩ := Int.dvd_of_emod_eq_zero hz
    have hqpos : 0 < q := by
      rcases Int.lt_or_le 0 q with h | h
      · exact h
      · have : d * q ≤ 0 := Int.mul_nonpos_of_nonneg_of_nonpos (by omega) h
        omega
    have hq2 : 2 ≤ q := by
      rcases Int.lt_or_le 1 q with h | h
      · omega
      · have : q = 1 := by omega
        subst this; omega
    have hqk : q < k := by
      rcases Int.lt_or_le q k with h | h
      · exact h
      · have : k * k ≤ d * q := Int.mul_le_mul (by omega) h (by omega) (by omega)
        omega
    exact hno q hq2 hqk (by rw [hq]; exact Int.mul_emod_left _ _)
theorem not_pr_of_dvd {n d : Int} (h2 : 2 ≤ d) (hd : d * d ≤ n) (hz : n % d = 0) : ¬ Pr n := by
  intro h
  have : d < n := by
    have h1 : d * 2 ≤ d * d := Int.mul_le_mul_of_nonneg_left h2 (by omega)
    omega
  exact h.2 d h2 this hz
end Go.Proofs.YtadijbaphfgeiaaDoor
