/- Mf: contracts: fractions in lowest terms. No conditions. -/
import Derived.Test.YtadijbaphfgeiaaDoorFr
import Derived.Test.YtadijbaphfgeiaaDoorRg
namespace Go.Proofs.YtadijbaphfgeiaaDoor
open Go.RowKit

def Box2 (n B : Nat) (x y : Value) (w' : World) : Prop := n ≤ B ∧ B < w'.heap.size ∧ w'.cell? ⟨B, 0, none⟩ = some x ∧ w'.cell? ⟨B, 1, none⟩ = some y
theorem wrapf {u : Int} (h0 : -4000000000000000000 ≤ u) (h1 : u ≤ 4000000000000000000) : IntKind.i64.wrap u = u := by
  simp only [IntKind.wrap, IntKind.bits, IntKind.signed]
  simp
  omega
/-- the greatest common divisor, with the denominator's sign. -/
def sgcd (n d : Int) : Int := if d < 0 then -gcdI n d else gcdI n d
theorem sgcd_ne {n d : Int} (h : d ≠ 0) : sgcd n d ≠ 0 := by
  have : gcdI n d ≠ 0 := by
    unfold gcdI
    intro k
    have := Int.gcd_eq_zero_iff.1 (show Int.gcd n d = 0 by omega)
    exact h this.2
  unfold sgcd; split <;> omega
theorem tdiv_bd {n g B : Int} (h0 : -B ≤ n) (h1 : n ≤ B) : -B ≤ n.tdiv g ∧ n.tdiv g ≤ B := by
  have h : (n.tdiv g).natAbs ≤ n.natAbs := by rw [Int.natAbs_tdiv]; exact Nat.div_le_self _ _
  omega
theorem gcdI_bd {n d : Int} (h : d ≠ 0) : 1 ≤ gcdI n d ∧ gcdI n d ≤ d.natAbs := by
  have h0 := gcdI_nonneg n d
  have h1 := sgcd_ne (n := n) h
  have h2 : gcdI n d ≠ 0 := by unfold sgcd at h1; split at h1 <;> omega
  refine ⟨by omega, ?_⟩
  unfold gcdI
  have := Nat.le_of_dvd (by omega) (Int.gcd_dvd_natAbs_right n d)
  omega
/-- numerator and denominator in lowest terms. -/
def lowN (n d : Int) : Int := n.tdiv (sgcd n d)
def lowD (n d : Int) : Int := d.tdiv (sgcd n d)
theorem gcdI_dvd_l (n d : Int) : gcdI n d ∣ n := Int.gcd_dvd_left ..
theorem gcdI_dvd_r (n d : Int) : gcdI n d ∣ d := Int.gcd_dvd_right ..
theorem lowD_pos {n d : Int} (h : d ≠ 0) : 1 ≤ lowD n d := by
  obtain ⟨g1, g2⟩ := gcdI_bd (n := n) h
  obtain ⟨c, hc⟩ := gcdI_dvd_r n d
  unfold lowD sgcd
  split
  · rename_i hd
    have hcn : c < 0 := by
      rcases Int.lt_or_le c 0 with k | k
      · exact k
      · have := Int.mul_nonneg (show 0 ≤ gcdI n d by omega) k
        omega
    rw [Int.tdiv_neg]
    conv => rhs; rw [hc]
    rw [show gcdI n (gcdI n d * c) = gcdI n d by rw [← hc]]
    rw [Int.mul_tdiv_cancel_left _ (by omega)]
    omega
  · rename_i hd
    have hcn : 0 < c := by
      rcases Int.lt_or_le 0 c with k | k
      · exact k
      · have := Int.mul_nonpos_of_nonneg_of_nonpos (show 0 ≤ gcdI n d by omega) k
        omega
    conv => rhs; rw [hc]
    rw [show gcdI n (gcdI n d * c) = gcdI n d by rw [← hc]]
    rw [Int.mul_tdiv_cancel_left _ (by omega)]
    omega
theorem low_gcd {n d : Int} (h : d ≠ 0) : gcdI (lowN n d) (lowD n d) = 1 := by
  obtain ⟨g1, g2⟩ := gcdI_bd (n := n) h
  have hN : (lowN n d).natAbs = n.natAbs / (gcdI n d).natAbs := by
    unfold lowN; rw [Int.natAbs_tdiv]; unfold sgcd; split <;> first | rfl | (rw [Int.natAbs_neg]; rfl)
  have hD : (lowD n d).natAbs = d.natAbs / (gcdI n d).natAbs := by
    unfold lowD; rw [Int.natAbs_tdiv]; unfold sgcd; split <;> first | rfl | (rw [Int.natAbs_neg]; rfl)
  have hg : (gcdI n d).natAbs = Nat.gcd n.natAbs d.natAbs := by unfold gcdI; rw [Int.natAbs_natCast, Int.gcd_eq_natAbs_gcd_natAbs]
  have e : Nat.gcd (lowN n d).natAbs (lowD n d).natAbs = 1 := by
    rw [hN, hD, hg]
    have hp : 0 < Nat.gcd n.natAbs d.natAbs := by rw [← hg]; omega
    rw [Nat.gcd_div (Nat.gcd_dvd_left ..) (Nat.gcd_dvd_right ..)]
    exact Nat.div_self hp
  unfold gcdI
  rw [Int.gcd_eq_natAbs_gcd_natAbs, e]
  rfl
theorem low_low {n d : Int} (h : d ≠ 0) : lowN (lowN n d) (lowD n d) = lowN n d ∧ lowD (lowN n d) (lowD n d) = lowD n d := by
  have h1 := low_gcd (n := n) h
  have h2 := lowD_pos (n := n) h
  have e : sgcd (lowN n d) (lowD n d) = 1 := by unfold sgcd; rw [if_neg (by omega), h1]
  constructor
  · show (lowN n d).tdiv (sgcd (lowN n d) (lowD n d)) = _
    rw [e, Int.tdiv_one]
  · show (lowD n d).tdiv (sgcd (lowN n d) (lowD n d)) = _
    rw [e, Int.tdiv_one]
/-- what a fraction's making returns. -/
def makV (n d : Int) : Value := bif fracB (lowN n d) (lowD n d) then .tuple #[.agg #[.int .i64 (lowN n d), .int .i64 (lowD n d)], .bool true] else .tuple #[.agg #[.int .i64 0, .int .i64 0], .bool false]
end Go.Proofs.YtadijbaphfgeiaaDoor
