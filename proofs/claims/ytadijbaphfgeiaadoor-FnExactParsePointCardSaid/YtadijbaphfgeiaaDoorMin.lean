/- Min: contracts: minimal models at a prime, their valuations. No conditions. -/
import Derived.Test.YtadijbaphfgeiaaDoorRed
namespace Go.Proofs.YtadijbaphfgeiaaDoor
open Go.RowKit

/-- the one case in which a curve is not its own minimal model at a prime from 5 on. -/
def bigB (a b p : Int) : Bool := decide (p = 5 ∧ b = 0 ∧ (a = 625 ∨ a = -625))
def minA (a b p : Int) : Int := bif bigB a b p then a.tdiv 625 else a
def minN (a b p : Int) : Int := bif bigB a b p then 1 else 0
theorem big_true {a b p : Int} : bigB a b p = true ↔ p = 5 ∧ b = 0 ∧ (a = 625 ∨ a = -625) := by simp [bigB]
theorem p4_bd {p : Int} (h1 : 5 ≤ p) (h2 : p ≤ 997) : 25 ≤ p * p ∧ p * p ≤ 994009 ∧ 125 ≤ p * p * p ∧ p * p * p ≤ 991026973 ∧ 625 ≤ p * p * p * p ∧ p * p * p * p ≤ 988053892081 := by
  have a1 : 5 * 5 ≤ p * p := Int.mul_le_mul h1 h1 (by omega) (by omega)
  have a2 : p * p ≤ 997 * 997 := Int.mul_le_mul h2 h2 (by omega) (by omega)
  have b1 : 25 * 5 ≤ p * p * p := Int.mul_le_mul a1 h1 (by omega) (by omega)
  have b2 : p * p * p ≤ (997 * 997) * 997 := Int.mul_le_mul a2 h2 (by omega) (by omega)
  have c1 : 125 * 5 ≤ p * p * p * p := Int.mul_le_mul b1 h1 (by omega) (by omega)
  have c2 : p * p * p * p ≤ (997 * 997) * 997 * 997 := Int.mul_le_mul b2 h2 (by omega) (by omega)
  omega
theorem p6_bd {p : Int} (h1 : 5 ≤ p) (h2 : p ≤ 997) : 3125 ≤ p * p * p * p * p ∧ p * p * p * p * p ≤ 985089730404757 ∧ 15625 ≤ p * p * p * p * p * p ∧ p * p * p * p * p * p ≤ 982134461213542729 := by
  obtain ⟨_, _, _, _, c1, c2⟩ := p4_bd h1 h2
  have d1 : 625 * 5 ≤ p * p * p * p * p := Int.mul_le_mul c1 h1 (by omega) (by omega)
  have d2 : p * p * p * p * p ≤ 988053892081 * 997 := Int.mul_le_mul c2 h2 (by omega) (by omega)
  have e1 : 3125 * 5 ≤ p * p * p * p * p * p := Int.mul_le_mul d1 h1 (by omega) (by omega)
  have e2 : p * p * p * p * p * p ≤ 985089730404757 * 997 := Int.mul_le_mul d2 h2 (by omega) (by omega)
  omega
/-- a small number that a greater one divides is 0. -/
theorem tmod_small {a m : Int} (h : a.natAbs < m.natAbs) (hz : a.tmod m = 0) : a = 0 := by
  have h1 := Int.natAbs_tmod a m
  rw [hz, Nat.mod_eq_of_lt h] at h1
  simp at h1
  omega
theorem small_notp4 {a b p : Int} (h1 : -1000 ≤ a) (h2 : a ≤ 1000) (h3 : -10000 ≤ b) (h4 : b ≤ 10000) (hd : discI a b ≠ 0) (h5 : 5 ≤ p) (h6 : p ≤ 997) (hn : bigB a b p = false)
    (hm : a.tmod (p * p * p * p) = 0) : b.tmod (p * p * p * p * p * p) ≠ 0 := by
  intro hb
  obtain ⟨_, _, _, _, c1, c2⟩ := p4_bd h5 h6
  obtain ⟨d1, d2, e1, e2⟩ := p6_bd h5 h6
  have hb0 : b = 0 := tmod_small (by omega) hb
  subst hb0
  have ha : a ≠ 0 := by rintro rfl; exact hd (by decide)
  have hp5 : p = 5 := by
    rcases Int.lt_or_le p 6 with h | h
    · omega
    · have f1 : 6 * 6 ≤ p * p := Int.mul_le_mul h h (by omega) (by omega)
      have f2 : 36 * 6 ≤ p * p * p := Int.mul_le_mul f1 h (by omega) (by omega)
      have f3 : 216 * 6 ≤ p * p * p * p := Int.mul_le_mul f2 h (by omega) (by omega)
      exact absurd (tmod_small (by omega) hm) ha
  subst hp5
  have hdv := Int.dvd_of_tmod_eq_zero hm
  obtain ⟨k, hk⟩ := hdv
  have : bigB a 0 5 = true := big_true.2 ⟨rfl, rfl, by omega⟩
  rw [hn] at this
  cases this
theorem min_disc {a b p : Int} (hc : curveB a b = true) : -1000 ≤ minA a b p ∧ minA a b p ≤ 1000 ∧ discI (minA a b p) b ≠ 0 := by
  obtain ⟨h1, h2, _, _, h5⟩ := curveB_true.1 hc
  unfold minA
  cases h : bigB a b p
  · exact ⟨h1, h2, h5⟩
  · obtain ⟨rfl, rfl, h | h⟩ := big_true.1 h <;> subst h <;> simp [discI]
theorem min_curve {a b p : Int} (hc : curveB a b = true) : curveB (minA a b p) b = true := by
  obtain ⟨h1, h2, h3, h4, h5⟩ := curveB_true.1 hc
  obtain ⟨k1, k2, k3⟩ := min_disc (p := p) hc
  exact curveB_true.2 ⟨k1, k2, h3, h4, k3⟩

end Go.Proofs.YtadijbaphfgeiaaDoor
