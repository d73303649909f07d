/- Ki: contracts: the kind of a curve at a prime, its node, the exponent of the conductor. No conditions. -/
import Derived.Test.YtadijbaphfgeiaaDoorPw
import Derived.Test.YtadijbaphfgeiaaDoorCp
import Derived.Test.YtadijbaphfgeiaaDoorMin
namespace Go.Proofs.YtadijbaphfgeiaaDoor
open Go.RowKit

def nodeI (A B p : Int) : Int := (-3 * B) % p * powI (2 * A) (p - 2) p % p
def kindN (A B p : Int) : Nat := if discI A B % p ≠ 0 then 0 else if A % p = 0 then 1 else if symI (3 * nodeI A B p) p = 1 then 2 else 3
def kindV : Nat → Value
  | 0 => .string ⟨#[103, 111, 111, 100]⟩
  | 1 => .string ⟨#[97, 100, 100, 105, 116, 105, 118, 101]⟩
  | 2 => .string ⟨#[115, 112, 108, 105, 116]⟩
  | _ => .string ⟨#[110, 111, 110, 115, 112, 108, 105, 116]⟩
@[simp, go_sem] theorem kindV_0 : kindV 0 = .string ⟨#[103, 111, 111, 100]⟩ := rfl
@[simp, go_sem] theorem kindV_1 : kindV 1 = .string ⟨#[97, 100, 100, 105, 116, 105, 118, 101]⟩ := rfl
@[simp, go_sem] theorem kindV_2 : kindV 2 = .string ⟨#[115, 112, 108, 105, 116]⟩ := rfl
@[simp, go_sem] theorem kindV_3 : kindV 3 = .string ⟨#[110, 111, 110, 115, 112, 108, 105, 116]⟩ := rfl
theorem kind_cases (A B p : Int) : kindN A B p = 0 ∨ kindN A B p = 1 ∨ kindN A B p = 2 ∨ kindN A B p = 3 := by
  unfold kindN; split
  · exact .inl rfl
  · split
    · exact .inr (.inl rfl)
    · split
      · exact .inr (.inr (.inl rfl))
      · exact .inr (.inr (.inr rfl))
theorem p5_pr {p : Int} (h : p5B p = true) : Pr p := by unfold p5B at h; rw [Bool.and_eq_true] at h; exact primeB_true.1 h.2
theorem pr_dvd_pow {p x : Int} (hp : Pr p) : ∀ {k : Nat}, p ∣ x ^ k → p ∣ x
  | 0, h => by
    have := hp.1
    rw [Int.pow_zero] at h
    have := Int.le_of_dvd (by omega) h
    omega
  | k + 1, h => by
    rw [Int.pow_succ] at h
    rcases pr_dvd_mul hp h with h | h
    · exact pr_dvd_pow hp h
    · exact h
theorem dvd_emod {p x : Int} (h : p ∣ x % p) : p ∣ x := by
  have := Int.mul_ediv_add_emod x p
  obtain ⟨k, hk⟩ := h
  exact ⟨x / p + k, by rw [Int.mul_add]; omega⟩
theorem powI_zero {a n p : Int} (hp : Pr p) (h : powI a n p = 0) : p ∣ a := by
  unfold powI at h
  exact dvd_emod (pr_dvd_pow hp (Int.dvd_of_emod_eq_zero h))
theorem powI_dvd {a n p : Int} (hp : Pr p) (h : p ∣ powI a n p) : p ∣ a :=
  powI_zero (a := a) (n := n) hp (by
    have h1 : 0 ≤ powI a n p ∧ powI a n p < p := powI_bd hp.1
    rcases Int.lt_or_le 0 (powI a n p) with k | k
    · have := Int.le_of_dvd k h; omega
    · omega)
theorem symI_zero {a p : Int} (hp : p5B p = true) (h : symI a p = 0) : p ∣ a := by
  unfold symI at h
  split at h
  · omega
  · exact powI_zero (p5_pr hp) h
theorem not_dvd_small {p : Int} (h5 : 5 ≤ p) {k : Int} (h0 : 0 < k) (h1 : k < 5) : ¬ p ∣ k := fun h => by
  have := Int.le_of_dvd h0 h; omega
theorem node_bd {A B p : Int} (h : 2 ≤ p) : 0 ≤ nodeI A B p ∧ nodeI A B p < p := ⟨Int.emod_nonneg _ (by omega), Int.emod_lt_of_pos _ (by omega)⟩
theorem add_B {A B p : Int} (hp : p5B p = true) (hd : discI A B % p = 0) (hA : A % p = 0) : B % p = 0 := by
  have hpr := p5_pr hp
  have hb := p5_bd hp
  obtain ⟨u, hu⟩ := Int.dvd_of_emod_eq_zero hA
  obtain ⟨v, hv⟩ := Int.dvd_of_emod_eq_zero hd
  have hdv : p ∣ 3 * 3 * 3 * B * B := ⟨v - 4 * A * A * u, by
    unfold discI at hv
    have e : 4 * A * A * A = p * (4 * A * A * u) := by
      rw [Int.mul_assoc (4 * A), show A * A = A * (p * u) by rw [← hu], ← Int.mul_assoc, ← Int.mul_assoc, Int.mul_assoc (4 * A * A) p u, Int.mul_left_comm]
    rw [Int.mul_sub, ← e]
    rw [show (3 : Int) * 3 * 3 = 27 by rfl]
    omega⟩
  have h3 := not_dvd_small hb.1 (k := 3) (by omega) (by omega)
  rcases pr_dvd_mul hpr hdv with k | k
  · rcases pr_dvd_mul hpr k with k | k
    · rcases pr_dvd_mul hpr k with k | k
      · rcases pr_dvd_mul hpr k with k | k <;> exact absurd k h3
      · exact absurd k h3
    · exact Int.emod_eq_zero_of_dvd k
  · exact Int.emod_eq_zero_of_dvd k
theorem mul_B {A B p : Int} (hp : p5B p = true) (hd : discI A B % p = 0) (hA : A % p ≠ 0) : B % p ≠ 0 := by
  intro hB
  have hpr := p5_pr hp
  have hb := p5_bd hp
  obtain ⟨u, hu⟩ := Int.dvd_of_emod_eq_zero hB
  obtain ⟨v, hv⟩ := Int.dvd_of_emod_eq_zero hd
  have hdv : p ∣ 4 * A * A * A := ⟨v - 27 * B * u, by
    unfold discI at hv
    have e : 27 * B * B = p * (27 * B * u) := by
      rw [show (27 * B) * B = (27 * B) * (p * u) by rw [← hu], Int.mul_left_comm]
    rw [Int.mul_sub, ← e]
    omega⟩
  have h4 := not_dvd_small hb.1 (k := 4) (by omega) (by omega)
  have hAd : ¬ p ∣ A := fun h => hA (Int.emod_eq_zero_of_dvd h)
  rcases pr_dvd_mul hpr hdv with k | k
  · rcases pr_dvd_mul hpr k with k | k
    · rcases pr_dvd_mul hpr k with k | k
      · exact h4 k
      · exact hAd k
    · exact hAd k
  · exact hAd k
theorem node_sym {A B p : Int} (hp : p5B p = true) (hd : discI A B % p = 0) (hA : A % p ≠ 0) : symI (3 * nodeI A B p) p ≠ 0 := by
  intro h
  have hpr := p5_pr hp
  have hb := p5_bd hp
  have h3 := not_dvd_small hb.1 (k := 3) (by omega) (by omega)
  have h2 := not_dvd_small hb.1 (k := 2) (by omega) (by omega)
  have hB := mul_B hp hd hA
  rcases pr_dvd_mul hpr (symI_zero hp h) with k | k
  · exact h3 k
  · rcases pr_dvd_mul hpr (dvd_emod k) with k | k
    · have k2 := dvd_emod k
      rw [show -3 * B = 3 * -B by omega] at k2
      rcases pr_dvd_mul hpr k2 with k3 | k3
      · exact h3 k3
      · exact hB (Int.emod_eq_zero_of_dvd (Int.dvd_neg.1 k3))
    · rcases pr_dvd_mul hpr (powI_dvd hpr k) with k3 | k3
      · exact h2 k3
      · exact hA (Int.emod_eq_zero_of_dvd k3)
theorem sym_two {A B p : Int} (hp : p5B p = true) (hd : discI A B % p = 0) (hA : A % p ≠ 0) : symI (3 * nodeI A B p) p = 1 ∨ symI (3 * nodeI A B p) p = -1 := by
  have h1 := node_sym hp hd hA
  have h2 := symI_bd (a := 3 * nodeI A B p) hp
  omega
end Go.Proofs.YtadijbaphfgeiaaDoor
