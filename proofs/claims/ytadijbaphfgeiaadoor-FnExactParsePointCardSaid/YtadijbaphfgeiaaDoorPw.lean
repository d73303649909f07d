/- Pw: contracts: powers, inverses, symbols modulo a prime. No conditions. -/
import Derived.Test.YtadijbaphfgeiaaDoorFld
import Derived.Test.YtadijbaphfgeiaaDoorFm
namespace Go.Proofs.YtadijbaphfgeiaaDoor
open Go.RowKit

def powI (a n p : Int) : Int := (a % p) ^ n.toNat % p
theorem pow_emod (y p : Int) : ∀ k : Nat, (y % p) ^ k % p = y ^ k % p
  | 0 => by simp
  | k + 1 => by
    rw [Int.pow_succ, Int.pow_succ, Int.mul_emod, pow_emod y p k, Int.emod_emod, ← Int.mul_emod]
theorem pow_sq (x : Int) : ∀ k : Nat, (x * x) ^ k = x ^ (2 * k)
  | 0 => by simp
  | k + 1 => by
    rw [Int.pow_succ, pow_sq x k, show 2 * (k + 1) = 2 * k + 1 + 1 by omega, Int.pow_succ, Int.pow_succ, Int.mul_assoc]
theorem mul_emod_l (a b p : Int) : (a % p) * b % p = a * b % p := by rw [Int.mul_emod, Int.emod_emod, ← Int.mul_emod]
theorem mul_emod_r (a b p : Int) : a * (b % p) % p = a * b % p := by rw [Int.mul_emod, Int.emod_emod, ← Int.mul_emod]
/-- what the loop keeps. -/
def PwInv (p R n out x : Int) : Prop := out * x ^ n.toNat % p = R
theorem PwInv.odd {p R n out x : Int} (h : PwInv p R n out x) (hn : 0 < n) (ho : n % 2 = 1) : PwInv p R (n / 2) (out * x % p) (x * x % p) := by
  unfold PwInv at *
  rw [Int.mul_emod, pow_emod, Int.emod_emod, ← Int.mul_emod, pow_sq, Int.mul_assoc, ← h]
  have e : n.toNat = 2 * (n / 2).toNat + 1 := by omega
  rw [e, Int.pow_succ, Int.mul_comm x]
theorem PwInv.even {p R n out x : Int} (h : PwInv p R n out x) (hn : 0 < n) (ho : n % 2 = 0) : PwInv p R (n / 2) out (x * x % p) := by
  unfold PwInv at *
  rw [Int.mul_emod, pow_emod, ← Int.mul_emod, pow_sq, ← h]
  have e : n.toNat = 2 * (n / 2).toNat := by omega
  rw [e]
theorem powI_bd {a n p : Int} (h : 2 ≤ p) : 0 ≤ powI a n p ∧ powI a n p < p := ⟨Int.emod_nonneg _ (by omega), Int.emod_lt_of_pos _ (by omega)⟩

def symOk (p : Nat) : Bool := (List.range p).all fun a => let r := a ^ ((p - 1) / 2) % p; Nat.beq r 0 || (Nat.beq r 1 || Nat.beq r (p - 1))
def isP (p : Nat) : Bool := [2, 3, 5, 7, 11, 13, 17, 19, 23, 29, 31].all fun d => Nat.beq d p || !(Nat.beq (p % d) 0)
set_option maxRecDepth 100000 in
theorem sym_all : ((List.range 998).all fun p => !(isP p) || Nat.ble p 4 || symOk p) = true := by decide +kernel
theorem isP_of {p : Nat} (h : Pr (p : Int)) : isP p = true := by
  unfold isP
  rw [List.all_eq_true]
  intro d hd
  have hd2 : 2 ≤ d := by revert hd; revert d; decide
  rw [Bool.or_eq_true]
  by_cases he : d = p
  · left; rw [he]; exact Nat.beq_refl p
  · right
    rw [Bool.not_eq_true']
    rw [Bool.eq_false_iff]
    intro hz
    have hz := Nat.eq_of_beq_eq_true hz
    have hdv : (d : Int) ∣ (p : Int) := by exact_mod_cast Nat.dvd_of_mod_eq_zero hz
    have := pr_dvd h (by omega) hdv
    omega
/-- Euler, for the primes that the program knows. -/
theorem euler {a p : Int} (hp : p5B p = true) : powI a ((p - 1) / 2) p = 0 ∨ powI a ((p - 1) / 2) p = 1 ∨ powI a ((p - 1) / 2) p = p - 1 := by
  have hb := p5_bd hp
  have hpr : Pr p := by unfold p5B at hp; rw [Bool.and_eq_true] at hp; exact primeB_true.1 hp.2
  obtain ⟨q, rfl⟩ : ∃ q : Nat, p = q := ⟨p.toNat, by omega⟩
  have h := List.all_eq_true.1 sym_all q (by rw [List.mem_range]; omega)
  rw [isP_of hpr, show Nat.ble q 4 = false by rw [← Bool.not_eq_true]; intro k; have := Nat.le_of_ble_eq_true k; omega] at h
  simp only [Bool.not_true, Bool.false_or] at h
  have h0 := Int.emod_nonneg a (show (q : Int) ≠ 0 by omega)
  have h1 := Int.emod_lt_of_pos a (show (0 : Int) < q by omega)
  obtain ⟨r, hr⟩ : ∃ r : Nat, a % (q : Int) = r := ⟨(a % (q : Int)).toNat, by omega⟩
  have h2 := List.all_eq_true.1 h r (by rw [List.mem_range]; omega)
  have e : powI a (((q : Int) - 1) / 2) q = ((r ^ ((q - 1) / 2) % q : Nat) : Int) := by
    unfold powI
    rw [hr, show (((q : Int) - 1) / 2).toNat = (q - 1) / 2 by omega]
    norm_cast
  rw [e]
  simp only [Bool.or_eq_true] at h2
  rcases h2 with k | k | k
  · left; rw [Nat.eq_of_beq_eq_true k]; rfl
  · right; left; rw [Nat.eq_of_beq_eq_true k]; rfl
  · right; right; rw [Nat.eq_of_beq_eq_true k]; omega
def symI (a p : Int) : Int := if powI a ((p - 1) / 2) p = p - 1 then -1 else powI a ((p - 1) / 2) p

theorem power_bd {p out x : Int} (_h5 : 2 ≤ p) (h6 : p ≤ 997) (o0 : 0 ≤ out) (o1 : out < p) (x0 : 0 ≤ x) (x1 : x < p) :
    (0 ≤ out * x ∧ out * x ≤ 1000000) ∧ (0 ≤ x * x ∧ x * x ≤ 1000000) :=
  ⟨⟨Int.mul_nonneg o0 x0, (mul_bd (A := 1000) (B := 1000) (by omega) (by omega) (by omega) (by omega)).2⟩, Int.mul_nonneg x0 x0, (mul_bd (A := 1000) (B := 1000) (by omega) (by omega) (by omega) (by omega)).2⟩
theorem symI_bd {a p : Int} (hp : p5B p = true) : -1 ≤ symI a p ∧ symI a p ≤ 1 := by
  have hb := p5_bd hp
  unfold symI
  rcases euler (a := a) hp with h | h | h <;> rw [h] <;> split <;> omega
end Go.Proofs.YtadijbaphfgeiaaDoor
