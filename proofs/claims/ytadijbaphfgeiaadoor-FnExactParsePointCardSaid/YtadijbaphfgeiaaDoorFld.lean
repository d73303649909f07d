/- Fld: contracts: small good primes, the right side of the equation modulo a prime, points modulo a prime. No conditions. -/
import Derived.Test.YtadijbaphfgeiaaDoorRed
import Derived.Test.YtadijbaphfgeiaaDoorSl
namespace Go.Proofs.YtadijbaphfgeiaaDoor
open Go.RowKit

noncomputable def smallB (a b p : Int) : Bool := curveB a b && (goodB a b p && decide (p ≤ 199))
theorem small_bd {a b p : Int} (h : smallB a b p = true) : curveB a b = true ∧ goodB a b p = true ∧ 5 ≤ p ∧ p ≤ 199 := by
  unfold smallB at h
  simp only [Bool.and_eq_true, decide_eq_true_eq] at h
  obtain ⟨h1, h2, h3⟩ := h
  have hg := h2
  unfold goodB at h2
  rw [Bool.and_eq_true] at h2
  exact ⟨h1, hg, (p5_bd h2.1).1, h3⟩

/-- the residue of x^3 + A x + B. -/
def rsI (a b p x : Int) : Int := (x * x * x + a * x + b) % p
theorem rs_alt (a b p x : Int) : (x * x % p * x + a * x + b) % p = rsI a b p x := by
  unfold rsI
  have h := Int.mul_ediv_add_emod (x * x) p
  have h2 : x * x * x = p * (x * x / p * x) + x * x % p * x := by
    calc x * x * x = (p * (x * x / p) + x * x % p) * x := by rw [h]
      _ = p * (x * x / p * x) + x * x % p * x := by rw [Int.add_mul, Int.mul_assoc]
  rw [h2, show p * (x * x / p * x) + x * x % p * x + a * x + b = (x * x % p * x + a * x + b) + p * (x * x / p * x) by omega, Int.add_mul_emod_self_left]
theorem rs_bd {a b p x : Int} (hp : 1 ≤ p) : 0 ≤ rsI a b p x ∧ rsI a b p x < p := ⟨Int.emod_nonneg _ (by omega), Int.emod_lt_of_pos _ (by omega)⟩

/-- the lists that are points modulo a prime. -/
def onF (a b p : Int) (xs : List Int) : Bool :=
  match xs with
  | [] => true
  | [x, y] => decide (0 ≤ x ∧ x ≤ p - 1) && decide (0 ≤ y ∧ y ≤ p - 1) && (y * y % p == rsI a b p x)
  | _ => false
theorem below_alloc (w : World) (o : Obj) : Below w.heap.size w (w.alloc o) := (Below.refl _ _).alloc (Nat.le_refl _) o
end Go.Proofs.YtadijbaphfgeiaaDoor
