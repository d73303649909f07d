/- Red: contracts: good primes, minimal models, valuations. No conditions. -/
import Derived.Test.YtadijbaphfgeiaaDoorPri
namespace Go.Proofs.YtadijbaphfgeiaaDoor
open Go.RowKit

noncomputable def p5B (p : Int) : Bool := inB p 5 997 && primeB p
noncomputable def goodB (a b p : Int) : Bool := p5B p && (discI a b % p != 0)
theorem p5_bd {p : Int} (h : p5B p = true) : 5 ≤ p ∧ p ≤ 997 := by
  unfold p5B at h; rw [Bool.and_eq_true] at h; exact inB_true.1 h.1
theorem p5_alt (p : Int) : ((inB p 2 997 && primeB p) && decide (5 ≤ p)) = p5B p := by
  rw [Bool.eq_iff_iff]; simp only [p5B, Bool.and_eq_true, inB_true, decide_eq_true_eq]
  constructor
  · rintro ⟨⟨⟨h1, h2⟩, h3⟩, h4⟩; exact ⟨⟨h4, h2⟩, h3⟩
  · rintro ⟨⟨h1, h2⟩, h3⟩; exact ⟨⟨⟨by omega, h2⟩, h3⟩, h1⟩


/-! ### IsGoodPrime -/

/-! ### valuations -/
/-- how often p divides a, by fuel. -/
def valF : Nat → Int → Int → Int
  | 0, _, _ => 0
  | f + 1, a, p => if a.tmod p = 0 then valF f (a.tdiv p) p + 1 else 0
def valP (a p : Int) : Int := valF a.natAbs a p
theorem natAbs_tdiv_lt {u p : Int} (hu : u ≠ 0) (hp : 2 ≤ p) : (u.tdiv p).natAbs < u.natAbs := by
  rw [Int.natAbs_tdiv]
  exact Nat.div_lt_self (by omega) (by omega)
theorem tdiv_ne_zero {u p : Int} (hu : u ≠ 0) (hm : u.tmod p = 0) : u.tdiv p ≠ 0 := by
  intro h
  have := Int.mul_tdiv_add_tmod u p
  rw [h, hm] at this
  simp at this
  exact hu this.symm

end Go.Proofs.YtadijbaphfgeiaaDoor
