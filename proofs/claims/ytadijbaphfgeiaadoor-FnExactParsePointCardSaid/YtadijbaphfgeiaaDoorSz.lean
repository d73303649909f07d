/- Sz: plain: symbols of reductions as bytes; how often a prime divides. No conditions. -/
import Derived.Test.YtadijbaphfgeiaaDoorSy
import Derived.Test.YtadijbaphfgeiaaDoorKj
namespace Go.Proofs.YtadijbaphfgeiaaDoor
open Go.RowKit

theorem val_le {p : Int} (hp : 2 ≤ p) : ∀ (k : Nat) (a : Int), a ≠ 0 → a.natAbs < 2 ^ k → valP a p ≤ k
  | 0, a, ha, h => by omega
  | k + 1, a, ha, h => by
    by_cases hd : p ∣ a
    · obtain ⟨c, rfl⟩ := hd
      have hc : c ≠ 0 := fun e => ha (by rw [e, Int.mul_zero])
      rw [valP_mul_self hp hc]
      have h1 : c.natAbs < 2 ^ k := by
        rw [Int.natAbs_mul] at h
        have h2 : 2 * c.natAbs ≤ p.natAbs * c.natAbs := Nat.mul_le_mul_right _ (by omega)
        rw [Nat.pow_succ] at h
        omega
      have := val_le hp k c hc h1
      push_cast
      omega
    · rw [valP_not hd]
      omega
theorem val_disc {D p : Int} (hp : 2 ≤ p) (hD : D ≠ 0) (h1 : -6700000000 ≤ D) (h2 : D ≤ 6700000000) : valP D p ≤ 33 :=
  val_le hp 33 D hD (by
    have : (2 : Nat) ^ 33 = 8589934592 := by decide
    omega)
theorem val_zero_not {c p : Int} (hp : 2 ≤ p) (hc : c ≠ 0) (h : valP c p = 0) : ¬ p ∣ c := by
  rintro ⟨e, rfl⟩
  have he : e ≠ 0 := fun k => hc (by rw [k, Int.mul_zero])
  rw [valP_mul_self hp he] at h
  have := valP_nonneg e p
  omega
theorem val_up {a p k : Int} (hp : 2 ≤ p) (ha : a ≠ 0) (h : valP a p = k + 1) (hk : 0 ≤ k) : ∃ c, a = p * c ∧ c ≠ 0 ∧ valP c p = k := by
  by_cases hd : p ∣ a
  · obtain ⟨c, rfl⟩ := hd
    have hc : c ≠ 0 := fun e => ha (by rw [e, Int.mul_zero])
    rw [valP_mul_self hp hc] at h
    exact ⟨c, rfl, hc, by omega⟩
  · rw [valP_not hd] at h
    omega
theorem tmod_dvd {a m : Int} : a.tmod m = 0 ↔ m ∣ a := ⟨Int.dvd_of_tmod_eq_zero, Int.tmod_eq_zero_of_dvd⟩
theorem val2 {a p : Int} (hp : 2 ≤ p) : (a ≠ 0 ∧ valP a p = 2) ↔ (a.tmod (p * p) = 0 ∧ a.tmod (p * p * p) ≠ 0) := by
  rw [tmod_dvd, Ne, Ne, tmod_dvd]
  constructor
  · rintro ⟨ha, h⟩
    obtain ⟨c, rfl, hc, h1⟩ := val_up (k := 1) hp ha h (by omega)
    obtain ⟨e, rfl, he, h2⟩ := val_up (k := 0) hp hc h1 (by omega)
    refine ⟨⟨e, by rw [Int.mul_assoc]⟩, ?_⟩
    rintro ⟨f, hf⟩
    refine val_zero_not hp he h2 ⟨f, ?_⟩
    have h3 : (p * p) * e = (p * p) * (p * f) := by rw [← Int.mul_assoc (p * p), ← hf, Int.mul_assoc]
    exact Int.eq_of_mul_eq_mul_left (Int.mul_ne_zero (by omega) (by omega)) h3
  · rintro ⟨⟨e, rfl⟩, h⟩
    have he : e ≠ 0 := fun k => h ⟨0, by rw [k]; simp⟩
    have hd : ¬ p ∣ e := fun ⟨f, hf⟩ => h ⟨f, by rw [hf, ← Int.mul_assoc]⟩
    refine ⟨Int.mul_ne_zero (Int.mul_ne_zero (by omega) (by omega)) he, ?_⟩
    rw [Int.mul_assoc, valP_mul_self hp (Int.mul_ne_zero (by omega) he), valP_mul_self hp he, valP_not hd]
    rfl
theorem val3 {a p : Int} (hp : 2 ≤ p) : (a ≠ 0 ∧ valP a p = 3) ↔ (a.tmod (p * p * p) = 0 ∧ a.tmod (p * p * p * p) ≠ 0) := by
  rw [tmod_dvd, Ne, Ne, tmod_dvd]
  constructor
  · rintro ⟨ha, h⟩
    obtain ⟨c, rfl, hc, h1⟩ := val_up (k := 2) hp ha h (by omega)
    obtain ⟨e, rfl, he, h2⟩ := val_up (k := 1) hp hc h1 (by omega)
    obtain ⟨g, rfl, hg, h3⟩ := val_up (k := 0) hp he h2 (by omega)
    refine ⟨⟨g, by rw [Int.mul_assoc, Int.mul_assoc]⟩, ?_⟩
    rintro ⟨f, hf⟩
    refine val_zero_not hp hg h3 ⟨f, ?_⟩
    have h4 : (p * p * p) * g = (p * p * p) * (p * f) := by rw [← Int.mul_assoc (p * p * p), ← hf, Int.mul_assoc, Int.mul_assoc]
    exact Int.eq_of_mul_eq_mul_left (Int.mul_ne_zero (Int.mul_ne_zero (by omega) (by omega)) (by omega)) h4
  · rintro ⟨⟨e, rfl⟩, h⟩
    have he : e ≠ 0 := fun k => h ⟨0, by rw [k]; simp⟩
    have hd : ¬ p ∣ e := fun ⟨f, hf⟩ => h ⟨f, by rw [hf, ← Int.mul_assoc]⟩
    refine ⟨Int.mul_ne_zero (Int.mul_ne_zero (Int.mul_ne_zero (by omega) (by omega)) (by omega)) he, ?_⟩
    rw [Int.mul_assoc, Int.mul_assoc, valP_mul_self hp (Int.mul_ne_zero (by omega) (Int.mul_ne_zero (by omega) he)), valP_mul_self hp (Int.mul_ne_zero (by omega) he), valP_mul_self hp he, valP_not hd]
    rfl
/-- the symbol of an additive kind without a star of its own. -/
def addS (n : Nat) : ByteArray := if n = 2 then ⟨#[73, 73]⟩ else if n = 3 then ⟨#[73, 73, 73]⟩ else if n = 4 then ⟨#[73, 86]⟩ else if n = 6 then ⟨#[73, 48, 42]⟩ else if n = 8 then ⟨#[73, 86, 42]⟩ else if n = 9 then ⟨#[73, 73, 73, 42]⟩ else ⟨#[73, 73, 42]⟩
/-- is it a star with a number? -/
def starB (A B p : Int) (n : Nat) : Bool := decide ((A ≠ 0 ∧ valP A p = 2) ∧ (B ≠ 0 ∧ valP B p = 3) ∧ 6 < n)
def symS (A B p : Int) (k n : Nat) : ByteArray := if k = 1 then (if starB A B p n = true then ⟨#[73]⟩ ++ numS (n - 6) ++ ⟨#[42]⟩ else addS n) else ⟨#[73]⟩ ++ numS n
end Go.Proofs.YtadijbaphfgeiaaDoor
