/- Ad: contracts: copies of a list, the sum of two points modulo a prime. No conditions. -/
import Derived.Test.YtpjcfnjagknocaaDoorOp
import Derived.Test.YtpjcfnjagknocaaDoorPw
import Derived.Test.YtpjcfnjagknocaaDoorFm
import Derived.Test.YtpjcfnjagknocaaDoorOe
import Derived.Laws.AppendOwnNone
namespace Go.Proofs.YtpjcfnjagknocaaDoor
open Go.RowKit

/-- no row without cells claims room. -/
def NilZ (v : Value) : Prop := ∀ n c, v = .slice none n c → c = 0
theorem Own.nilz {w : World} {B : Nat} {v : Value} {xs : List Int} (h : Own w B v xs) : NilZ v := by
  rcases h.shape with ⟨rfl, _⟩ | ⟨g, cap, rfl, _⟩
  · intro n c h; cases h; rfl
  · intro n c h; cases h

theorem wrapb {u : Int} (h0 : -4000000000000000000 ≤ u) (h1 : u ≤ 4000000000000000000) : IntKind.i64.wrap u = u := by
  simp only [IntKind.wrap, IntKind.bits, IntKind.signed]
  simp
  omega
theorem pr_odd {p : Int} (hp : Pr p) (h5 : 5 ≤ p) : p % 2 = 1 := by
  have := hp.2 2 (by omega) (by omega)
  omega
/-- the slope's numerator and denominator, for a chord and for a tangent. -/
def numI (a s0 s1 t0 t1 : Int) : Int := if s0 = t0 then 3 * s0 * s0 + a else t1 - s1
def denI (s0 s1 t0 : Int) : Int := if s0 = t0 then 2 * s1 else t0 - s0
def slopeI (a p s0 s1 t0 t1 : Int) : Int := numI a s0 s1 t0 t1 % p * powI (denI s0 s1 t0) (p - 2) p % p
def sumX (m p s0 t0 : Int) : Int := (m * m - s0 - t0) % p
def sumY (m p s0 s1 x : Int) : Int := (m * (s0 - x) - s1) % p
/-- the sum. -/
def addI (a p : Int) : List Int → List Int → List Int
  | [], t => t
  | s, [] => s
  | [s0, s1], [t0, t1] => if s0 = t0 ∧ (s1 + t1) % p = 0 then [] else
      [sumX (slopeI a p s0 s1 t0 t1) p s0 t0, sumY (slopeI a p s0 s1 t0 t1) p s0 s1 (sumX (slopeI a p s0 s1 t0 t1) p s0 t0)]
  | _, _ => []
theorem addI_nil (a p : Int) (t : List Int) : addI a p [] t = t := by simp [addI]
theorem addI_nil' (a p : Int) (s : List Int) : addI a p s [] = s := by cases s <;> simp [addI]
theorem sum_zero {p s1 t1 : Int} (hp : Pr p) (h5 : 5 ≤ p) (s0 : 0 ≤ s1) (s2 : s1 < p) (t0 : 0 ≤ t1) (t2 : t1 < p) (h : s1 * s1 % p = t1 * t1 % p) : (s1 + t1) % p = 0 ∨ (t1 = s1 ∧ s1 ≠ 0) := by
  have hd : p ∣ (s1 - t1) * (s1 + t1) := by
    have h2 : p ∣ s1 * s1 - t1 * t1 := Int.dvd_of_emod_eq_zero (by rw [Int.sub_emod, h, Int.sub_self, Int.zero_emod])
    have e : (s1 - t1) * (s1 + t1) = s1 * s1 - t1 * t1 := by grind
    rw [e]; exact h2
  rcases pr_dvd_mul hp hd with k | k
  · obtain ⟨c, hc⟩ := k
    have hc0 : c = 0 := by
      rcases Int.lt_trichotomy c 0 with g | g | g
      · have : p * c ≤ p * (-1) := Int.mul_le_mul_of_nonneg_left (by omega) (by omega)
        omega
      · exact g
      · have : p * 1 ≤ p * c := Int.mul_le_mul_of_nonneg_left (by omega) (by omega)
        omega
    subst hc0
    by_cases hz : s1 = 0
    · left
      rw [show s1 + t1 = 0 by omega]
      exact Int.zero_emod p
    · right; omega
  · left; exact Int.emod_eq_zero_of_dvd k
theorem sum_zero' {p s1 t1 : Int} (hp : Pr p) (h5 : 5 ≤ p) (s0 : 0 ≤ s1) (s2 : s1 < p) (h : (s1 + t1) % p = 0) : s1 ≠ t1 ∨ s1 = 0 := by
  by_cases he : s1 = t1
  · right
    subst he
    have ho := pr_odd hp h5
    obtain ⟨c, hc⟩ := Int.dvd_of_emod_eq_zero h
    rcases Int.lt_trichotomy c 1 with g | g | g
    · have : p * c ≤ p * 0 := Int.mul_le_mul_of_nonneg_left (by omega) (by omega)
      omega
    · subst g; omega
    · have : p * 2 ≤ p * c := Int.mul_le_mul_of_nonneg_left (by omega) (by omega)
      omega
  · exact .inl he
end Go.Proofs.YtpjcfnjagknocaaDoor
