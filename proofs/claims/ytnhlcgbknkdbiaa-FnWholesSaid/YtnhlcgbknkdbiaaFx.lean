/- Fx: contracts: factoring into pairs (mdFactors), squarefree parts. No conditions. -/
import Derived.Test.YtnhlcgbknkdbiaaFac
import Derived.Test.YtnhlcgbknkdbiaaSs
namespace Go.Proofs.Ytnhlcgbknkdbiaa
open Go.RowKit

/-- each prime that divides N, and how often. -/
noncomputable def facL (N : Int) : List (List Int) := (primesL N).map fun q => [q, valP N q]
theorem valF_le : ∀ (f : Nat) (a p : Int), valF f a p ≤ f
  | 0, _, _ => by unfold valF; omega
  | f + 1, a, p => by
    unfold valF; split
    · have := valF_le f (a.tdiv p) p; omega
    · omega
theorem valP_le (a p : Int) : valP a p ≤ a.natAbs := valF_le _ _ _
theorem FacInv.val {N n p p' : Int} {l : List Int} (h : FacInv N n p l) (hp : Pr p') (hle : p ≤ p') : valP n p' = valP N p' := by
  obtain ⟨h1, h2, h3, h4, h5, h6, h7, m, h8, h9⟩ := h
  rw [h8, valP_coprime hp (h9 p' hp hle) n.natAbs n (Nat.le_refl _) (by omega)]
theorem valP_self {n : Int} (hn : 2 ≤ n) : valP n n = 1 := by
  have := valP_mul_self (p := n) (c := 1) hn (by omega)
  rw [Int.mul_one] at this
  rw [this, valP_not (fun h => by have := Int.le_of_dvd (by omega) h; omega)]
  rfl
theorem valP_emod {a p : Int} (hp : 2 ≤ p) (ha : 1 ≤ a) (h : 0 < valP a p) : a % p = 0 ∧ valP (a / p) p = valP a p - 1 := by
  by_cases hm : a.tmod p = 0
  · have h2 := valP_pos hp (by omega) hm
    rw [Int.tdiv_eq_ediv_of_nonneg (by omega)] at h2
    exact ⟨tmod_zero_iff.1 hm, by omega⟩
  · rw [valP_zero hm] at h; omega
theorem valP_iff {a p : Int} (hp : 2 ≤ p) (ha : 1 ≤ a) : valP a p = 0 ↔ a % p ≠ 0 := by
  constructor
  · intro h hm
    have := valP_pos hp (by omega) (tmod_zero_iff.2 hm)
    have := valP_nonneg (a.tdiv p) p
    omega
  · intro h; exact valP_zero (fun k => h (tmod_zero_iff.1 k))


/-! ### squarefree parts -/
/-- the product of those primes of a list that divide N an odd number of times, as the program's numbers multiply. -/
def clsF (N : Int) : List Int → Int → Int
  | [], a => a
  | q :: r, a => clsF N r (if valP N q % 2 = 1 then wrap64 (a * q) else a)
noncomputable def classI (n : Int) : Int := clsF n (primesL (n.natAbs : Int)) n.sign
theorem clsF_natAbs (n : Int) : ∀ (l : List Int) (a : Int), clsF (n.natAbs : Int) l a = clsF n l a
  | [], _ => rfl
  | q :: r, a => by unfold clsF; rw [valP_natAbs, clsF_natAbs n r]
theorem clsF_drop (N : Int) {l : List Int} {k : Nat} (hk : k < l.length) (a : Int) : clsF N (l.drop k) a = clsF N (l.drop (k + 1)) (if valP N (l.getD k 0) % 2 = 1 then wrap64 (a * l.getD k 0) else a) := by
  rw [List.drop_eq_getElem_cons hk]
  conv => lhs; unfold clsF
  simp [List.getD_eq_getElem?_getD, List.getElem?_eq_getElem hk]
theorem primesL_mem {N : Int} (hN : 1 ≤ N) {k : Nat} (hk : k < (primesL N).length) : 2 ≤ (primesL N).getD k 0 ∧ (primesL N).getD k 0 ≤ N ∧ Pr ((primesL N).getD k 0) := by
  have hm : (primesL N).getD k 0 ∈ primesL N := by
    rw [List.getD_eq_getElem?_getD, List.getElem?_eq_getElem hk]; exact List.getElem_mem hk
  obtain ⟨h1, h2⟩ := ((primesL_spec (by omega)).2 _).1 hm
  exact ⟨h1.1, Int.le_of_dvd (by omega) h2, h1⟩
theorem primesL_len {N : Int} (hN : 1 ≤ N) : ((primesL N).length : Int) ≤ N := by
  rcases inc_length (primesL N) 2 (N + 1) (primesL_spec (by omega)).1 (fun q hq => by
    obtain ⟨h1, h2⟩ := ((primesL_spec (by omega)).2 q).1 hq
    exact ⟨h1.1, by have := Int.le_of_dvd (by omega) h2; omega⟩) with k | k
  · omega
  · rw [k]; simp; omega
/-- a number whose class is asked. -/
def smallN (n : Int) : Bool := decide (-1000000000 ≤ n ∧ n ≤ 1000000000 ∧ n ≠ 0)
theorem smallN_true {n : Int} : smallN n = true ↔ (-1000000000 ≤ n ∧ n ≤ 1000000000 ∧ n ≠ 0) := by simp [smallN]
theorem smallN_false {n : Int} : smallN n = false ↔ ¬ (-1000000000 ≤ n ∧ n ≤ 1000000000 ∧ n ≠ 0) := by simp only [smallN, decide_eq_false_iff_not]
end Go.Proofs.Ytnhlcgbknkdbiaa
