/- Cq: plain: the whole roots of a cubic x^3 + a x + b: three at most; three of them have the sum 0 and make the discriminant positive; none lies beyond 100. No conditions. -/
import Derived.Test.YtpjcfnjagknocaaGreatDoorPlain
import Derived.Test.YtpjcfnjagknocaaGreatDoorFm
namespace Go.Proofs.YtpjcfnjagknocaaGreatDoor
open Go.RowKit

def cubV (a b x : Int) : Int := x * x * x + a * x + b
/-- the roots among the n numbers from lo on. -/
def rts (a b lo : Int) (n : Nat) : List Int := ((List.range n).map fun i : Nat => lo + (i : Int)).filter fun x => decide (cubV a b x = 0)
theorem rts_succ (a b lo : Int) (n : Nat) : rts a b lo (n + 1) = if cubV a b (lo + n) = 0 then rts a b lo n ++ [lo + n] else rts a b lo n := by
  unfold rts
  rw [List.range_succ, List.map_append, List.filter_append]
  by_cases h : cubV a b (lo + n) = 0
  · simp [h]
  · simp [h]
theorem rts_mem {a b lo : Int} {n : Nat} {x : Int} : x ∈ rts a b lo n ↔ (lo ≤ x ∧ x < lo + n) ∧ cubV a b x = 0 := by
  unfold rts
  rw [List.mem_filter, List.mem_map, decide_eq_true_eq]
  refine and_congr_left fun _ => ⟨?_, fun h => ⟨(x - lo).toNat, List.mem_range.2 (by omega), by omega⟩⟩
  rintro ⟨i, hi, rfl⟩
  have := List.mem_range.1 hi
  omega
theorem rts_inc (a b lo : Int) (n : Nat) : Inc (rts a b lo n) := by
  unfold rts Inc
  refine List.Pairwise.filter _ ?_
  rw [List.pairwise_map]
  exact List.pairwise_lt_range.imp fun h => by omega
theorem cub_far {a b x : Int} (h1 : -1000 ≤ a) (h2 : a ≤ 1000) (h3 : -10000 ≤ b) (h4 : b ≤ 10000) (h : cubV a b x = 0) : -100 ≤ x ∧ x ≤ 100 := by
  unfold cubV at h
  have e : x * (x * x + a) = -b := by grind
  constructor
  · rcases Int.lt_or_le x (-100) with g | g
    · have hx : 10201 ≤ x * x := by have := Int.mul_le_mul_of_nonneg_left (a := 101) (b := -x) (c := -x) (by omega) (by omega); have := Int.mul_le_mul_of_nonneg_left (a := 101) (b := -x) (c := 101) (by omega) (by omega); grind
      have := Int.mul_le_mul_of_nonneg_left (a := 9201) (b := x * x + a) (c := -x) (by omega) (by omega)
      grind
    · exact g
  · rcases Int.lt_or_le 100 x with g | g
    · have hx : 10201 ≤ x * x := by have := Int.mul_le_mul_of_nonneg_left (a := 101) (b := x) (c := x) (by omega) (by omega); have := Int.mul_le_mul_of_nonneg_left (a := 101) (b := x) (c := 101) (by omega) (by omega); grind
      have := Int.mul_le_mul_of_nonneg_left (a := 9201) (b := x * x + a) (c := x) (by omega) (by omega)
      grind
    · exact g
theorem rts_same {a b : Int} (h : curveB a b = true) : rts a b (-200) 401 = rts a b (-100) 201 := by
  obtain ⟨h1, h2, h3, h4, _⟩ := curveB_true.1 h
  refine inc_ext (rts_inc _ _ _ _) (rts_inc _ _ _ _) fun q => ?_
  rw [rts_mem, rts_mem]
  constructor
  · rintro ⟨_, hq⟩
    have := cub_far h1 h2 h3 h4 hq
    exact ⟨by omega, hq⟩
  · rintro ⟨g, hq⟩
    exact ⟨by omega, hq⟩
theorem two_roots {a b x y : Int} (hx : cubV a b x = 0) (hy : cubV a b y = 0) (h : x ≠ y) : x * x + x * y + y * y + a = 0 := by
  unfold cubV at hx hy
  have e : (x - y) * (x * x + x * y + y * y + a) = 0 := by grind
  rcases Int.mul_eq_zero.1 e with h1 | h1
  · omega
  · exact h1
theorem three_roots {a b x y z : Int} (hx : cubV a b x = 0) (hy : cubV a b y = 0) (hz : cubV a b z = 0) (h1 : x ≠ y) (h2 : x ≠ z) (h3 : y ≠ z) : x + y + z = 0 := by
  have e1 := two_roots hx hy h1
  have e2 := two_roots hx hz h2
  have e : (y - z) * (x + y + z) = 0 := by grind
  rcases Int.mul_eq_zero.1 e with h | h
  · omega
  · exact h
theorem three_disc {a b x y z : Int} (hx : cubV a b x = 0) (hy : cubV a b y = 0) (hz : cubV a b z = 0) (h1 : x ≠ y) (h2 : x ≠ z) (h3 : y ≠ z) : discI a b < 0 := by
  have e1 := two_roots hx hy h1
  have e3 := three_roots hx hy hz h1 h2 h3
  have ez : z = -x - y := by omega
  have ea : a = -(x * x + x * y + y * y) := by omega
  have eb : b = -(x * x * x) - a * x := by unfold cubV at hx; omega
  have e : discI a b = -(((x - y) * (2 * x + y) * (x + 2 * y)) * ((x - y) * (2 * x + y) * (x + 2 * y))) := by
    unfold discI
    subst eb
    subst ea
    grind
  have n1 : x - y ≠ 0 := by omega
  have n2 : 2 * x + y ≠ 0 := by omega
  have n3 : x + 2 * y ≠ 0 := by omega
  have n4 : (x - y) * (2 * x + y) * (x + 2 * y) ≠ 0 := Int.mul_ne_zero (Int.mul_ne_zero n1 n2) n3
  have n5 : 0 < (x - y) * (2 * x + y) * (x + 2 * y) * ((x - y) * (2 * x + y) * (x + 2 * y)) := by
    rcases Int.lt_or_lt_of_ne n4 with g | g
    · exact Int.mul_pos_of_neg_of_neg g g
    · exact Int.mul_pos g g
  omega
theorem rts_three (a b lo : Int) (n : Nat) : (rts a b lo n).length ≤ 3 ∧ ((rts a b lo n).length = 3 → (rts a b lo n).sum = 0 ∧ discI a b < 0) := by
  have hi := rts_inc a b lo n
  have hm : ∀ x ∈ rts a b lo n, cubV a b x = 0 := fun x hx => (rts_mem.1 hx).2
  generalize rts a b lo n = L at hi hm
  unfold Inc at hi
  rcases L with _ | ⟨x, _ | ⟨y, _ | ⟨z, _ | ⟨t, r⟩⟩⟩⟩
  · simp
  · simp
  · simp
  · simp only [List.pairwise_cons, List.mem_cons, List.not_mem_nil, or_false] at hi
    have h1 := hi.1 y (by simp); have h2 := hi.1 z (by simp); have h3 := hi.2.1 z rfl
    have hx := hm x (by simp); have hy := hm y (by simp); have hz := hm z (by simp)
    refine ⟨by simp, fun _ => ⟨?_, three_disc hx hy hz (by omega) (by omega) (by omega)⟩⟩
    have := three_roots hx hy hz (by omega) (by omega) (by omega)
    simp only [List.sum_cons, List.sum_nil]
    omega
  · exfalso
    simp only [List.pairwise_cons, List.mem_cons] at hi
    have h1 := hi.1 y (by simp); have h2 := hi.1 z (by simp); have h3 := hi.2.1 z (by simp); have h4 := hi.2.2.1 t (by simp); have h5 := hi.1 t (by simp); have h6 := hi.2.1 t (by simp)
    have hx := hm x (by simp); have hy := hm y (by simp); have hz := hm z (by simp); have ht := hm t (by simp)
    have e1 := three_roots hx hy hz (by omega) (by omega) (by omega)
    have e2 := three_roots hx hy ht (by omega) (by omega) (by omega)
    omega
theorem cubV_neg {a b x y : Int} : ((-y) * (-y) = cubV a b x) ↔ (y * y = cubV a b x) := by rw [Int.neg_mul_neg]
end Go.Proofs.YtpjcfnjagknocaaGreatDoor
