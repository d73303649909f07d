/- Yp: plain laws of limbs: the reference's ways to add, to multiply, to divide and to compare. No conditions. -/
import Derived.Test.YtakilincclnpdaaGreatDoorWdy
import Derived.Test.YtakilincclnpdaaGreatDoorWmy
namespace Go.Proofs.YtakilincclnpdaaGreatDoor

theorem getD_set_eq {xs : List Int} {i j : Nat} {v : Int} (h : i < xs.length) : (xs.set i v).getD j 0 = if i = j then v else xs.getD j 0 := by
  simp only [List.getD_eq_getElem?_getD, List.getElem?_set]
  by_cases e : i = j
  · subst e; simp [h]
  · simp [e]
theorem getD_over {xs : List Int} {i : Nat} (h : xs.length ≤ i) : xs.getD i 0 = 0 := by
  rw [List.getD_eq_getElem?_getD, List.getElem?_eq_none h]; rfl
/-- sums so far. -/
def CombSt (xs ys : List Int) (sg : Int) (i : Nat) (c : Int) (out : List Int) : Prop :=
  out.length = i ∧ Dig out ∧ val out + c * 10000 ^ i = val (xs.take i) + sg * val (ys.take i)
theorem CombSt.start (xs ys : List Int) (sg : Int) : CombSt xs ys sg 0 0 [] := ⟨rfl, fun _ h => (by cases h), by simp [val]⟩
theorem CombSt.step {xs ys out : List Int} {sg c c' r : Int} {i : Nat} (h : CombSt xs ys sg i c out) (hr : r + c' * 10000 = c + xs.getD i 0 + sg * ys.getD i 0) (r0 : 0 ≤ r) (r1 : r ≤ 9999) : CombSt xs ys sg (i + 1) c' (out ++ [r]) := by
  obtain ⟨h1, h2, h3⟩ := h
  refine ⟨by rw [List.length_append, h1]; rfl, fun x hx => ?_, ?_⟩
  · rcases List.mem_append.1 hx with hx | hx
    · exact h2 x hx
    · rw [List.mem_singleton.1 hx]; exact ⟨r0, r1⟩
  · rw [val_append, val_take_succ', val_take_succ', h1, Int.pow_succ]
    have e1 : val [r] = r := by simp [val]
    rw [e1]
    generalize (10000 : Int) ^ i = p at *
    generalize val (xs.take i) = A at *
    generalize val (ys.take i) = B at *
    generalize xs.getD i 0 = x at *
    generalize ys.getD i 0 = y at *
    generalize val out = V at *
    clear h1 h2 e1
    have e2 : r = c + x + sg * y - c' * 10000 := by omega
    subst e2
    clear hr r0 r1
    have e3 : V = A + sg * B - c * p := by omega
    subst e3
    clear h3
    grind
theorem CombSt.finish {xs ys out : List Int} {sg : Int} {i : Nat} (h : CombSt xs ys sg i 0 out) (hx : xs.length ≤ i) (hy : ys.length ≤ i) : val out = val xs + sg * val ys := by
  have := h.2.2
  rw [List.take_of_length_le hx, List.take_of_length_le hy, Int.zero_mul, Int.add_zero] at this
  exact this
theorem CombSt.nonneg {xs ys out : List Int} {sg c : Int} {i : Nat} (h : CombSt xs ys sg i c out) (hx : xs.length ≤ i) (hy : ys.length ≤ i) (h0 : 0 ≤ val xs + sg * val ys) : 0 ≤ c := by
  obtain ⟨h1, h2, h3⟩ := h
  rw [List.take_of_length_le hx, List.take_of_length_le hy] at h3
  rw [← h3] at h0
  have hl := val_lt h2
  rw [h1] at hl
  rcases Int.lt_or_le c 0 with hc | hc
  · exfalso
    have hp : (0 : Int) < 10000 ^ i := by
      have := val_nonneg h2; omega
    generalize (10000 : Int) ^ i = p at *
    have : c * p ≤ (-1) * p := Int.mul_le_mul_of_nonneg_right (by omega) (by omega)
    omega
  · exact hc
/-- products so far, not yet carried. -/
def MSt (xs ys : List Int) (i : Nat) (S : List Int) : Prop :=
  S.length = xs.length + ys.length ∧ (∀ j, 0 ≤ S.getD j 0 ∧ S.getD j 0 ≤ (i : Int) * 99980001) ∧ val S = val (xs.take i) * val ys
def MIn (xs ys : List Int) (i k : Nat) (S : List Int) : Prop :=
  S.length = xs.length + ys.length ∧ (∀ j, 0 ≤ S.getD j 0 ∧ S.getD j 0 ≤ if j < i + k then ((i : Int) + 1) * 99980001 else (i : Int) * 99980001) ∧ val S = val (xs.take i) * val ys + xs.getD i 0 * val (ys.take k) * 10000 ^ i
theorem MSt.start (xs ys : List Int) : MSt xs ys 0 (List.replicate (xs.length + ys.length) 0) := by
  refine ⟨List.length_replicate, fun j => ?_, by rw [val_zeros]; simp [val]⟩
  rw [List.getD_eq_getElem?_getD, List.getElem?_replicate]
  split <;> simp
theorem MIn.start {xs ys S : List Int} {i : Nat} (h : MSt xs ys i S) : MIn xs ys i 0 S := by
  obtain ⟨h1, h2, h3⟩ := h
  refine ⟨h1, fun j => ⟨(h2 j).1, ?_⟩, by rw [h3]; simp [val]⟩
  have := (h2 j).2
  split <;> omega
theorem mul_99 {x y : Int} (hx : 0 ≤ x ∧ x ≤ 9999) (hy : 0 ≤ y ∧ y ≤ 9999) : 0 ≤ x * y ∧ x * y ≤ 99980001 := by
  constructor
  · exact Int.mul_nonneg hx.1 hy.1
  · have h1 : x * y ≤ 9999 * y := Int.mul_le_mul_of_nonneg_right hx.2 hy.1
    omega
theorem MIn.step {xs ys S : List Int} {i k : Nat} (h : MIn xs ys i k S) (hx : Dig xs) (hy : Dig ys) (hi : i < xs.length) (hk : k < ys.length) : MIn xs ys i (k + 1) (S.set (i + k) (S.getD (i + k) 0 + xs.getD i 0 * ys.getD k 0)) := by
  obtain ⟨h1, h2, h3⟩ := h
  have hl : i + k < S.length := by omega
  have hm := mul_99 (hx.at hi) (hy.at hk)
  refine ⟨by rw [List.length_set]; exact h1, fun j => ?_, ?_⟩
  · rw [getD_set_eq hl]
    have h4 := h2 j
    have h5 := h2 (i + k)
    rw [if_neg (Nat.lt_irrefl _)] at h5
    by_cases e : i + k = j
    · subst e
      rw [if_pos rfl, if_pos (by omega)]
      omega
    · rw [if_neg e]
      by_cases e2 : j < i + k
      · rw [if_pos e2] at h4
        rw [if_pos (by omega)]
        exact h4
      · rw [if_neg e2] at h4
        rw [if_neg (by omega)]
        exact h4
  · rw [val_set _ hl, h3, val_take_succ', Int.pow_add]
    generalize (10000 : Int) ^ i = p
    generalize (10000 : Int) ^ k = q
    generalize val (xs.take i) * val ys = A
    generalize val (ys.take k) = B
    generalize xs.getD i 0 = x
    generalize ys.getD k 0 = y
    generalize S.getD (i + k) 0 = s
    clear h1 h2 h3 hm hl
    grind
theorem MIn.finish {xs ys S : List Int} {i : Nat} (h : MIn xs ys i ys.length S) : MSt xs ys (i + 1) S := by
  obtain ⟨h1, h2, h3⟩ := h
  refine ⟨h1, fun j => ⟨(h2 j).1, ?_⟩, ?_⟩
  · have := (h2 j).2
    push_cast
    split at this <;> omega
  · rw [h3, List.take_length, val_take_succ']
    generalize (10000 : Int) ^ i = p
    generalize val (xs.take i) = A
    generalize val ys = B
    generalize xs.getD i 0 = x
    clear h1 h2 h3
    grind
/-- carried so far. -/
def CSt (S : List Int) (i : Nat) (c : Int) (out : List Int) : Prop :=
  out.length = S.length ∧ (∀ j, j < i → 0 ≤ out.getD j 0 ∧ out.getD j 0 ≤ 9999) ∧ (∀ j, i ≤ j → out.getD j 0 = S.getD j 0) ∧ 0 ≤ c ∧ c ≤ 1000000000000 ∧ val out + c * 10000 ^ i = val S
theorem CSt.start (S : List Int) : CSt S 0 0 S := ⟨rfl, fun _ h => (by omega), fun _ _ => rfl, by omega, by omega, by simp⟩
theorem CSt.step {S out : List Int} {i : Nat} {c : Int} (h : CSt S i c out) (hi : i < S.length) (hS : 0 ≤ S.getD i 0 ∧ S.getD i 0 ≤ 100000000000000) :
    CSt S (i + 1) ((out.getD i 0 + c) / 10000) (out.set i ((out.getD i 0 + c) % 10000)) := by
  obtain ⟨h1, h2, h3, h4, h5, h6⟩ := h
  have hl : i < out.length := by omega
  have ho := h3 i (Nat.le_refl _)
  rw [← ho] at hS
  refine ⟨by rw [List.length_set]; exact h1, fun j hj => ?_, fun j hj => ?_, by omega, by omega, ?_⟩
  · rw [getD_set_eq hl]
    by_cases e : i = j
    · rw [if_pos e]; omega
    · rw [if_neg e]; exact h2 j (by omega)
  · rw [getD_set_eq hl, if_neg (by omega)]
    exact h3 j (by omega)
  · rw [val_set _ hl, Int.pow_succ, ← h6]
    have e := emod_add (out.getD i 0 + c)
    generalize (out.getD i 0 + c) % 10000 = r at *
    generalize (out.getD i 0 + c) / 10000 = d at *
    generalize (10000 : Int) ^ i = p
    generalize out.getD i 0 = o at *
    generalize val out = V
    clear h1 h2 h3 h4 h5 h6 hl ho hS
    have e2 : r = o + c - d * 10000 := by omega
    subst e2
    clear e
    grind
theorem CSt.finish {S out : List Int} {c : Int} (h : CSt S S.length c out) (h0 : 0 ≤ val S) (h1 : val S < 10000 ^ S.length) : Dig out ∧ val out = val S := by
  obtain ⟨k1, k2, k3, k4, k5, k6⟩ := h
  have hd : Dig out := fun x hx => by
    obtain ⟨j, hj, rfl⟩ := List.getElem_of_mem hx
    have := k2 j (by omega)
    rwa [List.getD_eq_getElem?_getD, List.getElem?_eq_getElem hj] at this
  exact ⟨hd, (carry_zero hd k1 k6 h0 h1).2⟩
/-- divided so far, from the top. -/
def DSt (xs : List Int) (n : Int) (i : Nat) (rest : Int) (out : List Int) : Prop :=
  out.length = xs.length ∧ 0 ≤ rest ∧ rest < n ∧ Dig out ∧ (∀ j, j < i → out.getD j 0 = 0) ∧ val out * n + rest * 10000 ^ i + val (xs.take i) = val xs
theorem DSt.start (xs : List Int) {n : Int} (hn : 1 ≤ n) : DSt xs n xs.length 0 (List.replicate xs.length 0) := by
  refine ⟨List.length_replicate, by omega, by omega, Dig.zeros _, fun j _ => ?_, by rw [val_zeros, List.take_length]; simp⟩
  rw [List.getD_eq_getElem?_getD, List.getElem?_replicate]
  split <;> simp
theorem DSt.step {xs out : List Int} {n rest : Int} {i : Nat} (h : DSt xs n (i + 1) rest out) (hx : Dig xs) (hi : i < xs.length) (hn : 1 ≤ n) :
    0 ≤ (rest * 10000 + xs.getD i 0) / n ∧ (rest * 10000 + xs.getD i 0) / n ≤ 9999 ∧ DSt xs n i ((rest * 10000 + xs.getD i 0) % n) (out.set i ((rest * 10000 + xs.getD i 0) / n)) := by
  obtain ⟨h1, h2, h3, h4, h5, h6⟩ := h
  have hl : i < out.length := by omega
  have hxi := hx.at hi
  have hq0 : 0 ≤ (rest * 10000 + xs.getD i 0) / n := Int.ediv_nonneg (by omega) (by omega)
  have hq1 : (rest * 10000 + xs.getD i 0) / n < 10000 := Int.ediv_lt_of_lt_mul (by omega) (by omega)
  have hr0 := Int.emod_nonneg (rest * 10000 + xs.getD i 0) (b := n) (by omega)
  have hr1 := Int.emod_lt_of_pos (rest * 10000 + xs.getD i 0) (b := n) (by omega)
  refine ⟨hq0, by omega, by rw [List.length_set]; exact h1, hr0, hr1, h4.set i hq0 (by omega), fun j hj => ?_, ?_⟩
  · rw [getD_set_eq hl, if_neg (by omega)]
    exact h5 j (by omega)
  · rw [val_set _ hl, h5 i (by omega)]
    rw [val_take_succ', Int.pow_succ] at h6
    have e := Int.mul_ediv_add_emod (rest * 10000 + xs.getD i 0) n
    generalize (rest * 10000 + xs.getD i 0) / n = q at *
    generalize (rest * 10000 + xs.getD i 0) % n = r at *
    generalize (10000 : Int) ^ i = p at *
    generalize xs.getD i 0 = x at *
    generalize val (xs.take i) = A at *
    generalize val out = V at *
    rw [← h6]
    have e2 : x = n * q + r - rest * 10000 := by omega
    subst e2
    clear h1 h2 h3 h4 h5 h6 hl hxi hq0 hq1 hr0 hr1 e
    grind
theorem DSt.finish {xs out : List Int} {n rest : Int} (h : DSt xs n 0 rest out) (hn : 1 ≤ n) : Dig out ∧ val out = val xs / n ∧ rest = val xs % n := by
  obtain ⟨h1, h2, h3, h4, h5, h6⟩ := h
  have e : val xs = rest + n * val out := by
    have : val (xs.take 0) = 0 := rfl
    rw [← h6, this, Int.mul_comm n]
    simp; omega
  refine ⟨h4, ?_, ?_⟩
  · rw [e, Int.add_mul_ediv_left _ _ (by omega), Int.ediv_eq_zero_of_lt h2 h3]; omega
  · rw [e, Int.add_mul_emod_self_left, Int.emod_eq_of_lt h2 h3]
theorem val_drop (xs : List Int) (i : Nat) : val xs = val (xs.take i) + 10000 ^ i * val (xs.drop i) := by
  by_cases h : i ≤ xs.length
  · have := val_append (xs.take i) (xs.drop i)
    rw [List.take_append_drop, List.length_take, Nat.min_eq_left h] at this
    exact this
  · rw [List.take_of_length_le (by omega), List.drop_of_length_le (by omega)]
    simp [val]
theorem val_congr : ∀ (xs ys : List Int), (∀ j, xs.getD j 0 = ys.getD j 0) → val xs = val ys
  | [], [], _ => rfl
  | [], y :: ys, h => by
    have h0 := h 0
    have h1 := val_congr [] ys (fun j => h (j + 1))
    have e0 : y = 0 := by simpa using h0.symm
    have e1 : val ys = 0 := h1.symm
    show (0 : Int) = y + 10000 * val ys
    omega
  | x :: xs, [], h => by
    have h0 := h 0
    have h1 := val_congr xs [] (fun j => h (j + 1))
    have e0 : x = 0 := by simpa using h0
    have e1 : val xs = 0 := h1
    show x + 10000 * val xs = (0 : Int)
    omega
  | x :: xs, y :: ys, h => by
    have h0 := h 0
    have h1 := val_congr xs ys (fun j => h (j + 1))
    simp at h0
    rw [val, val, h1, h0]
/-- the order is that of the highest limbs that differ. -/
theorem val_order {xs ys : List Int} {i : Nat} (hx : Dig xs) (hy : Dig ys) (h : ∀ j, i < j → xs.getD j 0 = ys.getD j 0) (hlt : xs.getD i 0 < ys.getD i 0) : val xs < val ys := by
  rw [val_drop xs (i + 1), val_drop ys (i + 1), val_take_succ', val_take_succ']
  have e : val (xs.drop (i + 1)) = val (ys.drop (i + 1)) := val_congr _ _ fun j => by
    have := h (i + 1 + j) (by omega)
    rw [List.getD_eq_getElem?_getD, List.getD_eq_getElem?_getD, List.getElem?_drop, List.getElem?_drop, ← List.getD_eq_getElem?_getD, ← List.getD_eq_getElem?_getD]
    exact this
  rw [e]
  have h1 := val_lt (hx.take i)
  have h2 := val_nonneg (hy.take i)
  have h3 : (10000 : Int) ^ (xs.take i).length ≤ 10000 ^ i := by
    have : (10000 : Nat) ^ (xs.take i).length ≤ 10000 ^ i := Nat.pow_le_pow_right (by decide) (by rw [List.length_take]; omega)
    have e1 := Int.natCast_pow 10000 (xs.take i).length
    have e2 := Int.natCast_pow 10000 i
    have e3 : ((10000 : Nat) : Int) = 10000 := rfl
    rw [e3] at e1 e2
    rw [← e1, ← e2]
    exact Int.ofNat_le.2 this
  generalize (10000 : Int) ^ (xs.take i).length = P at *
  generalize (10000 : Int) ^ i = p at *
  generalize xs.getD i 0 = x at *
  generalize ys.getD i 0 = y at *
  have h4 : (x + 1) * p ≤ y * p := Int.mul_le_mul_of_nonneg_right (by omega) (by have := val_nonneg (hx.take i); omega)
  rw [Int.add_mul] at h4
  omega
end Go.Proofs.YtakilincclnpdaaGreatDoor
