/- Zt: plain: the text of a whole: what it is, and that it is read back. No conditions. -/
import Derived.Test.YtakilincclnpdaaGreatDoorYay
import Derived.Lib.ItoaNum
import Derived.Lib.Strings
namespace Go.Proofs.YtakilincclnpdaaGreatDoor
open Go.RowKit

def pad4 (l : List UInt8) : List UInt8 := List.replicate (4 - l.length) 48 ++ l
def decL (x : Int) : List UInt8 := Lib.decDigits x.toNat
/-- the digits of limbs, the last limb first. -/
def ltxt : List Int → List UInt8
  | [] => []
  | [x] => decL x
  | x :: y :: r => ltxt (y :: r) ++ pad4 (decL x)
def isDg (b : UInt8) : Bool := decide (48 ≤ b.toNat) && decide (b.toNat ≤ 57)
/-- the number of some digits. -/
def numL (l : List UInt8) : Int := l.foldl (fun n b => 10 * n + ((b.toNat : Int) - 48)) 0
theorem numL_snoc (l : List UInt8) (b : UInt8) : numL (l ++ [b]) = 10 * numL l + ((b.toNat : Int) - 48) := by simp [numL, List.foldl_append]
theorem dg_nat {k : Nat} (h : k < 10) : (UInt8.ofNat (48 + k)).toNat = 48 + k := by
  rw [UInt8.toNat_ofNat']
  exact Nat.mod_eq_of_lt (by omega)
theorem dec_num (n : Nat) : numL (Lib.decDigits n) = n := by
  induction n using Nat.strongRecOn with
  | ind n ih =>
    rw [Lib.decDigits]
    by_cases h : n < 10
    · rw [dif_pos h]
      show 10 * (0 : Int) + (((UInt8.ofNat (48 + n)).toNat : Int) - 48) = n
      rw [dg_nat h]; omega
    · rw [dif_neg h, numL_snoc, ih (n / 10) (by omega), dg_nat (by omega)]; omega
theorem dec_dg (n : Nat) : ∀ b ∈ Lib.decDigits n, isDg b = true := by
  induction n using Nat.strongRecOn with
  | ind n ih =>
    intro b hb
    rw [Lib.decDigits] at hb
    by_cases h : n < 10
    · rw [dif_pos h, List.mem_singleton] at hb
      subst hb
      unfold isDg
      rw [dg_nat h, decide_eq_true (by omega), decide_eq_true (by omega)]; rfl
    · rw [dif_neg h, List.mem_append, List.mem_singleton] at hb
      rcases hb with hb | hb
      · exact ih (n / 10) (by omega) b hb
      · subst hb
        unfold isDg
        rw [dg_nat (by omega), decide_eq_true (by omega), decide_eq_true (by omega)]; rfl
theorem dec_len : ∀ (k n : Nat), n < 10 ^ (k + 1) → (Lib.decDigits n).length ≤ k + 1
  | 0, n, h => by rw [Lib.decDigits, dif_pos (by simpa using h)]; simp
  | k + 1, n, h => by
    rw [Lib.decDigits]
    by_cases h1 : n < 10
    · rw [dif_pos h1]; simp
    · rw [dif_neg h1, List.length_append]
      have := dec_len k (n / 10) (by rw [Nat.pow_succ] at h; omega)
      simp; omega
theorem dec_pos (n : Nat) : 0 < (Lib.decDigits n).length := by
  rw [Lib.decDigits]
  split <;> simp
theorem decL_len {x : Int} (h1 : x ≤ 9999) : (decL x).length ≤ 4 := dec_len 3 x.toNat (by omega)
theorem decL_num {x : Int} (h0 : 0 ≤ x) : numL (decL x) = x := by unfold decL; rw [dec_num]; omega
theorem numL_zeros : ∀ (k : Nat) (l : List UInt8), numL (List.replicate k 48 ++ l) = numL l
  | 0, l => rfl
  | k + 1, l => by
    rw [List.replicate_succ, List.cons_append]
    show List.foldl _ (10 * (0 : Int) + (((48 : UInt8).toNat : Int) - 48)) (List.replicate k 48 ++ l) = _
    rw [show (10 * (0 : Int) + (((48 : UInt8).toNat : Int) - 48)) = 0 from rfl]
    exact numL_zeros k l
theorem pad4_num (l : List UInt8) : numL (pad4 l) = numL l := numL_zeros _ _
theorem pad4_len {l : List UInt8} (h : l.length ≤ 4) : (pad4 l).length = 4 := by unfold pad4; rw [List.length_append, List.length_replicate]; omega
theorem pad4_dg {l : List UInt8} (h : ∀ b ∈ l, isDg b = true) : ∀ b ∈ pad4 l, isDg b = true := by
  intro b hb
  rcases List.mem_append.1 hb with hb | hb
  · rw [List.eq_of_mem_replicate hb]; rfl
  · exact h b hb
/-- the i-th four signs from the end. -/
def chunk (D : List UInt8) (i : Nat) : List UInt8 := (D.take (D.length - 4 * i)).drop (D.length - 4 * (i + 1))
theorem chunk_zero {E F : List UInt8} (h : F.length = 4) : chunk (E ++ F) 0 = F := by
  unfold chunk
  rw [Nat.mul_zero, Nat.sub_zero, List.take_length, List.length_append, h, show E.length + 4 - 4 * (0 + 1) = E.length by omega, List.drop_left]
theorem chunk_succ {E F : List UInt8} (h : F.length = 4) (i : Nat) : chunk (E ++ F) (i + 1) = chunk E i := by
  unfold chunk
  rw [List.length_append, h, show E.length + 4 - 4 * (i + 1) = E.length - 4 * i by omega, show E.length + 4 - 4 * (i + 1 + 1) = E.length - 4 * (i + 1) by omega,
    List.take_append_of_le_length (by omega)]
theorem chunk_top {D : List UInt8} (h : D.length ≤ 4) : chunk D 0 = D := by
  unfold chunk
  rw [Nat.mul_zero, Nat.sub_zero, List.take_length, show D.length - 4 * (0 + 1) = 0 by omega, List.drop_zero]
theorem chunk_mem {D : List UInt8} {i : Nat} {b : UInt8} (h : b ∈ chunk D i) : b ∈ D := List.mem_of_mem_take (List.mem_of_mem_drop h)
theorem ltxt_chunk : ∀ (xs : List Int), Dig xs → ∀ i, i < xs.length → numL (chunk (ltxt xs) i) = xs.getD i 0
  | [], _, i, h => by cases h
  | [x], hd, i, h => by
    have hx := hd x (by simp)
    obtain rfl : i = 0 := by simp at h; exact h
    rw [show ltxt [x] = decL x from rfl, chunk_top (decL_len hx.2), decL_num hx.1]; rfl
  | x :: y :: r, hd, i, h => by
    have hx := hd x (by simp)
    have hl := pad4_len (decL_len hx.2)
    rw [show ltxt (x :: y :: r) = ltxt (y :: r) ++ pad4 (decL x) from rfl]
    match i with
    | 0 => rw [chunk_zero hl, pad4_num, decL_num hx.1]; rfl
    | i + 1 =>
      rw [chunk_succ hl, ltxt_chunk (y :: r) hd.tail i (by simpa using h)]
      simp
theorem ltxt_len : ∀ (xs : List Int), Dig xs → xs ≠ [] → 4 * (xs.length - 1) < (ltxt xs).length ∧ (ltxt xs).length ≤ 4 * xs.length
  | [], _, h => absurd rfl h
  | [x], hd, _ => by
    have hx := hd x (by simp)
    have := decL_len hx.2
    have h2 := dec_pos x.toNat
    rw [show ltxt [x] = decL x from rfl]
    unfold decL at *
    simp; omega
  | x :: y :: r, hd, _ => by
    have hx := hd x (by simp)
    have hl := pad4_len (decL_len hx.2)
    have ih := ltxt_len (y :: r) hd.tail (by simp)
    rw [show ltxt (x :: y :: r) = ltxt (y :: r) ++ pad4 (decL x) from rfl, List.length_append, hl]
    simp only [List.length_cons] at ih ⊢
    omega
theorem ltxt_dg : ∀ (xs : List Int), ∀ b ∈ ltxt xs, isDg b = true
  | [], b, h => by cases h
  | [x], b, h => dec_dg _ b h
  | x :: y :: r, b, h => by
    rcases List.mem_append.1 h with h | h
    · exact ltxt_dg (y :: r) b h
    · exact pad4_dg (dec_dg _) b h
/-- the text of a sign and limbs. -/
def wtxtL (neg : Bool) (xs : List Int) : List UInt8 := if xs = [] then [48] else (if neg = true then 45 :: ltxt xs else ltxt xs)
def negL (s : List UInt8) : Bool := Lib.hasPrefix s [45]
def bodyL (s : List UInt8) : List UInt8 := Lib.trimPrefix s [45]
/-- how many limbs. -/
def cnL (D : List UInt8) : Nat := (D.length + 3) / 4
def plim (D : List UInt8) (k : Nat) : List Int := (List.range k).map fun i => numL (chunk D i)
theorem plim_succ (D : List UInt8) (k : Nat) : plim D (k + 1) = plim D k ++ [numL (chunk D k)] := by
  unfold plim
  rw [List.range_succ, List.map_append]; rfl
theorem plim_len (D : List UInt8) (k : Nat) : (plim D k).length = k := by simp [plim]
theorem plim_of {xs : List Int} (hd : Dig xs) (hx : xs ≠ []) : plim (ltxt xs) (cnL (ltxt xs)) = xs := by
  obtain ⟨h1, h2⟩ := ltxt_len xs hd hx
  have hl : 0 < xs.length := by
    have := mt List.length_eq_zero_iff.1 hx
    omega
  have e : cnL (ltxt xs) = xs.length := by unfold cnL; omega
  rw [e]
  apply List.ext_getElem
  · rw [plim_len]
  · intro i h3 h4
    have := ltxt_chunk xs hd i h4
    rw [List.getD_eq_getElem?_getD, List.getElem?_eq_getElem h4] at this
    simpa [plim] using this
/-- every sign that is read is a digit. -/
def allD (D : List UInt8) (k : Nat) : Bool := (List.range k).all fun i => (chunk D i).all isDg
theorem allD_succ (D : List UInt8) (k : Nat) : allD D (k + 1) = (allD D k && (chunk D k).all isDg) := by
  unfold allD
  rw [List.range_succ, List.all_append]; simp
theorem allD_of {D : List UInt8} (h : ∀ b ∈ D, isDg b = true) (k : Nat) : allD D k = true := by
  unfold allD
  rw [List.all_eq_true]
  intro i _
  rw [List.all_eq_true]
  exact fun b hb => h b (chunk_mem hb)
theorem allD_mono {D : List UInt8} {j k : Nat} (h : allD D j = false) (hk : j ≤ k) : allD D k = false := by
  refine Bool.eq_false_iff.2 fun e => ?_
  unfold allD at h e
  rw [List.all_eq_true] at e
  refine Bool.eq_false_iff.1 h (List.all_eq_true.2 fun i hi => e i ?_)
  rw [List.mem_range] at hi ⊢; omega
def limZ (L : List Int) : List Int := if L = [0] then [] else L
/-- whether a text is a whole's, and whose. -/
def readOk (s : List UInt8) : Bool := decide (1 ≤ (bodyL s).length) && decide ((bodyL s).length ≤ 1600) && allD (bodyL s) (cnL (bodyL s)) && goodW (negL s) (limZ (plim (bodyL s) (cnL (bodyL s)))) && decide (wtxtL (negL s) (limZ (plim (bodyL s) (cnL (bodyL s)))) = s)
def readZ (s : List UInt8) : Int := valW (negL s) (limZ (plim (bodyL s) (cnL (bodyL s))))
theorem hasP_dg {l : List UInt8} (h : ∀ b ∈ l, isDg b = true) : Lib.hasPrefix l [45] = false := by
  cases l with
  | nil => rfl
  | cons b r =>
    have hb := h b (by simp)
    unfold Lib.hasPrefix
    simp only [List.isPrefixOf, Bool.and_eq_false_iff]
    left
    rw [beq_eq_false_iff_ne]
    rintro rfl
    exact absurd hb (by decide)
theorem text_body (neg : Bool) {xs : List Int} (hx : xs = [] → neg = false) : negL (wtxtL neg xs) = neg ∧ bodyL (wtxtL neg xs) = if xs = [] then [48] else ltxt xs := by
  unfold negL bodyL Lib.trimPrefix
  by_cases h : xs = []
  · rw [hx h, h]
    exact ⟨rfl, rfl⟩
  · unfold wtxtL
    rw [if_neg h, if_neg h]
    cases neg
    · rw [if_neg (by decide), hasP_dg (ltxt_dg xs)]
      exact ⟨rfl, rfl⟩
    · rw [if_pos rfl]
      have e : Lib.hasPrefix (45 :: ltxt xs) [45] = true := by simp [Lib.hasPrefix, List.isPrefixOf]
      rw [e]
      exact ⟨rfl, rfl⟩
/-- the text of a valid whole is read back. -/
theorem read_of {neg : Bool} {xs : List Int} (h : goodW neg xs = true) : readOk (wtxtL neg xs) = true ∧ readZ (wtxtL neg xs) = valW neg xs := by
  obtain ⟨h1, h2, h3, h4⟩ := goodW_true.1 h
  obtain ⟨e1, e2⟩ := text_body neg h3
  by_cases hx : xs = []
  · rw [if_pos hx] at e2
    have hn := h3 hx
    subst hx
    subst hn
    unfold readOk readZ
    rw [e1, e2]
    exact ⟨by decide, by decide⟩
  · rw [if_neg hx] at e2
    have hz : limZ xs = xs := by
      unfold limZ
      rw [if_neg]
      rintro rfl
      rcases h4 with h4 | h4
      · exact hx h4
      · exact absurd h4 (by decide)
    obtain ⟨k1, k2⟩ := ltxt_len xs h2 hx
    have hl : 0 < xs.length := by
      have := mt List.length_eq_zero_iff.1 hx
      omega
    unfold readOk readZ
    rw [e1, e2, plim_of h2 hx, hz, h, allD_of (ltxt_dg xs), decide_eq_true (by omega), decide_eq_true (by omega), decide_eq_true rfl]
    exact ⟨rfl, rfl⟩
theorem readOk_txt {s : List UInt8} (h : readOk s = true) : ∃ xs, goodW (negL s) xs = true ∧ wtxtL (negL s) xs = s ∧ readZ s = valW (negL s) xs := by
  unfold readOk at h
  simp only [Bool.and_eq_true, decide_eq_true_eq] at h
  exact ⟨_, h.1.2, h.2, rfl⟩
theorem limZ_val (L : List Int) : val (limZ L) = val L := by
  unfold limZ
  by_cases h : L = [0]
  · rw [if_pos h, h]; rfl
  · rw [if_neg h]
/-- the text of a whole. -/
def wtxt (z : Int) : ByteArray := ⟨(wtxtL (decide (z < 0)) (digs z.natAbs)).toArray⟩
theorem wtxt_list (z : Int) : (wtxt z).data.toList = wtxtL (decide (z < 0)) (digs z.natAbs) := rfl
theorem wtxt_good {neg : Bool} {xs : List Int} (h : goodW neg xs = true) : wtxt (valW neg xs) = ⟨(wtxtL neg xs).toArray⟩ := by
  obtain ⟨h1, h2, _⟩ := good_val h
  unfold wtxt
  rw [← h1, ← h2]
theorem read_wtxt {z : Int} (h : (digs z.natAbs).length ≤ 400) : readOk (wtxt z).data.toList = true ∧ readZ (wtxt z).data.toList = z := by
  have hg := good_of h
  obtain ⟨h1, h2⟩ := read_of hg
  rw [wtxt_list]
  refine ⟨h1, h2.trans ?_⟩
  unfold valW
  rw [val_digs]
  by_cases hz : z < 0
  · rw [if_pos (decide_eq_true hz)]; omega
  · rw [if_neg (by rw [decide_eq_false hz]; decide)]; omega
/-- the reference reads the limbs without looking at noughts ahead: the same texts are read. -/
theorem read_spec {s : List UInt8} {z : Int} (hz : z = valW (negL s) (plim (bodyL s) (cnL (bodyL s)))) (hl : (digs z.natAbs).length ≤ 400) :
    (readOk s = decide (wtxt z = ⟨s.toArray⟩)) ∧ (readOk s = true → readZ s = z) := by
  have hv : readZ s = z := by
    rw [hz]
    unfold readZ valW
    rw [limZ_val]
  refine ⟨?_, fun _ => hv⟩
  by_cases he : wtxt z = ⟨s.toArray⟩
  · rw [decide_eq_true he]
    have := (read_wtxt hl).1
    rw [he] at this
    exact this
  · rw [decide_eq_false he]
    refine Bool.eq_false_iff.2 fun k => he ?_
    obtain ⟨xs, g, t, v⟩ := readOk_txt k
    rw [← hv, v, wtxt_good g, t]
theorem wtxtL_size {neg : Bool} {xs : List Int} (hd : Dig xs) : (wtxtL neg xs).length ≤ 4 * xs.length + 1 := by
  unfold wtxtL
  split
  · simp
  · rename_i h
    have := (ltxt_len xs hd h).2
    split
    · simp; omega
    · omega
theorem wtxt_size (z : Int) : (wtxt z).size ≤ 4 * (digs z.natAbs).length + 1 := by
  have := wtxtL_size (neg := decide (z < 0)) (digs_dig z.natAbs)
  simpa [wtxt, ByteArray.size] using this
end Go.Proofs.YtakilincclnpdaaGreatDoor
