/- Sd: plain: squarefree divisors: a list that is doubled prime by prime and sorted, against one into which each number is put at its place. No conditions. -/
import Derived.Test.YtnphdgekoelpjaaFm
namespace Go.Proofs.Ytnphdgekoelpjaa
open Go.RowKit
set_option linter.unusedVariables false

/-- a number is put into an increasing list. -/
def putI : List Int → Int → List Int
  | [], n => [n]
  | x :: xs, n => if x < n then x :: putI xs n else if x = n then x :: xs else n :: x :: xs
theorem putI_mem {n : Int} : ∀ {l : List Int} {x : Int}, x ∈ putI l n ↔ x ∈ l ∨ x = n
  | [], x => by simp [putI]
  | y :: ys, x => by
    unfold putI
    split
    · rw [List.mem_cons, putI_mem, List.mem_cons, or_assoc]
    · split
      · rename_i h; subst h
        constructor
        · exact .inl
        · rintro (h | rfl)
          · exact h
          · exact List.mem_cons_self
      · rw [List.mem_cons (a := x) (b := n), or_comm]
theorem putI_inc {n : Int} : ∀ {l : List Int}, Inc l → Inc (putI l n)
  | [], _ => by unfold putI Inc; simp
  | y :: ys, h => by
    unfold Inc at h
    rw [List.pairwise_cons] at h
    unfold putI
    split
    · rename_i hy
      unfold Inc
      rw [List.pairwise_cons]
      refine ⟨fun a ha => ?_, putI_inc h.2⟩
      rcases putI_mem.1 ha with k | k
      · exact h.1 a k
      · omega
    · split
      · unfold Inc; rw [List.pairwise_cons]; exact h
      · unfold Inc
        rw [List.pairwise_cons, List.pairwise_cons]
        refine ⟨fun a ha => ?_, h⟩
        rw [List.mem_cons] at ha
        rcases ha with rfl | ha
        · omega
        · have := h.1 a ha; omega
/-- where a number that is not there is put. -/
theorem putI_at {n : Int} : ∀ (l : List Int), n ∉ l → Inc l → ∃ K, K ≤ l.length ∧ (∀ i, i < K → l.getD i 0 < n) ∧ (K < l.length → n < l.getD K 0) ∧ putI l n = l.take K ++ [n] ++ l.drop K
  | [], _, _ => ⟨0, Nat.le_refl _, fun i h => by omega, fun h => by simp at h, rfl⟩
  | y :: ys, hn, h => by
    unfold Inc at h
    rw [List.pairwise_cons] at h
    rw [List.mem_cons, not_or] at hn
    unfold putI
    by_cases hy : y < n
    · rw [if_pos hy]
      obtain ⟨K, k1, k2, k3, k4⟩ := putI_at ys hn.2 h.2
      refine ⟨K + 1, by simp; omega, fun i hi => ?_, fun hk => ?_, by rw [k4]; simp⟩
      · cases i with
        | zero => simpa using hy
        | succ j => simpa using k2 j (by omega)
      · simpa using k3 (by simpa using hk)
    · rw [if_neg hy, if_neg (fun e => hn.1 e.symm)]
      refine ⟨0, Nat.zero_le _, fun i h => by omega, fun _ => ?_, by simp⟩
      have := hn.1
      simp; omega
/-- the list, doubled by a prime. -/
def dblI (p : Int) (l : List Int) : List Int := l ++ l.map (· * p)
theorem dblI_mem {p x : Int} {l : List Int} : x ∈ dblI p l ↔ x ∈ l ∨ ∃ d ∈ l, x = d * p := by
  unfold dblI
  rw [List.mem_append, List.mem_map]
  constructor
  · rintro (h | ⟨d, h, rfl⟩)
    · exact .inl h
    · exact .inr ⟨d, h, rfl⟩
  · rintro (h | ⟨d, h, rfl⟩)
    · exact .inl h
    · exact .inr ⟨d, h, rfl⟩
/-- the divisors that are made of the primes P. -/
structure SqInv (N : Int) (P L : List Int) : Prop where
  dv : ∀ d ∈ L, d ∣ N
  pr : ∀ d ∈ L, ∀ q : Int, Pr q → q ∣ d → q ∈ P
  nd : L.Nodup
  ln : L.length = 2 ^ (P.length + 1)
  big : ∃ d ∈ L, (2 : Int) ^ P.length ≤ d
theorem not_pr_unit {q : Int} (hq : Pr q) (h : q ∣ 1) : False := by
  have := Int.le_of_dvd (by omega) h
  have := hq.1
  omega
theorem SqInv.start {N : Int} : SqInv N [] [-1, 1] where
  dv d hd := by
    simp only [List.mem_cons, List.mem_nil_iff, or_false] at hd
    rcases hd with rfl | rfl
    · exact ⟨-N, by omega⟩
    · exact ⟨N, by omega⟩
  pr d hd q hq h := by
    simp only [List.mem_cons, List.mem_nil_iff, or_false] at hd
    rcases hd with rfl | rfl
    · exact (not_pr_unit hq (Int.dvd_neg.1 h)).elim
    · exact (not_pr_unit hq h).elim
  nd := by decide
  ln := rfl
  big := ⟨1, by simp, by simp⟩
theorem mul_dvd_of {p d N : Int} (hp : Pr p) (hpN : p ∣ N) (hd : d ∣ N) (hn : ¬ p ∣ d) : d * p ∣ N := by
  obtain ⟨c, rfl⟩ := hd
  rcases pr_dvd_mul hp hpN with h | ⟨e, rfl⟩
  · exact absurd h hn
  · exact ⟨e, by rw [Int.mul_assoc]⟩
theorem SqInv.step {N p : Int} {P L : List Int} (h : SqInv N P L) (hp : Pr p) (hpN : p ∣ N) (hnp : p ∉ P) : SqInv N (P ++ [p]) (dblI p L) where
  dv d hd := by
    rcases dblI_mem.1 hd with k | ⟨e, k, rfl⟩
    · exact h.dv d k
    · exact mul_dvd_of hp hpN (h.dv e k) (fun c => hnp (h.pr e k p hp c))
  pr d hd q hq hqd := by
    rw [List.mem_append, List.mem_singleton]
    rcases dblI_mem.1 hd with k | ⟨e, k, rfl⟩
    · exact .inl (h.pr d k q hq hqd)
    · rcases pr_dvd_mul hq hqd with g | g
      · exact .inl (h.pr e k q hq g)
      · exact .inr (pr_dvd_pr hp hq g)
  nd := by
    unfold dblI
    rw [List.nodup_append]
    refine ⟨h.nd, ?_, fun a ha b hb e => ?_⟩
    · rw [List.nodup_iff_pairwise_ne] at *
      rw [List.pairwise_map]
      refine h.nd.imp fun hne e => hne ?_
      exact Int.eq_of_mul_eq_mul_right (by have := hp.1; omega) e
    · subst e
      rw [List.mem_map] at hb
      obtain ⟨c, _, rfl⟩ := hb
      exact hnp (h.pr _ ha p hp ⟨c, Int.mul_comm _ _⟩)
  ln := by
    unfold dblI
    rw [List.length_append, List.length_map, h.ln, List.length_append, List.length_singleton, Nat.pow_succ (m := P.length + 1)]
    omega
  big := by
    obtain ⟨d, hd, hb⟩ := h.big
    refine ⟨d * p, dblI_mem.2 (.inr ⟨d, hd, rfl⟩), ?_⟩
    rw [List.length_append, List.length_singleton, Int.pow_succ]
    have h1 : (0 : Int) ≤ 2 ^ P.length := Int.le_of_lt (Int.pow_pos (by omega))
    exact Int.mul_le_mul hb (by have := hp.1; omega) (by omega) (by omega)
theorem SqInv.bd {N d : Int} {P L : List Int} (h : SqInv N P L) (hN : 1 ≤ N) (hd : d ∈ L) : -N ≤ d ∧ d ≤ N := by
  have h1 := Nat.le_of_dvd (show 0 < N.natAbs by omega) (Int.natAbs_dvd_natAbs.2 (h.dv d hd))
  omega
theorem SqInv.len {N : Int} {P L : List Int} (h : SqInv N P L) (hN : 1 ≤ N) (hb : N ≤ 1000000000) : L.length ≤ 2147483648 := by
  obtain ⟨d, hd, hle⟩ := h.big
  have h1 := h.bd hN hd
  have h2 : P.length < 30 := by
    rcases Nat.lt_or_ge P.length 30 with k | k
    · exact k
    · have h3 : (2 : Int) ^ 30 ≤ 2 ^ P.length := by
        obtain ⟨c, hc⟩ : ∃ c, P.length = 30 + c := ⟨P.length - 30, by omega⟩
        rw [hc, Int.pow_add]
        have hc0 : (0 : Int) < 2 ^ c := Int.pow_pos (by omega)
        have : (1 : Int) ≤ 2 ^ c := by omega
        have := Int.mul_le_mul_of_nonneg_left this (show (0 : Int) ≤ 2 ^ 30 by decide)
        omega
      have h4 : (2 : Int) ^ 30 = 1073741824 := by decide
      omega
  rw [h.ln]
  have : 2 ^ (P.length + 1) ≤ 2 ^ 31 := Nat.pow_le_pow_right (by omega) (by omega)
  omega
/-- the reference's list, in the middle of a prime. -/
structure PutInv (p : Int) (S : List Int) (j : Nat) (M : List Int) : Prop where
  inc : Inc M
  mem : ∀ x, x ∈ M ↔ x ∈ S ∨ ∃ d ∈ S.take j, x = d * p
theorem PutInv.start {p : Int} {S : List Int} (h : Inc S) : PutInv p S 0 S := ⟨h, fun x => by simp⟩
theorem PutInv.step {p : Int} {S M : List Int} {j : Nat} (h : PutInv p S j M) (hj : j < S.length) : PutInv p S (j + 1) (putI M (S.getD j 0 * p)) := by
  refine ⟨putI_inc h.inc, fun x => ?_⟩
  have e : S.take (j + 1) = S.take j ++ [S.getD j 0] := by rw [List.take_add_one, List.getD_eq_getElem?_getD, List.getElem?_eq_getElem hj]; rfl
  rw [putI_mem, h.mem, e]
  constructor
  · rintro ((k | ⟨d, k, rfl⟩) | rfl)
    · exact .inl k
    · exact .inr ⟨d, List.mem_append_left _ k, rfl⟩
    · exact .inr ⟨_, List.mem_append_right _ (List.mem_singleton.2 rfl), rfl⟩
  · rintro (k | ⟨d, k, rfl⟩)
    · exact .inl (.inl k)
    · rcases List.mem_append.1 k with k | k
      · exact .inl (.inr ⟨d, k, rfl⟩)
      · rw [List.mem_singleton] at k; subst k; exact .inr rfl
/-- a new number is not there yet. -/
theorem PutInv.new {N p : Int} {P L S M : List Int} {j : Nat} (hS : SqInv N P L) (hm : ∀ x, x ∈ S ↔ x ∈ L) (hi : Inc S) (hp : Pr p) (hnp : p ∉ P) (h : PutInv p S j M) (hj : j < S.length) : S.getD j 0 * p ∉ M := by
  intro hx
  have hmem : S.getD j 0 ∈ S := by rw [List.getD_eq_getElem?_getD, List.getElem?_eq_getElem hj]; exact List.getElem_mem hj
  rcases (h.mem _).1 hx with k | ⟨d, k, e⟩
  · exact hnp (hS.pr _ ((hm _).1 k) p hp ⟨_, Int.mul_comm _ _⟩)
  · have e1 : S.getD j 0 = d := Int.eq_of_mul_eq_mul_right (by have := hp.1; omega) e
    rw [List.mem_take_iff_getElem] at k
    obtain ⟨i, hi2, he⟩ := k
    have hij : i < j := by omega
    have hlt := (List.pairwise_iff_getElem.1 hi) i j (by omega) hj hij
    rw [List.getD_eq_getElem?_getD, List.getElem?_eq_getElem hj] at e1
    simp only [Option.getD_some] at e1
    omega
theorem PutInv.done {p : Int} {S M : List Int} (h : PutInv p S S.length M) : Inc M ∧ ∀ x, x ∈ M ↔ x ∈ dblI p S := by
  refine ⟨h.inc, fun x => ?_⟩
  rw [h.mem, List.take_length, dblI_mem]
theorem dblI_congr {p : Int} {S L : List Int} (h : ∀ x, x ∈ S ↔ x ∈ L) (x : Int) : x ∈ dblI p S ↔ x ∈ dblI p L := by
  rw [dblI_mem, dblI_mem, h]
  constructor
  · rintro (k | ⟨d, k, e⟩)
    · exact .inl k
    · exact .inr ⟨d, (h d).1 k, e⟩
  · rintro (k | ⟨d, k, e⟩)
    · exact .inl k
    · exact .inr ⟨d, (h d).2 k, e⟩
/-- sorting brings the reference's list. -/
theorem sort_eq {L S : List Int} (hn : L.Nodup) (hi : Inc S) (h : ∀ x, x ∈ S ↔ x ∈ L) : (L.mergeSort fun x y => decide (x ≤ y)) = S := by
  have h1 : List.Pairwise (fun x y : Int => decide (x ≤ y) = true) (L.mergeSort fun x y => decide (x ≤ y)) := List.pairwise_mergeSort (fun a b c h1 h2 => by simp at *; omega) (fun a b => by simp; omega) L
  have h2 : (L.mergeSort fun x y => decide (x ≤ y)).Nodup := (List.mergeSort_perm L _).nodup_iff.2 hn
  refine inc_ext ?_ hi fun q => ?_
  · rw [List.nodup_iff_pairwise_ne] at h2
    unfold Inc
    refine (h1.and h2).imp fun hh => ?_
    have := hh.1
    have := hh.2
    simp at *
    omega
  · rw [List.mem_mergeSort, h]
/-- the list behind the first k primes. -/
noncomputable def sqF (N : Int) (k : Nat) : List Int := ((primesL N).take k).foldl (fun l p => dblI p l) [-1, 1]
theorem sqF_step {N : Int} {k : Nat} (hk : k < (primesL N).length) : sqF N (k + 1) = dblI ((primesL N).getD k 0) (sqF N k) := by
  have e : (primesL N).take (k + 1) = (primesL N).take k ++ [(primesL N).getD k 0] := by rw [List.take_add_one, List.getD_eq_getElem?_getD, List.getElem?_eq_getElem hk]; rfl
  unfold sqF
  rw [e, List.foldl_append]
  rfl
theorem primes_at {N : Int} (hN : N ≠ 0) {k : Nat} (hk : k < (primesL N).length) : Pr ((primesL N).getD k 0) ∧ (primesL N).getD k 0 ∣ N ∧ (primesL N).getD k 0 ∉ (primesL N).take k := by
  have hs := primesL_spec hN
  have hm : (primesL N).getD k 0 ∈ primesL N := by rw [List.getD_eq_getElem?_getD, List.getElem?_eq_getElem hk]; exact List.getElem_mem hk
  have h1 := (hs.2 _).1 hm
  refine ⟨h1.1, h1.2, fun h => ?_⟩
  rw [List.mem_take_iff_getElem] at h
  obtain ⟨i, hi2, he⟩ := h
  have hlt := (List.pairwise_iff_getElem.1 hs.1) i k (by omega) hk (by omega)
  rw [List.getD_eq_getElem?_getD, List.getElem?_eq_getElem hk] at he
  simp only [Option.getD_some] at he
  omega
theorem sqF_inv {N : Int} (hN : N ≠ 0) : ∀ k, k ≤ (primesL N).length → SqInv N ((primesL N).take k) (sqF N k)
  | 0, _ => SqInv.start
  | k + 1, hk => by
    obtain ⟨h1, h2, h3⟩ := primes_at hN (show k < (primesL N).length by omega)
    rw [sqF_step (by omega), show (primesL N).take (k + 1) = (primesL N).take k ++ [(primesL N).getD k 0] by rw [List.take_add_one, List.getD_eq_getElem?_getD, List.getElem?_eq_getElem (by omega)]; rfl]
    exact (sqF_inv hN k (by omega)).step h1 h2 h3
/-- the squarefree divisors, increasing. -/
noncomputable def divL (N : Int) : List Int := (sqF N (primesL N).length).mergeSort fun x y => decide (x ≤ y)
theorem divL_len {N : Int} (hN : 1 ≤ N) (hb : N ≤ 1000000000) : (divL N).length ≤ 2147483648 := by
  unfold divL
  rw [List.length_mergeSort]
  exact (sqF_inv (by omega) _ (Nat.le_refl _)).len hN hb
end Go.Proofs.Ytnphdgekoelpjaa
