/- Bf: contracts: the bad primes from five on. No conditions. -/
import Derived.Test.YtnhlcgbknkdbiaaKj
import Derived.Test.YtnhlcgbknkdbiaaFx
import Derived.Test.YtnhlcgbknkdbiaaMk
namespace Go.Proofs.Ytnhlcgbknkdbiaa
open Go.RowKit

def badP (a b p : Int) : Bool := decide (5 ≤ p) && (kindN (minA a b p) b p != 0)
def badF (a b : Int) (l : List Int) : List Int := l.filter (badP a b)
noncomputable def bfL (a b : Int) : List Int := primesL ((discI a b).natAbs : Int)
noncomputable def bfOk (a b : Int) : Bool := (bfL a b).all fun p => decide (p ≤ 997)
noncomputable def bfX (a b : Int) : List Int := bif bfOk a b then badF a b (bfL a b) else []
theorem badF_step (a b : Int) {xs : List Int} {i : Nat} (h : i < xs.length) : badF a b (xs.take (i + 1)) = badF a b (xs.take i) ++ (if badP a b (xs.getD i 0) = true then [xs.getD i 0] else []) := by
  unfold badF
  rw [List.take_add_one, List.filter_append, List.getElem?_eq_getElem h]
  simp [List.filter_cons, List.getD_eq_getElem?_getD, List.getElem?_eq_getElem h]
theorem badF_len (a b : Int) (l : List Int) : (badF a b l).length ≤ l.length := List.length_filter_le _ _
theorem all_take {xs : List Int} {i : Nat} (h : i < xs.length) (h1 : ∀ q ∈ xs.take i, q ≤ 997) (h2 : xs.getD i 0 ≤ 997) : ∀ q ∈ xs.take (i + 1), q ≤ 997 := by
  intro q hq
  rw [List.take_add_one, List.getElem?_eq_getElem h, List.mem_append] at hq
  rcases hq with hq | hq
  · exact h1 q hq
  · rw [List.getD_eq_getElem?_getD, List.getElem?_eq_getElem h] at h2
    have e : q = xs[i] := by simpa using hq
    rw [e]; exact h2
theorem ok_true {xs : List Int} (h : ∀ q ∈ xs.take xs.length, q ≤ 997) : (xs.all fun p => decide (p ≤ 997)) = true := by
  rw [List.take_length] at h
  simpa using h
theorem ok_false {xs : List Int} {i : Nat} (h : i < xs.length) (h2 : 997 < xs.getD i 0) : (xs.all fun p => decide (p ≤ 997)) = false := by
  rw [← Bool.not_eq_true]
  intro k
  rw [List.all_eq_true] at k
  have hm : xs.getD i 0 ∈ xs := by simp [List.getD_eq_getElem?_getD, List.getElem?_eq_getElem h]
  have := k _ hm
  simp only [decide_eq_true_eq] at this
  omega
theorem pr_p5 {p : Int} (h : Pr p) (h5 : 5 ≤ p) (h6 : p ≤ 997) : p5B p = true := by
  unfold p5B; rw [inB_true.2 ⟨h5, h6⟩, primeB_true.2 h]; rfl
end Go.Proofs.Ytnhlcgbknkdbiaa
