/- Ya: wholes as they come: a sign and limbs, valid or not; the reference's and the program's tests. No conditions. -/
import Derived.Test.YtakilincclnpdaaGreatDoorWdy
namespace Go.Proofs.YtakilincclnpdaaGreatDoor
open Go.RowKit

/-- v is a sign and limbs, valid or not. -/
def RW (w : World) (v : Value) (neg : Bool) (xs : List Int) : Prop := ∃ (ad : Option Addr) (cap : Nat), v = .agg #[.bool neg, .slice ad xs.length cap] ∧ Rd w (.slice ad xs.length cap) xs ∧ SlOk (.slice ad xs.length cap)
theorem RW.keep {w w' : World} {v : Value} {neg : Bool} {xs : List Int} (h : RW w v neg xs) (hb : Below w.heap.size w w') : RW w' v neg xs := by
  obtain ⟨ad, cap, hv, hr, hz⟩ := h
  exact ⟨ad, cap, hv, hr.keep hb, hz⟩
def valW (neg : Bool) (xs : List Int) : Int := if neg = true then -(val xs) else val xs
def goodW (neg : Bool) (xs : List Int) : Bool := decide (xs.length ≤ 400) && allB xs 0 9999 && (decide (0 < xs.length) || !neg) && (decide (xs.length = 0) || decide (0 < xs.getD (xs.length - 1) 0))
theorem allB_dig {xs : List Int} : allB xs 0 9999 = true ↔ Dig xs := by
  unfold allB Dig
  rw [List.all_eq_true]
  exact ⟨fun h x hx => inB_true.1 (h x hx), fun h x hx => inB_true.2 (h x hx)⟩
theorem goodW_true {neg : Bool} {xs : List Int} : goodW neg xs = true ↔ (xs.length ≤ 400 ∧ Dig xs ∧ (xs = [] → neg = false) ∧ (xs = [] ∨ 0 < xs.getD (xs.length - 1) 0)) := by
  unfold goodW
  simp only [Bool.and_eq_true, Bool.or_eq_true, decide_eq_true_eq, allB_dig, Bool.not_eq_true']
  have e : xs.length = 0 ↔ xs = [] := List.length_eq_zero_iff
  constructor
  · rintro ⟨⟨⟨h1, h2⟩, h3⟩, h4⟩
    refine ⟨h1, h2, fun h => ?_, ?_⟩
    · rcases h3 with h3 | h3
      · rw [e.2 h] at h3; omega
      · exact h3
    · rcases h4 with h4 | h4
      · exact .inl (e.1 h4)
      · exact .inr h4
  · rintro ⟨h1, h2, h3, h4⟩
    refine ⟨⟨⟨h1, h2⟩, ?_⟩, ?_⟩
    · by_cases h : xs = []
      · exact .inr (h3 h)
      · exact .inl (by have := mt e.1 h; omega)
    · rcases h4 with h4 | h4
      · exact .inl (e.2 h4)
      · exact .inr h4
/-- a valid whole is the number of its sign and limbs. -/
theorem good_val {neg : Bool} {xs : List Int} (h : goodW neg xs = true) : xs = digs (valW neg xs).natAbs ∧ neg = decide (valW neg xs < 0) ∧ (digs (valW neg xs).natAbs).length ≤ 400 := by
  obtain ⟨h1, h2, h3, h4⟩ := goodW_true.1 h
  obtain ⟨k1, k2⟩ := sgn_val (neg := neg) h2 (h4.elim .inl (fun h => .inr (by omega)))
  have e : valW neg xs = if neg = true then -(val xs) else val xs := rfl
  rw [← e] at k1 k2
  refine ⟨k1, ?_, by rw [← k1]; exact h1⟩
  by_cases hx : xs = []
  · rw [h3 hx] at k2 ⊢
    rw [← k2]; rfl
  · have hl : 0 < xs.length := by
      have := mt List.length_eq_zero_iff.1 hx
      omega
    rw [← k2, decide_eq_true hl, Bool.and_true]
theorem RW.wv {w : World} {v : Value} {neg : Bool} {xs : List Int} (h : RW w v neg xs) (hg : goodW neg xs = true) : WV w v (valW neg xs) := by
  obtain ⟨h1, h2, _⟩ := good_val hg
  obtain ⟨ad, cap, hv, hr, hz⟩ := h
  unfold WV
  rw [← h1, ← h2]
  exact ⟨ad, cap, hv, hr, hz⟩
theorem WV.rw {w : World} {v : Value} {z : Int} (h : WV w v z) : RW w v (decide (z < 0)) (digs z.natAbs) := h
theorem good_of {z : Int} (h : (digs z.natAbs).length ≤ 400) : goodW (decide (z < 0)) (digs z.natAbs) = true := by
  refine goodW_true.2 ⟨h, digs_dig _, fun h => ?_, ?_⟩
  · have := digs_nil.1 h
    exact decide_eq_false (by omega)
  · rcases digs_last (n := z.natAbs) with h | h
    · exact .inl h
    · refine .inr ?_
      have := (digs_dig z.natAbs).at' ((digs z.natAbs).length - 1)
      omega
theorem goodW_dig (z : Int) : goodW (decide (z < 0)) (digs z.natAbs) = decide ((digs z.natAbs).length ≤ 400) := by
  by_cases h : (digs z.natAbs).length ≤ 400
  · rw [good_of h, decide_eq_true h]
  · rw [decide_eq_false h]
    exact Bool.eq_false_iff.2 fun k => h (goodW_true.1 k).1
end Go.Proofs.YtakilincclnpdaaGreatDoor
