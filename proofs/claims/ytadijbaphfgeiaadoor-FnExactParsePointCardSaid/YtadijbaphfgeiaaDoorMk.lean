/- Mk: contracts of the helpers that mark a result's numbers and look whether the marks are held; that compare two results. No conditions. -/
import Derived.Test.YtadijbaphfgeiaaDoorSl
import Derived.Maps.AppendAt
namespace Go.Proofs.YtadijbaphfgeiaaDoor
open Go.RowKit

theorem Own.len {w : World} {B : Nat} {v : Value} {xs : List Int} (h : Own w B v xs) : ∃ ad cap, v = .slice ad xs.length cap := by
  rcases h.shape with ⟨rfl, rfl⟩ | ⟨g, cap, rfl, _⟩
  · exact ⟨none, 0, rfl⟩
  · exact ⟨_, cap, rfl⟩
/-- reads as xs, its block below n. -/
def RdN (n : Nat) (w : World) (v : Value) (xs : List Int) : Prop :=
  n ≤ w.heap.size ∧ ∃ (ad : Option Addr) (cap : Nat), v = .slice ad xs.length cap ∧ xs.length ≤ maxLen ∧
    (0 < xs.length → ∃ b off, ad = some ⟨b, off, none⟩ ∧ b < n ∧ ∀ i, i < xs.length → w.cell? ⟨b, off + i, none⟩ = some (.int .i64 (xs.getD i 0)))
theorem Rd.n {w : World} {v : Value} {xs : List Int} (h : Rd w v xs) : RdN w.heap.size w v xs := ⟨Nat.le_refl _, h⟩
theorem RdN.rd {n : Nat} {w : World} {v : Value} {xs : List Int} (h : RdN n w v xs) : Rd w v xs := by
  obtain ⟨h0, ad, cap, hv, hl, hc⟩ := h
  refine ⟨ad, cap, hv, hl, fun hp => ?_⟩
  obtain ⟨b, off, ha, hlt, hcell⟩ := hc hp
  exact ⟨b, off, ha, by omega, hcell⟩
theorem RdN.step {n m : Nat} {w w' : World} {v : Value} {xs : List Int} (h : RdN n w v xs) (hb : Below m w w') (hle : n ≤ m) : RdN n w' v xs := by
  obtain ⟨h0, ad, cap, hv, hl, hc⟩ := h
  refine ⟨Nat.le_trans h0 hb.size, ad, cap, hv, hl, fun hp => ?_⟩
  obtain ⟨b, off, ha, hlt, hcell⟩ := hc hp
  exact ⟨b, off, ha, hlt, fun i hi => (hb.cell (p := ⟨b, off + i, none⟩) (Nat.lt_of_lt_of_le hlt hle)).trans (hcell i hi)⟩
theorem RdN.keep {n : Nat} {w w' : World} {v : Value} {xs : List Int} (h : RdN n w v xs) (hb : Below w.heap.size w w') : RdN n w' v xs := h.step hb h.1
/-- a call's result: its own slice and a truth value. -/
def RetSlB (xs : List Int) (ok : Bool) (w : World) (e : Ending) (w' : World) : Prop := ∃ v, e = .returned (.tuple #[v, .bool ok]) ∧ Below w.heap.size w w' ∧ Own w' w.heap.size v xs
/-- the marks from k on. -/
def marks (k : Int) (n : Nat) : List Int := (List.range n).map fun i : Nat => k + (i : Int)
theorem marks_len (k : Int) (n : Nat) : (marks k n).length = n := by simp [marks]
theorem marks_getD (k : Int) (n i : Nat) (h : i < n) : (marks k n).getD i 0 = k + i := by
  simp [marks, List.getD_eq_getElem?_getD, List.getElem?_map, List.getElem?_range h]
theorem mark_set (k : Int) (xs : List Int) (j : Nat) (hj : j < xs.length) :
    ((marks k j ++ xs.drop j).map (Value.int .i64)).set j (.int .i64 (k + j)) = (marks k (j + 1) ++ xs.drop (j + 1)).map (Value.int .i64) := by
  rw [← List.map_set]
  congr 1
  apply List.ext_getElem?
  intro i
  simp only [List.getElem?_set, List.getElem?_append, List.length_append, marks_len, List.length_drop]
  by_cases h : j = i
  · subst h
    rw [if_pos rfl, if_pos (by omega), if_pos (by omega)]
    simp [marks]
  · rw [if_neg h]
    by_cases h1 : i < j
    · rw [if_pos h1, if_pos (by omega)]
      simp [marks, List.getElem?_range h1, List.getElem?_range (show i < j + 1 by omega)]
    · rw [if_neg h1, if_neg (by omega)]
      simp only [List.getElem?_drop]
      congr 1
      omega
/-- the call's own slice is written, and nothing besides. -/
def Marked (v : Value) (n : Nat) (k : Int) (B : Nat) (w : World) (e : Ending) (w' : World) : Prop :=
  e = .returned (.int .i64 (k + n)) ∧ w.grownBy w' v.ownBlock ∧ Own w' B v (marks k n)
theorem Marked.below {v : Value} {B m : Nat} {w w' : World} {xs : List Int} (hg : w.grownBy w' v.ownBlock) (ho : Own w B v xs) (hm : m ≤ B) (hs : m ≤ w.heap.size) : Below m w w' :=
  (Below.refl m w).grown hg hs (fun k hk => Nat.le_trans hm ((ho : World.ownsRow _ _ _ _ _ _ _).lt k hk).1)
end Go.Proofs.YtadijbaphfgeiaaDoor
