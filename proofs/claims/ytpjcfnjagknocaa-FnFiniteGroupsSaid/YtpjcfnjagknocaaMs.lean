/- Ms: contracts of the helpers that compare, mark and look at slices of slices of numbers. No conditions. -/
import Derived.Test.YtpjcfnjagknocaaSs
import Derived.Test.YtpjcfnjagknocaaMk
import Derived.Test.YtpjcfnjagknocaaFld
namespace Go.Proofs.Ytpjcfnjagknocaa
open Go.RowKit

/-- a slice of slices of numbers is read, all its blocks below n. -/
structure RowsN (n m : Nat) (w : World) (v : Value) (vs : List Value) (f : Nat → List Int) : Prop where
  le : n ≤ w.heap.size
  cap : m ≤ 1000000
  sh : (v = .slice none 0 0 ∧ m = 0) ∨ ∃ g c, v = .slice (some ⟨g, 0, none⟩) m c ∧ g < n ∧ ∀ j, j < m → w.cell? ⟨g, j, none⟩ = some (vs.getD j undef)
  rows : ∀ j, j < m → RdN n w (vs.getD j undef) (f j)
theorem RowsN.step {n m k : Nat} {w w' : World} {v : Value} {vs : List Value} {f : Nat → List Int} (h : RowsN n m w v vs f) (hb : Below k w w') (hle : n ≤ k) : RowsN n m w' v vs f := by
  refine ⟨Nat.le_trans h.le hb.size, h.cap, ?_, fun j hj => (h.rows j hj).step hb hle⟩
  rcases h.sh with h1 | ⟨g, c, hv, hg, hc⟩
  · exact .inl h1
  · exact .inr ⟨g, c, hv, hg, fun j hj => (hb.cell (p := ⟨g, j, none⟩) (Nat.lt_of_lt_of_le hg hle)).trans (hc j hj)⟩
theorem RowsN.keep {n m : Nat} {w w' : World} {v : Value} {vs : List Value} {f : Nat → List Int} (h : RowsN n m w v vs f) (hb : Below w.heap.size w w') : RowsN n m w' v vs f := h.step hb h.le
/-- the call's own slice of own slices. -/
structure RowsO (B m : Nat) (w : World) (v : Value) (vs : List Value) (f : Nat → List Int) : Prop where
  cap : m ≤ 1000000
  row : w.ownsRow B 24 1 v m vs
  len : vs.length = m
  rows : ∀ j, j < m → Own w B (vs.getD j undef) (f j)
  dis : ∀ i j g, i < j → j < m → (vs.getD i undef).ownBlock = some g → (vs.getD j undef).ownBlock ≠ some g
theorem OwnSS.o {w : World} {B : Nat} {v : Value} {xss : List (List Int)} (h : OwnSS w B v xss) (hm : xss.length ≤ 1000000) : ∃ vs, RowsO B xss.length w v vs (fun j => xss.getD j []) := by
  obtain ⟨vs, h1, h2, h3, h4⟩ := h
  exact ⟨vs, hm, h1, h2, h3, h4⟩
theorem RowsO.keep {B m : Nat} {w w' : World} {v : Value} {vs : List Value} {f : Nat → List Int} (h : RowsO B m w v vs f) (hb : Below w.heap.size w w') : RowsO B m w' v vs f :=
  ⟨h.cap, row_keep h.row hb, h.len, fun j hj => (h.rows j hj).keep hb, h.dis⟩
theorem RowsO.n {B m : Nat} {w : World} {v : Value} {vs : List Value} {f : Nat → List Int} (h : RowsO B m w v vs f) : RowsN w.heap.size m w v vs f := by
  refine ⟨Nat.le_refl _, h.cap, ?_, fun j hj => (h.rows j hj).rd.n⟩
  rcases h.row.2 with ⟨hv, hm⟩ | ⟨g, c, cur, hv, hg, hh, _⟩
  · exact .inl ⟨hv, hm⟩
  · right
    refine ⟨g, c, hv, ?_, fun j hj => ?_⟩
    · rcases Nat.lt_or_ge g w.heap.size with h' | h'
      · exact h'
      · rw [Array.getElem?_eq_none h'] at hh; cases hh
    · have h1 := h.row
      rw [hv] at h1
      rw [h1.cellAt j (by omega), List.getD_eq_getElem?_getD, List.getElem?_eq_getElem (by rw [h.len]; exact hj)]
      rfl
theorem RowsN.shape {n m : Nat} {w : World} {v : Value} {vs : List Value} {f : Nat → List Int} (h : RowsN n m w v vs f) : ∃ ad c, v = .slice ad m c := by
  rcases h.sh with ⟨h1, h2⟩ | ⟨g, c, h1, _⟩
  · exact ⟨none, 0, by rw [h1, h2]⟩
  · exact ⟨_, c, h1⟩
/-- how many numbers stand ahead of row j. -/
def totF (f : Nat → List Int) : Nat → Nat
  | 0 => 0
  | j + 1 => totF f j + (f j).length
theorem totF_mono (f : Nat → List Int) : ∀ {i j : Nat}, i ≤ j → totF f i ≤ totF f j
  | i, 0, h => by rw [show i = 0 by omega]; exact Nat.le_refl _
  | i, j + 1, h => by
    rcases Nat.lt_or_ge i (j + 1) with k | k
    · exact Nat.le_trans (totF_mono f (by omega)) (Nat.le_add_right _ _)
    · rw [show i = j + 1 by omega]; exact Nat.le_refl _
/-- the rows' marks. -/
def mksF (k : Int) (f : Nat → List Int) (j : Nat) : List Int := marks (k + (totF f j : Nat)) (f j).length
/-- nothing below B is written. -/
def Safe (B : Nat) (w w' : World) : Prop := ∀ m, m ≤ B → m ≤ w.heap.size → Below m w w'
theorem Safe.refl (B : Nat) (w : World) : Safe B w w := fun m _ _ => Below.refl m w
theorem Safe.trans {B : Nat} {a b c : World} (h : Safe B a b) (k : Safe B b c) : Safe B a c := fun m h1 h2 => by
  have h3 := h m h1 h2
  exact h3.trans (k m h1 (Nat.le_trans h2 h3.size))
theorem apart_symm {u v : Value} (h : u.ownBlock = none ∨ u.ownBlock ≠ v.ownBlock) : v.ownBlock = none ∨ v.ownBlock ≠ u.ownBlock := by
  rcases h with h | h
  · cases hv : v.ownBlock with
    | none => exact .inl rfl
    | some g => right; rw [h]; simp
  · exact .inr (fun e => h e.symm)
end Go.Proofs.Ytpjcfnjagknocaa
