/- Ss: slices of slices of integers that the call has made: what a walk is told of them (OwnSS); appending a row. No conditions. -/
import Derived.Test.YtnhlcgbknkdbiaaSl
namespace Go.Proofs.Ytnhlcgbknkdbiaa
open Go.RowKit

theorem Try.info_row : (Try.prog.info? 24).map (fun i => (i.zero, i.size, i.bytes)) = some (some (.slice none 0 0), 1, 24) := by kernel_rfl
/-- the call's own slice of the call's own slices, no two rows in one block. -/
def OwnSS (w : World) (base : Nat) (v : Value) (xss : List (List Int)) : Prop :=
  ∃ vs : List Value, w.ownsRow base 24 1 v xss.length vs ∧ vs.length = xss.length ∧ (∀ i, i < xss.length → Own w base (vs.getD i undef) (xss.getD i [])) ∧
    ∀ i j g, i < j → j < xss.length → (vs.getD i undef).ownBlock = some g → (vs.getD j undef).ownBlock ≠ some g
def RetSS (xss : List (List Int)) (w : World) (e : Ending) (w' : World) : Prop := ∃ v, e = .returned v ∧ Below w.heap.size w w' ∧ OwnSS w' w.heap.size v xss

theorem OwnSS.nil (w : World) (base : Nat) : OwnSS w base (.slice none 0 0) [] :=
  ⟨[], World.ownsRow_nil _ _ _ _, rfl, fun i h => by simp at h, fun i j g _ h => by simp at h⟩
theorem row_keep {w w' : World} {base n : Nat} {v : Value} {e : TypeId} {vs : List Value} (h : w.ownsRow base e 1 v n vs) (hb : Below w.heap.size w w') : w'.ownsRow base e 1 v n vs := by
  obtain ⟨h1, h2⟩ := h
  refine ⟨h1, ?_⟩
  rcases h2 with h2 | ⟨g, cap, cur, hv, hg, hh, r⟩
  · exact .inl h2
  · have hlt : g < w.heap.size := by
      rcases Nat.lt_or_ge g w.heap.size with h' | h'
      · exact h'
      · rw [Array.getElem?_eq_none h'] at hh; cases hh
    exact .inr ⟨g, cap, cur, hv, hg, (hb.block g hlt).trans hh, r⟩
theorem OwnSS.keep {w w' : World} {base : Nat} {v : Value} {xss : List (List Int)} (h : OwnSS w base v xss) (hb : Below w.heap.size w w') : OwnSS w' base v xss := by
  obtain ⟨vs, h1, h2, h3, h4⟩ := h
  exact ⟨vs, row_keep h1 hb, h2, fun i hi => (h3 i hi).keep hb, h4⟩
theorem below_alloc2' (w : World) (o o' : Obj) : Below w.heap.size w ((w.alloc o).alloc o') := ((Below.refl _ _).alloc (Nat.le_refl _) o).alloc (by simp) o'
/-- a row of integers and a row of slices do not lie in one block. -/
theorem rows_apart {w : World} {base base' n : Nat} {v u : Value} {xs : List Int} {vs : List Value} (h : Own w base u xs) (h' : w.ownsRow base' 24 1 v n vs) : u.ownBlock = none ∨ u.ownBlock ≠ v.ownBlock := by
  rcases h.2 with ⟨rfl, _⟩ | ⟨g, cap, cur, rfl, _, hh, _⟩
  · exact .inl rfl
  · right
    rcases h'.2 with ⟨rfl, _⟩ | ⟨g', cap', cur', rfl, _, hh', _⟩
    · simp [Value.ownBlock]
    · intro e
      simp only [Value.ownBlock, Option.some.injEq] at e
      subst e
      rw [hh] at hh'
      simp at hh'
theorem getD_snoc {α : Type} (l : List α) (x d : α) (i : Nat) : (l ++ [x]).getD i d = if i < l.length then l.getD i d else if i = l.length then x else d := by
  simp only [List.getD_eq_getElem?_getD, List.getElem?_append]
  by_cases h : i < l.length
  · rw [if_pos h, if_pos h]
  · rw [if_neg h, if_neg h]
    by_cases h2 : i = l.length
    · subst h2; simp
    · rw [if_neg h2]
      have : ¬ i - l.length < 1 := by omega
      simp [List.getElem?_eq_none (show [x].length ≤ i - l.length by simp; omega)]
/-- a new row of integers is laid, and appended. -/
theorem ownSS_snoc {w0 wr w1 : World} {v v' : Value} {xss : List (List Int)} {ys : List Int} {vs : List Value} {o : Obj} (hbel : Below w0.heap.size w0 wr)
    (hrow : wr.ownsRow w0.heap.size 24 1 v xss.length vs) (hlen : vs.length = xss.length) (hin : ∀ i, i < xss.length → Own wr w0.heap.size (vs.getD i undef) (xss.getD i []))
    (hdis : ∀ i j g, i < j → j < xss.length → (vs.getD i undef).ownBlock = some g → (vs.getD j undef).ownBlock ≠ some g) (hys : ys.length ≤ maxLen)
    (hown1 : w1.ownsRow w0.heap.size 24 1 v' (xss.length + 1) (vs ++ [.slice (some ⟨wr.heap.size, 0, none⟩) ys.length ys.length]))
    (hg : ((wr.alloc (.cells (ys.map (Value.int .i64)).toArray 3)).alloc o).grownBy w1 v.ownBlock) : Below w0.heap.size w0 w1 ∧ OwnSS w1 w0.heap.size v' (xss ++ [ys]) := by
  have hsz := hbel.size
  have ha : Below w0.heap.size w0 ((wr.alloc (.cells (ys.map (Value.int .i64)).toArray 3)).alloc o) := (hbel.alloc hsz _).alloc (by simp; omega) o
  have hk : ∀ k, v.ownBlock = some k → w0.heap.size ≤ k ∧ k < wr.heap.size := fun k hk => hrow.lt k hk
  refine ⟨ha.grown hg ha.size (fun k h => (hk k h).1), ?_⟩
  have hlit : Own ((wr.alloc (.cells (ys.map (Value.int .i64)).toArray 3)).alloc o) w0.heap.size (.slice (some ⟨wr.heap.size, 0, none⟩) ys.length ys.length) ys := by
    have h := World.ownsRow_lit (base := w0.heap.size) (e := 3) (size := 1) wr (ys.map (Value.int .i64)).toArray ys.length hsz hys (by simp)
    have h' : Own (wr.alloc (.cells (ys.map (Value.int .i64)).toArray 3)) w0.heap.size (.slice (some ⟨wr.heap.size, 0, none⟩) ys.length ys.length) ys := by
      unfold Own; simpa using h
    exact h'.keep ((Below.refl _ _).alloc (Nat.le_refl _) o)
  refine ⟨vs ++ [.slice (some ⟨wr.heap.size, 0, none⟩) ys.length ys.length], by rw [List.length_append]; exact hown1, by simp [hlen], fun i hi => ?_, fun i j g hij hj he => ?_⟩
  · rw [getD_snoc, getD_snoc, hlen]
    by_cases h : i < xss.length
    · rw [if_pos h, if_pos h]
      have h1 := hin i h
      have h2 : Own ((wr.alloc (.cells (ys.map (Value.int .i64)).toArray 3)).alloc o) w0.heap.size (vs.getD i undef) (xss.getD i []) := h1.keep ((below_alloc2' wr _ _))
      exact World.ownsRow.kept h2 hg (rows_apart h1 hrow)
    · have hi' : i = xss.length := by simp at hi; omega
      rw [if_neg h, if_neg h, if_pos hi', if_pos hi']
      refine World.ownsRow.kept hlit hg ?_
      right
      intro e
      have := (hk wr.heap.size e.symm).2
      omega
  · simp only [List.length_append, List.length_singleton] at hj
    rw [getD_snoc, hlen] at he ⊢
    rw [if_pos (by omega)] at he
    by_cases h : j < xss.length
    · rw [if_pos h]; exact hdis i j g hij h he
    · rw [if_neg h, if_pos (by omega)]
      intro e
      simp only [Value.ownBlock, Option.some.injEq] at e
      have := ((hin i (by omega) : World.ownsRow _ _ _ _ _ _ _).lt g he).2
      omega
end Go.Proofs.Ytnhlcgbknkdbiaa
