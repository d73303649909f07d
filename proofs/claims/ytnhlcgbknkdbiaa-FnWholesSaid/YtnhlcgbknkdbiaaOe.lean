/- Oe: results that are the call's own slice, or an empty one of whatever block; marking them. No conditions. -/
import Derived.Test.YtnhlcgbknkdbiaaMk
namespace Go.Proofs.Ytnhlcgbknkdbiaa
open Go.RowKit

/-- the call's own slice, or one without elements. -/
def OwnE (w : World) (B : Nat) (v : Value) (xs : List Int) : Prop := Own w B v xs ∨ (xs = [] ∧ ∃ ad cap, v = .slice ad 0 cap)
theorem OwnE.rd {w : World} {B : Nat} {v : Value} {xs : List Int} (h : OwnE w B v xs) : Rd w v xs := by
  rcases h with h | ⟨rfl, ad, cap, rfl⟩
  · exact h.rd
  · exact ⟨ad, cap, rfl, Nat.zero_le _, fun h => by simp at h⟩
theorem OwnE.keep {w w' : World} {B : Nat} {v : Value} {xs : List Int} (h : OwnE w B v xs) (hb : Below w.heap.size w w') : OwnE w' B v xs := h.imp (fun h => h.keep hb) id
theorem OwnE.le {w : World} {B B' : Nat} {v : Value} {xs : List Int} (h : OwnE w B v xs) (hb : B' ≤ B) : OwnE w B' v xs := h.imp (fun h => h.le hb) id
theorem OwnE.other {w w' : World} {B : Nat} {v : Value} {xs : List Int} {g : Option Nat} (h : OwnE w B v xs) (hg : w.grownBy w' g) (hne : ∀ j, g = some j → j < B) : OwnE w' B v xs := by
  refine h.imp (fun h => ?_) id
  obtain ⟨h1, h2⟩ := h
  refine ⟨h1, ?_⟩
  rcases h2 with h2 | ⟨b, cap, cur, hv, hB, hh, r⟩
  · exact .inl h2
  · have hlt : b < w.heap.size := by
      rcases Nat.lt_or_ge b w.heap.size with h' | h'
      · exact h'
      · rw [Array.getElem?_eq_none h'] at hh; cases hh
    exact .inr ⟨b, cap, cur, hv, hB, (hg.block b hlt (fun e => by have := hne b e.symm; omega)).trans hh, r⟩
/-- the block of an own slice lies below the world's size. -/
def Blk (v : Value) (n : Nat) : Prop := ∀ j, v.ownBlock = some j → j < n
theorem Own.blk {w : World} {B : Nat} {v : Value} {xs : List Int} (h : Own w B v xs) : Blk v w.heap.size := fun j hj => ((h : World.ownsRow _ _ _ _ _ _ _).lt j hj).2
/-- the slice's numbers are written, and nothing besides. -/
def MarkedE (v : Value) (n : Nat) (k : Int) (B : Nat) (w : World) (e : Ending) (w' : World) : Prop :=
  e = .returned (.int .i64 (k + n)) ∧ ∃ g, w.grownBy w' g ∧ OwnE w' B v (marks k n) ∧ (g = none ∨ g = v.ownBlock) ∧ ∀ j, g = some j → B ≤ j
theorem grown_below {g : Option Nat} {B m : Nat} {w w' : World} (hg : w.grownBy w' g) (hB : ∀ j, g = some j → B ≤ j) (hm : m ≤ B) (hs : m ≤ w.heap.size) : Below m w w' :=
  (Below.refl m w).grown hg hs (fun k hk => Nat.le_trans hm (hB k hk))
/-- returned the slice xs, the call's own or an empty one, and b. -/
def RetSlE (xs : List Int) (ok : Bool) (w : World) (e : Ending) (w' : World) : Prop := ∃ v, e = .returned (.tuple #[v, .bool ok]) ∧ Below w.heap.size w w' ∧ OwnE w' w.heap.size v xs
theorem RetSlB.e {xs : List Int} {ok : Bool} {w w' : World} {e : Ending} (h : RetSlB xs ok w e w') : RetSlE xs ok w e w' := by
  obtain ⟨v, h1, h2, h3⟩ := h
  exact ⟨v, h1, h2, .inl h3⟩
end Go.Proofs.Ytnhlcgbknkdbiaa
