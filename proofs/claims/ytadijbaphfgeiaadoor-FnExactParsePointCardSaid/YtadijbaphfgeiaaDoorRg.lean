/- Rg: a region that draws its order, holds calls that make memory, and lays a box for a result: the ways are joined behind it. No conditions. -/
import Derived.Test.YtadijbaphfgeiaaDoorBase
namespace Go.Proofs.YtadijbaphfgeiaaDoor
open Go.RowKit

theorem wp_region_join {P : Program} {id : Nat} {ops : Array Oper} {b : Bool} {Q : Exit → Act → World → Prop} {a : Act} {w : World} (F : Act → World → Prop)
    (h : (Code.region id ops b).wp P (fun e a' w' => e = .normal ∧ F a' w') a w) (k : ∀ a' w', F a' w' → Q .normal a' w') : (Code.region id ops b).wp P Q a w :=
  fun b' k' cs => let ⟨e, a', w', q, r⟩ := h b' k' cs; ⟨e, a', w', q.1 ▸ k a' w' q.2, r⟩
/-- the frame at the end, but for one slot that holds v. -/
def ValAt (d : Nat) (a0 : Act) (v : Value) (a' : Act) : Prop := a'.put (some d) undef = a0 ∧ a'.tmps[d]? = some v
theorem ValAt.eq {d : Nat} {a0 : Act} {v : Value} {a' : Act} (h : ValAt d a0 v a') : a' = a0.put (some d) v := by
  obtain ⟨rfl, h2⟩ := h
  unfold Act.put
  have e : (a'.tmps.setIfInBounds d undef).setIfInBounds d v = a'.tmps := by
    refine Array.ext_getElem? fun i => ?_
    by_cases hd : d = i
    · subst hd
      have hlt : d < a'.tmps.size := by
        rcases Nat.lt_or_ge d a'.tmps.size with h | h
        · exact h
        · rw [Array.getElem?_eq_none h] at h2; cases h2
      rw [h2, Array.getElem?_setIfInBounds_self_of_lt (by simpa using hlt)]
    · rw [Array.getElem?_setIfInBounds_ne hd, Array.getElem?_setIfInBounds_ne hd]
  simp only [e]
def ValAt2 (d d' : Nat) (a0 : Act) (v : Value) (a' : Act) : Prop := ∃ a1, ValAt d a1 v a' ∧ ValAt d' a0 v a1
theorem ValAt2.eq {d d' : Nat} {a0 : Act} {v : Value} {a' : Act} (h : ValAt2 d d' a0 v a') : a' = (a0.put (some d') v).put (some d) v := by
  obtain ⟨a1, h1, h2⟩ := h
  rw [h1.eq, h2.eq]
/-- the region's frame at the end hangs on one value that two slots hold. -/
theorem wp_region_lit {P : Program} {id : Nat} {ops : Array Oper} {b : Bool} {Q : Exit → Act → World → Prop} {a : Act} {w : World} {a0 : Act} (d d' : Nat) (F : Value → World → Prop)
    (h : (Code.region id ops b).wp P (fun e a' w' => e = .normal ∧ ∃ v, ValAt2 d d' a0 v a' ∧ F v w') a w) (k : ∀ v w', F v w' → Q .normal ((a0.put (some d') v).put (some d) v) w') : (Code.region id ops b).wp P Q a w :=
  wp_region_join (fun a' w' => ∃ v, ValAt2 d d' a0 v a' ∧ F v w') h (fun _ w' ⟨v, hB, hF⟩ => hB.eq ▸ k v w' hF)
/-- the region's frame at the end hangs on one value. -/
theorem wp_region_val {P : Program} {id : Nat} {ops : Array Oper} {b : Bool} {Q : Exit → Act → World → Prop} {a : Act} {w : World} {f : Value → Act} (F : Value → World → Prop)
    (h : (Code.region id ops b).wp P (fun e a' w' => e = .normal ∧ ∃ v, a' = f v ∧ F v w') a w) (k : ∀ v w', F v w' → Q .normal (f v) w') : (Code.region id ops b).wp P Q a w :=
  wp_region_join (fun a' w' => ∃ v, a' = f v ∧ F v w') h (fun _ w' ⟨v, hB, hF⟩ => hB ▸ k v w' hF)
/-- the frame at the end, but for one slot that holds a fresh box. -/
def BoxAt (d : Nat) (a0 : Act) (B : Nat) (a' : Act) : Prop := a'.put (some d) undef = a0 ∧ a'.tmps[d]? = some (.pointer (some ⟨B, 0, none⟩))
theorem BoxAt.eq {d : Nat} {a0 : Act} {B : Nat} {a' : Act} (h : BoxAt d a0 B a') : a' = a0.put (some d) (.pointer (some ⟨B, 0, none⟩)) := by
  obtain ⟨rfl, h2⟩ := h
  unfold Act.put
  have e : (a'.tmps.setIfInBounds d undef).setIfInBounds d (.pointer (some ⟨B, 0, none⟩)) = a'.tmps := by
    refine Array.ext_getElem? fun i => ?_
    by_cases hd : d = i
    · subst hd
      have hlt : d < a'.tmps.size := by
        rcases Nat.lt_or_ge d a'.tmps.size with h | h
        · exact h
        · rw [Array.getElem?_eq_none h] at h2; cases h2
      rw [h2, Array.getElem?_setIfInBounds_self_of_lt (by simpa using hlt)]
    · rw [Array.getElem?_setIfInBounds_ne hd, Array.getElem?_setIfInBounds_ne hd]
  simp only [e]
theorem wp_region_box {P : Program} {id : Nat} {ops : Array Oper} {b : Bool} {Q : Exit → Act → World → Prop} {a : Act} {w : World} {a0 : Act} (d : Nat) (F : Nat → World → Prop)
    (h : (Code.region id ops b).wp P (fun e a' w' => e = .normal ∧ ∃ B, BoxAt d a0 B a' ∧ F B w') a w) (k : ∀ B w', F B w' → Q .normal (a0.put (some d) (.pointer (some ⟨B, 0, none⟩))) w') : (Code.region id ops b).wp P Q a w :=
  wp_region_join (fun a' w' => ∃ B, BoxAt d a0 B a' ∧ F B w') h (fun _ w' ⟨B, hB, hF⟩ => hB.eq ▸ k B w' hF)
/-- what is known of a fresh box of three cells. -/
def Box3 (n B : Nat) (x y e : Value) (w' : World) : Prop := n ≤ B ∧ B < w'.heap.size ∧ w'.cell? ⟨B, 0, none⟩ = some x ∧ w'.cell? ⟨B, 1, none⟩ = some y ∧ w'.cell? ⟨B, 2, none⟩ = some e
end Go.Proofs.YtadijbaphfgeiaaDoor
