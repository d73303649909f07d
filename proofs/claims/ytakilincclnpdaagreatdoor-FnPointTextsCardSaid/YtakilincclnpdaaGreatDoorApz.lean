/- Ap: contracts: the program's sum of two points. No conditions. -/
import Derived.Test.YtakilincclnpdaaGreatDoorPFz
import Derived.Test.YtakilincclnpdaaGreatDoorWez
import Derived.Test.YtakilincclnpdaaGreatDoorPzz
import Derived.Test.YtakilincclnpdaaGreatDoorNgz
import Derived.Test.YtakilincclnpdaaGreatDoorErz
import Derived.Deep.Cut
namespace Go.Proofs.YtakilincclnpdaaGreatDoor
open Go.RowKit

theorem wp_region_e2 {P : Program} {id : Nat} {ops : Array Oper} {b : Bool} {Q : Exit → Act → World → Prop} {a : Act} {w : World} {α β : Type} {f : α → β → Act} (F : α → β → World → Prop)
    (h : (Code.region id ops b).wp P (fun e a' w' => e = .normal ∧ ∃ v1 v2, a' = f v1 v2 ∧ F v1 v2 w') a w) (k : ∀ v1 v2 w', F v1 v2 w' → Q .normal (f v1 v2) w') : (Code.region id ops b).wp P Q a w :=
  wp_region_join (fun a' w' => ∃ v1 v2, a' = f v1 v2 ∧ F v1 v2 w') h (fun _ w' ⟨v1, v2, hB, hF⟩ => hB ▸ k v1 v2 w' hF)
theorem wp_region_e6 {P : Program} {id : Nat} {ops : Array Oper} {b : Bool} {Q : Exit → Act → World → Prop} {a : Act} {w : World} {α1 α2 α3 α4 α5 α6 : Type} {f : α1 → α2 → α3 → α4 → α5 → α6 → Act} (F : α1 → α2 → α3 → α4 → α5 → α6 → World → Prop)
    (h : (Code.region id ops b).wp P (fun e a' w' => e = .normal ∧ ∃ v1 v2 v3 v4 v5 v6, a' = f v1 v2 v3 v4 v5 v6 ∧ F v1 v2 v3 v4 v5 v6 w') a w) (k : ∀ v1 v2 v3 v4 v5 v6 w', F v1 v2 v3 v4 v5 v6 w' → Q .normal (f v1 v2 v3 v4 v5 v6) w') : (Code.region id ops b).wp P Q a w :=
  wp_region_join (fun a' w' => ∃ v1 v2 v3 v4 v5 v6, a' = f v1 v2 v3 v4 v5 v6 ∧ F v1 v2 v3 v4 v5 v6 w') h (fun _ w' ⟨v1, v2, v3, v4, v5, v6, hB, hF⟩ => hB ▸ k v1 v2 v3 v4 v5 v6 w' hF)
/-- block n is a box that was laid for a whole number, not yet written. -/
def NB (m : Nat) (w : World) (n : Nat) : Prop := m ≤ n ∧ n < w.heap.size ∧ w.cell? ⟨n, 0, none⟩ = some (.bool false) ∧ w.cell? ⟨n, 1, none⟩ = some (.slice none 0 0) ∧ w.frozen? ⟨n, 0, none⟩ = false ∧ w.frozen? ⟨n, 1, none⟩ = false
theorem NB.new {m : Nat} (w : World) (h : m ≤ w.heap.size) : NB m (w.alloc (.cells #[.bool false, .slice none 0 0] 26)) w.heap.size :=
  ⟨h, by simp, by simp [go_sem], by simp [go_sem], by simp [go_sem], by simp [go_sem]⟩
theorem NB.drew {m n : Nat} {w : World} (h : NB m w n) : NB m w.drew n := h
theorem NB.keep {m n : Nat} {w w' : World} (h : NB m w n) (hb : Below w.heap.size w w') : NB m w' n :=
  ⟨h.1, Nat.lt_of_lt_of_le h.2.1 hb.size, (hb.cell (p := ⟨n, 0, none⟩) h.2.1).trans h.2.2.1, (hb.cell (p := ⟨n, 1, none⟩) h.2.1).trans h.2.2.2.1, (hb.frozen (p := ⟨n, 0, none⟩) h.2.1).trans h.2.2.2.2.1, (hb.frozen (p := ⟨n, 1, none⟩) h.2.1).trans h.2.2.2.2.2⟩
theorem NB.fill {m n B : Nat} {w : World} {ad : Option Addr} {cap l : Nat} {b : Bool} {z : Int} (h : NB m w n) (hn : n < B) (ho : WO w B (.agg #[.bool b, .slice ad l cap]) z) :
    n < ((w.setCell ⟨n, 0, none⟩ (.bool b)).setCell ⟨n, 1, none⟩ (.slice ad l cap)).heap.size ∧ ((w.setCell ⟨n, 0, none⟩ (.bool b)).setCell ⟨n, 1, none⟩ (.slice ad l cap)).cell? ⟨n, 0, none⟩ = some (.bool b) ∧ ((w.setCell ⟨n, 0, none⟩ (.bool b)).setCell ⟨n, 1, none⟩ (.slice ad l cap)).cell? ⟨n, 1, none⟩ = some (.slice ad l cap) ∧
      ((w.setCell ⟨n, 0, none⟩ (.bool b)).setCell ⟨n, 1, none⟩ (.slice ad l cap)).frozen? ⟨n, 0, none⟩ = false ∧ ((w.setCell ⟨n, 0, none⟩ (.bool b)).setCell ⟨n, 1, none⟩ (.slice ad l cap)).frozen? ⟨n, 1, none⟩ = false ∧ WV ((w.setCell ⟨n, 0, none⟩ (.bool b)).setCell ⟨n, 1, none⟩ (.slice ad l cap)) (.agg #[.bool b, .slice ad l cap]) z := by
  obtain ⟨h1, h2, h3, h4, h5, h6⟩ := h
  refine ⟨by simpa using h2, ?_, ?_, by simpa using h5, by simpa using h6, ((ho.setFar hn _ _).setFar hn _ _).wv⟩
  · rw [World.cell?_setCell_other _ _ _ _ (by intro e; cases e), World.cell?_setCell_same _ _ _ h3]
  · have h4' : (w.setCell ⟨n, 0, none⟩ (.bool b)).cell? ⟨n, 1, none⟩ = some (.slice none 0 0) := by rw [World.cell?_setCell_other _ _ _ _ (by intro e; cases e), h4]
    rw [World.cell?_setCell_same _ _ _ h4']
def KB : Nat → World → Prop := fun n w => n < w.heap.size ∧ (w.cell? ⟨n, 0, none⟩).isSome = true ∧ (w.cell? ⟨n, 1, none⟩).isSome = true ∧ w.frozen? ⟨n, 0, none⟩ = false ∧ w.frozen? ⟨n, 1, none⟩ = false
theorem kb_call {a b : World} {n : Nat} (hb : Below a.heap.size a b) (h : n < a.heap.size ∧ (a.cell? ⟨n, 0, none⟩).isSome = true ∧ (a.cell? ⟨n, 1, none⟩).isSome = true ∧ a.frozen? ⟨n, 0, none⟩ = false ∧ a.frozen? ⟨n, 1, none⟩ = false) :
    n < b.heap.size ∧ (b.cell? ⟨n, 0, none⟩).isSome = true ∧ (b.cell? ⟨n, 1, none⟩).isSome = true ∧ b.frozen? ⟨n, 0, none⟩ = false ∧ b.frozen? ⟨n, 1, none⟩ = false := by
  obtain ⟨h2, h7, h8, h9, h10⟩ := h
  have k := fun (o : Nat) => hb.cell (p := ⟨n, o, none⟩) h2
  have kf := fun (o : Nat) => hb.frozen (p := ⟨n, o, none⟩) h2
  exact ⟨Nat.lt_of_lt_of_le h2 hb.size, by rw [k]; exact h7, by rw [k]; exact h8, (kf _).trans h9, (kf _).trans h10⟩
theorem kb_store {a : World} {n : Nat} (o : Nat) (v : Value) (h : n < a.heap.size ∧ (a.cell? ⟨n, 0, none⟩).isSome = true ∧ (a.cell? ⟨n, 1, none⟩).isSome = true ∧ a.frozen? ⟨n, 0, none⟩ = false ∧ a.frozen? ⟨n, 1, none⟩ = false) :
    n < (a.setCell ⟨n, o, none⟩ v).heap.size ∧ ((a.setCell ⟨n, o, none⟩ v).cell? ⟨n, 0, none⟩).isSome = true ∧ ((a.setCell ⟨n, o, none⟩ v).cell? ⟨n, 1, none⟩).isSome = true ∧ (a.setCell ⟨n, o, none⟩ v).frozen? ⟨n, 0, none⟩ = false ∧ (a.setCell ⟨n, o, none⟩ v).frozen? ⟨n, 1, none⟩ = false := by
  obtain ⟨h2, h7, h8, h9, h10⟩ := h
  refine ⟨by simpa using h2, ?_, ?_, by simpa using h9, by simpa using h10⟩
  · by_cases ho : o = 0
    · subst ho
      obtain ⟨x, hx⟩ := Option.isSome_iff_exists.1 h7
      rw [World.cell?_setCell_same _ _ _ hx]; rfl
    · rw [World.cell?_setCell_other _ _ _ _ (by intro e; injection e; omega)]; exact h7
  · by_cases ho : o = 1
    · subst ho
      obtain ⟨x, hx⟩ := Option.isSome_iff_exists.1 h8
      rw [World.cell?_setCell_same _ _ _ hx]; rfl
    · rw [World.cell?_setCell_other _ _ _ _ (by intro e; injection e; omega)]; exact h8
theorem kb0 {a b : World} {n : Nat} (hb : Below a.heap.size a b) (h : n < a.heap.size ∧ (a.cell? ⟨n, 0, none⟩).isSome = true ∧ (a.cell? ⟨n, 1, none⟩).isSome = true ∧ a.frozen? ⟨n, 0, none⟩ = false ∧ a.frozen? ⟨n, 1, none⟩ = false) : (b.cell? ⟨n, 0, none⟩).isSome = true := (kb_call hb h).2.1
theorem kb1 {a b : World} {n : Nat} (hb : Below a.heap.size a b) (h : n < a.heap.size ∧ (a.cell? ⟨n, 0, none⟩).isSome = true ∧ (a.cell? ⟨n, 1, none⟩).isSome = true ∧ a.frozen? ⟨n, 0, none⟩ = false ∧ a.frozen? ⟨n, 1, none⟩ = false) : (b.cell? ⟨n, 1, none⟩).isSome = true := (kb_call hb h).2.2.1
theorem kb_start {w : World} {n : Nat} {u0 u1 : Value} (h2 : n < w.heap.size) (c0 : w.cell? ⟨n, 0, none⟩ = some u0) (c1 : w.cell? ⟨n, 1, none⟩ = some u1) (f0 : w.frozen? ⟨n, 0, none⟩ = false) (f1 : w.frozen? ⟨n, 1, none⟩ = false) :
    n < w.drew.heap.size ∧ (w.drew.cell? ⟨n, 0, none⟩).isSome = true ∧ (w.drew.cell? ⟨n, 1, none⟩).isSome = true ∧ w.drew.frozen? ⟨n, 0, none⟩ = false ∧ w.drew.frozen? ⟨n, 1, none⟩ = false :=
  ⟨h2, by show (w.cell? _).isSome = true; rw [c0]; rfl, by show (w.cell? _).isSome = true; rw [c1]; rfl, f0, f1⟩
theorem kt_call {W3 a b : World} {Bn i j l : Nat} {c0 c1 c2 c3 c4 c5 : Value} (hi : i < Bn) (hj : j < Bn) (hl : l < Bn) (hb : Below a.heap.size a b) (h : Below Bn W3 a ∧ Bn < a.heap.size ∧ (a.cell? ⟨Bn, 0, none⟩).isSome = true ∧ (a.cell? ⟨Bn, 1, none⟩).isSome = true ∧ a.frozen? ⟨Bn, 0, none⟩ = false ∧ a.frozen? ⟨Bn, 1, none⟩ = false ∧ a.cell? ⟨i, 0, none⟩ = some c0 ∧ a.cell? ⟨i, 1, none⟩ = some c1 ∧ a.cell? ⟨j, 0, none⟩ = some c2 ∧ a.cell? ⟨j, 2, none⟩ = some c3 ∧ a.cell? ⟨l, 0, none⟩ = some c4 ∧ a.cell? ⟨l, 2, none⟩ = some c5) : Below Bn W3 b ∧ Bn < b.heap.size ∧ (b.cell? ⟨Bn, 0, none⟩).isSome = true ∧ (b.cell? ⟨Bn, 1, none⟩).isSome = true ∧ b.frozen? ⟨Bn, 0, none⟩ = false ∧ b.frozen? ⟨Bn, 1, none⟩ = false ∧ b.cell? ⟨i, 0, none⟩ = some c0 ∧ b.cell? ⟨i, 1, none⟩ = some c1 ∧ b.cell? ⟨j, 0, none⟩ = some c2 ∧ b.cell? ⟨j, 2, none⟩ = some c3 ∧ b.cell? ⟨l, 0, none⟩ = some c4 ∧ b.cell? ⟨l, 2, none⟩ = some c5 := by
  obtain ⟨h1, h2, h3, h4, h5, h6, h7, h8, h9, h10, h11, h12⟩ := h
  obtain ⟨g1, g2, g3, g4, g5⟩ := kb_call hb ⟨h2, h3, h4, h5, h6⟩
  have k := fun (i o : Nat) (hi : i < Bn) => hb.cell (p := ⟨i, o, none⟩) (show i < a.heap.size by omega)
  exact ⟨h1.trans (hb.mono (by omega)), g1, g2, g3, g4, g5, (k _ _ hi).trans h7, (k _ _ hi).trans h8, (k _ _ hj).trans h9, (k _ _ hj).trans h10, (k _ _ hl).trans h11, (k _ _ hl).trans h12⟩
theorem kt_store {W3 a : World} {Bn i j l : Nat} {c0 c1 c2 c3 c4 c5 : Value} (hi : i < Bn) (hj : j < Bn) (hl : l < Bn) (o : Nat) (v : Value) (h : Below Bn W3 a ∧ Bn < a.heap.size ∧ (a.cell? ⟨Bn, 0, none⟩).isSome = true ∧ (a.cell? ⟨Bn, 1, none⟩).isSome = true ∧ a.frozen? ⟨Bn, 0, none⟩ = false ∧ a.frozen? ⟨Bn, 1, none⟩ = false ∧ a.cell? ⟨i, 0, none⟩ = some c0 ∧ a.cell? ⟨i, 1, none⟩ = some c1 ∧ a.cell? ⟨j, 0, none⟩ = some c2 ∧ a.cell? ⟨j, 2, none⟩ = some c3 ∧ a.cell? ⟨l, 0, none⟩ = some c4 ∧ a.cell? ⟨l, 2, none⟩ = some c5) : Below Bn W3 (a.setCell ⟨Bn, o, none⟩ v) ∧ Bn < (a.setCell ⟨Bn, o, none⟩ v).heap.size ∧ ((a.setCell ⟨Bn, o, none⟩ v).cell? ⟨Bn, 0, none⟩).isSome = true ∧ ((a.setCell ⟨Bn, o, none⟩ v).cell? ⟨Bn, 1, none⟩).isSome = true ∧ (a.setCell ⟨Bn, o, none⟩ v).frozen? ⟨Bn, 0, none⟩ = false ∧ (a.setCell ⟨Bn, o, none⟩ v).frozen? ⟨Bn, 1, none⟩ = false ∧ (a.setCell ⟨Bn, o, none⟩ v).cell? ⟨i, 0, none⟩ = some c0 ∧ (a.setCell ⟨Bn, o, none⟩ v).cell? ⟨i, 1, none⟩ = some c1 ∧ (a.setCell ⟨Bn, o, none⟩ v).cell? ⟨j, 0, none⟩ = some c2 ∧ (a.setCell ⟨Bn, o, none⟩ v).cell? ⟨j, 2, none⟩ = some c3 ∧ (a.setCell ⟨Bn, o, none⟩ v).cell? ⟨l, 0, none⟩ = some c4 ∧ (a.setCell ⟨Bn, o, none⟩ v).cell? ⟨l, 2, none⟩ = some c5 := by
  obtain ⟨h1, h2, h3, h4, h5, h6, h7, h8, h9, h10, h11, h12⟩ := h
  obtain ⟨g1, g2, g3, g4, g5⟩ := kb_store o v ⟨h2, h3, h4, h5, h6⟩
  have k := fun (i q : Nat) (hi : i < Bn) => World.cell?_setCell_other a ⟨Bn, o, none⟩ ⟨i, q, none⟩ v (by intro e; injection e; omega)
  exact ⟨h1.setCell (Nat.le_refl _) v, g1, g2, g3, g4, g5, (k _ _ hi).trans h7, (k _ _ hi).trans h8, (k _ _ hj).trans h9, (k _ _ hj).trans h10, (k _ _ hl).trans h11, (k _ _ hl).trans h12⟩
theorem kt_drew {W3 a : World} {Bn i j l : Nat} {c0 c1 c2 c3 c4 c5 : Value} (h : Below Bn W3 a ∧ Bn < a.heap.size ∧ (a.cell? ⟨Bn, 0, none⟩).isSome = true ∧ (a.cell? ⟨Bn, 1, none⟩).isSome = true ∧ a.frozen? ⟨Bn, 0, none⟩ = false ∧ a.frozen? ⟨Bn, 1, none⟩ = false ∧ a.cell? ⟨i, 0, none⟩ = some c0 ∧ a.cell? ⟨i, 1, none⟩ = some c1 ∧ a.cell? ⟨j, 0, none⟩ = some c2 ∧ a.cell? ⟨j, 2, none⟩ = some c3 ∧ a.cell? ⟨l, 0, none⟩ = some c4 ∧ a.cell? ⟨l, 2, none⟩ = some c5) : Below Bn W3 a.drew ∧ Bn < a.drew.heap.size ∧ (a.drew.cell? ⟨Bn, 0, none⟩).isSome = true ∧ (a.drew.cell? ⟨Bn, 1, none⟩).isSome = true ∧ a.drew.frozen? ⟨Bn, 0, none⟩ = false ∧ a.drew.frozen? ⟨Bn, 1, none⟩ = false ∧ a.drew.cell? ⟨i, 0, none⟩ = some c0 ∧ a.drew.cell? ⟨i, 1, none⟩ = some c1 ∧ a.drew.cell? ⟨j, 0, none⟩ = some c2 ∧ a.drew.cell? ⟨j, 2, none⟩ = some c3 ∧ a.drew.cell? ⟨l, 0, none⟩ = some c4 ∧ a.drew.cell? ⟨l, 2, none⟩ = some c5 :=
  ⟨h.1.drew, h.2⟩
theorem kt_start {w : World} {Bn i j l : Nat} {u0 u1 c0 c1 c2 c3 c4 c5 : Value} (h2 : Bn < w.heap.size) (d0 : w.cell? ⟨Bn, 0, none⟩ = some u0) (d1 : w.cell? ⟨Bn, 1, none⟩ = some u1) (f0 : w.frozen? ⟨Bn, 0, none⟩ = false) (f1 : w.frozen? ⟨Bn, 1, none⟩ = false)
    (k0 : w.cell? ⟨i, 0, none⟩ = some c0) (k1 : w.cell? ⟨i, 1, none⟩ = some c1) (k2 : w.cell? ⟨j, 0, none⟩ = some c2) (k3 : w.cell? ⟨j, 2, none⟩ = some c3) (k4 : w.cell? ⟨l, 0, none⟩ = some c4) (k5 : w.cell? ⟨l, 2, none⟩ = some c5) : Below Bn w w.drew ∧ Bn < w.drew.heap.size ∧ (w.drew.cell? ⟨Bn, 0, none⟩).isSome = true ∧ (w.drew.cell? ⟨Bn, 1, none⟩).isSome = true ∧ w.drew.frozen? ⟨Bn, 0, none⟩ = false ∧ w.drew.frozen? ⟨Bn, 1, none⟩ = false ∧ w.drew.cell? ⟨i, 0, none⟩ = some c0 ∧ w.drew.cell? ⟨i, 1, none⟩ = some c1 ∧ w.drew.cell? ⟨j, 0, none⟩ = some c2 ∧ w.drew.cell? ⟨j, 2, none⟩ = some c3 ∧ w.drew.cell? ⟨l, 0, none⟩ = some c4 ∧ w.drew.cell? ⟨l, 2, none⟩ = some c5 := by
  obtain ⟨g1, g2, g3, g4, g5⟩ := kb_start h2 d0 d1 f0 f1
  exact ⟨(Below.refl _ _).drew, g1, g2, g3, g4, g5, k0, k1, k2, k3, k4, k5⟩
theorem sumX_T {n m x e x2 e2 X E T1 T2 T3 T4 Tb : Int} (h1 : n * n * (e * e * e2 * e2) = T1) (h2 : x * e2 * e2 + x2 * e * e = T2) (h3 : m * m * T2 = T3) (h4 : T1 + -T3 = T4) (hb : m * m * (e * e * e2 * e2) = Tb) : SumX n m x e x2 e2 X E ↔ Tb * X = T4 * (E * E) := by
  subst h1; subst h2; subst h3; subst h4; subst hb
  unfold SumX
  have k1 : (n*n*(e*e*(e2*e2)) - m*m*(x*(e2*e2) + x2*(e*e)))*(E*E) = (n * n * (e * e * e2 * e2) + -(m * m * (x * e2 * e2 + x2 * e * e))) * (E * E) := by grind
  have k2 : X*(m*m*(e*e*(e2*e2))) = m * m * (e * e * e2 * e2) * X := by grind
  rw [k1, k2]
  exact ⟨fun h => h.symm, fun h => h.symm⟩
theorem side_eq (n m x y e X E : Int) : sideI n m x y e X E = n * (x * E * E - X * e * e) * e - y * m * E * E := by
  unfold sideI
  have k1 : x * E * E = x * (E * E) := Int.mul_assoc ..
  have k2 : X * e * e = X * (e * e) := Int.mul_assoc ..
  have k3 : y * m * E * E = y * m * (E * E) := Int.mul_assoc ..
  rw [k1, k2, k3]
theorem FinP.sq {a b x y e : Int} (hc : curveB a b = true) (h : FinP a b x y e) : valI a b x e < 4503599627370496 ∧ (y.natAbs : Int) * (y.natAbs : Int) = valI a b x e ∧ valI a b x e < ((y.natAbs : Int) + 1) * ((y.natAbs : Int) + 1) ∧ -1800000 ≤ y ∧ y ≤ 1800000 := by
  have hb := PtBd.of (a := a) (b := b) (x := x) (y := y) (e := e) (by unfold pointB; rw [hc, h.onB]; rfl)
  obtain ⟨_, _, h3, h4, _⟩ := hb
  have hon := h.on
  have h5 := mul_bd (a := y) (b := y) (A := 1800000) (B := 1800000) h3 h4 h3 h4
  have h6 : (y.natAbs : Int) * (y.natAbs : Int) = y * y := by rw [← Int.natAbs_mul_self' y]
  refine ⟨by omega, by omega, ?_, h3, h4⟩
  rw [← hon, ← h6]
  have k1 : ((y.natAbs : Int) + 1) * ((y.natAbs : Int) + 1) = (y.natAbs : Int) * (y.natAbs : Int) + 2 * (y.natAbs : Int) + 1 := by clear h5 h6 hon; grind
  omega
theorem kb_fill {n B : Nat} {w : World} {ad : Option Addr} {cap l : Nat} {b : Bool} {z : Int} {x0 x1 : Value} (hs : n < w.heap.size) (h3 : w.cell? ⟨n, 0, none⟩ = some x0) (h4 : w.cell? ⟨n, 1, none⟩ = some x1) (hn : n < B) (ho : WO w B (.agg #[.bool b, .slice ad l cap]) z) :
    n < ((w.setCell ⟨n, 0, none⟩ (.bool b)).setCell ⟨n, 1, none⟩ (.slice ad l cap)).heap.size ∧ ((w.setCell ⟨n, 0, none⟩ (.bool b)).setCell ⟨n, 1, none⟩ (.slice ad l cap)).cell? ⟨n, 0, none⟩ = some (.bool b) ∧ ((w.setCell ⟨n, 0, none⟩ (.bool b)).setCell ⟨n, 1, none⟩ (.slice ad l cap)).cell? ⟨n, 1, none⟩ = some (.slice ad l cap) ∧
      WV ((w.setCell ⟨n, 0, none⟩ (.bool b)).setCell ⟨n, 1, none⟩ (.slice ad l cap)) (.agg #[.bool b, .slice ad l cap]) z := by
  refine ⟨by simpa using hs, ?_, ?_, ((ho.setFar hn _ _).setFar hn _ _).wv⟩
  · rw [World.cell?_setCell_other _ _ _ _ (by intro e; cases e), World.cell?_setCell_same _ _ _ h3]
  · have h4' : (w.setCell ⟨n, 0, none⟩ (.bool b)).cell? ⟨n, 1, none⟩ = some x1 := by rw [World.cell?_setCell_other _ _ _ _ (by intro e; cases e), h4]
    rw [World.cell?_setCell_same _ _ _ h4']
theorem wp_region_e5 {P : Program} {id : Nat} {ops : Array Oper} {b : Bool} {Q : Exit → Act → World → Prop} {a : Act} {w : World} {α1 α2 α3 α4 α5 : Type} {f : α1 → α2 → α3 → α4 → α5 → Act} (F : α1 → α2 → α3 → α4 → α5 → World → Prop)
    (h : (Code.region id ops b).wp P (fun e a' w' => e = .normal ∧ ∃ v1 v2 v3 v4 v5, a' = f v1 v2 v3 v4 v5 ∧ F v1 v2 v3 v4 v5 w') a w) (k : ∀ v1 v2 v3 v4 v5 w', F v1 v2 v3 v4 v5 w' → Q .normal (f v1 v2 v3 v4 v5) w') : (Code.region id ops b).wp P Q a w :=
  wp_region_join (fun a' w' => ∃ v1 v2 v3 v4 v5, a' = f v1 v2 v3 v4 v5 ∧ F v1 v2 v3 v4 v5 w') h (fun _ w' ⟨v1, v2, v3, v4, v5, hB, hF⟩ => hB ▸ k v1 v2 v3 v4 v5 w' hF)
theorem top_len {k : Nat} {u v : Int} (h1 : (digs u.natAbs).length ≤ k) (h2 : (digs v.natAbs).length ≤ k) : (digs (u + v).natAbs).length ≤ k + 1 := Nat.le_trans (digs_mono (show (u + v).natAbs ≤ u.natAbs + v.natAbs by omega)) (digs_add_len h1 h2)
theorem held1 {W w' : World} {B0 : Nat} {u0 u1 : Value} (h : Below W.heap.size W w') (h0 : B0 < W.heap.size) (c0 : W.cell? ⟨B0, 0, none⟩ = some u0) (c1 : W.cell? ⟨B0, 1, none⟩ = some u1) :
    Below W.heap.size W w' ∧ w'.cell? ⟨B0, 0, none⟩ = some u0 ∧ w'.cell? ⟨B0, 1, none⟩ = some u1 := ⟨h, (h.cell (p := ⟨B0, 0, none⟩) h0).trans c0, (h.cell (p := ⟨B0, 1, none⟩) h0).trans c1⟩
theorem ptOA_some (x y e : Int) : ptO (some (x, y, e)) = .tuple #[.agg #[.int .i64 x, .int .i64 y, .int .i64 e], .bool true] := rfl
theorem ptOA_none : ptO none = .tuple #[.agg #[.int .i64 0, .int .i64 0, .int .i64 0], .bool false] := rfl
end Go.Proofs.YtakilincclnpdaaGreatDoor
