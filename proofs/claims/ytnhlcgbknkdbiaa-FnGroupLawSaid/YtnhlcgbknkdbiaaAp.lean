/- Ap: contracts: the program's sum of two points. No conditions. -/
import Derived.Test.YtnhlcgbknkdbiaaSq
import Derived.Test.YtnhlcgbknkdbiaaWe
import Derived.Test.YtnhlcgbknkdbiaaPz
import Derived.Test.YtnhlcgbknkdbiaaNg
import Derived.Test.YtnhlcgbknkdbiaaEr
import Derived.Deep.Cut
namespace Go.Proofs.Ytnhlcgbknkdbiaa
open Go.RowKit

theorem wp_region_e2 {P : Program} {id : Nat} {ops : Array Oper} {b : Bool} {Q : Exit → Act → World → Prop} {a : Act} {w : World} {α β : Type} {f : α → β → Act} (F : α → β → World → Prop)
    (h : (Code.region id ops b).wp P (fun e a' w' => e = .normal ∧ ∃ v1 v2, a' = f v1 v2 ∧ F v1 v2 w') a w) (k : ∀ v1 v2 w', F v1 v2 w' → Q .normal (f v1 v2) w') : (Code.region id ops b).wp P Q a w :=
  wp_region_join (fun a' w' => ∃ v1 v2, a' = f v1 v2 ∧ F v1 v2 w') h (fun _ w' ⟨v1, v2, hB, hF⟩ => hB ▸ k v1 v2 w' hF)
theorem wp_region_e6 {P : Program} {id : Nat} {ops : Array Oper} {b : Bool} {Q : Exit → Act → World → Prop} {a : Act} {w : World} {α1 α2 α3 α4 α5 α6 : Type} {f : α1 → α2 → α3 → α4 → α5 → α6 → Act} (F : α1 → α2 → α3 → α4 → α5 → α6 → World → Prop)
    (h : (Code.region id ops b).wp P (fun e a' w' => e = .normal ∧ ∃ v1 v2 v3 v4 v5 v6, a' = f v1 v2 v3 v4 v5 v6 ∧ F v1 v2 v3 v4 v5 v6 w') a w) (k : ∀ v1 v2 v3 v4 v5 v6 w', F v1 v2 v3 v4 v5 v6 w' → Q .normal (f v1 v2 v3 v4 v5 v6) w') : (Code.region id ops b).wp P Q a w :=
  wp_region_join (fun a' w' => ∃ v1 v2 v3 v4 v5 v6, a' = f v1 v2 v3 v4 v5 v6 ∧ F v1 v2 v3 v4 v5 v6 w') h (fun _ w' ⟨v1, v2, v3, v4, v5, v6, hB, hF⟩ => hB ▸ k v1 v2 v3 v4 v5 v6 w' hF)
/-- block n is a box that was laid for a whole number, not yet written. -/
def NB (m : Nat) (w : World) (n : Nat) : Prop := m ≤ n ∧ n < w.heap.size ∧ w.cell? ⟨n, 0, none⟩ = some (.bool false) ∧ w.cell? ⟨n, 1, none⟩ = some (.slice none 0 0) ∧ w.frozen? ⟨n, 0, none⟩ = false ∧ w.frozen? ⟨n, 1, none⟩ = false
theorem NB.new {m : Nat} (w : World) (h : m ≤ w.heap.size) : NB m (w.alloc (.cells #[.bool false, .slice none 0 0] 26)) w.heap.size :=
  ⟨h, by simp, by simp [go_sem], by simp [go_sem], by simp [go_sem], by simp [go_sem]⟩
theorem NB.drew {m n : Nat} {w : World} (h : NB m w n) : NB m w.drew n := h
theorem NB.keep {m n : Nat} {w w' : World} (h : NB m w n) (hb : Below w.heap.size w w') : NB m w' n :=
  ⟨h.1, Nat.lt_of_lt_of_le h.2.1 hb.size, (hb.cell (p := ⟨n, 0, none⟩) h.2.1).trans h.2.2.1, (hb.cell (p := ⟨n, 1, none⟩) h.2.1).trans h.2.2.2.1, (hb.frozen (p := ⟨n, 0, none⟩) h.2.1).trans h.2.2.2.2.1, (hb.frozen (p := ⟨n, 1, none⟩) h.2.1).trans h.2.2.2.2.2⟩
theorem NB.fill {m n B : Nat} {w : World} {ad : Option Addr} {cap l : Nat} {b : Bool} {z : Int} (h : NB m w n) (hn : n < B) (ho : WO w B (.agg #[.bool b, .slice ad l cap]) z) :
    n < ((w.setCell ⟨n, 0, none⟩ (.bool b)).setCell ⟨n, 1, none⟩ (.slice ad l cap)).heap.size ∧ ((w.setCell ⟨n, 0, none⟩ (.bool b)).setCell ⟨n, 1, none⟩ (.slice ad l cap)).cell? ⟨n, 0, none⟩ = some (.bool b) ∧ ((w.setCell ⟨n, 0, none⟩ (.bool b)).setCell ⟨n, 1, none⟩ (.slice ad l cap)).cell? ⟨n, 1, none⟩ = some (.slice ad l cap) ∧
      ((w.setCell ⟨n, 0, none⟩ (.bool b)).setCell ⟨n, 1, none⟩ (.slice ad l cap)).frozen? ⟨n, 0, none⟩ = false ∧ ((w.setCell ⟨n, 0, none⟩ (.bool b)).setCell ⟨n, 1, none⟩ (.slice ad l cap)).frozen? ⟨n, 1, none⟩ = false ∧ WV ((w.setCell ⟨n, 0, none⟩ (.bool b)).setCell ⟨n, 1, none⟩ (.slice ad l cap)) (.agg #[.bool b, .slice ad l cap]) z := by
  obtain ⟨h1, h2, h3, h4, h5, h6⟩ := h
  refine ⟨by simpa using h2, ?_, ?_, by simpa using h5, by simpa using h6, ((ho.setFar hn _ _).setFar hn _ _).wv⟩
  · rw [World.cell?_setCell_other _ _ _ _ (by intro e; cases e), World.cell?_setCell_same _ _ _ h3]
  · have h4' : (w.setCell ⟨n, 0, none⟩ (.bool b)).cell? ⟨n, 1, none⟩ = some (.slice none 0 0) := by rw [World.cell?_setCell_other _ _ _ _ (by intro e; cases e), h4]
    rw [World.cell?_setCell_same _ _ _ h4']
def KB : Nat → World → Prop := fun n w => n < w.heap.size ∧ (w.cell? ⟨n, 0, none⟩).isSome = true ∧ (w.cell? ⟨n, 1, none⟩).isSome = true ∧ w.frozen? ⟨n, 0, none⟩ = false ∧ w.frozen? ⟨n, 1, none⟩ = false
theorem kb_call {a b : World} {n : Nat} (hb : Below a.heap.size a b) (h : n < a.heap.size ∧ (a.cell? ⟨n, 0, none⟩).isSome = true ∧ (a.cell? ⟨n, 1, none⟩).isSome = true ∧ a.frozen? ⟨n, 0, none⟩ = false ∧ a.frozen? ⟨n, 1, none⟩ = false) :
    n < b.heap.size ∧ (b.cell? ⟨n, 0, none⟩).isSome = true ∧ (b.cell? ⟨n, 1, none⟩).isSome = true ∧ b.frozen? ⟨n, 0, none⟩ = false ∧ b.frozen? ⟨n, 1, none⟩ = false := by
  obtain ⟨h2, h7, h8, h9, h10⟩ := h
  have k := fun (o : Nat) => hb.cell (p := ⟨n, o, none⟩) h2
  have kf := fun (o : Nat) => hb.frozen (p := ⟨n, o, none⟩) h2
  exact ⟨Nat.lt_of_lt_of_le h2 hb.size, by rw [k]; exact h7, by rw [k]; exact h8, (kf _).trans h9, (kf _).trans h10⟩
theorem kb_store {a : World} {n : Nat} (o : Nat) (v : Value) (h : n < a.heap.size ∧ (a.cell? ⟨n, 0, none⟩).isSome = true ∧ (a.cell? ⟨n, 1, none⟩).isSome = true ∧ a.frozen? ⟨n, 0, none⟩ = false ∧ a.frozen? ⟨n, 1, none⟩ = false) :
    n < (a.setCell ⟨n, o, none⟩ v).heap.size ∧ ((a.setCell ⟨n, o, none⟩ v).cell? ⟨n, 0, none⟩).isSome = true ∧ ((a.setCell ⟨n, o, none⟩ v).cell? ⟨n, 1, none⟩).isSome = true ∧ (a.setCell ⟨n, o, none⟩ v).frozen? ⟨n, 0, none⟩ = false ∧ (a.setCell ⟨n, o, none⟩ v).frozen? ⟨n, 1, none⟩ = false := by
  obtain ⟨h2, h7, h8, h9, h10⟩ := h
  refine ⟨by simpa using h2, ?_, ?_, by simpa using h9, by simpa using h10⟩
  · by_cases ho : o = 0
    · subst ho
      obtain ⟨x, hx⟩ := Option.isSome_iff_exists.1 h7
      rw [World.cell?_setCell_same _ _ _ hx]; rfl
    · rw [World.cell?_setCell_other _ _ _ _ (by intro e; injection e; omega)]; exact h7
  · by_cases ho : o = 1
    · subst ho
      obtain ⟨x, hx⟩ := Option.isSome_iff_exists.1 h8
      rw [World.cell?_setCell_same _ _ _ hx]; rfl
    · rw [World.cell?_setCell_other _ _ _ _ (by intro e; injection e; omega)]; exact h8
theorem kb0 {a b : World} {n : Nat} (hb : Below a.heap.size a b) (h : n < a.heap.size ∧ (a.cell? ⟨n, 0, none⟩).isSome = true ∧ (a.cell? ⟨n, 1, none⟩).isSome = true ∧ a.frozen? ⟨n, 0, none⟩ = false ∧ a.frozen? ⟨n, 1, none⟩ = false) : (b.cell? ⟨n, 0, none⟩).isSome = true := (kb_call hb h).2.1
theorem kb1 {a b : World} {n : Nat} (hb : Below a.heap.size a b) (h : n < a.heap.size ∧ (a.cell? ⟨n, 0, none⟩).isSome = true ∧ (a.cell? ⟨n, 1, none⟩).isSome = true ∧ a.frozen? ⟨n, 0, none⟩ = false ∧ a.frozen? ⟨n, 1, none⟩ = false) : (b.cell? ⟨n, 1, none⟩).isSome = true := (kb_call hb h).2.2.1
theorem kb_start {w : World} {n : Nat} {u0 u1 : Value} (h2 : n < w.heap.size) (c0 : w.cell? ⟨n, 0, none⟩ = some u0) (c1 : w.cell? ⟨n, 1, none⟩ = some u1) (f0 : w.frozen? ⟨n, 0, none⟩ = false) (f1 : w.frozen? ⟨n, 1, none⟩ = false) :
    n < w.drew.heap.size ∧ (w.drew.cell? ⟨n, 0, none⟩).isSome = true ∧ (w.drew.cell? ⟨n, 1, none⟩).isSome = true ∧ w.drew.frozen? ⟨n, 0, none⟩ = false ∧ w.drew.frozen? ⟨n, 1, none⟩ = false :=
  ⟨h2, by show (w.cell? _).isSome = true; rw [c0]; rfl, by show (w.cell? _).isSome = true; rw [c1]; rfl, f0, f1⟩
theorem kt_call {W3 a b : World} {Bn i j l : Nat} {c0 c1 c2 c3 c4 c5 : Value} (hi : i < Bn) (hj : j < Bn) (hl : l < Bn) (hb : Below a.heap.size a b) (h : Below Bn W3 a ∧ Bn < a.heap.size ∧ (a.cell? ⟨Bn, 0, none⟩).isSome = true ∧ (a.cell? ⟨Bn, 1, none⟩).isSome = true ∧ a.frozen? ⟨Bn, 0, none⟩ = false ∧ a.frozen? ⟨Bn, 1, none⟩ = false ∧ a.cell? ⟨i, 0, none⟩ = some c0 ∧ a.cell? ⟨i, 1, none⟩ = some c1 ∧ a.cell? ⟨j, 0, none⟩ = some c2 ∧ a.cell? ⟨j, 2, none⟩ = some c3 ∧ a.cell? ⟨l, 0, none⟩ = some c4 ∧ a.cell? ⟨l, 2, none⟩ = some c5) : Below Bn W3 b ∧ Bn < b.heap.size ∧ (b.cell? ⟨Bn, 0, none⟩).isSome = true ∧ (b.cell? ⟨Bn, 1, none⟩).isSome = true ∧ b.frozen? ⟨Bn, 0, none⟩ = false ∧ b.frozen? ⟨Bn, 1, none⟩ = false ∧ b.cell? ⟨i, 0, none⟩ = some c0 ∧ b.cell? ⟨i, 1, none⟩ = some c1 ∧ b.cell? ⟨j, 0, none⟩ = some c2 ∧ b.cell? ⟨j, 2, none⟩ = some c3 ∧ b.cell? ⟨l, 0, none⟩ = some c4 ∧ b.cell? ⟨l, 2, none⟩ = some c5 := by
  obtain ⟨h1, h2, h3, h4, h5, h6, h7, h8, h9, h10, h11, h12⟩ := h
  obtain ⟨g1, g2, g3, g4, g5⟩ := kb_call hb ⟨h2, h3, h4, h5, h6⟩
  have k := fun (i o : Nat) (hi : i < Bn) => hb.cell (p := ⟨i, o, none⟩) (show i < a.heap.size by omega)
  exact ⟨h1.trans (hb.mono (by omega)), g1, g2, g3, g4, g5, (k _ _ hi).trans h7, (k _ _ hi).trans h8, (k _ _ hj).trans h9, (k _ _ hj).trans h10, (k _ _ hl).trans h11, (k _ _ hl).trans h12⟩
theorem kt_store {W3 a : World} {Bn i j l : Nat} {c0 c1 c2 c3 c4 c5 : Value} (hi : i < Bn) (hj : j < Bn) (hl : l < Bn) (o : Nat) (v : Value) (h : Below Bn W3 a ∧ Bn < a.heap.size ∧ (a.cell? ⟨Bn, 0, none⟩).isSome = true ∧ (a.cell? ⟨Bn, 1, none⟩).isSome = true ∧ a.frozen? ⟨Bn, 0, none⟩ = false ∧ a.frozen? ⟨Bn, 1, none⟩ = false ∧ a.cell? ⟨i, 0, none⟩ = some c0 ∧ a.cell? ⟨i, 1, none⟩ = some c1 ∧ a.cell? ⟨j, 0, none⟩ = some c2 ∧ a.cell? ⟨j, 2, none⟩ = some c3 ∧ a.cell? ⟨l, 0, none⟩ = some c4 ∧ a.cell? ⟨l, 2, none⟩ = some c5) : Below Bn W3 (a.setCell ⟨Bn, o, none⟩ v) ∧ Bn < (a.setCell ⟨Bn, o, none⟩ v).heap.size ∧ ((a.setCell ⟨Bn, o, none⟩ v).cell? ⟨Bn, 0, none⟩).isSome = true ∧ ((a.setCell ⟨Bn, o, none⟩ v).cell? ⟨Bn, 1, none⟩).isSome = true ∧ (a.setCell ⟨Bn, o, none⟩ v).frozen? ⟨Bn, 0, none⟩ = false ∧ (a.setCell ⟨Bn, o, none⟩ v).frozen? ⟨Bn, 1, none⟩ = false ∧ (a.setCell ⟨Bn, o, none⟩ v).cell? ⟨i, 0, none⟩ = some c0 ∧ (a.setCell ⟨Bn, o, none⟩ v).cell? ⟨i, 1, none⟩ = some c1 ∧ (a.setCell ⟨Bn, o, none⟩ v).cell? ⟨j, 0, none⟩ = some c2 ∧ (a.setCell ⟨Bn, o, none⟩ v).cell? ⟨j, 2, none⟩ = some c3 ∧ (a.setCell ⟨Bn, o, none⟩ v).cell? ⟨l, 0, none⟩ = some c4 ∧ (a.setCell ⟨Bn, o, none⟩ v).cell? ⟨l, 2, none⟩ = some c5 := by
  obtain ⟨h1, h2, h3, h4, h5, h6, h7, h8, h9, h10, h11, h12⟩ := h
  obtain ⟨g1, g2, g3, g4, g5⟩ := kb_store o v ⟨h2, h3, h4, h5, h6⟩
  have k := fun (i q : Nat) (hi : i < Bn) => World.cell?_setCell_other a ⟨Bn, o, none⟩ ⟨i, q, none⟩ v (by intro e; injection e; omega)
  exact ⟨h1.setCell (Nat.le_refl _) v, g1, g2, g3, g4, g5, (k _ _ hi).trans h7, (k _ _ hi).trans h8, (k _ _ hj).trans h9, (k _ _ hj).trans h10, (k _ _ hl).trans h11, (k _ _ hl).trans h12⟩
theorem kt_drew {W3 a : World} {Bn i j l : Nat} {c0 c1 c2 c3 c4 c5 : Value} (h : Below Bn W3 a ∧ Bn < a.heap.size ∧ (a.cell? ⟨Bn, 0, none⟩).isSome = true ∧ (a.cell? ⟨Bn, 1, none⟩).isSome = true ∧ a.frozen? ⟨Bn, 0, none⟩ = false ∧ a.frozen? ⟨Bn, 1, none⟩ = false ∧ a.cell? ⟨i, 0, none⟩ = some c0 ∧ a.cell? ⟨i, 1, none⟩ = some c1 ∧ a.cell? ⟨j, 0, none⟩ = some c2 ∧ a.cell? ⟨j, 2, none⟩ = some c3 ∧ a.cell? ⟨l, 0, none⟩ = some c4 ∧ a.cell? ⟨l, 2, none⟩ = some c5) : Below Bn W3 a.drew ∧ Bn < a.drew.heap.size ∧ (a.drew.cell? ⟨Bn, 0, none⟩).isSome = true ∧ (a.drew.cell? ⟨Bn, 1, none⟩).isSome = true ∧ a.drew.frozen? ⟨Bn, 0, none⟩ = false ∧ a.drew.frozen? ⟨Bn, 1, none⟩ = false ∧ a.drew.cell? ⟨i, 0, none⟩ = some c0 ∧ a.drew.cell? ⟨i, 1, none⟩ = some c1 ∧ a.drew.cell? ⟨j, 0, none⟩ = some c2 ∧ a.drew.cell? ⟨j, 2, none⟩ = some c3 ∧ a.drew.cell? ⟨l, 0, none⟩ = some c4 ∧ a.drew.cell? ⟨l, 2, none⟩ = some c5 :=
  ⟨h.1.drew, h.2⟩
theorem kt_start {w : World} {Bn i j l : Nat} {u0 u1 c0 c1 c2 c3 c4 c5 : Value} (h2 : Bn < w.heap.size) (d0 : w.cell? ⟨Bn, 0, none⟩ = some u0) (d1 : w.cell? ⟨Bn, 1, none⟩ = some u1) (f0 : w.frozen? ⟨Bn, 0, none⟩ = false) (f1 : w.frozen? ⟨Bn, 1, none⟩ = false)
    (k0 : w.cell? ⟨i, 0, none⟩ = some c0) (k1 : w.cell? ⟨i, 1, none⟩ = some c1) (k2 : w.cell? ⟨j, 0, none⟩ = some c2) (k3 : w.cell? ⟨j, 2, none⟩ = some c3) (k4 : w.cell? ⟨l, 0, none⟩ = some c4) (k5 : w.cell? ⟨l, 2, none⟩ = some c5) : Below Bn w w.drew ∧ Bn < w.drew.heap.size ∧ (w.drew.cell? ⟨Bn, 0, none⟩).isSome = true ∧ (w.drew.cell? ⟨Bn, 1, none⟩).isSome = true ∧ w.drew.frozen? ⟨Bn, 0, none⟩ = false ∧ w.drew.frozen? ⟨Bn, 1, none⟩ = false ∧ w.drew.cell? ⟨i, 0, none⟩ = some c0 ∧ w.drew.cell? ⟨i, 1, none⟩ = some c1 ∧ w.drew.cell? ⟨j, 0, none⟩ = some c2 ∧ w.drew.cell? ⟨j, 2, none⟩ = some c3 ∧ w.drew.cell? ⟨l, 0, none⟩ = some c4 ∧ w.drew.cell? ⟨l, 2, none⟩ = some c5 := by
  obtain ⟨g1, g2, g3, g4, g5⟩ := kb_start h2 d0 d1 f0 f1
  exact ⟨(Below.refl _ _).drew, g1, g2, g3, g4, g5, k0, k1, k2, k3, k4, k5⟩
theorem sumX_T {n m x e x2 e2 X E T1 T2 T3 T4 Tb : Int} (h1 : n * n * (e * e * e2 * e2) = T1) (h2 : x * e2 * e2 + x2 * e * e = T2) (h3 : m * m * T2 = T3) (h4 : T1 + -T3 = T4) (hb : m * m * (e * e * e2 * e2) = Tb) : SumX n m x e x2 e2 X E ↔ Tb * X = T4 * (E * E) := by
  subst h1; subst h2; subst h3; subst h4; subst hb
  unfold SumX
  have k1 : (n*n*(e*e*(e2*e2)) - m*m*(x*(e2*e2) + x2*(e*e)))*(E*E) = (n * n * (e * e * e2 * e2) + -(m * m * (x * e2 * e2 + x2 * e * e))) * (E * E) := by grind
  have k2 : X*(m*m*(e*e*(e2*e2))) = m * m * (e * e * e2 * e2) * X := by grind
  rw [k1, k2]
  exact ⟨fun h => h.symm, fun h => h.symm⟩
theorem side_eq (n m x y e X E : Int) : sideI n m x y e X E = n * (x * E * E - X * e * e) * e - y * m * E * E := by
  unfold sideI
  have k1 : x * E * E = x * (E * E) := Int.mul_assoc ..
  have k2 : X * e * e = X * (e * e) := Int.mul_assoc ..
  have k3 : y * m * E * E = y * m * (E * E) := Int.mul_assoc ..
  rw [k1, k2, k3]
theorem FinP.sq {a b x y e : Int} (hc : curveB a b = true) (h : FinP a b x y e) : valI a b x e < 4503599627370496 ∧ (y.natAbs : Int) * (y.natAbs : Int) = valI a b x e ∧ valI a b x e < ((y.natAbs : Int) + 1) * ((y.natAbs : Int) + 1) ∧ -1800000 ≤ y ∧ y ≤ 1800000 := by
  have hb := PtBd.of (a := a) (b := b) (x := x) (y := y) (e := e) (by unfold pointB; rw [hc, h.onB]; rfl)
  obtain ⟨_, _, h3, h4, _⟩ := hb
  have hon := h.on
  have h5 := mul_bd (a := y) (b := y) (A := 1800000) (B := 1800000) h3 h4 h3 h4
  have h6 : (y.natAbs : Int) * (y.natAbs : Int) = y * y := by rw [← Int.natAbs_mul_self' y]
  refine ⟨by omega, by omega, ?_, h3, h4⟩
  rw [← hon, ← h6]
  have k1 : ((y.natAbs : Int) + 1) * ((y.natAbs : Int) + 1) = (y.natAbs : Int) * (y.natAbs : Int) + 2 * (y.natAbs : Int) + 1 := by clear h5 h6 hon; grind
  omega
theorem kb_fill {n B : Nat} {w : World} {ad : Option Addr} {cap l : Nat} {b : Bool} {z : Int} {x0 x1 : Value} (hs : n < w.heap.size) (h3 : w.cell? ⟨n, 0, none⟩ = some x0) (h4 : w.cell? ⟨n, 1, none⟩ = some x1) (hn : n < B) (ho : WO w B (.agg #[.bool b, .slice ad l cap]) z) :
    n < ((w.setCell ⟨n, 0, none⟩ (.bool b)).setCell ⟨n, 1, none⟩ (.slice ad l cap)).heap.size ∧ ((w.setCell ⟨n, 0, none⟩ (.bool b)).setCell ⟨n, 1, none⟩ (.slice ad l cap)).cell? ⟨n, 0, none⟩ = some (.bool b) ∧ ((w.setCell ⟨n, 0, none⟩ (.bool b)).setCell ⟨n, 1, none⟩ (.slice ad l cap)).cell? ⟨n, 1, none⟩ = some (.slice ad l cap) ∧
      WV ((w.setCell ⟨n, 0, none⟩ (.bool b)).setCell ⟨n, 1, none⟩ (.slice ad l cap)) (.agg #[.bool b, .slice ad l cap]) z := by
  refine ⟨by simpa using hs, ?_, ?_, ((ho.setFar hn _ _).setFar hn _ _).wv⟩
  · rw [World.cell?_setCell_other _ _ _ _ (by intro e; cases e), World.cell?_setCell_same _ _ _ h3]
  · have h4' : (w.setCell ⟨n, 0, none⟩ (.bool b)).cell? ⟨n, 1, none⟩ = some x1 := by rw [World.cell?_setCell_other _ _ _ _ (by intro e; cases e), h4]
    rw [World.cell?_setCell_same _ _ _ h4']
theorem wp_region_e5 {P : Program} {id : Nat} {ops : Array Oper} {b : Bool} {Q : Exit → Act → World → Prop} {a : Act} {w : World} {α1 α2 α3 α4 α5 : Type} {f : α1 → α2 → α3 → α4 → α5 → Act} (F : α1 → α2 → α3 → α4 → α5 → World → Prop)
    (h : (Code.region id ops b).wp P (fun e a' w' => e = .normal ∧ ∃ v1 v2 v3 v4 v5, a' = f v1 v2 v3 v4 v5 ∧ F v1 v2 v3 v4 v5 w') a w) (k : ∀ v1 v2 v3 v4 v5 w', F v1 v2 v3 v4 v5 w' → Q .normal (f v1 v2 v3 v4 v5) w') : (Code.region id ops b).wp P Q a w :=
  wp_region_join (fun a' w' => ∃ v1 v2 v3 v4 v5, a' = f v1 v2 v3 v4 v5 ∧ F v1 v2 v3 v4 v5 w') h (fun _ w' ⟨v1, v2, v3, v4, v5, hB, hF⟩ => hB ▸ k v1 v2 v3 v4 v5 w' hF)
theorem top_len {k : Nat} {u v : Int} (h1 : (digs u.natAbs).length ≤ k) (h2 : (digs v.natAbs).length ≤ k) : (digs (u + v).natAbs).length ≤ k + 1 := Nat.le_trans (digs_mono (show (u + v).natAbs ≤ u.natAbs + v.natAbs by omega)) (digs_add_len h1 h2)
theorem held1 {W w' : World} {B0 : Nat} {u0 u1 : Value} (h : Below W.heap.size W w') (h0 : B0 < W.heap.size) (c0 : W.cell? ⟨B0, 0, none⟩ = some u0) (c1 : W.cell? ⟨B0, 1, none⟩ = some u1) :
    Below W.heap.size W w' ∧ w'.cell? ⟨B0, 0, none⟩ = some u0 ∧ w'.cell? ⟨B0, 1, none⟩ = some u1 := ⟨h, (h.cell (p := ⟨B0, 0, none⟩) h0).trans c0, (h.cell (p := ⟨B0, 1, none⟩) h0).trans c1⟩
theorem ptOA_some (x y e : Int) : ptO (some (x, y, e)) = .tuple #[.agg #[.int .i64 x, .int .i64 y, .int .i64 e], .bool true] := rfl
theorem ptOA_none : ptO none = .tuple #[.agg #[.int .i64 0, .int .i64 0, .int .i64 0], .bool false] := rfl
/-- the first load of the region that adds up the numerator, under a name of its own: it may come up at any time, and is not to be taken first. -/
def ldTop : Op := .load 26 (.tmp 13)
@[simp, go_sem] theorem ldTop_eq : ldTop = .load 26 (.tmp 13) := rfl
set_option maxRecDepth 100000 in
set_option maxHeartbeats 4000000 in
theorem addPoints_any (a b x y e x2 y2 e2 : Int) (w : World) (hcur : curveB a b = true) (hp : onB a b x y e = true) (hq : onB a b x2 y2 e2 = true) :
    Calls Try.prog 60 #[.agg #[.int .i64 a, .int .i64 b], .agg #[.int .i64 x, .int .i64 y, .int .i64 e], .agg #[.int .i64 x2, .int .i64 y2, .int .i64 e2]] w (Ret (ptO (addT a x y e x2 y2 e2)) w) := by
  have hadd : addT a x y e x2 y2 e2 = if e = 0 then some (x2, y2, e2) else if e2 = 0 then some (x, y, e) else if farI x y e x2 y2 e2 = 0 then some (0, 0, 0) else sumT a x y e x2 y2 e2 := rfl
  by_cases he : e = 0
  · rw [hadd, if_pos he, ptOA_some]
    subst he
    clear hadd
    go_enter Try.func60, Try.ntmps60
    go_wp2_with fail
    refine bodyPost_ret (by simp (maxDischargeDepth := 3) [results, Try.results60, go_sem, *]; try rfl) rfl ?_
    exact ret_eq rfl (by repeat (first | exact Below.refl _ _ | (with_reducible assumption) | refine bel_alloc ?_ _ | refine bel_drew ?_ | refine bel_drewN ?_ _ | refine Below.setCell ?_ (by dsimp only; omega) _ | refine bel_trans (by assumption) ?_))
  rw [if_neg he] at hadd
  have heb : (e == 0) = false := by simp [he]
  by_cases he2 : e2 = 0
  · rw [hadd, if_pos he2, ptOA_some]
    subst he2
    clear hadd
    go_enter Try.func60, Try.ntmps60
    go_wp2_with fail
    refine bodyPost_ret (by simp (maxDischargeDepth := 3) [results, Try.results60, go_sem, *]; try rfl) rfl ?_
    exact ret_eq rfl (by repeat (first | exact Below.refl _ _ | (with_reducible assumption) | refine bel_alloc ?_ _ | refine bel_drew ?_ | refine bel_drewN ?_ _ | refine Below.setCell ?_ (by dsimp only; omega) _ | refine bel_trans (by assumption) ?_))
  rw [if_neg he2] at hadd
  have heb2 : (e2 == 0) = false := by simp [he2]
  have hfp := FinP.of hp he
  have hfq := FinP.of hq he2
  have hpb : pointB a b x y e = true := by unfold pointB; rw [hcur, hp]; rfl
  have hqb : pointB a b x2 y2 e2 = true := by unfold pointB; rw [hcur, hq]; rfl
  have hbp := PtBd.of hpb
  have hbq := PtBd.of hqb
  have hfz := far_zero hfp hfq
  have hy2 : -1800000 ≤ y2 ∧ y2 ≤ 1800000 := ⟨hbq.2.2.1, hbq.2.2.2.1⟩
  by_cases hf : farI x y e x2 y2 e2 = 0
  · rw [hadd, if_pos hf, ptOA_some]
    obtain ⟨rfl, rfl, rfl⟩ := hfz.1 hf
    clear hadd hf hfz hfp hfq hp hq hpb hqb hbp hbq
    go_enter Try.func60, Try.ntmps60
    go_wp2_with fail
    refine wp_region_grow (by kernel_rfl) (by kernel_rfl) ?_
    repeat (go_big_quiet_step (((go_at_call 64; exact grow_ret (opposite_any _ _ _ _ hy2.1 hy2.2)))))
    refine wpQuiet_nil ?_
    rintro wg hbg
    (try replace hbg := aft2 hbg (by assumption))
    obtain ⟨hcg, hfg, hg1, hg2, hg3, hg4⟩ := aftz hbg
    go_wp2_with fail
    refine bodyPost_ret (by simp (maxDischargeDepth := 3) [results, Try.results60, go_sem, *]; try rfl) rfl ?_
    exact ret_eq rfl (by repeat (first | exact Below.refl _ _ | (with_reducible assumption) | refine bel_alloc ?_ _ | refine bel_drew ?_ | refine bel_drewN ?_ _ | refine Below.setCell ?_ (by dsimp only; omega) _ | refine bel_trans (by assumption) ?_))
  rw [if_neg hf] at hadd
  rw [hadd]
  clear hadd
  obtain ⟨R, hR⟩ : ∃ R, sumT a x y e x2 y2 e2 = R := ⟨_, rfl⟩
  rw [hR]
  have HR := Lib.hid hR; clear hR
  have hne : ¬ (x = x2 ∧ y = -y2 ∧ e = e2) := fun h => hf (hfz.2 h)
  have hsb := ptEq_no hne
  obtain ⟨c1, c2, c3, c4, _⟩ := curveB_true.1 hcur
  obtain ⟨m1, m2, m3, m4⟩ := up_bd (a := a) c1 c2 hbp hbq
  have hsl := fun w => slope_any a b x y e x2 y2 e2 w c1 c2 hbp hbq
  obtain ⟨far, hfar⟩ : ∃ far, farI x y e x2 y2 e2 = far := ⟨_, rfl⟩
  obtain ⟨up, hup⟩ : ∃ up, upI a x y e x2 y2 e2 = up := ⟨_, rfl⟩
  have hf0 := hf
  rw [hfar] at m3 m4 hsl hf0
  rw [hup] at m1 m2 hsl
  obtain ⟨G, hG⟩ : ∃ G, gcdI up far = G := ⟨_, rfl⟩
  have hgb := gcdI_bd (n := up) hf0
  have hd1 := gcdI_dvd_l up far
  have hd2 := gcdI_dvd_r up far
  rw [hG] at hgb hd1 hd2
  obtain ⟨n, hn⟩ := hd1
  obtain ⟨m, hm⟩ := hd2
  have hG0 : G ≠ 0 := by omega
  have q1 : up.tdiv G = n := by rw [hn, Int.mul_tdiv_cancel_left _ hG0]
  have q2 : far.tdiv G = m := by rw [hm, Int.mul_tdiv_cancel_left _ hG0]
  have hm0 : m ≠ 0 := by rintro rfl; rw [Int.mul_zero] at hm; exact hf0 hm
  have n1 := tdiv_bd (g := G) m1 m2
  have n2 := tdiv_bd (g := G) m3 m4
  rw [q1] at n1
  rw [q2] at n2
  have hcop : Int.gcd n m = 1 := by
    have h1 : Int.gcd (G * n) (G * m) = G.natAbs * Int.gcd n m := Int.gcd_mul_left ..
    rw [← hn, ← hm] at h1
    have h2 : ((Int.gcd up far : Nat) : Int) = G := hG
    have h3 : G.natAbs = Int.gcd up far := by omega
    rw [h3] at h1
    have h4 : 0 < Int.gcd up far := by omega
    exact Nat.eq_of_mul_eq_mul_left h4 (by omega)
  have wv1 : IntKind.i64.wrap (up.tdiv G) = n := by rw [q1]; exact wrapf (by omega) (by omega)
  have wv2 : IntKind.i64.wrap (far.tdiv G) = m := by rw [q2]; exact wrapf (by omega) (by omega)
  have HG := Lib.hid hG; clear hG
  have HN := Lib.hid (hn.symm.trans hup.symm)
  have HM := Lib.hid (hm.symm.trans hfar.symm)
  have HF := Lib.hid hf
  have HCOP := Lib.hid hcop
  clear hn hm hup hfar hf hcop q1 q2 hne hfz
  have HFP := Lib.hid hfp
  have HFQ := Lib.hid hfq
  obtain ⟨p1, p2, p3, p4, p5, p6⟩ := hbp
  obtain ⟨r1, r2, r3, r4, r5, r6⟩ := hbq
  have hGb : (G == 0) = false := by simp [hG0]
  clear hfp hfq hp hq hpb hqb
  obtain ⟨B0, hB0⟩ : ∃ B0, w.heap.size = B0 := ⟨_, rfl⟩
  go_enter Try.func60, Try.ntmps60
  go_wp2_with fail
  generalize hW : (((w.alloc (.cells #[.int .i64 a, .int .i64 b] 39)).alloc (.cells #[.int .i64 x, .int .i64 y, .int .i64 e] 41)).alloc (.cells #[.int .i64 x2, .int .i64 y2, .int .i64 e2] 41)).alloc (.cells #[.int .i64 0, .int .i64 0, .int .i64 0] 41) = W
  obtain ⟨hbelW, hws, ca0, ca1, cp0, cp1, cp2, cq0, cq1, cq2, cr0, cr1, cr2, fr0, fr1, fr2⟩ : Below w.heap.size w W ∧ B0 + 3 < W.heap.size ∧ W.cell? ⟨B0, 0, none⟩ = some (.int .i64 a) ∧ W.cell? ⟨B0, 1, none⟩ = some (.int .i64 b) ∧
      W.cell? ⟨B0 + 1, 0, none⟩ = some (.int .i64 x) ∧ W.cell? ⟨B0 + 1, 1, none⟩ = some (.int .i64 y) ∧ W.cell? ⟨B0 + 1, 2, none⟩ = some (.int .i64 e) ∧
      W.cell? ⟨B0 + 1 + 1, 0, none⟩ = some (.int .i64 x2) ∧ W.cell? ⟨B0 + 1 + 1, 1, none⟩ = some (.int .i64 y2) ∧ W.cell? ⟨B0 + 1 + 1, 2, none⟩ = some (.int .i64 e2) ∧
      W.cell? ⟨B0 + 1 + 1 + 1, 0, none⟩ = some (.int .i64 0) ∧ W.cell? ⟨B0 + 1 + 1 + 1, 1, none⟩ = some (.int .i64 0) ∧ W.cell? ⟨B0 + 1 + 1 + 1, 2, none⟩ = some (.int .i64 0) ∧ W.frozen? ⟨B0 + 1 + 1 + 1, 0, none⟩ = false ∧ W.frozen? ⟨B0 + 1 + 1 + 1, 1, none⟩ = false ∧ W.frozen? ⟨B0 + 1 + 1 + 1, 2, none⟩ = false := by
    subst hW; subst hB0
    exact ⟨(by repeat (first | exact Below.refl _ _ | (with_reducible assumption) | refine bel_alloc ?_ _ | refine bel_drew ?_ | refine bel_drewN ?_ _ | refine Below.setCell ?_ (by dsimp only; omega) _ | refine bel_trans (by assumption) ?_)), by simp, by simp [go_sem], by simp [go_sem], by simp [go_sem], by simp [go_sem], by simp [go_sem], by simp [go_sem], by simp [go_sem], by simp [go_sem], by simp [go_sem], by simp [go_sem], by simp [go_sem], by simp [go_sem], by simp [go_sem], by simp [go_sem]⟩
  clear hW
  (try rw [hB0])
  have hk : ∀ wr, Below W.heap.size W wr → wr.cell? ⟨B0, 0, none⟩ = some (.int .i64 a) ∧ wr.cell? ⟨B0, 1, none⟩ = some (.int .i64 b) ∧
      wr.cell? ⟨B0 + 1, 0, none⟩ = some (.int .i64 x) ∧ wr.cell? ⟨B0 + 1, 1, none⟩ = some (.int .i64 y) ∧ wr.cell? ⟨B0 + 1, 2, none⟩ = some (.int .i64 e) ∧
      wr.cell? ⟨B0 + 1 + 1, 0, none⟩ = some (.int .i64 x2) ∧ wr.cell? ⟨B0 + 1 + 1, 1, none⟩ = some (.int .i64 y2) ∧ wr.cell? ⟨B0 + 1 + 1, 2, none⟩ = some (.int .i64 e2) ∧
      wr.cell? ⟨B0 + 1 + 1 + 1, 0, none⟩ = some (.int .i64 0) ∧ wr.cell? ⟨B0 + 1 + 1 + 1, 1, none⟩ = some (.int .i64 0) ∧ wr.cell? ⟨B0 + 1 + 1 + 1, 2, none⟩ = some (.int .i64 0) ∧ wr.frozen? ⟨B0 + 1 + 1 + 1, 0, none⟩ = false ∧ wr.frozen? ⟨B0 + 1 + 1 + 1, 1, none⟩ = false ∧ wr.frozen? ⟨B0 + 1 + 1 + 1, 2, none⟩ = false := fun wr hb => by
    have k := fun (i o : Nat) (hi : i ≤ B0 + 3) => hb.cell (p := ⟨i, o, none⟩) (show i < W.heap.size by omega)
    have kf := fun (i o : Nat) (hi : i ≤ B0 + 3) => hb.frozen (p := ⟨i, o, none⟩) (show i < W.heap.size by omega)
    exact ⟨(k _ _ (by omega)).trans ca0, (k _ _ (by omega)).trans ca1, (k _ _ (by omega)).trans cp0, (k _ _ (by omega)).trans cp1, (k _ _ (by omega)).trans cp2, (k _ _ (by omega)).trans cq0, (k _ _ (by omega)).trans cq1, (k _ _ (by omega)).trans cq2, (k _ _ (by omega)).trans cr0, (k _ _ (by omega)).trans cr1, (k _ _ (by omega)).trans cr2, (kf _ _ (by omega)).trans fr0, (kf _ _ (by omega)).trans fr1, (kf _ _ (by omega)).trans fr2⟩
  have HK := Lib.hid hk
  clear hk
  have g1 : B0 < W.heap.size := by omega
  have g2 : B0 + 1 < W.heap.size := by omega
  have g3 : B0 + 1 + 1 < W.heap.size := by omega
  have HBW : True → Below w.heap.size w W := fun _ => hbelW
  clear hbelW
  refine wp_region_grow (by kernel_rfl) (by kernel_rfl) ?_
  repeat (go_big_quiet_step (((go_at_call 64; exact grow_ret (opposite_any _ _ _ _ hy2.1 hy2.2)))))
  refine wpQuiet_nil ?_
  rintro wg hbg
  (try replace hbg := aft2 hbg (by assumption))
  obtain ⟨hcg, hfg, hg1, hg2, hg3, hg4⟩ := aftz hbg
  clear ca0 ca1 cp0 cp1 cp2 cq0 cq1 cq2 cr0 cr1 cr2 fr0 fr1 fr2 hcg hfg hg1 hg2 hg3 hg4 g1 g2 g3
  obtain ⟨k1, k2, k3, k4, k5, k6, k7, k8, k9⟩ := HK.out wg hbg
  go_wp2_with fail
  refine (hsl _).mono ?_; rintro ee w1' ⟨rfl, hb1⟩
  replace hb1 := bel_trans hb1 hbg
  clear hbg k1 k2 k3 k4 k5 k6 k7 k8 k9 hsb hsl
  go_wp2_with fail
  refine (gcd_any up far _ (by omega) (by omega) (by omega) (by omega)).mono ?_; rintro ee w2' ⟨rfl, hb2⟩
  rw [HG.out]
  replace hb2 := bel_trans hb2 hb1
  clear hb1
  go_wp2_with fail
  go_quiet (fail)
  go_wp2_with fail
  obtain ⟨wd, hwd⟩ : ∃ wd, w2'.drewN nq = wd := ⟨_, rfl⟩
  have hbd : Below W.heap.size W wd := by rw [← hwd]; exact bel_drewN hb2 _
  rw [hwd]
  clear hwd hb2 wv1 wv2 hGb
  refine (wholeOf_any m _ (by omega) (by omega)).mono ?_; rintro ee w3 ⟨u1, rfl, hb3, hu1⟩
  replace hb3 := bel_trans hb3 hbd
  go_wp2_with fail
  refine (wholeOf_any m _ (by omega) (by omega)).mono ?_; rintro ee w4 ⟨u2, rfl, hb4, hu2⟩
  replace hu1 := hu1.wv.keep hb4
  replace hb4 := bel_trans hb4 hb3
  go_wp2_with fail
  have hl1 : ∀ k : Int, -4000000000000000000 ≤ k → k ≤ 4000000000000000000 → (digs k.natAbs).length ≤ 5 := fun k h0 h1 => digs_int_len (by omega)
  have HL1 := Lib.hid hl1
  have hlm := hl1 m (by omega) (by omega)
  have hln := hl1 n (by omega) (by omega)
  clear hl1
  refine (mulWholes_any u1 u2 m m _ hu1 hu2.wv (by omega) (by omega)).mono ?_; rintro ee w5 ⟨u3, rfl, hb5, hu3⟩
  replace hb5 := bel_trans hb5 hb4
  have HU3 := Lib.hid hu3.wv
  obtain ⟨ad3, cap3, hu3', _⟩ := hu3
  subst hu3'
  have hl3 : (digs (m * m).natAbs).length ≤ 10 := by rw [Int.natAbs_mul]; have := digs_mul_len m.natAbs m.natAbs; omega
  have HL3 := Lib.hid hl3; clear hl3 hu1 hu2
  generalize decide (m * m < 0) = b3 at *
  generalize (digs (m * m).natAbs).length = l3 at HU3 ⊢
  clear hbd hb3 hb4
  have e1 := mul_bd (a := e) (b := e) (A := 20) (B := 20) (by omega) (by omega) (by omega) (by omega)
  have e3 := mul_bd (b := e2) (B := 20) e1.1 e1.2 (by omega) (by omega)
  have e4 := mul_bd (b := e2) (B := 20) e3.1 e3.2 (by omega) (by omega)
  obtain ⟨k1, k2, k3, k4, k5, k6, k7, k8, k9⟩ := HK.out w5 hb5
  have z5 := hb5.size
  have s1 : B0 + 1 < w5.heap.size := by omega
  have s2 : B0 + 1 + 1 < w5.heap.size := by omega
  have s3 : ¬ B0 + 1 = w5.heap.size := by omega
  have s4 : ¬ B0 + 1 + 1 = w5.heap.size := by omega
  go_wp2_with fail
  clear k1 k2 k3 k4 k5 k6 k7 k8 k9 z5 s1 s2 s3 s4
  obtain ⟨B11, hB11⟩ : ∃ B11, w5.heap.size = B11 := ⟨_, rfl⟩
  have hb5' : Below W.heap.size W (w5.alloc (.cells #[.bool b3, .slice ad3 l3 cap3] 26)) := bel_alloc hb5 _
  refine (wholeOf_any (e * e * e2 * e2) _ (by omega) (by omega)).mono ?_; rintro ee w6 ⟨u4, rfl, hb6, hu4⟩
  have HU3b := Lib.hid ((HU3.out.keep (below_allocC w5 _)).keep hb6)
  have hx0 : w6.cell? ⟨B11, 0, none⟩ = some (.bool b3) := (hb6.cell (p := ⟨B11, 0, none⟩) (by simp; omega)).trans (by subst hB11; simp [go_sem])
  have hx1 : w6.cell? ⟨B11, 1, none⟩ = some (.slice ad3 l3 cap3) := (hb6.cell (p := ⟨B11, 1, none⟩) (by simp; omega)).trans (by subst hB11; simp [go_sem])
  have hx2 : B11 < w6.heap.size := by have := hb6.size; simp at this; omega
  have hx3 : W.heap.size ≤ B11 := by rw [← hB11]; exact hb5.size
  replace hb6 := bel_trans hb6 hb5'
  (try rw [hB11])
  clear hB11 HU3 hb5 hb5'
  have HU4 := Lib.hid hu4.wv
  obtain ⟨ad4, cap4, hu4', _⟩ := hu4
  subst hu4'
  have hl4 : (digs (e * e * e2 * e2).natAbs).length ≤ 5 := HL1.out _ (by omega) (by omega)
  have HL4 := Lib.hid hl4; clear hl4
  generalize decide (e * e * e2 * e2 < 0) = b4 at *
  generalize (digs (e * e * e2 * e2).natAbs).length = l4 at HU4 ⊢
  go_wp2_with fail
  obtain ⟨B12, hB12⟩ : ∃ B12, w6.heap.size = B12 := ⟨_, rfl⟩
  generalize hV : w6.alloc (.cells #[.bool b4, .slice ad4 l4 cap4] 26) = V
  obtain ⟨hb6V, hV0, cy0, cy1, cx0, cx1⟩ : Below w6.heap.size w6 V ∧ B12 < V.heap.size ∧ V.cell? ⟨B12, 0, none⟩ = some (.bool b4) ∧ V.cell? ⟨B12, 1, none⟩ = some (.slice ad4 l4 cap4) ∧ V.cell? ⟨B11, 0, none⟩ = some (.bool b3) ∧ V.cell? ⟨B11, 1, none⟩ = some (.slice ad3 l3 cap3) := by
    subst hV; subst hB12
    exact ⟨below_allocC _ _, by simp, by simp [go_sem], by simp [go_sem], (((below_allocC w6 (.cells #[.bool b4, .slice ad4 l4 cap4] 26))).cell (p := ⟨B11, 0, none⟩) hx2).trans hx0, (((below_allocC w6 (.cells #[.bool b4, .slice ad4 l4 cap4] 26))).cell (p := ⟨B11, 1, none⟩) hx2).trans hx1⟩
  clear hV hx0 hx1
  rw [hB12]
  have hB11 : B11 < B12 := by rw [← hB12]; exact hx2
  have HBV : True → Below W.heap.size W V := fun _ => bel_trans hb6V hb6
  have HB6V : True → Below w6.heap.size w6 V := fun _ => hb6V
  have HB12 := Lib.hid hB12
  clear hb6V hb6 hx2 hB12
  obtain ⟨T1, hT1⟩ : ∃ T1, n * n * (e * e * e2 * e2) = T1 := ⟨_, rfl⟩
  obtain ⟨b5, hb5e⟩ : ∃ b5, decide (T1 < 0) = b5 := ⟨_, rfl⟩
  obtain ⟨l5, hl5e⟩ : ∃ l5, (digs T1.natAbs).length = l5 := ⟨_, rfl⟩
  have hnn : (digs (n * n).natAbs).length ≤ 10 := by rw [Int.natAbs_mul]; have := digs_mul_len n.natAbs n.natAbs; omega
  have hl5b : l5 ≤ 15 := by
    rw [← hl5e, ← hT1, Int.natAbs_mul]
    have := digs_mul_len (n * n).natAbs (e * e * e2 * e2).natAbs
    have := HL4.out
    omega
  have hT1e : ∀ w7 u7, Below w6.heap.size w6 w7 → WV w7 u7 (n * n) → Calls Try.prog 45 #[u7, .agg #[.bool b4, .slice ad4 l4 cap4]] w7 (RetW T1 w7) := fun w7 u7 hb h => by
    rw [← hT1]
    exact mulWholes_any u7 _ (n * n) (e * e * e2 * e2) _ h (HU4.out.keep hb) (by omega) (by have := HL4.out; omega)
  have HT1e := Lib.hid hT1e; clear hT1e
  have HB5 := Lib.hid hb5e; clear hb5e
  have HL5 := Lib.hid hl5e; clear hl5e
  have HT1 := Lib.hid hT1; clear hT1
  refine' wp_region_e6 (f := _) (fun (u5 u6 u7 : Value) (ad5 : Option Addr) (cap5 Bn : Nat) w' => Below V.heap.size V w' ∧ V.heap.size ≤ Bn ∧ Bn < w'.heap.size ∧ w'.cell? ⟨Bn, 0, none⟩ = some (.bool b5) ∧ w'.cell? ⟨Bn, 1, none⟩ = some (.slice ad5 l5 cap5) ∧ w'.frozen? ⟨Bn, 0, none⟩ = false ∧ w'.frozen? ⟨Bn, 1, none⟩ = false ∧ WV w' (.agg #[.bool b5, .slice ad5 l5 cap5]) T1) ?_ ?_
  rotate_left
  · go_region_held3 (fun w' => Below V.heap.size V w' ∧ w'.cell? ⟨B12, 0, none⟩ = some (.bool b4) ∧ w'.cell? ⟨B12, 1, none⟩ = some (.slice ad4 l4 cap4)) ((refine held1 ?_ hV0 cy0 cy1; first | exact Below.setCell (Below.setCell (And.left (by assumption)) nx0 _) nx0 _ | (repeat (first | exact Below.refl _ _ | exact And.left (by assumption) | (with_reducible assumption) | refine bel_drew ?_ | refine bel_alloc ?_ _ | refine bel_trans (by assumption) ?_)))) ((first
      | (go_at_call 78; first
          | (have _hx := hu5; refine (wholeOf_any n _ (by omega) (by omega)).mono ?_; rintro ee w8 ⟨u6, rfl, hb8, hu6⟩; have hu5x : WV w8 u5 n := WV.keep (WV.keep hu5.wv (by first | exact Below.refl _ _ | exact below_allocC _ _)) hb8; (try have nb8 := NB.keep (NB.new _ hv7) hb8); (try have nb8 := NB.keep (NB.drew (NB.new _ hv7)) hb8); (try have nb8 := NB.keep nb7 hb8); have hv8 : V.heap.size ≤ w8.heap.size := (bel_trans hb8 (And.left (by assumption)) : Below V.heap.size V w8).size)
          | (refine (wholeOf_any n _ (by omega) (by omega)).mono ?_; rintro ee w7 ⟨u5, rfl, hb7, hu5⟩; (try have nb7 := NB.keep (NB.new _ (Nat.le_refl V.heap.size)) hb7); (try have nb7 := NB.keep (NB.drew (NB.new _ (Nat.le_refl V.heap.size))) hb7); have hv7 : V.heap.size ≤ w7.heap.size := (bel_trans hb7 (And.left (by assumption)) : Below V.heap.size V w7).size))
      | (go_at_call 45; first
          | (have _hx := hu7; refine (HT1e.out _ u7 (bel_trans (And.left (by assumption)) (HB6V trivial)) (WV.keep hu7.wv (by first | exact Below.refl _ _ | exact below_allocC _ _))).mono ?_; rintro ee w10 ⟨v8, rfl, hb10, hu8⟩; (try have nb10 := NB.keep (NB.new _ hv9) hb10); (try have nb10 := NB.keep (NB.drew (NB.new _ hv9)) hb10); (try have nb10 := NB.keep nb9 hb10); have hv10 : V.heap.size ≤ w10.heap.size := (bel_trans hb10 (And.left (by assumption)) : Below V.heap.size V w10).size; (try obtain ⟨nx0, nx1, nx2, nx3, nx4, nx5⟩ := id nb10); have HU8 := Lib.hid hu8; obtain ⟨ad5, cap5, hu8', _⟩ := hu8; rw [HB5.out, HL5.out] at hu8'; subst hu8')
          | (refine (mulWholes_any u5 u6 n n _ (WV.keep hu5x (by first | exact Below.refl _ _ | exact below_allocC _ _)) (WV.keep hu6.wv (by first | exact Below.refl _ _ | exact below_allocC _ _)) (by omega) (by omega)).mono ?_; rintro ee w9 ⟨u7, rfl, hb9, hu7⟩; (try have nb9 := NB.keep (NB.new _ hv8) hb9); (try have nb9 := NB.keep (NB.drew (NB.new _ hv8)) hb9); (try have nb9 := NB.keep nb8 hb9); have hv9 : V.heap.size ≤ w9.heap.size := (bel_trans hb9 (And.left (by assumption)) : Below V.heap.size V w9).size))))
    all_goals
      rename_i hHeld
      first
        | (refine ⟨rfl, u5, u6, u7, ad5, cap5, w10.heap.size, ?_, And.left hHeld, hv10, by simp, by simp [go_sem], by simp [go_sem], by simp [go_sem], by simp [go_sem], WV.keep HU8.out.wv (below_allocC _ _)⟩; generalize w10.heap.size = Bn; rfl)
        | (refine ⟨rfl, u6, u5, u7, ad5, cap5, w10.heap.size, ?_, And.left hHeld, hv10, by simp, by simp [go_sem], by simp [go_sem], by simp [go_sem], by simp [go_sem], WV.keep HU8.out.wv (below_allocC _ _)⟩; generalize w10.heap.size = Bn; rfl)
        | (obtain ⟨f1, f2, f3, f4, f5, f6⟩ := NB.fill nb10 (by first | exact nb9.2.1 | simp) HU8.out; refine ⟨rfl, u5, u6, u7, ad5, cap5, _, ?_, And.left hHeld, nx0, f1, f2, f3, f4, f5, f6⟩; clear f1 f2 f3 f4 f5 f6 HU8 hb10 nx0 nx1 nx2 nx3 nx4 nx5; first | (generalize w7.heap.size = Bn; rfl) | (generalize w8.heap.size = Bn; rfl) | (generalize w9.heap.size = Bn; rfl) | (generalize V.heap.size = Bn; rfl))
        | (obtain ⟨f1, f2, f3, f4, f5, f6⟩ := NB.fill nb10 (by first | exact nb9.2.1 | simp) HU8.out; refine ⟨rfl, u6, u5, u7, ad5, cap5, _, ?_, And.left hHeld, nx0, f1, f2, f3, f4, f5, f6⟩; clear f1 f2 f3 f4 f5 f6 HU8 hb10 nx0 nx1 nx2 nx3 nx4 nx5; first | (generalize w7.heap.size = Bn; rfl) | (generalize w8.heap.size = Bn; rfl) | (generalize w9.heap.size = Bn; rfl) | (generalize V.heap.size = Bn; rfl))
  rintro u5 u6 u7 ad5 cap5 Bn w13 ⟨hbV, hn0, hn1, cz0, cz1, fz0, fz1, hwz⟩
  have HWZ := Lib.hid hwz; clear hwz
  have zV := (HB6V trivial).size
  have zb := HB12.out
  have hb13 : Below W.heap.size W w13 := bel_trans hbV (HBV trivial)
  have hb613 : Below w6.heap.size w6 w13 := bel_trans hbV (HB6V trivial)
  obtain ⟨k1, k2, k3, k4, k5, k6, k7, k8, k9⟩ := HK.out w13 hb13
  have cx0' := (hbV.cell (p := ⟨B11, 0, none⟩) (show B11 < V.heap.size by omega)).trans cx0
  have cx1' := (hbV.cell (p := ⟨B11, 1, none⟩) (show B11 < V.heap.size by omega)).trans cx1
  have d1 := mul_bd (b := e2) (B := 20) p1 p2 (by omega) (by omega)
  have d2 := mul_bd (b := e2) (B := 20) d1.1 d1.2 (by omega) (by omega)
  have d3 := mul_bd (b := e) (B := 20) r1 r2 (by omega) (by omega)
  have d4 := mul_bd (b := e) (B := 20) d3.1 d3.2 (by omega) (by omega)
  have wr1 : IntKind.i64.wrap (x * e2) = x * e2 := wrapf (by omega) (by omega)
  have wr2 : IntKind.i64.wrap (x * e2 * e2) = x * e2 * e2 := wrapf (by omega) (by omega)
  have wr3 : IntKind.i64.wrap (x2 * e) = x2 * e := wrapf (by omega) (by omega)
  have wr4 : IntKind.i64.wrap (x2 * e * e) = x2 * e * e := wrapf (by omega) (by omega)
  obtain ⟨T2, hT2⟩ : ∃ T2, x * e2 * e2 + x2 * e * e = T2 := ⟨_, rfl⟩
  have wr5 : IntKind.i64.wrap (x * e2 * e2 + x2 * e * e) = T2 := by rw [← hT2]; exact wrapf (by omega) (by omega)
  have t2b : -8000000 ≤ T2 ∧ T2 ≤ 8000000 := by omega
  have HT2 := Lib.hid hT2; clear hT2 d1 d2 d3 d4
  obtain ⟨T3, hT3⟩ : ∃ T3, m * m * T2 = T3 := ⟨_, rfl⟩
  have hl3 : (digs T3.natAbs).length ≤ 15 := by
    rw [← hT3, Int.natAbs_mul]
    have := digs_mul_len (m * m).natAbs T2.natAbs
    have := HL3.out
    have := HL1.out T2 (by omega) (by omega)
    omega
  have hmu : ∀ w7 u, Below w6.heap.size w6 w7 → WV w7 u T2 → Calls Try.prog 45 #[.agg #[.bool b3, .slice ad3 l3 cap3], u] w7 (RetW T3 w7) := fun w7 u hb h => by
    rw [← hT3]
    exact mulWholes_any _ u (m * m) T2 w7 (HU3b.out.keep hb) h (by have := HL3.out; omega) (Nat.le_trans (HL1.out T2 (by omega) (by omega)) (by omega))
  have HMU := Lib.hid hmu; clear hmu
  have HT3 := Lib.hid hT3; clear hT3
  obtain ⟨T4, hT4⟩ : ∃ T4, T1 + -T3 = T4 := ⟨_, rfl⟩
  have hl1 : (digs T1.natAbs).length ≤ 15 := by rw [HL5.out]; exact hl5b
  have hl4 : (digs T4.natAbs).length ≤ 16 := by rw [← hT4]; exact top_len hl1 (by rw [Int.natAbs_neg]; exact hl3)
  have had : ∀ w7 u, Below w13.heap.size w13 w7 → WV w7 u (-T3) → Calls Try.prog 40 #[.agg #[.bool b5, .slice ad5 l5 cap5], u] w7 (RetW T4 w7) := fun w7 u hb h => by
    rw [← hT4]
    exact addWholes_any _ u T1 (-T3) w7 (HWZ.out.keep hb) h (by omega) (by rw [Int.natAbs_neg]; omega)
  have HAD := Lib.hid had; clear had
  have HT4 := Lib.hid hT4; clear hT4
  obtain ⟨b6, hb6e⟩ : ∃ b6, decide (T4 < 0) = b6 := ⟨_, rfl⟩
  obtain ⟨l6, hl6e⟩ : ∃ l6, (digs T4.natAbs).length = l6 := ⟨_, rfl⟩
  have HB6 := Lib.hid hb6e; clear hb6e
  have HL6 := Lib.hid hl6e; clear hl6e
  have HL4b := Lib.hid hl4; clear hl4 hl1
  go_wp2_with fail
  refine' wp_region_e5 (f := _) (fun (u8 u9 u10 : Value) (ad6 : Option Addr) (cap6 : Nat) w' => Below Bn w13 w' ∧ Bn < w'.heap.size ∧ w'.cell? ⟨Bn, 0, none⟩ = some (.bool b6) ∧ w'.cell? ⟨Bn, 1, none⟩ = some (.slice ad6 l6 cap6) ∧ WV w' (.agg #[.bool b6, .slice ad6 l6 cap6]) T4) ?_ ?_
  rotate_left
  · have zW := (HBV trivial).size
    have hiB : B11 < Bn := by omega
    have hjB : B0 + 1 < Bn := by omega
    have hlB : B0 + 1 + 1 < Bn := by omega
    rw [← ldTop_eq]
    go_region_held3 (fun w' => Below Bn w13 w' ∧ Bn < w'.heap.size ∧ (w'.cell? ⟨Bn, 0, none⟩).isSome = true ∧ (w'.cell? ⟨Bn, 1, none⟩).isSome = true ∧ w'.frozen? ⟨Bn, 0, none⟩ = false ∧ w'.frozen? ⟨Bn, 1, none⟩ = false ∧ w'.cell? ⟨B11, 0, none⟩ = some (.bool b3) ∧ w'.cell? ⟨B11, 1, none⟩ = some (.slice ad3 l3 cap3) ∧ w'.cell? ⟨B0 + 1, 0, none⟩ = some (.int .i64 x) ∧ w'.cell? ⟨B0 + 1, 2, none⟩ = some (.int .i64 e) ∧ w'.cell? ⟨B0 + 1 + 1, 0, none⟩ = some (.int .i64 x2) ∧ w'.cell? ⟨B0 + 1 + 1, 2, none⟩ = some (.int .i64 e2)) ((first | exact kt_start hn1 cz0 cz1 fz0 fz1 cx0' cx1' k3 k5 k6 k8 | assumption | exact kt_drew (by assumption) | exact kt_call hiB hjB hlB (by assumption) (by assumption) | exact kt_store hiB hjB hlB _ _ (kt_store hiB hjB hlB _ _ (by assumption)))) ((first
      | (go_at_call 78; refine (wholeOf_any T2 _ (by omega) (by omega)).mono ?_; rintro ee w14 ⟨u8, rfl, hb14, hu8⟩; have Q14 : True → Below w13.heap.size w13 w14 := fun _ => (bel_trans hb14 (by first | exact Below.refl _ _ | exact bel_drew (Below.refl _ _) | exact bel_drewN (Below.refl _ _) _)); have cz14a := ((Q14 trivial).cell (p := ⟨Bn, 0, none⟩) hn1).trans cz0; have cz14b := ((Q14 trivial).cell (p := ⟨Bn, 1, none⟩) hn1).trans cz1)
      | (go_at_call 45; refine (HMU.out _ u8 (bel_trans (by first | exact (Q14 trivial) | exact bel_drew (Q14 trivial)) hb613) hu8.wv).mono ?_; rintro ee w15 ⟨u9, rfl, hb15, hu9⟩; have Q15 : True → Below w13.heap.size w13 w15 := fun _ => (bel_trans hb15 (by first | exact (Q14 trivial) | exact bel_drew (Q14 trivial))); have cz15a := ((Q15 trivial).cell (p := ⟨Bn, 0, none⟩) hn1).trans cz0; have cz15b := ((Q15 trivial).cell (p := ⟨Bn, 1, none⟩) hn1).trans cz1)
      | (go_at_call 43; refine (negated_any u9 T3 _ hu9.wv (by omega)).mono ?_; rintro ee w16 ⟨u10, rfl, hb16, hu10⟩; have Q16 : True → Below w13.heap.size w13 w16 := fun _ => (bel_trans hb16 (by first | exact (Q15 trivial) | exact bel_drew (Q15 trivial))); have cz16a := ((Q16 trivial).cell (p := ⟨Bn, 0, none⟩) hn1).trans cz0; have cz16b := ((Q16 trivial).cell (p := ⟨Bn, 1, none⟩) hn1).trans cz1)
      | (go_at_call 40; refine (HAD.out _ u10 (by first | exact (Q16 trivial) | exact bel_drew (Q16 trivial)) hu10.wv).mono ?_; rintro ee w17 ⟨v9, rfl, hb17, hu11⟩; have Q17 : True → Below w13.heap.size w13 w17 := fun _ => (bel_trans hb17 (by first | exact (Q16 trivial) | exact bel_drew (Q16 trivial))); have HU9 := Lib.hid hu11; have sz17 : Bn < w17.heap.size := (kt_call hiB hjB hlB hb17 (by assumption)).2.1; obtain ⟨x0, hx0⟩ := Option.isSome_iff_exists.1 (kt_call hiB hjB hlB hb17 (by assumption)).2.2.1; obtain ⟨x1, hx1⟩ := Option.isSome_iff_exists.1 (kt_call hiB hjB hlB hb17 (by assumption)).2.2.2.1; obtain ⟨ad6, cap6, hu9', _⟩ := hu11; rw [HB6.out, HL6.out] at hu9'; subst hu9')))
    all_goals
      rename_i hHeld
      obtain ⟨f1, f2, f3, f4⟩ := kb_fill sz17 hx0 hx1 (Nat.lt_of_lt_of_le hn1 (Q16 trivial).size) HU9.out
      refine ⟨rfl, u8, u9, u10, ad6, cap6, by rfl, (((Q17 trivial).mono (Nat.le_of_lt hn1)).setCell (Nat.le_refl _) _).setCell (Nat.le_refl _) _, f1, f2, f3, f4⟩
  rintro u8 u9 u10 ad6 cap6 w18 ⟨hbn, hn2, cw0, cw1, hww⟩
  have HWW := Lib.hid hww; clear hww
  have hbV18 : Below V.heap.size V w18 := hbV.trans (hbn.mono hn0)
  clear hbn hbV cz0 cz1 fz0 fz1 hn1 hb13 hb613 cx0' cx1' k1 k2 k3 k4 k5 k6 k7 k8 k9 HWZ HMU HAD wr1 wr2 wr3 wr4 wr5
  have hb618 : Below w6.heap.size w6 w18 := bel_trans hbV18 (HB6V trivial)
  have cx0' := (hbV18.cell (p := ⟨B11, 0, none⟩) (show B11 < V.heap.size by omega)).trans cx0
  have cx1' := (hbV18.cell (p := ⟨B11, 1, none⟩) (show B11 < V.heap.size by omega)).trans cx1
  have cy0' := (hbV18.cell (p := ⟨B12, 0, none⟩) hV0).trans cy0
  have cy1' := (hbV18.cell (p := ⟨B12, 1, none⟩) hV0).trans cy1
  obtain ⟨Tb, hTb⟩ : ∃ Tb, m * m * (e * e * e2 * e2) = Tb := ⟨_, rfl⟩
  have hmb := mulWholes_any (.agg #[.bool b3, .slice ad3 l3 cap3]) (.agg #[.bool b4, .slice ad4 l4 cap4]) (m * m) (e * e * e2 * e2) w18 (HU3b.out.keep hb618) (HU4.out.keep hb618) (by have := HL3.out; omega) (by have := HL4.out; omega)
  rw [hTb] at hmb
  have hlb : (digs Tb.natAbs).length ≤ 15 := by
    rw [← hTb, Int.natAbs_mul]
    have := digs_mul_len (m * m).natAbs (e * e * e2 * e2).natAbs
    have := HL3.out
    have := HL4.out
    omega
  have hTb0 : 0 < Tb := by
    rw [← hTb]
    have h1 : 0 < m * m := by
      rcases Int.lt_or_gt_of_ne hm0 with k | k
      · exact Int.mul_pos_of_neg_of_neg k k
      · exact Int.mul_pos k k
    exact Int.mul_pos h1 (Int.mul_pos (Int.mul_pos (Int.mul_pos (by omega) (by omega)) (by omega)) (by omega))
  have HTb := Lib.hid hTb; clear hTb
  go_wp2_with fail
  refine hmb.mono ?_; rintro ee w19 ⟨u11, rfl, hb19, hu11⟩
  have HWW19 := Lib.hid (HWW.out.keep hb19); clear HWW
  have HU11 := Lib.hid hu11
  obtain ⟨ad7, cap7, hu11', _⟩ := hu11
  obtain ⟨b7, hb7e⟩ : ∃ b7, decide (Tb < 0) = b7 := ⟨_, rfl⟩
  obtain ⟨l7, hl7e⟩ : ∃ l7, (digs Tb.natAbs).length = l7 := ⟨_, rfl⟩
  rw [hb7e, hl7e] at hu11'
  subst hu11'
  have cw0' := (hb19.cell (p := ⟨Bn, 0, none⟩) hn2).trans cw0
  have cw1' := (hb19.cell (p := ⟨Bn, 1, none⟩) hn2).trans cw1
  have hn3 : Bn < w19.heap.size := Nat.lt_of_lt_of_le hn2 hb19.size
  have hbV19 : Below V.heap.size V w19 := bel_trans hb19 hbV18
  clear hmb hb19 hbV18 hb618 cx0' cx1' cy0' cy1' cw0 cw1 hn2
  go_wp2_with fail
  obtain ⟨B14, hB14⟩ : ∃ B14, w19.heap.size = B14 := ⟨_, rfl⟩
  generalize hL : w19.alloc (.cells #[.bool b7, .slice ad7 l7 cap7] 26) = L
  obtain ⟨hbL, hL0, hL1, cl0, cl1, cl2, cl3, wl0, wl1⟩ : Below V.heap.size V L ∧ B14 < L.heap.size ∧ Bn < L.heap.size ∧ L.cell? ⟨B14, 0, none⟩ = some (.bool b7) ∧ L.cell? ⟨B14, 1, none⟩ = some (.slice ad7 l7 cap7) ∧ L.cell? ⟨Bn, 0, none⟩ = some (.bool b6) ∧ L.cell? ⟨Bn, 1, none⟩ = some (.slice ad6 l6 cap6) ∧ WV L (.agg #[.bool b6, .slice ad6 l6 cap6]) T4 ∧ WV L (.agg #[.bool b7, .slice ad7 l7 cap7]) Tb := by
    subst hL; subst hB14
    exact ⟨bel_alloc hbV19 _, by simp, by simp; omega, by simp [go_sem], by simp [go_sem], ((below_allocC w19 _).cell (p := ⟨Bn, 0, none⟩) hn3).trans cw0', ((below_allocC w19 _).cell (p := ⟨Bn, 1, none⟩) hn3).trans cw1', HWW19.out.keep (below_allocC w19 _), HU11.out.wv.keep (below_allocC w19 _)⟩
  clear hL cw0' cw1' hbV19 hn3 HWW19 HU11
  (try rw [hB14])
  clear hB14
  have HWL0 := Lib.hid wl0; clear wl0
  have HWL1 := Lib.hid wl1; clear wl1
  have hbWL : Below W.heap.size W L := bel_trans hbL (HBV trivial)
  go_loopw [15] (fun k wr => ∃ K : Int, k = .int .i64 K ∧ 1 ≤ K ∧ K ≤ 21 ∧ Hid (∀ X Y E, E < K → ¬ IsSum (upI a x y e x2 y2 e2) (farI x y e x2 y2 e2) x y e x2 e2 X Y E) ∧ Below L.heap.size L wr) (fun k _ => (21 - intOf k).toNat)
  case atStart => exact ⟨1, rfl, by omega, by omega, fun X Y E h hs => by have := hs.1; omega, Below.refl _ _⟩
  case round =>
    obtain ⟨K, rfl, K1, K2, HQ, hbel⟩ := hrel
    by_cases hK : K ≤ 20
    · have hkk := mul_bd (a := K) (b := K) (A := 20) (B := 20) (by omega) (by omega) (by omega) (by omega)
      have wrk : IntKind.i64.wrap (K * K) = K * K := wrapf (by omega) (by omega)
      obtain ⟨T5, hT5⟩ : ∃ T5, T4 * (K * K) = T5 := ⟨_, rfl⟩
      have hl5 : (digs T5.natAbs).length ≤ 21 := by
        rw [← hT5, Int.natAbs_mul]
        have := digs_mul_len T4.natAbs (K * K).natAbs
        have := HL4b.out
        have := HL1.out (K * K) (by omega) (by omega)
        omega
      have htk : ∀ w', Below L.heap.size L w' → Calls Try.prog 90 #[.agg #[.bool b6, .slice ad6 l6 cap6], .int .i64 (K * K)] w' (RetW T5 w') := fun w' hb => by
        rw [← hT5]
        exact timesInt_any _ T4 (K * K) w' (HWL0.out.keep hb) (by have := HL4b.out; omega) (by omega) (by omega)
      have hsk : ∀ w' u, Below L.heap.size L w' → WV w' u T5 → Calls Try.prog 89 #[u, .agg #[.bool b7, .slice ad7 l7 cap7], .int .i64 10000] w' (RetSq T5 Tb w') := fun w' u hb h =>
        smallQuotient_any u _ T5 Tb w' h (HWL1.out.keep hb) hTb0 (by omega) (by omega)
      have HTK := Lib.hid htk; clear htk
      have HSK := Lib.hid hsk; clear hsk
      have HT5 := Lib.hid hT5; clear hT5
      have cl0' := (hbel.cell (p := ⟨B14, 0, none⟩) hL0).trans cl0
      have cl1' := (hbel.cell (p := ⟨B14, 1, none⟩) hL0).trans cl1
      have cl2' := (hbel.cell (p := ⟨Bn, 0, none⟩) hL1).trans cl2
      have cl3' := (hbel.cell (p := ⟨Bn, 1, none⟩) hL1).trans cl3
      go_wp2_with fail
      refine' wp_region_e2 (f := _) (fun (u12 : Value) (c : Int) w' => -10000 ≤ c ∧ c ≤ 10000 ∧ Hid (∀ c', -10000 ≤ c' → c' ≤ 10000 → Tb * c' = T5 → c = c') ∧ Below L.heap.size L w') ?_ ?_
      rotate_left
      · go_region_held3 (fun w' => Below L.heap.size L w' ∧ w'.cell? ⟨Bn, 0, none⟩ = some (.bool b6) ∧ w'.cell? ⟨Bn, 1, none⟩ = some (.slice ad6 l6 cap6) ∧ w'.cell? ⟨B14, 0, none⟩ = some (.bool b7) ∧ w'.cell? ⟨B14, 1, none⟩ = some (.slice ad7 l7 cap7)) ((refine held4 ?_ hL1 hL0 cl2 cl3 cl0 cl1; repeat (first | exact Below.refl _ _ | (with_reducible assumption) | refine bel_drew ?_ | refine bel_trans (by assumption) ?_))) ((first | (go_at_call 90; refine (HTK.out _ (And.left (by assumption))).mono ?_; rintro ee w21 ⟨u12, rfl, hb21, hu12⟩; have hbw21 : Below L.heap.size L w21 := bel_trans hb21 (And.left (by assumption))) | (go_at_call 89; refine (HSK.out _ u12 (And.left (by assumption)) hu12.wv).mono ?_; rintro ee w22 ⟨c, rfl, qc0, qc1, qc2, hb22⟩; have HQC := Lib.hid qc2; clear qc2; have hbw22 : Below L.heap.size L w22 := bel_trans hb22 hbw21)))
        all_goals
          rename_i hHeld
          exact ⟨rfl, u12, c, by rfl, qc0, qc1, HQC.out, hHeld.1⟩
      rintro u12 c w20 ⟨qc0, qc1, HC, hbelc⟩
      (try simp only [Act.put, List.setIfInBounds_toArray, List.set_cons_zero, List.set_cons_succ])
      clear cl0' cl1' cl2' cl3' wrk
      have hstep : (∀ X Y, X = c → ¬ IsSum (upI a x y e x2 y2 e2) (farI x y e x2 y2 e2) x y e x2 e2 X Y K) → ∀ X Y E, E < K + 1 → ¬ IsSum (upI a x y e x2 y2 e2) (farI x y e x2 y2 e2) x y e x2 e2 X Y E := fun h X Y E hE hs => by
        rcases Int.lt_or_le E K with k | k
        · exact HQ.out X Y E k hs
        · have : E = K := by omega
          subst this
          refine h X Y ?_ hs
          have hs' := hs
          rw [← HN.out, ← HM.out, isSum_scale hG0] at hs'
          obtain ⟨_, _, g3, g4, _, g6, _⟩ := hs'
          have := (sumX_T HT1.out HT2.out HT3.out HT4.out HTb.out).1 g6
          rw [HT5.out] at this
          exact (HC.out X g3 g4 this).symm
      have hnx : (¬ (Tb * c = T5 ∧ gcdI c K = 1)) → ∀ X Y E, E < K + 1 → ¬ IsSum (upI a x y e x2 y2 e2) (farI x y e x2 y2 e2) x y e x2 e2 X Y E := fun h => hstep fun X Y hX hs => by
        subst hX
        rw [← HN.out, ← HM.out, isSum_scale hG0] at hs
        obtain ⟨_, _, _, _, g5, g6, _⟩ := hs
        have := (sumX_T HT1.out HT2.out HT3.out HT4.out HTb.out).1 g6
        rw [HT5.out] at this
        exact h ⟨this, gcdI_one.2 g5⟩
      have HNX := Lib.hid hnx; clear hnx hstep
      by_cases hex : Tb * c = T5
      · have hde : decide (Tb * c = T5) = true := decide_eq_true hex
        rw [hde]
        have HEX := Lib.hid hex; clear hex hde
        go_wp2_with fail
        refine (gcd_any c K _ (by omega) (by omega) (by omega) (by omega)).mono ?_; rintro ee w23 ⟨rfl, hb23⟩
        replace hb23 := bel_trans hb23 hbelc
        by_cases hg : gcdI c K = 1
        · have hX : SumX n m x e x2 e2 c K := (sumX_T HT1.out HT2.out HT3.out HT4.out HTb.out).2 (by rw [HT5.out]; exact HEX.out)
          obtain ⟨Y, y1, y2', y3⟩ := sum_round HFP.out HFQ.out HF.out hG0 HN.out HM.out (by omega) hK qc0 qc1 hg hX
          have hfin : FinP a b c Y K := ⟨qc0, qc1, by omega, hK, hg, y2'⟩
          obtain ⟨v1, v2, v3, v4, v5⟩ := hfin.sq hcur
          obtain ⟨s1, s2, s3⟩ := sum_bd HCOP.out hm0 HFP.out.e0 HFP.out.e1 HFQ.out.e0 HFQ.out.e1 (by omega) hK p2 r2 qc1 hX
          have hsg := fun r => sum_sign (s := sideI n m x y e c K) (r := r) hm0 (show 0 < e by omega) (show 0 < K by omega) y3
          have hRs : R = some (c, Y, K) := by rw [← HR.out]; exact sumT_some HF.out he he2 y1
          subst hRs
          have hsgr := hsg Y.natAbs (by omega) (by rw [v2, y2'])
          rw [side_eq] at hsgr
          have nb : -1600000 ≤ n ∧ n ≤ 1600000 := by
            have := abs_le_of_sq (n := n) (d := (m.natAbs : Int)) (by omega) (by rw [Int.natAbs_mul_self' m]; exact s3)
            omega
          have hy0 : 0 ≤ valI a b c K := by rw [← v2]; exact Int.mul_nonneg (by omega) (by omega)
          have hrt := fun w => exactRoot_any (valI a b c K) Y.natAbs w hy0 v1 (by omega) (by omega) v3
          rw [if_pos v2] at hrt
          have HSG := Lib.hid hsgr
          clear hsgr hsg y1 y2' y3 s3 hX hfin HR
          obtain ⟨vv, hvv⟩ : ∃ vv, valI a b c K = vv := ⟨_, rfl⟩
          rw [hvv] at hrt
          clear v1 v2 v3 hy0
          rw [hg]
          obtain ⟨k1, k2, k3, k4, k5, k6, k7, k8, k9⟩ := HK.out w23 (bel_trans hb23 hbWL)
          go_wp2_with fail
          refine (curveValue_any a b c K _ c1 c2 c3 c4 qc0 qc1 (by omega) (by omega)).mono ?_; rintro ee w24 ⟨rfl, hb24⟩
          rw [hvv]
          clear k1 k2 k3 k4 k5 k6 k7 k8 k9
          replace hb24 := bel_trans hb24 hb23
          go_wp2_with fail
          refine (hrt _).mono ?_; rintro ee w25 ⟨rfl, hb25⟩
          replace hb25 := bel_trans hb25 hb24
          clear hb23 hb24 hrt
          obtain ⟨k1, k2, k3, k4, k5, k6, k7, k8, k9, k10, k11, k12, k13, k14⟩ := HK.out w25 (bel_trans hb25 hbWL)
          have hbfin := bel_trans (bel_trans hb25 hbWL) (HBW trivial)
          clear hb25 hbelc hbel
          have a1 := mul_bd (a := x) (b := K) (A := 10000) (B := 20) p1 p2 (by omega) (by omega)
          have a2 := mul_bd (b := K) (B := 20) a1.1 a1.2 (by omega) (by omega)
          have a3 := mul_bd (a := c) (b := e) (A := 10000) (B := 20) qc0 qc1 (by omega) (by omega)
          have a4 := mul_bd (b := e) (B := 20) a3.1 a3.2 (by omega) (by omega)
          have a5 := mul_bd (a := n) (b := x * K * K - c * e * e) (A := 1600000) (B := 8000000) nb.1 nb.2 (by omega) (by omega)
          have a6 := mul_bd (b := e) (B := 20) a5.1 a5.2 (by omega) (by omega)
          have a7 := mul_bd (a := y) (b := m) (A := 1800000) (B := 8000) p3 p4 s1 s2
          have a8 := mul_bd (b := K) (B := 20) a7.1 a7.2 (by omega) (by omega)
          have a9 := mul_bd (b := K) (B := 20) a8.1 a8.2 (by omega) (by omega)
          have h3 : w.heap.size ≤ B0 + 1 + 1 + 1 := by omega
          obtain ⟨r, hr⟩ : ∃ r : Int, (Y.natAbs : Int) = r := ⟨_, rfl⟩
          have r0 : 0 ≤ r := by omega
          have r9 : r ≤ 1800000 := by omega
          rw [hr] at HSG ⊢
          have g1 : wrap64 (x * K) = x * K := IntWalk.wrap64_in _ ⟨by omega, by omega⟩
          have g2 : wrap64 (x * K * K) = x * K * K := IntWalk.wrap64_in _ ⟨by omega, by omega⟩
          have g3 : wrap64 (c * e) = c * e := IntWalk.wrap64_in _ ⟨by omega, by omega⟩
          have g4 : wrap64 (c * e * e) = c * e * e := IntWalk.wrap64_in _ ⟨by omega, by omega⟩
          have g5 : wrap64 (x * K * K - c * e * e) = x * K * K - c * e * e := IntWalk.wrap64_in _ ⟨by omega, by omega⟩
          have g6 : wrap64 (n * (x * K * K - c * e * e)) = n * (x * K * K - c * e * e) := IntWalk.wrap64_in _ ⟨by omega, by omega⟩
          have g7 : wrap64 (n * (x * K * K - c * e * e) * e) = n * (x * K * K - c * e * e) * e := IntWalk.wrap64_in _ ⟨by omega, by omega⟩
          have g8 : wrap64 (y * m) = y * m := IntWalk.wrap64_in _ ⟨by omega, by omega⟩
          have g9 : wrap64 (y * m * K) = y * m * K := IntWalk.wrap64_in _ ⟨by omega, by omega⟩
          have g10 : wrap64 (y * m * K * K) = y * m * K * K := IntWalk.wrap64_in _ ⟨by omega, by omega⟩
          have g11 : wrap64 (n * (x * K * K - c * e * e) * e - y * m * K * K) = n * (x * K * K - c * e * e) * e - y * m * K * K := IntWalk.wrap64_in _ ⟨by omega, by omega⟩
          obtain ⟨v11, hv11⟩ : ∃ v, n * (x * K * K - c * e * e) * e - y * m * K * K = v := ⟨_, rfl⟩
          rw [hv11] at HSG
          have hside : wrap64 (wrap64 (wrap64 (n * wrap64 (wrap64 (wrap64 (x * K) * K) - wrap64 (wrap64 (c * e) * e))) * e) - wrap64 (wrap64 (wrap64 (y * m) * K) * K)) = v11 := by rw [g1, g2, g3, g4, g5, g6, g7, g8, g9, g10, g11, hv11]
          have HSD := Lib.hid hside
          clear hside hv11 g1 g2 g3 g4 g5 g6 g7 g8 g9 g10 g11
          clear a1 a2 a3 a4 a5 a6 a7 a8 a9 nb s1 s2 p1 p2 p3 p4 p5 p6 qc0 qc1 K1 K2 hK
          clear hr v4 v5
          (try clear hgb); (try clear hf0); (try clear hG0); (try clear m1 m2 m3 m4); (try clear n1 n2); (try clear hnn hl5b); (try clear hlm hln); (try clear e1 e3 e4); (try clear hkk); (try clear hl5); (try clear hlb); (try clear hl3); (try clear t2b); (try clear hex); (try clear HNX); (try clear HEX); (try clear HQ); (try clear HC); (try clear s3); (try clear hx3 hV0 hB11 hn0); (try clear zV zb); (try clear hL0 hL1); (try clear hTb0); (try clear hws); (try clear c1 c2 c3 c4); (try clear hg); (try clear hcur he he2 hm0); (try clear r1 r2 r3 r4 hy2); (try clear k1 k2 k7 k8); (try clear hadd); (try clear hvv); (try clear hbWL hbL)
          (try clear k6 r5 r6); (try clear HTK); (try clear HSK); (try clear HT5); (try clear HK); (try clear HBW); (try clear HWL0 HWL1); (try clear cl0 cl1 cl2 cl3); (try clear hl7e hb7e); (try clear HTb); (try clear HL4b HL6 HB6 HT4 HT3 HT2 HT1 HL5 HB5); (try clear HT1e); (try clear HB12 HB6V HBV); (try clear cy0 cy1 cx0 cx1); (try clear HU4 HL4 HU3b HL3 HL1); (try clear HFP HFQ HF HCOP HN HM HG); (try clear heb heb2)
          go_upto_region 22 with fail
          go_upto_region 23 with fail
          rw [HSD.out]
          clear HSD k3 k4 k5
          by_cases hs : v11 < 0 <;> by_cases hm' : m < 0
          all_goals
            have hY := HSG.out
            first | rw [decide_eq_true hs] at hY | rw [decide_eq_false hs] at hY
            first | rw [decide_eq_true hm'] at hY | rw [decide_eq_false hm'] at hY
            first | rw [if_pos (by decide)] at hY | rw [if_neg (by decide)] at hY
            clear HSG
            subst hY
            go_upto_region 25 with fail
            clear hs hm'
            iterate 40 (try go_step)
            refine bodyPost_ret (by simp (maxDischargeDepth := 3) [results, Try.results60, go_sem, *]; try rfl) rfl ?_
            exact ret_eq rfl (((hbfin.setCell h3 _).setCell h3 _).setCell h3 _)
        · have hgb : (gcdI c K == 1) = false := by simp [hg]
          have hgb2 : (gcdI c K != 1) = true := by simp [hg]
          go_wp2_with fail
          go_roundw
          case rel => exact ⟨K + 1, rfl, by omega, by omega, HNX.out (fun h => hg h.2), hb23⟩
          case measure => simp [intOf]; omega
      · have hde : decide (Tb * c = T5) = false := decide_eq_false hex
        rw [hde]
        go_wp2_with fail
        go_roundw
        case rel => exact ⟨K + 1, rfl, by omega, by omega, HNX.out (fun h => hex h.1), hbelc⟩
        case measure => simp [intOf]; omega
    · have hK21 : K = 21 := by omega
      subst hK21
      have hRn : R = none := by
        rw [← HR.out]
        exact sumT_none fun X Y E hs => HQ.out X Y E (by have := hs.2.1; omega) hs
      subst hRn
      rw [ptOA_none]
      obtain ⟨k1, k2, k3, k4, k5, k6, k7, k8, k9, k10, k11, k12, k13, k14⟩ := HK.out wr (bel_trans hbel hbWL)
      have hbfin := bel_trans (bel_trans hbel hbWL) (HBW trivial)
      clear hbel hbWL
      have h3 : w.heap.size ≤ B0 + 1 + 1 + 1 := by omega
      go_wp2_with fail
      refine bodyPost_ret (by simp (maxDischargeDepth := 3) [results, Try.results60, go_sem, *]; try rfl) rfl ?_
      exact ret_eq rfl (((hbfin.setCell h3 _).setCell h3 _).setCell h3 _)
end Go.Proofs.Ytnhlcgbknkdbiaa
