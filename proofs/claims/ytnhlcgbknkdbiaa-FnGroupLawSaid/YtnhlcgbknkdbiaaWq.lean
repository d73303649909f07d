/- Wq: contracts: a whole number times an int; a small quotient of two. No conditions. -/
import Derived.Test.YtnhlcgbknkdbiaaWm
import Derived.Test.YtnhlcgbknkdbiaaRg
namespace Go.Proofs.Ytnhlcgbknkdbiaa
open Go.RowKit

theorem kp_call {W a b : World} {B0 : Nat} {u0 u1 : Value} (hb : Below a.heap.size a b) (h : Below (B0 + 1) W a ∧ B0 + 1 < a.heap.size ∧ a.cell? ⟨B0, 0, none⟩ = some u0 ∧ a.cell? ⟨B0, 1, none⟩ = some u1 ∧ (a.cell? ⟨B0 + 1, 0, none⟩).isSome = true ∧ (a.cell? ⟨B0 + 1, 1, none⟩).isSome = true ∧ a.frozen? ⟨B0 + 1, 0, none⟩ = false ∧ a.frozen? ⟨B0 + 1, 1, none⟩ = false) :
    Below (B0 + 1) W b ∧ B0 + 1 < b.heap.size ∧ b.cell? ⟨B0, 0, none⟩ = some u0 ∧ b.cell? ⟨B0, 1, none⟩ = some u1 ∧ (b.cell? ⟨B0 + 1, 0, none⟩).isSome = true ∧ (b.cell? ⟨B0 + 1, 1, none⟩).isSome = true ∧ b.frozen? ⟨B0 + 1, 0, none⟩ = false ∧ b.frozen? ⟨B0 + 1, 1, none⟩ = false := by
  obtain ⟨h1, h2, h3, h4, h7, h8, h9, h10⟩ := h
  have k := fun (i o : Nat) (hi : i ≤ B0 + 1) => hb.cell (p := ⟨i, o, none⟩) (show i < a.heap.size by omega)
  have kf := fun (i o : Nat) (hi : i ≤ B0 + 1) => hb.frozen (p := ⟨i, o, none⟩) (show i < a.heap.size by omega)
  exact ⟨h1.trans (hb.mono (by omega)), Nat.lt_of_lt_of_le h2 hb.size, (k _ _ (by omega)).trans h3, (k _ _ (by omega)).trans h4, by rw [k _ _ (by omega)]; exact h7, by rw [k _ _ (by omega)]; exact h8, (kf _ _ (by omega)).trans h9, (kf _ _ (by omega)).trans h10⟩
theorem kp_store {W a : World} {B0 : Nat} {u0 u1 : Value} (o : Nat) (v : Value) (h : Below (B0 + 1) W a ∧ B0 + 1 < a.heap.size ∧ a.cell? ⟨B0, 0, none⟩ = some u0 ∧ a.cell? ⟨B0, 1, none⟩ = some u1 ∧ (a.cell? ⟨B0 + 1, 0, none⟩).isSome = true ∧ (a.cell? ⟨B0 + 1, 1, none⟩).isSome = true ∧ a.frozen? ⟨B0 + 1, 0, none⟩ = false ∧ a.frozen? ⟨B0 + 1, 1, none⟩ = false) :
    Below (B0 + 1) W (a.setCell ⟨B0 + 1, o, none⟩ v) ∧ B0 + 1 < (a.setCell ⟨B0 + 1, o, none⟩ v).heap.size ∧ (a.setCell ⟨B0 + 1, o, none⟩ v).cell? ⟨B0, 0, none⟩ = some u0 ∧ (a.setCell ⟨B0 + 1, o, none⟩ v).cell? ⟨B0, 1, none⟩ = some u1 ∧ ((a.setCell ⟨B0 + 1, o, none⟩ v).cell? ⟨B0 + 1, 0, none⟩).isSome = true ∧ ((a.setCell ⟨B0 + 1, o, none⟩ v).cell? ⟨B0 + 1, 1, none⟩).isSome = true ∧ (a.setCell ⟨B0 + 1, o, none⟩ v).frozen? ⟨B0 + 1, 0, none⟩ = false ∧ (a.setCell ⟨B0 + 1, o, none⟩ v).frozen? ⟨B0 + 1, 1, none⟩ = false := by
  obtain ⟨h1, h2, h3, h4, h7, h8, h9, h10⟩ := h
  refine ⟨h1.setCell (Nat.le_refl _) v, by simpa using h2, ?_, ?_, ?_, ?_, by simpa using h9, by simpa using h10⟩
  · rw [World.cell?_setCell_other _ _ _ _ (by intro e; injection e; omega)]; exact h3
  · rw [World.cell?_setCell_other _ _ _ _ (by intro e; injection e; omega)]; exact h4
  · by_cases ho : o = 0
    · subst ho
      obtain ⟨x, hx⟩ := Option.isSome_iff_exists.1 h7
      rw [World.cell?_setCell_same _ _ _ hx]; rfl
    · rw [World.cell?_setCell_other _ _ _ _ (by intro e; injection e; omega)]; exact h7
  · by_cases ho : o = 1
    · subst ho
      obtain ⟨x, hx⟩ := Option.isSome_iff_exists.1 h8
      rw [World.cell?_setCell_same _ _ _ hx]; rfl
    · rw [World.cell?_setCell_other _ _ _ _ (by intro e; injection e; omega)]; exact h8
theorem ks0 {W a b : World} {B0 : Nat} {u0 u1 : Value} (hb : Below a.heap.size a b) (h : Below (B0 + 1) W a ∧ B0 + 1 < a.heap.size ∧ a.cell? ⟨B0, 0, none⟩ = some u0 ∧ a.cell? ⟨B0, 1, none⟩ = some u1 ∧ (a.cell? ⟨B0 + 1, 0, none⟩).isSome = true ∧ (a.cell? ⟨B0 + 1, 1, none⟩).isSome = true ∧ a.frozen? ⟨B0 + 1, 0, none⟩ = false ∧ a.frozen? ⟨B0 + 1, 1, none⟩ = false) : (b.cell? ⟨B0 + 1, 0, none⟩).isSome = true := (kp_call hb h).2.2.2.2.1
theorem ks1 {W a b : World} {B0 : Nat} {u0 u1 : Value} (hb : Below a.heap.size a b) (h : Below (B0 + 1) W a ∧ B0 + 1 < a.heap.size ∧ a.cell? ⟨B0, 0, none⟩ = some u0 ∧ a.cell? ⟨B0, 1, none⟩ = some u1 ∧ (a.cell? ⟨B0 + 1, 0, none⟩).isSome = true ∧ (a.cell? ⟨B0 + 1, 1, none⟩).isSome = true ∧ a.frozen? ⟨B0 + 1, 0, none⟩ = false ∧ a.frozen? ⟨B0 + 1, 1, none⟩ = false) : (b.cell? ⟨B0 + 1, 1, none⟩).isSome = true := (kp_call hb h).2.2.2.2.2.1
theorem kp_start {W : World} {B0 : Nat} {u0 u1 u4 u5 : Value} (h2 : B0 + 1 < W.heap.size) (c0 : W.cell? ⟨B0, 0, none⟩ = some u0) (c1 : W.cell? ⟨B0, 1, none⟩ = some u1) (c4 : W.cell? ⟨B0 + 1, 0, none⟩ = some u4) (c5 : W.cell? ⟨B0 + 1, 1, none⟩ = some u5)
    (f4 : W.frozen? ⟨B0 + 1, 0, none⟩ = false) (f5 : W.frozen? ⟨B0 + 1, 1, none⟩ = false) :
    Below (B0 + 1) W W.drew ∧ B0 + 1 < W.drew.heap.size ∧ W.drew.cell? ⟨B0, 0, none⟩ = some u0 ∧ W.drew.cell? ⟨B0, 1, none⟩ = some u1 ∧ (W.drew.cell? ⟨B0 + 1, 0, none⟩).isSome = true ∧ (W.drew.cell? ⟨B0 + 1, 1, none⟩).isSome = true ∧ W.drew.frozen? ⟨B0 + 1, 0, none⟩ = false ∧ W.drew.frozen? ⟨B0 + 1, 1, none⟩ = false :=
  ⟨(Below.refl _ _).drew, h2, c0, c1, by show (W.cell? _).isSome = true; rw [c4]; rfl, by show (W.cell? _).isSome = true; rw [c5]; rfl, f4, f5⟩
set_option maxHeartbeats 4000000 in
theorem timesInt_any (v : Value) (z n : Int) (w : World) (hv : WV w v z) (hl : (digs z.natAbs).length ≤ 1000) (h0 : -4000000000000000000 ≤ n) (h1 : n ≤ 4000000000000000000) :
    Calls Try.prog 90 #[v, .int .i64 n] w (RetW (z * n) w) := by
  have hmw := fun u w' (hb : Below w.heap.size w w') (hu : WV w' u n) => mulWholes_any v u z n w' (hv.keep hb) hu hl (Nat.le_trans (digs_int_len (by omega)) (by omega))
  have HMW := Lib.hid hmw; clear hmw
  obtain ⟨ad, cap, rfl, _, _⟩ := hv
  generalize decide (z < 0) = b1 at *
  generalize (digs z.natAbs).length = la at *
  generalize z * n = zn at *
  obtain ⟨B0, hB0⟩ : ∃ B0, w.heap.size = B0 := ⟨_, rfl⟩
  go_enter Try.func90, Try.ntmps90
  go_wp2_with fail
  generalize hW : (w.alloc (.cells #[.bool b1, .slice ad la cap] 26)).alloc (.cells #[.bool false, .slice none 0 0] 26) = W
  obtain ⟨hbelW, hW2, ca0, ca1, cr0, cr1, fr0, fr1⟩ : Below w.heap.size w W ∧ B0 + 1 < W.heap.size ∧ W.cell? ⟨B0, 0, none⟩ = some (.bool b1) ∧ W.cell? ⟨B0, 1, none⟩ = some (.slice ad la cap) ∧
      W.cell? ⟨B0 + 1, 0, none⟩ = some (.bool false) ∧ W.cell? ⟨B0 + 1, 1, none⟩ = some (.slice none 0 0) ∧ W.frozen? ⟨B0 + 1, 0, none⟩ = false ∧ W.frozen? ⟨B0 + 1, 1, none⟩ = false := by
    subst hW; subst hB0
    exact ⟨(by repeat (first | exact Below.refl _ _ | (with_reducible assumption) | refine bel_alloc ?_ _ | refine bel_drew ?_ | refine bel_drewN ?_ _ | refine Below.setCell ?_ (by dsimp only; omega) _ | refine bel_trans (by assumption) ?_)), by simp, by simp [go_sem], by simp [go_sem], by simp [go_sem], by simp [go_sem], by simp [go_sem], by simp [go_sem]⟩
  clear hW
  (try rw [hB0])
  have hwB : w.heap.size ≤ B0 + 1 := by omega
  have hmw2 := fun u w' (hb : Below (B0 + 1) W w') => HMW.out u w' (hbelW.trans (hb.mono hwB))
  have HMW2 := Lib.hid hmw2; clear hmw2
  go_region_held3 (fun w' => Below (B0 + 1) W w' ∧ B0 + 1 < w'.heap.size ∧ w'.cell? ⟨B0, 0, none⟩ = some (.bool b1) ∧ w'.cell? ⟨B0, 1, none⟩ = some (.slice ad la cap) ∧ (w'.cell? ⟨B0 + 1, 0, none⟩).isSome = true ∧ (w'.cell? ⟨B0 + 1, 1, none⟩).isSome = true ∧ w'.frozen? ⟨B0 + 1, 0, none⟩ = false ∧ w'.frozen? ⟨B0 + 1, 1, none⟩ = false) ((first | exact kp_start hW2 ca0 ca1 cr0 cr1 fr0 fr1 | exact kp_call (by assumption) (by assumption) | exact kp_store _ _ (kp_store _ _ (by assumption)))) ((first | (go_at_call 78; refine (wholeOf_any n _ h0 h1).mono ?_; rintro e w2 ⟨u1, rfl, hb, hu1⟩) | (go_at_call 45; refine (HMW2.out u1 _ (And.left (by assumption)) hu1.wv).mono ?_; rintro e w3 ⟨v3, rfl, hb3, hv3⟩; have HV3 := Lib.hid hv3; obtain ⟨x0, hx0⟩ := Option.isSome_iff_exists.1 (ks0 hb3 (by assumption)); obtain ⟨x1, hx1⟩ := Option.isSome_iff_exists.1 (ks1 hb3 (by assumption)); obtain ⟨ad3, cap3, hv3', _⟩ := hv3; subst hv3')))
  all_goals
    rename_i hHeld
    have hbf := hbelW.trans (hHeld.1.mono hwB)
    have hz2 := hb.size
    have hz3 : B0 + 1 < w2.heap.size := by simp at hz2; omega
    clear hHeld
    generalize decide (zn < 0) = bz at *
    generalize (digs zn.natAbs).length = lz at *
    go_wp2_with fail
    refine bodyPost_ret (by simp (maxDischargeDepth := 3) [results, Try.results90, go_sem, *]; try rfl) rfl ?_
    exact ⟨_, rfl, hbf, ((HV3.out.setFar hz3 _ _).setFar hz3 _ _).le (by omega)⟩
end Go.Proofs.Ytnhlcgbknkdbiaa
