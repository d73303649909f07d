/- The walk of FnExactDoublePoint. No conditions. -/
import Derived.Test.YtnphdgekoelpjaaSv
import Derived.Test.YtnphdgekoelpjaaRg
namespace Go.Proofs.Ytnphdgekoelpjaa.fnExactDoublePoint
open Go.RowKit
theorem held {W w' : World} {B0 B1 : Nat} {u0_0 u0_1 u1_0 u1_1 u1_2 : Value} (h : Below W.heap.size W w') (h0 : B0 < W.heap.size) (h1 : B1 < W.heap.size)
    (c0_0 : W.cell? ⟨B0, 0, none⟩ = some u0_0) (c0_1 : W.cell? ⟨B0, 1, none⟩ = some u0_1) (c1_0 : W.cell? ⟨B1, 0, none⟩ = some u1_0) (c1_1 : W.cell? ⟨B1, 1, none⟩ = some u1_1) (c1_2 : W.cell? ⟨B1, 2, none⟩ = some u1_2) :
    Below W.heap.size W w' ∧ w'.cell? ⟨B0, 0, none⟩ = some u0_0 ∧ w'.cell? ⟨B0, 1, none⟩ = some u0_1 ∧ w'.cell? ⟨B1, 0, none⟩ = some u1_0 ∧ w'.cell? ⟨B1, 1, none⟩ = some u1_1 ∧ w'.cell? ⟨B1, 2, none⟩ = some u1_2 :=
  ⟨h, (h.cell (p := ⟨B0, 0, none⟩) h0).trans c0_0, (h.cell (p := ⟨B0, 1, none⟩) h0).trans c0_1, (h.cell (p := ⟨B1, 0, none⟩) h1).trans c1_0, (h.cell (p := ⟨B1, 1, none⟩) h1).trans c1_1, (h.cell (p := ⟨B1, 2, none⟩) h1).trans c1_2⟩
set_option maxHeartbeats 40000000 in
theorem walk (a b x y e : Int) (w : World) (_ha : I64 a) (_hb : I64 b) (_hx : I64 x) (_hy : I64 y) (_he : I64 e) :
    Calls Try.prog 4 #[.agg #[.int .i64 a, .int .i64 b], .agg #[.int .i64 x, .int .i64 y, .int .i64 e]] w (Ret (.bool true) w) := by
  obtain ⟨n1, n2, n3, ok, hval⟩ := ptO_shape (sumO a b x y e x y e)
  have hsp := fun z => sDoublePoint_any a b x y e z
  have him := fun z => iDoublePoint_any a b x y e z
  rw [hval] at hsp him
  clear hval
  go_enter Try.func4, Try.ntmps4
  go_wp2_with fail
  generalize hW : (w.alloc (.cells #[.int .i64 a, .int .i64 b] 23)).alloc (.cells #[.int .i64 x, .int .i64 y, .int .i64 e] 25) = W
  obtain ⟨B0, hB0⟩ : ∃ B0, w.heap.size = B0 := ⟨_, rfl⟩
  obtain ⟨hbelW, h0, h1, c0_0, c0_1, c1_0, c1_1, c1_2⟩ : Below w.heap.size w W ∧ B0 < W.heap.size ∧ B0 + 1 < W.heap.size ∧ W.cell? ⟨B0, 0, none⟩ = some (.int .i64 a) ∧ W.cell? ⟨B0, 1, none⟩ = some (.int .i64 b) ∧ W.cell? ⟨B0 + 1, 0, none⟩ = some (.int .i64 x) ∧ W.cell? ⟨B0 + 1, 1, none⟩ = some (.int .i64 y) ∧ W.cell? ⟨B0 + 1, 2, none⟩ = some (.int .i64 e) := by
    subst hW; subst hB0
    exact ⟨(by repeat (first | exact Below.refl _ _ | (with_reducible assumption) | refine bel_alloc ?_ _ | refine bel_drew ?_ | refine bel_drewN ?_ _ | refine Below.setCell ?_ (by dsimp only; omega) _ | refine bel_trans (by assumption) ?_)), by simp, by simp, by simp [go_sem], by simp [go_sem], by simp [go_sem], by simp [go_sem], by simp [go_sem]⟩
  clear hW
  (try rw [hB0])
  refine' wp_region_box (a0 := _) 5 (fun B w' => Below W.heap.size W w' ∧ Box3 W.heap.size B (.int .i64 (n1)) (.int .i64 (n2)) (.int .i64 (n3)) w') ?_ ?_
  rotate_left
  · go_region_held3 (fun w' => Below W.heap.size W w' ∧ w'.cell? ⟨B0, 0, none⟩ = some (.int .i64 a) ∧ w'.cell? ⟨B0, 1, none⟩ = some (.int .i64 b) ∧ w'.cell? ⟨B0 + 1, 0, none⟩ = some (.int .i64 x) ∧ w'.cell? ⟨B0 + 1, 1, none⟩ = some (.int .i64 y) ∧ w'.cell? ⟨B0 + 1, 2, none⟩ = some (.int .i64 e)) ((refine held ?_ h0 h1 c0_0 c0_1 c1_0 c1_1 c1_2; go_split_ands; repeat (first | exact Below.refl _ _ | (with_reducible assumption) | refine bel_alloc ?_ _ | refine bel_drew ?_ | refine Below.setCell ?_ (by dsimp only; omega) _ | refine bel_trans (by assumption) ?_))) ((first | (go_at_call 16; refine (toCurve_any _ _ _).mono ?_; rintro e w' ⟨rfl, hb⟩; (try replace hb := aft2 hb (by assumption)); have hz := hb.size; obtain ⟨hc, hf, hs1, hs2, hs3, hs4⟩ := aftz hb; (try simp at hz)) | (go_at_call 17; refine (toPoint_any _ _ _ _).mono ?_; rintro e w' ⟨rfl, hb⟩; (try replace hb := aft2 hb (by assumption)); have hz := hb.size; obtain ⟨hc, hf, hs1, hs2, hs3, hs4⟩ := aftz hb; (try simp at hz)) | (go_at_call 20; refine (hsp _).mono ?_; rintro e w' ⟨rfl, hb⟩; (try replace hb := aft2 hb (by assumption)); have hz := hb.size; obtain ⟨hc, hf, hs1, hs2, hs3, hs4⟩ := aftz hb; (try simp at hz))))
    all_goals
      rename_i hHeld
      refine ⟨rfl, _, ⟨by first | rfl | (simp [Act.put]; done) | (simp [Act.put]; rfl), by first | rfl | (simp; done) | (simp; rfl)⟩, hHeld.1, ?_⟩
      clear hHeld
      (try simp only [cond_true, cond_false])
      refine ⟨by omega, by first | (simp; done) | (simp; omega), ?_, ?_, ?_⟩
      all_goals first | (simp [go_sem]; done) | (simp [go_sem, *]; done)
  rintro Bx W2 ⟨hbw0, q0_0, q0_1, q0_c0, q0_c1, q0_c2⟩
  simp only [Act.put, List.setIfInBounds_toArray, List.set_cons_zero, List.set_cons_succ]
  have hz2 := hbw0.size
  have kh0 : B0 < W2.heap.size := by omega
  have kh1 : B0 + 1 < W2.heap.size := by omega
  obtain ⟨_, kc0_0, kc0_1, kc1_0, kc1_1, kc1_2⟩ := held hbw0 h0 h1 c0_0 c0_1 c1_0 c1_1 c1_2
  go_wp2_with fail
  refine' wp_region_box (a0 := _) 7 (fun B w' => Below W2.heap.size W2 w' ∧ Box3 W2.heap.size B (.int .i64 (n1)) (.int .i64 (n2)) (.int .i64 (n3)) w') ?_ ?_
  rotate_left
  · go_region_held3 (fun w' => Below W2.heap.size W2 w' ∧ w'.cell? ⟨B0, 0, none⟩ = some (.int .i64 a) ∧ w'.cell? ⟨B0, 1, none⟩ = some (.int .i64 b) ∧ w'.cell? ⟨B0 + 1, 0, none⟩ = some (.int .i64 x) ∧ w'.cell? ⟨B0 + 1, 1, none⟩ = some (.int .i64 y) ∧ w'.cell? ⟨B0 + 1, 2, none⟩ = some (.int .i64 e)) ((refine held ?_ kh0 kh1 kc0_0 kc0_1 kc1_0 kc1_1 kc1_2; go_split_ands; repeat (first | exact Below.refl _ _ | (with_reducible assumption) | refine bel_alloc ?_ _ | refine bel_drew ?_ | refine Below.setCell ?_ (by dsimp only; omega) _ | refine bel_trans (by assumption) ?_))) ((first | (go_at_call 16; refine (toCurve_any _ _ _).mono ?_; rintro e w' ⟨rfl, hb⟩; (try replace hb := aft2 hb (by assumption)); have hz := hb.size; obtain ⟨hc, hf, hs1, hs2, hs3, hs4⟩ := aftz hb; (try simp at hz)) | (go_at_call 17; refine (toPoint_any _ _ _ _).mono ?_; rintro e w' ⟨rfl, hb⟩; (try replace hb := aft2 hb (by assumption)); have hz := hb.size; obtain ⟨hc, hf, hs1, hs2, hs3, hs4⟩ := aftz hb; (try simp at hz)) | (go_at_call 21; refine (him _).mono ?_; rintro e w' ⟨rfl, hb⟩; (try replace hb := aft2 hb (by assumption)); have hz := hb.size; obtain ⟨hc, hf, hs1, hs2, hs3, hs4⟩ := aftz hb; (try simp at hz))))
    all_goals
      rename_i hHeld
      refine ⟨rfl, _, ⟨by first | rfl | (simp [Act.put]; done) | (simp [Act.put]; rfl), by first | rfl | (simp; done) | (simp; rfl)⟩, hHeld.1, ?_⟩
      clear hHeld
      (try simp only [cond_true, cond_false])
      refine ⟨by omega, by first | (simp; done) | (simp; omega), ?_, ?_, ?_⟩
      all_goals first | (simp [go_sem]; done) | (simp [go_sem, *]; done)
  rintro By W3 ⟨hbw1, q1_0, q1_1, q1_c0, q1_c1, q1_c2⟩
  simp only [Act.put, List.setIfInBounds_toArray, List.set_cons_zero, List.set_cons_succ]
  have qx0 := (hbw1.cell (p := ⟨Bx, 0, none⟩) q0_1).trans q0_c0
  have qx1 := (hbw1.cell (p := ⟨Bx, 1, none⟩) q0_1).trans q0_c1
  have qx2 := (hbw1.cell (p := ⟨Bx, 2, none⟩) q0_1).trans q0_c2
  clear q0_0 q0_1 q0_c0 q0_c1 q0_c2
  go_wp2_with (first | (go_at_call 19; refine (eqPoint_same _ _ _ _).mono ?_; rintro e w' ⟨rfl, hb⟩; (try replace hb := aft2 hb (by assumption)); obtain ⟨hc, hf, hs1, hs2, hs3, hs4⟩ := aftz hb))
  go_ret
  exact ret_mk (bel_trans (by repeat (first | exact Below.refl _ _ | (with_reducible assumption) | refine bel_alloc ?_ _ | refine bel_drew ?_ | refine bel_trans (by assumption) ?_)) hbelW)
end Go.Proofs.Ytnphdgekoelpjaa.fnExactDoublePoint
