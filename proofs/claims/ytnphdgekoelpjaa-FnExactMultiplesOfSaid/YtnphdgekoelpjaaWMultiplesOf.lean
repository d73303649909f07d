/- The walk of FnExactMultiplesOf. No conditions. -/
import Derived.Test.YtnphdgekoelpjaaMq
import Derived.Test.YtnphdgekoelpjaaRg
import Derived.Test.YtnphdgekoelpjaaMp
namespace Go.Proofs.Ytnphdgekoelpjaa.fnExactMultiplesOf
open Go.RowKit
theorem held {W w' : World} {B0 B1 : Nat} {u0_0 u0_1 u1_0 u1_1 u1_2 : Value} (h : Below W.heap.size W w') (h0 : B0 < W.heap.size) (h1 : B1 < W.heap.size)
    (c0_0 : W.cell? ⟨B0, 0, none⟩ = some u0_0) (c0_1 : W.cell? ⟨B0, 1, none⟩ = some u0_1) (c1_0 : W.cell? ⟨B1, 0, none⟩ = some u1_0) (c1_1 : W.cell? ⟨B1, 1, none⟩ = some u1_1) (c1_2 : W.cell? ⟨B1, 2, none⟩ = some u1_2) :
    Below W.heap.size W w' ∧ w'.cell? ⟨B0, 0, none⟩ = some u0_0 ∧ w'.cell? ⟨B0, 1, none⟩ = some u0_1 ∧ w'.cell? ⟨B1, 0, none⟩ = some u1_0 ∧ w'.cell? ⟨B1, 1, none⟩ = some u1_1 ∧ w'.cell? ⟨B1, 2, none⟩ = some u1_2 :=
  ⟨h, (h.cell (p := ⟨B0, 0, none⟩) h0).trans c0_0, (h.cell (p := ⟨B0, 1, none⟩) h0).trans c0_1, (h.cell (p := ⟨B1, 0, none⟩) h1).trans c1_0, (h.cell (p := ⟨B1, 1, none⟩) h1).trans c1_1, (h.cell (p := ⟨B1, 2, none⟩) h1).trans c1_2⟩
set_option maxHeartbeats 4000000 in
theorem walk (a b x y e n : Int) (w : World) (_ha : I64 a) (_hb : I64 b) (_hx : I64 x) (_hy : I64 y) (_he : I64 e) (_hn : I64 n) :
    Calls Try.prog 8 #[.agg #[.int .i64 a, .int .i64 b], .agg #[.int .i64 x, .int .i64 y, .int .i64 e], .int .i64 n] w (Ret (.bool true) w) := by
  obtain ⟨xs, hxs⟩ : ∃ xs, (mulsV a b x y e n) = xs := ⟨_, rfl⟩
  obtain ⟨ok, hok⟩ : ∃ ok, (mulsB a b x y e n) = ok := ⟨_, rfl⟩
  have hlen : xs.length ≤ 1000000 := by rw [← hxs]; have := mulsV_len a b x y e n; omega
  have h64 : I64 (1 + (xs.length : Int)) := by unfold I64; omega
  have hsp := fun z => sMultiplesOf_any a b x y e n z
  have him := fun z => iMultiplesOf_any a b x y e n z
  rw [hxs, hok] at hsp him
  clear hxs hok
  go_enter Try.func8, Try.ntmps8
  go_wp2_with fail
  generalize hW : (w.alloc (.cells #[.int .i64 a, .int .i64 b] 23)).alloc (.cells #[.int .i64 x, .int .i64 y, .int .i64 e] 25) = W0
  obtain ⟨B0, hB0⟩ : ∃ B0, w.heap.size = B0 := ⟨_, rfl⟩
  obtain ⟨hbelW, h0, h1, c0_0, c0_1, c1_0, c1_1, c1_2⟩ : Below w.heap.size w W0 ∧ B0 < W0.heap.size ∧ B0 + 1 < W0.heap.size ∧ W0.cell? ⟨B0, 0, none⟩ = some (.int .i64 a) ∧ W0.cell? ⟨B0, 1, none⟩ = some (.int .i64 b) ∧ W0.cell? ⟨B0 + 1, 0, none⟩ = some (.int .i64 x) ∧ W0.cell? ⟨B0 + 1, 1, none⟩ = some (.int .i64 y) ∧ W0.cell? ⟨B0 + 1, 2, none⟩ = some (.int .i64 e) := by
    subst hW; subst hB0
    exact ⟨(by repeat (first | exact Below.refl _ _ | (with_reducible assumption) | refine bel_alloc ?_ _ | refine bel_drew ?_ | refine bel_drewN ?_ _ | refine Below.setCell ?_ (by dsimp only; omega) _ | refine bel_trans (by assumption) ?_)), by simp, by simp, by simp [go_sem], by simp [go_sem], by simp [go_sem], by simp [go_sem], by simp [go_sem]⟩
  clear hW
  (try rw [hB0])
  refine' wp_region_val (f := _) (fun v w' => Below W0.heap.size W0 w' ∧ OwnP w' W0.heap.size v xs) ?_ ?_
  rotate_left
  · go_region_held3 (fun w' => Below W0.heap.size W0 w' ∧ w'.cell? ⟨B0, 0, none⟩ = some (.int .i64 a) ∧ w'.cell? ⟨B0, 1, none⟩ = some (.int .i64 b) ∧ w'.cell? ⟨B0 + 1, 0, none⟩ = some (.int .i64 x) ∧ w'.cell? ⟨B0 + 1, 1, none⟩ = some (.int .i64 y) ∧ w'.cell? ⟨B0 + 1, 2, none⟩ = some (.int .i64 e)) ((refine held ?_ h0 h1 c0_0 c0_1 c1_0 c1_1 c1_2; go_split_ands; repeat (first | exact Below.refl _ _ | (with_reducible assumption) | refine bel_alloc ?_ _ | refine bel_drew ?_ | refine bel_trans (by assumption) ?_))) ((first | (go_at_call 16; refine (toCurve_any _ _ _).mono ?_; rintro e w' ⟨rfl, hb⟩; (try replace hb := aft2 hb (by assumption)); have hz := hb.size; obtain ⟨hc, hf, hs1, hs2, hs3, hs4⟩ := aftz hb; (try simp at hz)) | (go_at_call 17; refine (toPoint_any _ _ _ _).mono ?_; rintro e w' ⟨rfl, hb⟩; (try replace hb := aft2 hb (by assumption)); have hz := hb.size; obtain ⟨hc, hf, hs1, hs2, hs3, hs4⟩ := aftz hb; (try simp at hz)) | (go_at_call 28; refine (hsp _).mono ?_; rintro e w' ⟨v, rfl, hb, hv⟩)))
    all_goals
      rename_i hHeld
      exact ⟨rfl, v, by rfl, hHeld.1, hv.le (by omega)⟩
  rintro v w1 ⟨hb1, hv⟩
  replace hv := hv.rd
  have ph0 : B0 < w1.heap.size := Nat.lt_of_lt_of_le h0 hb1.size
  have ph1 : B0 + 1 < w1.heap.size := Nat.lt_of_lt_of_le h1 hb1.size
  obtain ⟨_, pc0_0, pc0_1, pc1_0, pc1_1, pc1_2⟩ := held hb1 h0 h1 c0_0 c0_1 c1_0 c1_1 c1_2
  go_wp2_with fail
  refine' wp_region_val (f := _) (fun v w' => Below w1.heap.size w1 w' ∧ OwnP w' w1.heap.size v xs) ?_ ?_
  rotate_left
  · go_region_held3 (fun w' => Below w1.heap.size w1 w' ∧ w'.cell? ⟨B0, 0, none⟩ = some (.int .i64 a) ∧ w'.cell? ⟨B0, 1, none⟩ = some (.int .i64 b) ∧ w'.cell? ⟨B0 + 1, 0, none⟩ = some (.int .i64 x) ∧ w'.cell? ⟨B0 + 1, 1, none⟩ = some (.int .i64 y) ∧ w'.cell? ⟨B0 + 1, 2, none⟩ = some (.int .i64 e)) ((refine held ?_ ph0 ph1 pc0_0 pc0_1 pc1_0 pc1_1 pc1_2; go_split_ands; repeat (first | exact Below.refl _ _ | (with_reducible assumption) | refine bel_alloc ?_ _ | refine bel_drew ?_ | refine bel_trans (by assumption) ?_))) ((first | (go_at_call 16; refine (toCurve_any _ _ _).mono ?_; rintro e w' ⟨rfl, hb⟩; (try replace hb := aft2 hb (by assumption)); have hz := hb.size; obtain ⟨hc, hf, hs1, hs2, hs3, hs4⟩ := aftz hb; (try simp at hz)) | (go_at_call 17; refine (toPoint_any _ _ _ _).mono ?_; rintro e w' ⟨rfl, hb⟩; (try replace hb := aft2 hb (by assumption)); have hz := hb.size; obtain ⟨hc, hf, hs1, hs2, hs3, hs4⟩ := aftz hb; (try simp at hz)) | (go_at_call 29; refine (him _).mono ?_; rintro e w' ⟨v, rfl, hb, hv⟩)))
    all_goals
      rename_i hHeld
      exact ⟨rfl, v, by rfl, hHeld.1, hv.le (by omega)⟩
  rintro u w4 ⟨hb4, hu⟩
  have hBv2 := hv.1
  have hBW : W0.heap.size ≤ w1.heap.size := hb1.size
  replace hv := hv.keep hb4
  replace hb4 := aft2 hb4 hb1; clear hb1
  go_wp2_with fail
  refine (eqPointS_same _ _ _ _ _ _ hu.rd hv).mono ?_; rintro e w5 ⟨rfl, hb5⟩
  replace hu := hu.keep hb5
  replace hv := hv.keep hb5
  replace hb5 := aft2 hb5 hb4; clear hb4
  go_wp2_with fail
  have hbz : W0.heap.size ≤ w5.heap.size := hb5.size
  have hvz := hv.1
  refine (markPointS_any _ _ 1 _ _ hu (by omega) (by omega) (by omega)).mono ?_; rintro e w6 ⟨rfl, hgr, hu6⟩
  have hb6 : Below W0.heap.size w5 w6 := MarkedP.below hgr hu hBW hbz
  replace hv := hv.step (MarkedP.below hgr hu hBv2 hvz) (Nat.le_refl _)
  replace hb6 : Below W0.heap.size W0 w6 := hb5.trans hb6; clear hgr hu hb5
  have hm := hu6.rd; clear hu6
  go_wp2_with fail
  refine (heldPointS_any _ _ _ 1 _ hm (by omega) (by omega) (by omega)).mono ?_; rintro e w7 ⟨rfl, hb7⟩
  replace hv := hv.keep hb7
  replace hm := hm.keep hb7
  replace hb7 := aft2 hb7 hb6; clear hb6
  have qh0 : B0 < w7.heap.size := Nat.lt_of_lt_of_le h0 hb7.size
  have qh1 : B0 + 1 < w7.heap.size := Nat.lt_of_lt_of_le h1 hb7.size
  obtain ⟨_, qc0_0, qc0_1, qc1_0, qc1_1, qc1_2⟩ := held hb7 h0 h1 c0_0 c0_1 c1_0 c1_1 c1_2
  go_wp2_with fail
  refine' wp_region_val (f := _) (fun v w' => Below w7.heap.size w7 w' ∧ OwnP w' w7.heap.size v xs) ?_ ?_
  rotate_left
  · go_region_held3 (fun w' => Below w7.heap.size w7 w' ∧ w'.cell? ⟨B0, 0, none⟩ = some (.int .i64 a) ∧ w'.cell? ⟨B0, 1, none⟩ = some (.int .i64 b) ∧ w'.cell? ⟨B0 + 1, 0, none⟩ = some (.int .i64 x) ∧ w'.cell? ⟨B0 + 1, 1, none⟩ = some (.int .i64 y) ∧ w'.cell? ⟨B0 + 1, 2, none⟩ = some (.int .i64 e)) ((refine held ?_ qh0 qh1 qc0_0 qc0_1 qc1_0 qc1_1 qc1_2; go_split_ands; repeat (first | exact Below.refl _ _ | (with_reducible assumption) | refine bel_alloc ?_ _ | refine bel_drew ?_ | refine bel_trans (by assumption) ?_))) ((first | (go_at_call 16; refine (toCurve_any _ _ _).mono ?_; rintro e w' ⟨rfl, hb⟩; (try replace hb := aft2 hb (by assumption)); have hz := hb.size; obtain ⟨hc, hf, hs1, hs2, hs3, hs4⟩ := aftz hb; (try simp at hz)) | (go_at_call 17; refine (toPoint_any _ _ _ _).mono ?_; rintro e w' ⟨rfl, hb⟩; (try replace hb := aft2 hb (by assumption)); have hz := hb.size; obtain ⟨hc, hf, hs1, hs2, hs3, hs4⟩ := aftz hb; (try simp at hz)) | (go_at_call 29; refine (him _).mono ?_; rintro e w' ⟨v, rfl, hb, hv⟩)))
    all_goals
      rename_i hHeld
      exact ⟨rfl, v, by rfl, hHeld.1, hv.le (by omega)⟩
  rintro u2 w9 ⟨hb9, hu2⟩
  replace hv := hv.keep hb9
  replace hm := hm.keep hb9
  replace hb9 := aft2 hb9 hb7; clear hb7
  go_wp2_with fail
  refine (eqPointS_same _ _ _ _ _ _ hu2.rd hv).mono ?_; rintro e w10 ⟨rfl, hb10⟩
  replace hm := hm.keep hb10
  replace hb10 := aft2 hb10 hb9; clear hb9
  go_wp2_with fail
  refine (heldPointS_any _ _ _ 1 _ hm (by omega) (by omega) (by omega)).mono ?_; rintro e w11 ⟨rfl, hb11⟩
  replace hb11 := aft2 hb11 hb10; clear hb10
  go_wp2_with fail
  go_ret
  exact ret_mk (bel_trans hb11 hbelW)
end Go.Proofs.Ytnphdgekoelpjaa.fnExactMultiplesOf
