/- Ye: contracts: the reference's sums and differences of wholes. No conditions. -/
import Derived.Test.YtakilincclnpdaaGreatDoorYdy
import Derived.Test.YtakilincclnpdaaGreatDoorWey
namespace Go.Proofs.YtakilincclnpdaaGreatDoor
open Go.RowKit

set_option maxHeartbeats 4000000 in
theorem bgAdd_any (v u : Value) (z y : Int) (w : World) (hv : WV w v z) (hu : WV w u y) (hl : (digs z.natAbs).length ≤ 1000) (hl' : (digs y.natAbs).length ≤ 1000) :
    Calls Tryz.prog 112 #[v, u] w (RetW (z + y) w) := by
  obtain ⟨ad, cap, rfl, hr, _⟩ := hv
  obtain ⟨ad', cap', rfl, hr', _⟩ := hu
  have hcs := fun w' (hb : Below w.heap.size w w') => bgOrder_any _ _ (digs z.natAbs) (digs y.natAbs) w' (hr.keep hb) (hr'.keep hb) (digs_dig _) (digs_dig _) (by omega) (by omega)
  have hxd := digs_dig z.natAbs
  have hyd := digs_dig y.natAbs
  have hxv := val_digs z.natAbs
  have hyv := val_digs y.natAbs
  generalize hb1 : decide (z < 0) = b1 at *
  generalize hb2 : decide (y < 0) = b2 at *
  generalize digs z.natAbs = xs at *
  generalize digs y.natAbs = ys at *
  have HXD := Lib.hid hxd; clear hxd
  have HYD := Lib.hid hyd; clear hyd
  have HXV := Lib.hid hxv; clear hxv
  have HYV := Lib.hid hyv; clear hyv
  have HR := Lib.hid hr; clear hr
  have HR' := Lib.hid hr'; clear hr'
  have HB1 := Lib.hid hb1; clear hb1
  have HB2 := Lib.hid hb2; clear hb2
  have HCS := Lib.hid hcs; clear hcs
  obtain ⟨zy, hzy⟩ : ∃ zy, z + y = zy := ⟨_, rfl⟩
  rw [hzy]
  have HZY := Lib.hid hzy; clear hzy
  generalize hW : ((w.alloc (.cells #[.bool b1, .slice ad xs.length cap] 26)).alloc (.cells #[.bool b2, .slice ad' ys.length cap'] 26)).alloc (.cells #[.bool false, .slice none 0 0] 26) = W
  obtain ⟨B0, hB0⟩ : ∃ B0, w.heap.size = B0 := ⟨_, rfl⟩
  obtain ⟨hbelW, hws, ca0, ca1, cb0, cb1, cr0, cr1, fr0, fr1, fa0, fa1, fb0, fb1⟩ : Below w.heap.size w W ∧ W.heap.size = B0 + 3 ∧ W.cell? ⟨B0, 0, none⟩ = some (.bool b1) ∧ W.cell? ⟨B0, 1, none⟩ = some (.slice ad xs.length cap) ∧ W.cell? ⟨B0 + 1, 0, none⟩ = some (.bool b2) ∧ W.cell? ⟨B0 + 1, 1, none⟩ = some (.slice ad' ys.length cap') ∧
      W.cell? ⟨B0 + 1 + 1, 0, none⟩ = some (.bool false) ∧ W.cell? ⟨B0 + 1 + 1, 1, none⟩ = some (.slice none 0 0) ∧ W.frozen? ⟨B0 + 1 + 1, 0, none⟩ = false ∧ W.frozen? ⟨B0 + 1 + 1, 1, none⟩ = false ∧ W.frozen? ⟨B0, 0, none⟩ = false ∧ W.frozen? ⟨B0, 1, none⟩ = false ∧ W.frozen? ⟨B0 + 1, 0, none⟩ = false ∧ W.frozen? ⟨B0 + 1, 1, none⟩ = false := by
    subst hW; subst hB0
    exact ⟨(by repeat (first | exact Below.refl _ _ | (with_reducible assumption) | refine bel_alloc ?_ _ | refine bel_drew ?_ | refine bel_drewN ?_ _ | refine Below.setCell ?_ (by dsimp only; omega) _ | refine bel_trans (by assumption) ?_)), by simp, by simp [go_sem], by simp [go_sem], by simp [go_sem], by simp [go_sem], by simp [go_sem], by simp [go_sem], by simp [go_sem], by simp [go_sem], by simp [go_sem], by simp [go_sem], by simp [go_sem], by simp [go_sem]⟩
  have HWW := Lib.hid hW; clear hW
  have hW2 : B0 + 2 < W.heap.size := by omega
  have hwB : w.heap.size ≤ B0 + 2 := by omega
  have HWS := Lib.hid hws; clear hws
  have hrx : ∀ wr, Below (B0 + 2) W wr → Rd wr (.slice ad xs.length cap) xs := fun wr hb => HR.out.keep (hbelW.trans (hb.mono hwB))
  have hry : ∀ wr, Below (B0 + 2) W wr → Rd wr (.slice ad' ys.length cap') ys := fun wr hb => HR'.out.keep (hbelW.trans (hb.mono hwB))
  have HRX := Lib.hid hrx; clear hrx
  have HRY := Lib.hid hry; clear hry
  by_cases hbb : b1 = b2
  · subst hbb
    go_enter Tryz.func112, Tryz.ntmps112
    go_wp2_with fail
    rw [HWW.out]
    (try rw [hB0])
    have hsgn : (if b1 = true then -(val xs + 1 * val ys) else val xs + 1 * val ys) = zy := by
      rw [HXV.out, HYV.out, ← HZY.out]
      cases b1
      · have h1 := of_decide_eq_false HB1.out
        have h2 := of_decide_eq_false HB2.out
        rw [if_neg (by simp)]; omega
      · have h1 := of_decide_eq_true HB1.out
        have h2 := of_decide_eq_true HB2.out
        rw [if_pos rfl]; omega
    have HSGN := Lib.hid hsgn; clear hsgn
    go_region_held3 (fun w' => Below (B0 + 2) W w' ∧ B0 + 2 < w'.heap.size ∧ w'.cell? ⟨B0, 0, none⟩ = some (.bool b1) ∧ w'.cell? ⟨B0, 1, none⟩ = some (.slice ad xs.length cap) ∧ w'.cell? ⟨B0 + 1, 0, none⟩ = some (.bool b1) ∧ w'.cell? ⟨B0 + 1, 1, none⟩ = some (.slice ad' ys.length cap') ∧ (w'.cell? ⟨B0 + 1 + 1, 0, none⟩).isSome = true ∧ (w'.cell? ⟨B0 + 1 + 1, 1, none⟩).isSome = true ∧ w'.frozen? ⟨B0 + 1 + 1, 0, none⟩ = false ∧ w'.frozen? ⟨B0 + 1 + 1, 1, none⟩ = false) ((first | exact keep_start hW2 ca0 ca1 cb0 cb1 cr0 cr1 fr0 fr1 | exact keep_call (by assumption) (by assumption) | exact keep_store _ _ (keep_store _ _ (by assumption)))) ((first | (go_at_call 146; refine (bgCombine_any _ _ xs ys 1 _ (HRX.out _ (And.left (by assumption))) (HRY.out _ (And.left (by assumption))) HXD.out HYD.out hl hl' (.inl rfl)).mono ?_; rintro e w2 ⟨u1, out, rfl, hb, ho, hd, hval, hlen⟩; obtain ⟨ad1, cap1, hu1⟩ := ho.len; subst hu1) | (go_at_call 82; have htr := bgMake_any b1 (.slice ad1 out.length cap1) out w2 ho.rd ho.slok hd (by omega); rw [hval, HSGN.out] at htr; refine htr.mono ?_; rintro e w3 ⟨v3, rfl, hb3, hv3⟩; have HV3 := Lib.hid hv3; have hlt3 : w2.heap.size ≤ w3.heap.size := hb3.size; obtain ⟨x0, hx0⟩ := Option.isSome_iff_exists.1 (isSome0 hb3 (by assumption)); obtain ⟨x1, hx1⟩ := Option.isSome_iff_exists.1 (isSome1 hb3 (by assumption)); obtain ⟨ad3, cap3, hv3', _⟩ := hv3; subst hv3')))
    all_goals
      rename_i hHeld
      have hbf := hbelW.trans (hHeld.1.mono hwB)
      have hz2 := hb.size
      have hz3 : B0 + 1 + 1 < w2.heap.size := by simp at hz2; omega
      clear hHeld
      generalize decide (zy < 0) = bz at *
      generalize (digs zy.natAbs).length = lz at *
      go_wp2_with fail
      refine bodyPost_ret (by simp (maxDischargeDepth := 3) [results, Tryz.results112, go_sem, *]; try rfl) rfl ?_
      exact ⟨_, rfl, hbf, ((HV3.out.setFar hz3 _ _).setFar hz3 _ _).le (by omega)⟩
  · have hbq : (b1 == b2) = false := by simp [hbb]
    have hxy : cmpI (val xs) (val ys) < 0 ∨ 0 ≤ cmpI (val xs) (val ys) := Int.lt_or_le _ _
    rcases hxy with hlt | hge
    · have hle : val xs ≤ val ys := by
        unfold cmpI at hlt
        split at hlt
        · omega
        · split at hlt <;> omega
      have HLE := Lib.hid hle; clear hle
      have hsgn : (if b2 = true then -(val ys + -1 * val xs) else val ys + -1 * val xs) = zy := by
        rw [HXV.out, HYV.out, ← HZY.out]
        cases b2
        · have h2 := of_decide_eq_false HB2.out
          have h1 := of_decide_eq_true (HB1.out.trans (by cases b1 <;> simp_all))
          rw [if_neg (by simp)]; omega
        · have h2 := of_decide_eq_true HB2.out
          have h1 := of_decide_eq_false (HB1.out.trans (by cases b1 <;> simp_all))
          rw [if_pos rfl]; omega
      have HSGN := Lib.hid hsgn; clear hsgn
      generalize cmpI (val xs) (val ys) = cc at *
      go_enter Tryz.func112, Tryz.ntmps112
      go_wp2_with fail
      rw [HWW.out]
      (try rw [hB0])
      refine (HCS.out _ hbelW).mono ?_; rintro e w1 ⟨rfl, hb1⟩
      have g0 : B0 < W.heap.size := by omega
      have g1 : B0 + 1 < W.heap.size := by omega
      have g2 : B0 + 1 + 1 < W.heap.size := by omega
      have ea0 := (hb1.cell (p := ⟨B0, 0, none⟩) g0).trans ca0
      have ea1 := (hb1.cell (p := ⟨B0, 1, none⟩) g0).trans ca1
      have eb0 := (hb1.cell (p := ⟨B0 + 1, 0, none⟩) g1).trans cb0
      have eb1 := (hb1.cell (p := ⟨B0 + 1, 1, none⟩) g1).trans cb1
      have er0 := (hb1.cell (p := ⟨B0 + 1 + 1, 0, none⟩) g2).trans cr0
      have er1 := (hb1.cell (p := ⟨B0 + 1 + 1, 1, none⟩) g2).trans cr1
      have ef0 := (hb1.frozen (p := ⟨B0 + 1 + 1, 0, none⟩) g2).trans fr0
      have ef1 := (hb1.frozen (p := ⟨B0 + 1 + 1, 1, none⟩) g2).trans fr1
      have eg0 := (hb1.frozen (p := ⟨B0, 0, none⟩) g0).trans fa0
      have eg1 := (hb1.frozen (p := ⟨B0, 1, none⟩) g0).trans fa1
      have eh0 := (hb1.frozen (p := ⟨B0 + 1, 0, none⟩) g1).trans fb0
      have eh1 := (hb1.frozen (p := ⟨B0 + 1, 1, none⟩) g1).trans fb1
      have hz1 := hb1.size
      have hV2 : B0 + 2 < w1.heap.size := by omega
      clear g0 g1 g2 hz1 ca0 ca1 cb0 cb1 cr0 cr1 fr0 fr1 fa0 fa1 fb0 fb1
      go_wp2_with fail
      obtain ⟨V, hV⟩ : ∃ V, w1 = V := ⟨_, rfl⟩
      rw [hV] at ea0 ea1 eb0 eb1 er0 er1 ef0 ef1 hV2 ⊢
      have hbelV : Below w.heap.size w V := by rw [← hV]; exact bel_trans hb1 hbelW
      have hW5 := hV2
      have da0 := ea0; have da1 := ea1; have db0 := eb0; have db1 := eb1; have dr0 := er0; have dr1 := er1; have ds0 := ef0; have ds1 := ef1
      clear hV ea0 ea1 eb0 eb1 er0 er1 ef0 ef1 eg0 eg1 eh0 eh1
      have hrx : ∀ wr, Below (B0 + 2) V wr → Rd wr (.slice ad xs.length cap) xs := fun wr hb => HR.out.keep (hbelV.trans (hb.mono hwB))
      have hry : ∀ wr, Below (B0 + 2) V wr → Rd wr (.slice ad' ys.length cap') ys := fun wr hb => HR'.out.keep (hbelV.trans (hb.mono hwB))
      have HRXV := Lib.hid hrx; clear hrx
      have HRYV := Lib.hid hry; clear hry
      clear hb1 HRX HRY
      go_region_held3 (fun w' => Below (B0 + 2) V w' ∧ B0 + 2 < w'.heap.size ∧ w'.cell? ⟨B0, 0, none⟩ = some (.bool b1) ∧ w'.cell? ⟨B0, 1, none⟩ = some (.slice ad xs.length cap) ∧ w'.cell? ⟨B0 + 1, 0, none⟩ = some (.bool b2) ∧ w'.cell? ⟨B0 + 1, 1, none⟩ = some (.slice ad' ys.length cap') ∧ (w'.cell? ⟨B0 + 1 + 1, 0, none⟩).isSome = true ∧ (w'.cell? ⟨B0 + 1 + 1, 1, none⟩).isSome = true ∧ w'.frozen? ⟨B0 + 1 + 1, 0, none⟩ = false ∧ w'.frozen? ⟨B0 + 1 + 1, 1, none⟩ = false) ((first | exact keep_start hW5 da0 da1 db0 db1 dr0 dr1 ds0 ds1 | exact keep_call (by assumption) (by assumption) | exact keep_store _ _ (keep_store _ _ (by assumption)))) ((first | (go_at_call 146; refine (bgCombine_any _ _ ys xs (-1) _ (HRYV.out _ (And.left (by assumption))) (HRXV.out _ (And.left (by assumption))) HYD.out HXD.out hl' hl (.inr ⟨rfl, HLE.out⟩)).mono ?_; rintro e w2 ⟨u1, out, rfl, hb, ho, hd, hval, hlen⟩; obtain ⟨ad1, cap1, hu1⟩ := ho.len; subst hu1) | (go_at_call 82; have htr := bgMake_any b2 (.slice ad1 out.length cap1) out w2 ho.rd ho.slok hd (by omega); rw [hval, HSGN.out] at htr; refine htr.mono ?_; rintro e w3 ⟨v3, rfl, hb3, hv3⟩; have HV3 := Lib.hid hv3; have hlt3 : w2.heap.size ≤ w3.heap.size := hb3.size; obtain ⟨x0, hx0⟩ := Option.isSome_iff_exists.1 (isSome0 hb3 (by assumption)); obtain ⟨x1, hx1⟩ := Option.isSome_iff_exists.1 (isSome1 hb3 (by assumption)); obtain ⟨ad3, cap3, hv3', _⟩ := hv3; subst hv3')))
      all_goals
        rename_i hHeld
        have hbf := hbelV.trans (hHeld.1.mono hwB)
        have hz2 := hb.size
        have hz3 : B0 + 1 + 1 < w2.heap.size := by simp at hz2; omega
        clear hHeld
        generalize decide (zy < 0) = bz at *
        generalize (digs zy.natAbs).length = lz at *
        go_wp2_with fail
        refine bodyPost_ret (by simp (maxDischargeDepth := 3) [results, Tryz.results112, go_sem, *]; try rfl) rfl ?_
        exact ⟨_, rfl, hbf, ((HV3.out.setFar hz3 _ _).setFar hz3 _ _).le (by omega)⟩
    · have hle : val ys ≤ val xs := by
        unfold cmpI at hge
        split at hge
        · omega
        · split at hge <;> omega
      have HLE := Lib.hid hle; clear hle
      have hsgn : (if b1 = true then -(val xs + -1 * val ys) else val xs + -1 * val ys) = zy := by
        rw [HXV.out, HYV.out, ← HZY.out]
        cases b1
        · have h1 := of_decide_eq_false HB1.out
          have h2 := of_decide_eq_true (HB2.out.trans (by cases b2 <;> simp_all))
          rw [if_neg (by simp)]; omega
        · have h1 := of_decide_eq_true HB1.out
          have h2 := of_decide_eq_false (HB2.out.trans (by cases b2 <;> simp_all))
          rw [if_pos rfl]; omega
      have HSGN := Lib.hid hsgn; clear hsgn
      generalize cmpI (val xs) (val ys) = cc at *
      go_enter Tryz.func112, Tryz.ntmps112
      go_wp2_with fail
      rw [HWW.out]
      (try rw [hB0])
      refine (HCS.out _ hbelW).mono ?_; rintro e w1 ⟨rfl, hb1⟩
      have g0 : B0 < W.heap.size := by omega
      have g1 : B0 + 1 < W.heap.size := by omega
      have g2 : B0 + 1 + 1 < W.heap.size := by omega
      have ea0 := (hb1.cell (p := ⟨B0, 0, none⟩) g0).trans ca0
      have ea1 := (hb1.cell (p := ⟨B0, 1, none⟩) g0).trans ca1
      have eb0 := (hb1.cell (p := ⟨B0 + 1, 0, none⟩) g1).trans cb0
      have eb1 := (hb1.cell (p := ⟨B0 + 1, 1, none⟩) g1).trans cb1
      have er0 := (hb1.cell (p := ⟨B0 + 1 + 1, 0, none⟩) g2).trans cr0
      have er1 := (hb1.cell (p := ⟨B0 + 1 + 1, 1, none⟩) g2).trans cr1
      have ef0 := (hb1.frozen (p := ⟨B0 + 1 + 1, 0, none⟩) g2).trans fr0
      have ef1 := (hb1.frozen (p := ⟨B0 + 1 + 1, 1, none⟩) g2).trans fr1
      have eg0 := (hb1.frozen (p := ⟨B0, 0, none⟩) g0).trans fa0
      have eg1 := (hb1.frozen (p := ⟨B0, 1, none⟩) g0).trans fa1
      have eh0 := (hb1.frozen (p := ⟨B0 + 1, 0, none⟩) g1).trans fb0
      have eh1 := (hb1.frozen (p := ⟨B0 + 1, 1, none⟩) g1).trans fb1
      have hz1 := hb1.size
      have hV2 : B0 + 2 < w1.heap.size := by omega
      clear g0 g1 g2 hz1 ca0 ca1 cb0 cb1 cr0 cr1 fr0 fr1 fa0 fa1 fb0 fb1
      go_wp2_with fail
      obtain ⟨V, hV⟩ : ∃ V, w1 = V := ⟨_, rfl⟩
      rw [hV] at ea0 ea1 eb0 eb1 er0 er1 ef0 ef1 hV2 ⊢
      have hbelV : Below w.heap.size w V := by rw [← hV]; exact bel_trans hb1 hbelW
      have hW5 := hV2
      have da0 := ea0; have da1 := ea1; have db0 := eb0; have db1 := eb1; have dr0 := er0; have dr1 := er1; have ds0 := ef0; have ds1 := ef1
      clear hV ea0 ea1 eb0 eb1 er0 er1 ef0 ef1 eg0 eg1 eh0 eh1
      have hrx : ∀ wr, Below (B0 + 2) V wr → Rd wr (.slice ad xs.length cap) xs := fun wr hb => HR.out.keep (hbelV.trans (hb.mono hwB))
      have hry : ∀ wr, Below (B0 + 2) V wr → Rd wr (.slice ad' ys.length cap') ys := fun wr hb => HR'.out.keep (hbelV.trans (hb.mono hwB))
      have HRXV := Lib.hid hrx; clear hrx
      have HRYV := Lib.hid hry; clear hry
      clear hb1 HRX HRY
      go_region_held3 (fun w' => Below (B0 + 2) V w' ∧ B0 + 2 < w'.heap.size ∧ w'.cell? ⟨B0, 0, none⟩ = some (.bool b1) ∧ w'.cell? ⟨B0, 1, none⟩ = some (.slice ad xs.length cap) ∧ w'.cell? ⟨B0 + 1, 0, none⟩ = some (.bool b2) ∧ w'.cell? ⟨B0 + 1, 1, none⟩ = some (.slice ad' ys.length cap') ∧ (w'.cell? ⟨B0 + 1 + 1, 0, none⟩).isSome = true ∧ (w'.cell? ⟨B0 + 1 + 1, 1, none⟩).isSome = true ∧ w'.frozen? ⟨B0 + 1 + 1, 0, none⟩ = false ∧ w'.frozen? ⟨B0 + 1 + 1, 1, none⟩ = false) ((first | exact keep_start hW5 da0 da1 db0 db1 dr0 dr1 ds0 ds1 | exact keep_call (by assumption) (by assumption) | exact keep_store _ _ (keep_store _ _ (by assumption)))) ((first | (go_at_call 146; refine (bgCombine_any _ _ xs ys (-1) _ (HRXV.out _ (And.left (by assumption))) (HRYV.out _ (And.left (by assumption))) HXD.out HYD.out hl hl' (.inr ⟨rfl, HLE.out⟩)).mono ?_; rintro e w2 ⟨u1, out, rfl, hb, ho, hd, hval, hlen⟩; obtain ⟨ad1, cap1, hu1⟩ := ho.len; subst hu1) | (go_at_call 82; have htr := bgMake_any b1 (.slice ad1 out.length cap1) out w2 ho.rd ho.slok hd (by omega); rw [hval, HSGN.out] at htr; refine htr.mono ?_; rintro e w3 ⟨v3, rfl, hb3, hv3⟩; have HV3 := Lib.hid hv3; have hlt3 : w2.heap.size ≤ w3.heap.size := hb3.size; obtain ⟨x0, hx0⟩ := Option.isSome_iff_exists.1 (isSome0 hb3 (by assumption)); obtain ⟨x1, hx1⟩ := Option.isSome_iff_exists.1 (isSome1 hb3 (by assumption)); obtain ⟨ad3, cap3, hv3', _⟩ := hv3; subst hv3')))
      all_goals
        rename_i hHeld
        have hbf := hbelV.trans (hHeld.1.mono hwB)
        have hz2 := hb.size
        have hz3 : B0 + 1 + 1 < w2.heap.size := by simp at hz2; omega
        clear hHeld
        generalize decide (zy < 0) = bz at *
        generalize (digs zy.natAbs).length = lz at *
        go_wp2_with fail
        refine bodyPost_ret (by simp (maxDischargeDepth := 3) [results, Tryz.results112, go_sem, *]; try rfl) rfl ?_
        exact ⟨_, rfl, hbf, ((HV3.out.setFar hz3 _ _).setFar hz3 _ _).le (by omega)⟩
theorem keep3 {W a : World} {B0 : Nat} {u0 u1 u2 u3 : Value} (h : Below W.heap.size W a) (h2 : B0 + 2 < W.heap.size) (c0 : W.cell? ⟨B0, 0, none⟩ = some u0) (c1 : W.cell? ⟨B0, 1, none⟩ = some u1) (c2 : W.cell? ⟨B0 + 1, 0, none⟩ = some u2) (c3 : W.cell? ⟨B0 + 1, 1, none⟩ = some u3) :
    a.cell? ⟨B0, 0, none⟩ = some u0 ∧ a.cell? ⟨B0, 1, none⟩ = some u1 ∧ a.cell? ⟨B0 + 1, 0, none⟩ = some u2 ∧ a.cell? ⟨B0 + 1, 1, none⟩ = some u3 :=
  ⟨(h.cell (p := ⟨B0, 0, none⟩) (show B0 < _ by omega)).trans c0, (h.cell (p := ⟨B0, 1, none⟩) (show B0 < _ by omega)).trans c1, (h.cell (p := ⟨B0 + 1, 0, none⟩) (show B0 + 1 < _ by omega)).trans c2, (h.cell (p := ⟨B0 + 1, 1, none⟩) (show B0 + 1 < _ by omega)).trans c3⟩
set_option maxHeartbeats 4000000 in
theorem bgSub_any (v u : Value) (z y : Int) (w : World) (hv : WV w v z) (hu : WV w u y) (hl : (digs z.natAbs).length ≤ 1000) (hl' : (digs y.natAbs).length ≤ 1000) :
    Calls Tryz.prog 57 #[v, u] w (RetW (z - y) w) := by
  have hmin := fun w' (hb : Below w.heap.size w w') => bgMinus_any u y w' (hu.keep hb) (by omega)
  have hadd := fun u' w' (hb : Below w.heap.size w w') (h : WV w' u' (-y)) => bgAdd_any v u' z (-y) w' (hv.keep hb) h hl (by rw [Int.natAbs_neg]; exact hl')
  have hzy : z + -y = z - y := by omega
  rw [hzy] at hadd
  generalize z - y = zy at hadd ⊢
  obtain ⟨ad, cap, rfl, _, _⟩ := hv
  obtain ⟨ad', cap', rfl, _, _⟩ := hu
  generalize decide (z < 0) = b1 at *
  generalize decide (y < 0) = b2 at *
  generalize (digs z.natAbs).length = la at *
  generalize (digs y.natAbs).length = lb at *
  have HMIN := Lib.hid hmin; have HADD := Lib.hid hadd; clear hmin hadd hzy
  generalize hW : ((w.alloc (.cells #[.bool b1, .slice ad la cap] 26)).alloc (.cells #[.bool b2, .slice ad' lb cap'] 26)).alloc (.cells #[.bool false, .slice none 0 0] 26) = W
  obtain ⟨B0, hB0⟩ : ∃ B0, w.heap.size = B0 := ⟨_, rfl⟩
  obtain ⟨hbelW, hws, ca0, ca1, cb0, cb1, cr0, cr1, fr0, fr1⟩ : Below w.heap.size w W ∧ W.heap.size = B0 + 3 ∧ W.cell? ⟨B0, 0, none⟩ = some (.bool b1) ∧ W.cell? ⟨B0, 1, none⟩ = some (.slice ad la cap) ∧ W.cell? ⟨B0 + 1, 0, none⟩ = some (.bool b2) ∧ W.cell? ⟨B0 + 1, 1, none⟩ = some (.slice ad' lb cap') ∧
      W.cell? ⟨B0 + 1 + 1, 0, none⟩ = some (.bool false) ∧ W.cell? ⟨B0 + 1 + 1, 1, none⟩ = some (.slice none 0 0) ∧ W.frozen? ⟨B0 + 1 + 1, 0, none⟩ = false ∧ W.frozen? ⟨B0 + 1 + 1, 1, none⟩ = false := by
    subst hW; subst hB0
    exact ⟨(by repeat (first | exact Below.refl _ _ | (with_reducible assumption) | refine bel_alloc ?_ _ | refine bel_drew ?_ | refine bel_drewN ?_ _ | refine Below.setCell ?_ (by dsimp only; omega) _ | refine bel_trans (by assumption) ?_)), by simp, by simp [go_sem], by simp [go_sem], by simp [go_sem], by simp [go_sem], by simp [go_sem], by simp [go_sem], by simp [go_sem], by simp [go_sem]⟩
  have HWW := Lib.hid hW; clear hW
  have hW2 : B0 + 2 < W.heap.size := by omega
  have hwB : w.heap.size ≤ B0 + 2 := by omega
  have HWS := Lib.hid hws; clear hws
  have HBW := Lib.hid hbelW; clear hbelW
  have hm2 := fun w' (hb : Below (B0 + 2) W w') => HMIN.out w' (HBW.out.trans (hb.mono hwB))
  have hm3 := fun u' w' (hb : Below (B0 + 2) W w') => HADD.out u' w' (HBW.out.trans (hb.mono hwB))
  have HMIN2 := Lib.hid hm2; have HADD2 := Lib.hid hm3; clear hm2 hm3 HMIN HADD
  go_enter Tryz.func57, Tryz.ntmps57
  go_wp2_with fail
  rw [HWW.out]
  (try rw [hB0])
  go_region_held3 (fun w' => Below (B0 + 2) W w' ∧ B0 + 2 < w'.heap.size ∧ w'.cell? ⟨B0, 0, none⟩ = some (.bool b1) ∧ w'.cell? ⟨B0, 1, none⟩ = some (.slice ad la cap) ∧ w'.cell? ⟨B0 + 1, 0, none⟩ = some (.bool b2) ∧ w'.cell? ⟨B0 + 1, 1, none⟩ = some (.slice ad' lb cap') ∧ (w'.cell? ⟨B0 + 1 + 1, 0, none⟩).isSome = true ∧ (w'.cell? ⟨B0 + 1 + 1, 1, none⟩).isSome = true ∧ w'.frozen? ⟨B0 + 1 + 1, 0, none⟩ = false ∧ w'.frozen? ⟨B0 + 1 + 1, 1, none⟩ = false) ((first | exact keep_start hW2 ca0 ca1 cb0 cb1 cr0 cr1 fr0 fr1 | exact keep_call (by assumption) (by assumption) | exact keep_store _ _ (keep_store _ _ (by assumption)))) ((first | (go_at_call 113; refine (HMIN2.out _ (And.left (by assumption))).mono ?_; rintro e w2 ⟨u1, rfl, hb, ho⟩; have HO := Lib.hid ho.wv; obtain ⟨ad1, cap1, hu1, _⟩ := ho; generalize decide (-y < 0) = b9 at hu1; generalize (digs (-y).natAbs).length = l9 at hu1; subst hu1) | (go_at_call 112; refine (HADD2.out _ _ (And.left (by assumption)) HO.out).mono ?_; rintro e w3 ⟨v3, rfl, hb3, hv3⟩; have HV3 := Lib.hid hv3; have hlt3 : w2.heap.size ≤ w3.heap.size := hb3.size; obtain ⟨x0, hx0⟩ := Option.isSome_iff_exists.1 (isSome0 hb3 (by assumption)); obtain ⟨x1, hx1⟩ := Option.isSome_iff_exists.1 (isSome1 hb3 (by assumption)); obtain ⟨ad3, cap3, hv3', _⟩ := hv3; subst hv3')))
  all_goals
    rename_i hHeld
    have hbf := HBW.out.trans (hHeld.1.mono hwB)
    have hz2 := hb.size
    have hz3 : B0 + 1 + 1 < w2.heap.size := by simp at hz2; omega
    clear hHeld
    generalize decide (zy < 0) = bz at *
    generalize (digs zy.natAbs).length = lz at *
    go_wp2_with fail
    refine bodyPost_ret (by simp (maxDischargeDepth := 3) [results, Tryz.results57, go_sem, *]; try rfl) rfl ?_
    exact ⟨_, rfl, hbf, ((HV3.out.setFar hz3 _ _).setFar hz3 _ _).le (by omega)⟩
end Go.Proofs.YtakilincclnpdaaGreatDoor
