/- Dyi: contracts: DrawIsPointOf and the draws that call it. No conditions. -/
import Derived.Test.YtnhlcgbknkdbiaaDy
import Derived.Test.YtnhlcgbknkdbiaaDPkb
/- Dyo: contract: pointOn: whatever the bytes are, a point comes out. No conditions. -/


namespace Go.Proofs.Ytnhlcgbknkdbiaa
open Go.RowKit

def PtO (v : Value) : Prop := ∃ x y e : Int, v = .agg #[.int .i64 x, .int .i64 y, .int .i64 e]
theorem on_one {a b n y : Int} (n0 : -10000 ≤ n) (n1 : n ≤ 10000) (h : y * y = valI a b n 1) : onB a b n y 1 = true := by
  refine onB_true.2 (.inr ⟨n0, n1, by omega, by omega, ?_, h⟩)
  unfold gcdI
  rw [Int.gcd_one_right]
  rfl
/-- the points at a whole number, as they lie in the slice. -/
theorem atx_rows {a b n : Int} {l : List Int} {w : World} {v : Value} {N : Nat} (hal : AtX a b n 1 l) (h : RdPN N w v l) (n0 : -10000 ≤ n) (n1 : n ≤ 10000) :
    ∃ ad m c, v = .slice ad m c ∧ m ≤ 2 ∧ (0 < m → ∃ g off, ad = some ⟨g, off, none⟩ ∧ g < N ∧ ∀ i, i < m → ∃ y, onB a b n y 1 = true ∧ w.cell? ⟨g, off + i * 3, none⟩ = some (.int .i64 n) ∧ w.cell? ⟨g, off + i * 3 + 1, none⟩ = some (.int .i64 y) ∧ w.cell? ⟨g, off + i * 3 + 2, none⟩ = some (.int .i64 1)) := by
  obtain ⟨_, ad, m, c, rfl, hl, _, hc⟩ := h
  refine ⟨ad, m, c, rfl, ?_, fun hm => ?_⟩
  · cases hal <;> simp at hl <;> omega
  · obtain ⟨g, off, rfl, hg, hcell⟩ := hc hm
    refine ⟨g, off, rfl, hg, fun i hi => ?_⟩
    cases hal with
    | neg _ => simp at hl; omega
    | no _ _ _ _ _ _ => simp at hl; omega
    | zero h0 =>
      have hi0 : i = 0 := by simp at hl; omega
      subst hi0
      exact ⟨0, on_one n0 n1 (by rw [h0]; rfl), hcell 0 (by simp), hcell 1 (by simp), hcell 2 (by simp)⟩
    | two k k0 h0 =>
      rcases (by simp at hl; omega : i = 0 ∨ i = 1) with rfl | rfl
      · exact ⟨-k, on_one n0 n1 (by rw [Int.neg_mul_neg]; exact h0), hcell 0 (by simp), hcell 1 (by simp), hcell 2 (by simp)⟩
      · exact ⟨k, on_one n0 n1 h0, hcell 3 (by simp), hcell 4 (by simp), hcell 5 (by simp)⟩
theorem st3 {w X : World} {B N : Nat} {lim : Int} {p q r : Int} (hc : Cr X B lim) (hg : w.grownBy X (some B)) (hp : BoxP B X N p q r) (h2 : w.heap.size ≤ N) (x y e : Int) :
    w.grownBy (((X.setCell ⟨N, 0, none⟩ (.int .i64 x)).setCell ⟨N, 1, none⟩ (.int .i64 y)).setCell ⟨N, 2, none⟩ (.int .i64 e)) (some B) ∧ Cr (((X.setCell ⟨N, 0, none⟩ (.int .i64 x)).setCell ⟨N, 1, none⟩ (.int .i64 y)).setCell ⟨N, 2, none⟩ (.int .i64 e)) B lim :=
  ⟨set_grown (set_grown (set_grown hg h2 _) h2 _) h2 _, cr_putb (cr_putb (cr_putb hc hp.2.1 hp.2.2.1 _) hp.2.1 (hp.put0 x).2.2.2.1 _) hp.2.1 ((hp.put0 x).put1 y).2.2.2.2.1 _⟩
set_option maxHeartbeats 8000000 in
set_option maxRecDepth 100000 in
theorem pointOn_any (B : Nat) (lim : Int) (a b : Int) (w : World) (h : Cr w B lim) (hl : lim ≤ 100000000000000) :
    Calls Try.prog 58 #[.pointer (some ⟨B, 0, none⟩), .agg #[.int .i64 a, .int .i64 b]] w (RetC PtO B (lim + 20000) w) := by
  have hB := h.lt
  have hb0 : Below w.heap.size w ((w.alloc (.cells #[.int .i64 a, .int .i64 b] 39)).alloc (.cells #[.int .i64 0, .int .i64 0, .int .i64 0] 41)) := bel_alloc (below_allocD _ _) _
  have HC := Lib.hid (h.keep' hb0)
  have HG := Lib.hid (below_grown B hb0)
  have HE := Lib.hid ((BoxC.new a b 39 hB).keep (below_grown B (below_allocD _ (.cells #[.int .i64 0, .int .i64 0, .int .i64 0] 41))))
  have hz : (w.alloc (.cells #[.int .i64 a, .int .i64 b] 39)).heap.size = w.heap.size + 1 := by simp
  have HP := Lib.hid (BoxP.new (B := B) (w := w.alloc (.cells #[.int .i64 a, .int .i64 b] 39)) 0 0 0 41 (by omega))
  clear h hb0
  go_enter Try.func58, Try.ntmps58
  go_wp2_with fail
  rw [hz] at HP
  clear hz
  generalize (w.alloc (.cells #[.int .i64 a, .int .i64 b] 39)).alloc (.cells #[.int .i64 0, .int .i64 0, .int .i64 0] 41) = W at *
  obtain ⟨N, hN⟩ : ∃ N, w.heap.size + 1 = N := ⟨_, rfl⟩
  have HNW := Lib.hid (show w.heap.size ≤ N by omega)
  have HNE := Lib.hid (show N ≠ w.heap.size by omega)
  rw [hN] at HP ⊢
  clear hN
  refine (one_any B _ 8 _ HC.out (by omega) (by omega) (by omega)).mono ?_; rintro e' w1 ⟨v, rfl, ⟨bo, rfl⟩, hg, hc⟩
  have HC1 := Lib.hid hc; have HG1 := Lib.hid (grown_trans HG.out hg); have HE1 := Lib.hid (HE.out.keep hg); have HP1 := Lib.hid (HP.out.keep hg)
  clear hg hc HC HG HE HP
  obtain ⟨r1, r2, r3, r4, r5, r6⟩ := HE1.out
  obtain ⟨t1, t2, t3, t4, t5, t6, t7, t8⟩ := HP1.out
  cases bo
  · go_wp2_with fail
    refine (ecGood_any _ _ _).mono ?_; rintro e' w2 ⟨rfl, hb⟩
    have HC2 := Lib.hid (HC1.out.keep' hb); have HG2 := Lib.hid (grown_trans HG1.out (below_grown B hb)); have HE2 := Lib.hid (HE1.out.keep (below_grown B hb)); have HP2 := Lib.hid (HP1.out.keep (below_grown B hb))
    clear hb HC1 HG1 HE1 HP1 r1 r2 r3 r4 r5 r6 t1 t2 t3 t4 t5 t6 t7 t8
    cases hcur : curveB a b
    · obtain ⟨t1, t2, t3, t4, t5, t6, t7, t8⟩ := HP2.out
      have HS := Lib.hid (st3 HC2.out HG2.out HP2.out HNW.out 0 0 0)
      go_wp2_with fail
      refine bodyPost_ret (by simp (maxDischargeDepth := 3) [results, Try.results58, go_sem, *]; try rfl) rfl ?_
      exact ⟨_, rfl, ⟨_, _, _, rfl⟩, HS.out.1, HS.out.2.le (by omega)⟩
    · obtain ⟨k1, k2, k3, k4, -⟩ := curveB_true.1 hcur
      go_wp2_with fail
      refine (pick_any B _ 60 _ HC2.out (by omega) (by omega) (by omega)).mono ?_; rintro e' w3 ⟨v, rfl, ⟨f, rfl, f0, f1⟩, hg, hc⟩
      have HC3 := Lib.hid hc; have HG3 := Lib.hid (grown_trans HG2.out hg); have HE3 := Lib.hid (HE2.out.keep hg); have HP3 := Lib.hid (HP2.out.keep hg)
      clear hg hc HC2 HG2 HE2 HP2
      obtain ⟨F, hF⟩ : ∃ F, f - 30 = F := ⟨_, rfl⟩
      have F1 : -30 ≤ F := by omega
      have F2 : F ≤ 29 := by omega
      have hwF : IntKind.i64.wrap (f - 30) = F := by rw [hF]; exact wrapkb (by omega) (by omega)
      clear hF
      go_wp2_with fail
      go_loopw [6] (fun z wr => ∃ k : Nat, z = .int .i64 k ∧ k ≤ 60 ∧ Hid (Cr wr B (lim + 10)) ∧ Hid (w.grownBy wr (some B)) ∧ Hid (BoxC B wr w.heap.size a b) ∧ Hid (BoxP B wr N 0 0 0)) (fun z _ => 60 - (intOf z).toNat)
      case atStart => exact ⟨0, rfl, by omega, HC3.out.le (by omega), HG3.out, HE3.out, HP3.out⟩
      case round =>
        obtain ⟨k, rfl, hk, HCr, HGr, HEr, HPr⟩ := hrel
        clear HC3 HG3 HE3 HP3
        by_cases hk6 : k < 60
        · obtain ⟨r1, r2, r3, r4, r5, r6⟩ := HEr.out
          have hwk : IntKind.i64.wrap (F + (k : Int)) = F + (k : Int) := wrapkb (by omega) (by omega)
          have hki : (k : Int) < 60 := by omega
          go_wp2_with fail
          obtain ⟨l, hal⟩ := atX_ex a b (F + (k : Int)) 1
          refine (ptAtX_any hal _ k1 k2 k3 k4 (by omega) (by omega) (by omega) (by omega)).mono ?_
          rintro e' w4 ⟨v, rfl, hb, ho⟩
          have hrd := ho.rd
          obtain ⟨ad, m, c, rfl, hm2, hrows⟩ := atx_rows hal hrd (by omega) (by omega)
          have HCa := Lib.hid (HCr.out.keep' hb); have HGa := Lib.hid (grown_trans HGr.out (below_grown B hb)); have HEa := Lib.hid (HEr.out.keep (below_grown B hb)); have HPa := Lib.hid (HPr.out.keep (below_grown B hb))
          have HRW := Lib.hid hrows
          have hBw := HCr.out.lt
          have hgw : ∀ g off, ad = some ⟨g, off, none⟩ → 0 < m → wr.heap.size ≤ g := fun g off e h => by
            subst e
            exact ho.lt (k := g) rfl
          have HGW := Lib.hid hgw
          clear hb ho hrd hal hrows hgw r1 r2 r3 r4 r5 r6 HCr HGr HEr HPr
          by_cases hm : 0 < m
          · obtain ⟨g, off, rfl, hg4, hcell⟩ := HRW.out hm
            have hgl := HGW.out g off rfl hm
            have HCL := Lib.hid hcell; clear hcell HRW HGW
            have hmI : (0 : Int) < (m : Int) := by omega
            go_wp2_with fail
            refine (pick_any B _ (m : Int) _ HCa.out (by omega) (by omega) (by omega)).mono ?_; rintro e' w5 ⟨v, rfl, ⟨i', rfl, i0, i1⟩, hg, hc⟩
            have hgB : g ≠ B := by omega
            obtain ⟨q, rfl⟩ : ∃ q : Nat, i' = q := ⟨i'.toNat, by omega⟩
            obtain ⟨y, hon, e0, e1, e2⟩ := HCL.out q (by omega)
            have g0 := (grown_cell hg (o := off + q * 3) hg4 hgB).trans e0
            have g1 := (grown_cell hg (o := off + q * 3 + 1) hg4 hgB).trans e1
            have g2 := (grown_cell hg (o := off + q * 3 + 2) hg4 hgB).trans e2
            have HCb := Lib.hid hc; have HGb := Lib.hid (grown_trans HGa.out hg); have HEb := Lib.hid (HEa.out.keep hg); have HPb := Lib.hid (HPa.out.keep hg)
            have HPT := Lib.hid (And.intro hcur hon)
            clear hg hc HCa HGa HEa HPa HCL e0 e1 e2 hon
            have hqm : (q : Int) < (m : Int) := by omega
            go_wp2_with fail
            have hb8 : Below w5.heap.size w5 (w5.alloc (.cells #[.int .i64 (F + (k : Int)), .int .i64 y, .int .i64 1] 41)) := below_allocD _ _
            have hbx8 := BoxP.new (B := B) (F + (k : Int)) y 1 41 HCb.out.lt
            have hn8 := HPb.out.1
            generalize w5.alloc (.cells #[.int .i64 (F + (k : Int)), .int .i64 y, .int .i64 1] 41) = W0 at hb8 hbx8 ⊢
            generalize w5.heap.size = n8 at hbx8 hn8 ⊢
            have HC0 := Lib.hid (HCb.out.keep' hb8); have HG0 := Lib.hid (grown_trans HGb.out (below_grown B hb8)); have hE0 := Lib.hid (HEb.out.keep (below_grown B hb8)); have HP0 := Lib.hid (HPb.out.keep (below_grown B hb8))
            obtain ⟨x, e, hQ0, HPT⟩ : ∃ x e, Hid (BoxP B W0 n8 x y e) ∧ Hid (curveB a b = true ∧ onB a b x y e = true) := ⟨_, _, hbx8, HPT.out⟩
            clear hb8 hbx8 HCb HGb HEb HPb g0 g1 g2
            obtain ⟨M, hM⟩ : ∃ M, M = W0.heap.size := ⟨_, rfl⟩
            obtain ⟨lim0, hl0⟩ : ∃ lim0, lim0 = lim + 60 := ⟨_, rfl⟩
            have HMW := Lib.hid (show M ≤ W0.heap.size ∧ W0.heap.size ≤ M by omega)
            have hlm : lim0 ≤ 200000000000000 := by omega
            refine wp_region_steps [42, 43, 44, 45, 46, 47, 41, 48, 49, 9, 10] (RP B M (fun p q r => onB a b p q r = true)) (look [(42, VC a b), (43, VV (.agg #[.int .i64 x, .int .i64 y, .int .i64 e])), (44, VB B), (45, VI 0 3), (46, VI 1 4), (47, VTp (fun p q r => onB a b p q r = true)), (41, VTp (fun p q r => onB a b p q r = true)), (48, VPe (fun p q r => onB a b p q r = true)), (49, VBo), (9, VFp B M (fun p q r => onB a b p q r = true)), (10, VBo)]) (SGp W0 B lim0) (by kernel_rfl) (by kernel_rfl) (by decide) (look_keep ?_) ?_ ?_
            · intro q hq v x y hv hr
              simp only [List.mem_cons, List.not_mem_nil, or_false] at hq
              rcases hq with rfl | rfl | rfl | rfl | rfl | rfl | rfl | rfl | rfl | rfl | rfl
              all_goals first | exact hv | exact VFp.keep hv hr
            · exact ⟨(show Cr W0.drew B lim0 from HC0.out.le (by omega)).le (by omega), below_grown B (bel_drew (Below.refl _ _))⟩
            refine Steps.cons ?_ ?_
            · refine TStep.of ?_ ?_ ?_
              · rfl
              · simp
              intro k g X hk9 hS hd
              refine ⟨_, X, wp_ldCb (hE0.out.keep hS.2) (by rw [eval_out (by decide)]; rfl), fun d e => ?_, hS.same, RP.refl _ _ _ _⟩
              cases e; exact rfl
            refine Steps.cons ?_ ?_
            · refine TStep.of ?_ ?_ ?_
              · rfl
              · simp
              intro k g X hk9 hS hd
              refine ⟨_, X, wp_ldP (hQ0.out.keep hS.2) (by rw [eval_out (by decide)]; rfl), fun d e => ?_, hS.same, RP.refl _ _ _ _⟩
              cases e; exact rfl
            refine Steps.cons ?_ ?_
            · refine TStep.move 0 ?_ ?_ ?_ ?_ ?_ ?_
              · exact .inl rfl
              · rfl
              · simp
              · exact fun _ _ h => h.same
              · exact fun X => RP.refl _ _ _ X
              intro g X hd d e; cases e; rw [eval_out (by decide)]; exact rfl
            refine Steps.cons ?_ ?_
            · refine TStep.call ?_ ?_ ?_
              · rfl
              · simp
              intro k g X hk9 hS hd
              refine ⟨_, _, wp_call_ofb (run_callPickb _ (by rfl) (by rfl)), ?_⟩
              have e1 : g 44 = .pointer (some ⟨B, 0, none⟩) := hd 44 (mem_b (by kernel_rfl))
              rw [eval_in (i := 44) (by decide) (by simp), e1]
              refine (pick_any B _ 4 _ hS.1 (by have h9 : k < 12 := hk9; omega) (by omega) (by omega)).mono ?_
              rintro e' X' ⟨v', rfl, ⟨z, rfl, z0, z1⟩, hg', hc'⟩
              refine ⟨_, rfl, fun d e => ?_, hS.step hg' (hc'.le (by omega)), RP.grown hg'⟩
              cases e; exact ⟨z, rfl, z0, by omega⟩
            refine Steps.cons ?_ ?_
            · refine TStep.of ?_ ?_ ?_
              · rfl
              · simp
              intro k g X hk9 hS hd
              obtain ⟨z, e1, z0, z1⟩ : VI _ _ (g 45) X := hd 45 (mem_b (by kernel_rfl))
              refine ⟨_, X, wp_value_ofb (run_addL (n := z) (c := 1) _ (by rw [eval_in (by decide) (by simp)]; exact e1) (by rfl)), fun d e => ?_, hS.same, RP.refl _ _ _ _⟩
              cases e
              exact ⟨_, rfl, by rw [wrapkb (by omega) (by omega)]; omega, by rw [wrapkb (by omega) (by omega)]; omega⟩
            refine Steps.cons ?_ ?_
            · refine TStep.call ?_ ?_ ?_
              · rfl
              · simp
              intro k g X hk9 hS hd
              refine ⟨_, _, wp_call_ofb (run_callTim _ (by rfl)), ?_⟩
              have e1 : g 42 = .agg #[.int .i64 a, .int .i64 b] := hd 42 (mem_b (by kernel_rfl))
              have e2 : g 43 = .agg #[.int .i64 x, .int .i64 y, .int .i64 e] := hd 43 (mem_b (by kernel_rfl))
              obtain ⟨z, e3, z0, z1⟩ : VI _ _ (g 46) X := hd 46 (mem_b (by kernel_rfl))
              rw [eval_in (i := 42) (by decide) (by simp), eval_in (i := 43) (by decide) (by simp), eval_in (i := 46) (by decide) (by simp), e1, e2, e3]
              refine (ptTimes_any a b x y e z X HPT.out.1 HPT.out.2 (by omega) (by omega)).mono ?_
              rintro e' X' ⟨rfl, hb'⟩
              refine ⟨_, rfl, fun d e => ?_, hS.step (below_grown B hb') ((hS.1.keep' hb').le (by omega)), RP.grown (below_grown B hb')⟩
              cases e; exact tim_tp HPT.out.2 X'
            refine Steps.cons ?_ ?_
            · refine TStep.move 47 ?_ ?_ ?_ ?_ ?_ ?_
              · exact .inl rfl
              · rfl
              · simp
              · exact fun _ _ h => h.same
              · exact fun X => RP.refl _ _ _ X
              intro g X hd d e; cases e; rw [eval_in (by decide) (by simp)]; exact hd 47 (mem_b (by kernel_rfl))
            refine Steps.cons ?_ ?_
            · refine TStep.of ?_ ?_ ?_
              · rfl
              · simp
              intro k g X hk9 hS hd
              obtain ⟨p', q', r', o', e1, hz⟩ : VTp _ (g 41) X := hd 41 (mem_b (by kernel_rfl))
              refine ⟨_, X, wp_value_ofb (run_ext _ (by rw [eval_in (by decide) (by simp)]; exact e1) (by simp)), fun d e => ?_, hS.same, RP.refl _ _ _ _⟩
              cases e; exact ⟨p', q', r', rfl, hz⟩
            refine Steps.cons ?_ ?_
            · refine TStep.of ?_ ?_ ?_
              · rfl
              · simp
              intro k g X hk9 hS hd
              obtain ⟨p', q', r', o', e1, hz⟩ : VTp _ (g 41) X := hd 41 (mem_b (by kernel_rfl))
              refine ⟨_, X, wp_value_ofb (run_ext _ (by rw [eval_in (by decide) (by simp)]; exact e1) (by simp)), fun d e => ?_, hS.same, RP.refl _ _ _ _⟩
              cases e; exact ⟨o', rfl⟩
            refine Steps.cons ?_ ?_
            · refine TStep.of ?_ ?_ ?_
              · rfl
              · simp
              intro k g X hk9 hS hd
              have hb' : Below X.heap.size X (X.alloc (.cells #[.int .i64 0, .int .i64 0, .int .i64 0] 41)) := below_allocD _ _
              have hM' : M ≤ X.heap.size := Nat.le_trans HMW.out.1 hS.2.size
              have hl' := hS.1.lt
              refine ⟨_, _, wp_value_ofb (run_allocP _), fun d e => ?_, hS.step (below_grown B hb') ((hS.1.keep' hb').le (by omega)), RP.grown (below_grown B hb')⟩
              cases e; exact ⟨_, rfl, hM', 0, 0, 0, BoxP.new 0 0 0 _ hl', on_zero a b⟩
            refine Steps.cons ?_ ?_
            · refine TStep.of ?_ ?_ ?_
              · rfl
              · simp
              intro k g X hk9 hS hd
              obtain ⟨m, e1, hm, p', q', r', hbx, hz⟩ : VFp B M _ (g 9) X := hd 9 (mem_b (by kernel_rfl))
              obtain ⟨p2, q2, r2, e2, hz2⟩ : VPe _ (g 48) X := hd 48 (mem_b (by kernel_rfl))
              refine ⟨undef, _, wp_stP (a := p2) (b := q2) (c := r2) hbx (by rw [eval_in (by decide) (by simp)]; exact e1) (by rw [eval_in (by decide) (by simp)]; exact e2), (by simp), ?_, RP.put hbx p2 q2 r2 hz2⟩
              have hWm := Nat.le_trans HMW.out.2 hm
              exact ⟨(cr_putb (cr_putb (cr_putb hS.1 hbx.2.1 hbx.2.2.1 _) hbx.2.1 (hbx.put0 p2).2.2.2.1 _) hbx.2.1 ((hbx.put0 p2).put1 q2).2.2.2.2.1 _).le (by push_cast; omega), set_grown (set_grown (set_grown hS.2 hWm _) hWm _) hWm _⟩
            refine Steps.one ?_
            refine LStep.move 49 ?_ ?_ ?_
            · exact .inr rfl
            · rfl
            intro g X hS hd
            obtain ⟨m, e6, hm, p', q', r', hbx, hz⟩ : VFp B M _ (g 9) X := hd 9 (mem_b (by kernel_rfl))
            obtain ⟨o', e7⟩ : VBo (g 49) X := hd 49 (mem_b (by kernel_rfl))
            rw [eval_in (by decide) (by simp)]
            simp only [fill, Act.put, List.setIfInBounds_toArray, List.set_cons_zero, List.set_cons_succ]
            rw [e6, e7]
            clear hd e6 e7
            obtain ⟨s1, s2⟩ := hS
            have HS1 := Lib.hid (And.intro (s1.le (lim' := lim + 4000) (by simp; omega)) (grown_trans HG0.out s2)); have HP4 := Lib.hid (HP0.out.keep s2); have HQ4 := Lib.hid (hQ0.out.keep s2); have HF4 := Lib.hid hbx
            clear s1 s2 hbx HC0 HG0 hE0 HP0 hQ0 HMW
            obtain ⟨t1, t2, t3, t4, t5, t6, t7, t8⟩ := HP4.out
            cases o'
            · obtain ⟨q1, q2, q3, q4, q5, q6, q7, q8⟩ := HQ4.out
              have HS := Lib.hid (st3 HS1.out.1 HS1.out.2 HP4.out HNW.out x y e)
              go_wp2_with fail
              refine bodyPost_ret (by simp (maxDischargeDepth := 3) [results, Try.results58, go_sem, *]; try rfl) rfl ?_
              exact ⟨_, rfl, ⟨_, _, _, rfl⟩, HS.out.1, HS.out.2.le (by omega)⟩
            · obtain ⟨q1, q2, q3, q4, q5, q6, q7, q8⟩ := HF4.out
              have HS := Lib.hid (st3 HS1.out.1 HS1.out.2 HP4.out HNW.out p' q' r')
              go_wp2_with fail
              refine bodyPost_ret (by simp (maxDischargeDepth := 3) [results, Try.results58, go_sem, *]; try rfl) rfl ?_
              exact ⟨_, rfl, ⟨_, _, _, rfl⟩, HS.out.1, HS.out.2.le (by omega)⟩
          · have hm0 : m = 0 := by omega
            subst hm0
            clear HRW HGW
            go_wp2_with fail
            go_roundw
            case rel => exact ⟨k + 1, by first | rfl | go_num, by omega, HCa, HGa, HEa, HPa⟩
            case measure => simp [intOf]; omega
        · have hk60 : k = 60 := by omega
          subst hk60
          obtain ⟨t1, t2, t3, t4, t5, t6, t7, t8⟩ := HPr.out
          have HS := Lib.hid (st3 HCr.out HGr.out HPr.out HNW.out 0 0 0)
          go_wp2_with fail
          refine bodyPost_ret (by simp (maxDischargeDepth := 3) [results, Try.results58, go_sem, *]; try rfl) rfl ?_
          exact ⟨_, rfl, ⟨_, _, _, rfl⟩, HS.out.1, HS.out.2.le (by omega)⟩
  · have HS := Lib.hid (st3 HC1.out HG1.out HP1.out HNW.out 0 0 0)
    go_wp2_with fail
    refine bodyPost_ret (by simp (maxDischargeDepth := 3) [results, Try.results58, go_sem, *]; try rfl) rfl ?_
    exact ⟨_, rfl, ⟨_, _, _, rfl⟩, HS.out.1, HS.out.2.le (by omega)⟩
end Go.Proofs.Ytnhlcgbknkdbiaa
namespace Go.Proofs.Ytnhlcgbknkdbiaa
open Go.RowKit

def RetPt (w : World) (e : Ending) (w' : World) : Prop := ∃ a b x y e0 : Int, e = .returned (.tuple #[.agg #[.int .i64 a, .int .i64 b], .agg #[.int .i64 x, .int .i64 y, .int .i64 e0]]) ∧ Below w.heap.size w w'
theorem grown_bel {w X : World} {B : Nat} (g : w.grownBy X (some B)) (hB : w.heap.size ≤ B) : Below w.heap.size w X :=
  ⟨g.os, g.tape, g.output, g.size, fun i hi => g.block i hi (by intro e; cases e; omega)⟩
theorem s18_two {w X : World} {B R N n : Nat} {lim : Int} {a0 b0 x0 y0 e0 : Int} (hc : Cr X B lim) (hg : w.grownBy X (some B)) (hr : BoxC B X R a0 b0) (hp : BoxP B X N x0 y0 e0) (hn : n = X.heap.size) (a b x y e : Int) :
    S18 w B R N n (n + 1) lim ((X.alloc (.cells #[.int .i64 a, .int .i64 b] 39)).alloc (.cells #[.int .i64 x, .int .i64 y, .int .i64 e] 41)) := by
  subst hn
  have hb2 : Below X.heap.size X ((X.alloc (.cells #[.int .i64 a, .int .i64 b] 39)).alloc (.cells #[.int .i64 x, .int .i64 y, .int .i64 e] 41)) := bel_alloc (below_allocD _ _) _
  have hx := (BoxC.new (B := B) a b 39 hc.lt).keep (below_grown B (below_allocD _ (.cells #[.int .i64 x, .int .i64 y, .int .i64 e] 41)))
  have hy : BoxP B ((X.alloc (.cells #[.int .i64 a, .int .i64 b] 39)).alloc (.cells #[.int .i64 x, .int .i64 y, .int .i64 e] 41)) (X.heap.size + 1) x y e := by
    have := BoxP.new (B := B) (w := X.alloc (.cells #[.int .i64 a, .int .i64 b] 39)) x y e 41 (by have := hc.lt; simp; omega)
    rwa [show (X.alloc (.cells #[.int .i64 a, .int .i64 b] 39)).heap.size = X.heap.size + 1 by simp] at this
  exact ⟨hc.keep' hb2, grown_belowD hg hb2, ⟨_, _, hr.keep (below_grown B hb2)⟩, ⟨_, _, _, hp.keep (below_grown B hb2)⟩, ⟨_, _, hx⟩, ⟨_, _, _, hy⟩⟩
set_option maxHeartbeats 4000000 in
set_option maxRecDepth 100000 in
theorem drawIsPointOf_any (ad : Option Addr) (len cap : Nat) (zs : List Int) (w : World) (h : IsRow .u8 w ad len cap zs) (hl : len ≤ 1048576) :
    Calls Try.prog 63 #[.slice ad len cap] w (RetPt w) := by
  have h0 : Below w.heap.size w ((w.alloc (.cells #[.int .i64 0, .int .i64 0] 39)).alloc (.cells #[.int .i64 0, .int .i64 0, .int .i64 0] 41)) := bel_alloc (below_allocD _ _) _
  have hc0 := cr_startb h (by omega) h0 61
  have hz0 : ((w.alloc (.cells #[.int .i64 0, .int .i64 0] 39)).alloc (.cells #[.int .i64 0, .int .i64 0, .int .i64 0] 41)).heap.size = w.heap.size + 1 + 1 := by simp
  have hr0 : BoxC (w.heap.size + 1 + 1) (((w.alloc (.cells #[.int .i64 0, .int .i64 0] 39)).alloc (.cells #[.int .i64 0, .int .i64 0, .int .i64 0] 41)).alloc (.cells #[.slice ad len cap, .int .i64 0, .int .u64 0] 61)) w.heap.size 0 0 :=
    ⟨by simp <;> omega, by omega, by simp [go_sem], by simp [go_sem], by simp [go_sem], by simp [go_sem]⟩
  have hr1 : BoxP (w.heap.size + 1 + 1) (((w.alloc (.cells #[.int .i64 0, .int .i64 0] 39)).alloc (.cells #[.int .i64 0, .int .i64 0, .int .i64 0] 41)).alloc (.cells #[.slice ad len cap, .int .i64 0, .int .u64 0] 61)) (w.heap.size + 1) 0 0 0 :=
    ⟨by simp <;> omega, by omega, by simp [go_sem], by simp [go_sem], by simp [go_sem], by simp [go_sem], by simp [go_sem], by simp [go_sem]⟩
  have hl1 : Below w.heap.size w (((w.alloc (.cells #[.int .i64 0, .int .i64 0] 39)).alloc (.cells #[.int .i64 0, .int .i64 0, .int .i64 0] 41)).alloc (.cells #[.slice ad len cap, .int .i64 0, .int .u64 0] 61)) := bel_alloc h0 _
  have HC0 := Lib.hid hc0; have HL0 := Lib.hid hl1; have HR0 := Lib.hid hr0; have HS0 := Lib.hid hr1; have HZ0 := Lib.hid hz0; clear hc0 h0 hr0 hr1 hl1 hz0 h
  go_enter Try.func63, Try.ntmps63
  go_wp2_with fail
  have hc0 := HC0.out; have hr0 := HR0.out; have hs0 := HS0.out; have hl0 := HL0.out
  rw [HZ0.out] at hc0
  clear HC0 HR0 HS0 HL0 HZ0
  generalize ((w.alloc (.cells #[.int .i64 0, .int .i64 0] 39)).alloc (.cells #[.int .i64 0, .int .i64 0, .int .i64 0] 41)).alloc (.cells #[.slice ad len cap, .int .i64 0, .int .u64 0] 61) = V at hc0 hr0 hs0 hl0 ⊢
  obtain ⟨N, hN⟩ : ∃ N, N = w.heap.size + 1 := ⟨_, rfl⟩
  obtain ⟨B, hB⟩ : ∃ B, B = w.heap.size + 1 + 1 := ⟨_, rfl⟩
  rw [← hB] at hc0 hr0 hs0 ⊢
  rw [← hN] at hs0 ⊢
  have HN := Lib.hid (And.intro hN hB); clear hN hB
  have hg0 := below_grown B hl0
  refine (anyPoint_any B _ _ hc0 (by omega)).mono ?_; rintro e w1 ⟨v, rfl, ⟨a, b, x, y, e0, rfl⟩, hg1, hc1⟩
  have hg2 := grown_trans hg0 hg1; have hr2 := hr0.keep hg1; have hs2 := hs0.keep hg1
  clear hg1 hg0 hr0 hs0 hl0 hc0
  have HK := Lib.hid (And.intro hc1 (And.intro hg2 (And.intro hr2 hs2))); clear hc1 hg2 hr2 hs2
  go_wp2_with fail
  have hy := s18_two (n := w1.heap.size) HK.out.1 HK.out.2.1 HK.out.2.2.1 HK.out.2.2.2 rfl a b x y e0
  have hn1 := HK.out.2.2.1.1; have hn2 := HK.out.2.2.2.1
  generalize (w1.alloc (.cells #[.int .i64 a, .int .i64 b] 39)).alloc (.cells #[.int .i64 x, .int .i64 y, .int .i64 e0] 41) = Y at hy ⊢
  generalize w1.heap.size = n at hy hn1 hn2 ⊢
  have HNE := Lib.hid (show N ≠ w.heap.size ∧ n ≠ w.heap.size ∧ n + 1 ≠ w.heap.size by have := HN.out; omega)
  have HNWL := Lib.hid (show w.heap.size ≤ N by have := HN.out; omega)
  obtain ⟨lim, hlim⟩ : ∃ lim : Int, lim = 20000 := ⟨_, rfl⟩
  have HY := Lib.hid (hy.le (lim' := lim + 10000) (by omega))
  clear hy HK hn1 hn2 hlim
  refine wp_region_steps [15, 16] RT (look [(15, VCe), (16, VPe (fun _ _ _ => True))]) (fun _ X => S18 w B w.heap.size N n (n + 1) (lim + 10000) X) (by kernel_rfl) (by kernel_rfl) (by decide) (look_keep ?_) ?_ ?_
  · intro q hq v x y hv hr
    simp only [List.mem_cons, List.not_mem_nil, or_false] at hq
    rcases hq with rfl | rfl
    all_goals exact hv
  · exact HY.out.drew
  refine Steps.cons ?_ ?_
  · refine TStep.of ?_ ?_ ?_
    · rfl
    · simp
    intro k g X hk9 hS hd
    obtain ⟨c1, d1, hb⟩ := hS.e
    refine ⟨_, X, wp_ldCb hb (by rw [eval_out (by decide)]; rfl), fun d e => ?_, hS, trivial⟩
    cases e; exact ⟨_, _, rfl⟩
  refine Steps.cons ?_ ?_
  · refine TStep.of ?_ ?_ ?_
    · rfl
    · simp
    intro k g X hk9 hS hd
    obtain ⟨c1, d1, f1, hb⟩ := hS.q
    refine ⟨_, X, wp_ldP hb (by rw [eval_out (by decide)]; rfl), fun d e => ?_, hS, trivial⟩
    cases e; exact ⟨_, _, _, rfl, trivial⟩
  refine Steps.cons ?_ ?_
  · refine TStep.of ?_ ?_ ?_
    · rfl
    · simp
    intro k g X hk9 hS hd
    obtain ⟨c1, d1, e1⟩ : VCe (g 15) X := hd 15 (mem_b (by kernel_rfl))
    obtain ⟨c2, d2, hb⟩ := hS.r
    refine ⟨undef, _, wp_stCb hb (by rw [eval_out (by decide)]; rfl) (by rw [eval_in (by decide) (by simp)]; exact e1), (by simp), hS.putR (Nat.le_refl _) HNE.out.1 HNE.out.2.1 HNE.out.2.2 c1 d1, trivial⟩
  refine Steps.one ?_
  refine LStep.of ?_ ?_
  · rfl
  intro g X hS hd
  obtain ⟨c1, d1, f1, e1, -⟩ : VPe _ (g 16) X := hd 16 (mem_b (by kernel_rfl))
  obtain ⟨c2, d2, f2, hb⟩ := hS.p
  obtain ⟨a2, b2, hr⟩ := hS.r
  refine ⟨undef, _, wp_stP hb (by rw [eval_out (by decide)]; rfl) (by rw [eval_in (by decide) (by simp)]; exact e1), ?_⟩
  have hp2 := hb.put c1 d1 f1
  have hr2 := (((hr.far1 (v := .int .i64 c1) (o := 0) HNE.out.1.symm).far1 (v := .int .i64 d1) (o := 1) HNE.out.1.symm).far1 (v := .int .i64 f1) (o := 2) HNE.out.1.symm)
  have hc2 := cr_putb (cr_putb (cr_putb hS.cr hb.2.1 hb.2.2.1 (.int .i64 c1)) hb.2.1 (hb.put0 c1).2.2.2.1 (.int .i64 d1)) hb.2.1 ((hb.put0 c1).put1 d1).2.2.2.2.1 (.int .i64 f1)
  have hg2 := set_grown (o := 2) (set_grown (o := 1) (set_grown (o := 0) hS.gr HNWL.out (.int .i64 c1)) HNWL.out (.int .i64 d1)) HNWL.out (.int .i64 f1)
  generalize ((X.setCell ⟨N, 0, none⟩ (.int .i64 c1)).setCell ⟨N, 1, none⟩ (.int .i64 d1)).setCell ⟨N, 2, none⟩ (.int .i64 f1) = Y2 at hp2 hr2 hc2 hg2 ⊢
  obtain ⟨s1, s2, s3, s4, s5, s6⟩ := hr2
  obtain ⟨t1, t2, t3, t4, t5, t6, t7, t8⟩ := hp2
  have HC2 := Lib.hid hc2; have HG2 := Lib.hid hg2; clear hc2 hg2 hr hb hS hd e1 HNE HNWL HY
  simp only [fill, Act.put, List.setIfInBounds_toArray, List.set_cons_zero, List.set_cons_succ]
  go_wp2_with fail
  refine bodyPost_ret (by simp (maxDischargeDepth := 3) [results, Try.results63, go_sem, *]; try rfl) rfl ?_
  exact ⟨_, _, _, _, _, rfl, grown_bel HG2.out (by have := HN.out; omega)⟩
set_option maxHeartbeats 2000000 in
theorem drawDoublePoint_any (ad : Option Addr) (len cap : Nat) (zs : List Int) (w : World) (h : IsRow .u8 w ad len cap zs) (hl : len ≤ 1048576) :
    Calls Try.prog 22 #[.slice ad len cap] w (RetPt w) := by
  have hb0 : Below w.heap.size w ((w.alloc (.cells #[.int .i64 0, .int .i64 0] 39)).alloc (.cells #[.int .i64 0, .int .i64 0, .int .i64 0] 41)) := bel_alloc (below_allocD _ _) _
  have hk := isRow_keepDb h hb0
  have hr0 : BoxC (w.heap.size + 2) ((w.alloc (.cells #[.int .i64 0, .int .i64 0] 39)).alloc (.cells #[.int .i64 0, .int .i64 0, .int .i64 0] 41)) w.heap.size 0 0 := ⟨by simp <;> omega, by omega, by simp [go_sem], by simp [go_sem], by simp [go_sem], by simp [go_sem]⟩
  have hr1 : BoxP (w.heap.size + 2) ((w.alloc (.cells #[.int .i64 0, .int .i64 0] 39)).alloc (.cells #[.int .i64 0, .int .i64 0, .int .i64 0] 41)) (w.heap.size + 1) 0 0 0 := ⟨by simp <;> omega, by omega, by simp [go_sem], by simp [go_sem], by simp [go_sem], by simp [go_sem], by simp [go_sem], by simp [go_sem]⟩
  have HK := Lib.hid hk; have H0 := Lib.hid hb0; have HR := Lib.hid hr0; have HP := Lib.hid hr1
  clear hk h hb0 hr0 hr1
  go_enter Try.func22, Try.ntmps22
  go_wp2_with fail
  refine (drawIsPointOf_any _ _ _ _ _ HK.out hl).mono ?_; rintro e w1 ⟨a, b, x, y, e0, rfl, hb⟩
  have H1 := Lib.hid (bel_trans hb H0.out)
  obtain ⟨r1, r2, r3, r4, r5, r6⟩ := HR.out.keep (below_grown _ hb)
  obtain ⟨t1, t2, t3, t4, t5, t6, t7, t8⟩ := HP.out.keep (below_grown _ hb)
  clear hb HK H0 HR HP r2 t2
  go_wp2_with fail
  refine bodyPost_ret (by simp (maxDischargeDepth := 3) [results, Try.results22, go_sem, *]; try rfl) rfl ?_
  exact ⟨_, _, _, _, _, rfl, ((((H1.out.setCell (by dsimp only; omega) _).setCell (by dsimp only; omega) _).setCell (by dsimp only; omega) _).setCell (by dsimp only; omega) _).setCell (by dsimp only; omega) _⟩
end Go.Proofs.Ytnhlcgbknkdbiaa
