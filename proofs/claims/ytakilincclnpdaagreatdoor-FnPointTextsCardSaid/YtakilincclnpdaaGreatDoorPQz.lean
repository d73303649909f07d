/- Dyi: contracts: DrawIsPointOf and the draws that call it. No conditions. -/
import Derived.Test.YtakilincclnpdaaGreatDoorDwz
import Derived.Deep.Cut
import Derived.Deep.CutRange
/- Dy: contract: anyPoint: whatever the bytes are, a curve and a point come out. No conditions. -/
namespace Go.Proofs.YtakilincclnpdaaGreatDoor
open Go.RowKit

/-- the world of the last region: it reads the boxes n and m, and writes R and N. -/
structure S18 (w : World) (B R N n m : Nat) (lim : Int) (X : World) : Prop where
  cr : Cr X B lim
  gr : w.grownBy X (some B)
  r : ∃ c d, BoxC B X R c d
  p : ∃ c d f, BoxP B X N c d f
  e : ∃ c d, BoxC B X n c d
  q : ∃ c d f, BoxP B X m c d f
theorem S18.putP {w X : World} {B R N n m o : Nat} {lim : Int} (h : S18 w B R N n m lim X) (ho : o = 0 ∨ o = 1 ∨ o = 2) (h1 : w.heap.size ≤ m) (h2 : R ≠ m) (h3 : N ≠ m) (h4 : n ≠ m) (z : Int) : S18 w B R N n m lim (X.setCell ⟨m, o, none⟩ (.int .i64 z)) := by
  obtain ⟨hc, hg, ⟨a, b, hr⟩, ⟨c, d, f, hp⟩, ⟨a', b', he⟩, ⟨c', d', f', hq⟩⟩ := h
  have hcell : ∃ v0, X.cell? ⟨m, o, none⟩ = some (.int .i64 v0) := by
    rcases ho with rfl | rfl | rfl
    · exact ⟨_, hq.2.2.1⟩
    · exact ⟨_, hq.2.2.2.1⟩
    · exact ⟨_, hq.2.2.2.2.1⟩
  obtain ⟨v0, hv⟩ := hcell
  refine ⟨cr_putb hc hq.2.1 hv _, set_grown hg h1 _, ⟨_, _, hr.far1 h2⟩, ⟨_, _, _, hp.far1 h3⟩, ⟨_, _, he.far1 h4⟩, ?_⟩
  rcases ho with rfl | rfl | rfl
  · exact ⟨_, _, _, hq.put0 z⟩
  · exact ⟨_, _, _, hq.put1 z⟩
  · exact ⟨_, _, _, hq.put2 z⟩
theorem S18.putC {w X : World} {B R N n m : Nat} {lim : Int} (h : S18 w B R N n m lim X) (h1 : w.heap.size ≤ n) (h2 : R ≠ n) (h3 : N ≠ n) (h4 : m ≠ n) (a1 b1 : Int) : S18 w B R N n m lim ((X.setCell ⟨n, 0, none⟩ (.int .i64 a1)).setCell ⟨n, 1, none⟩ (.int .i64 b1)) := by
  obtain ⟨hc, hg, ⟨a, b, hr⟩, ⟨c, d, f, hp⟩, ⟨a', b', he⟩, ⟨c', d', f', hq⟩⟩ := h
  exact ⟨cr_putb (cr_putb hc he.2.1 he.2.2.1 _) he.2.1 (he.put0 a1).2.2.2.1 _, set_grown (set_grown hg h1 _) h1 _, ⟨_, _, (hr.far1 (v := .int .i64 a1) h2).far1 h2⟩, ⟨_, _, _, (hp.far1 (v := .int .i64 a1) h3).far1 h3⟩, ⟨_, _, he.put a1 b1⟩, ⟨_, _, _, (hq.far1 (v := .int .i64 a1) h4).far1 h4⟩⟩
theorem S18.putR {w X : World} {B R N n m : Nat} {lim : Int} (h : S18 w B R N n m lim X) (h1 : w.heap.size ≤ R) (h2 : N ≠ R) (h3 : n ≠ R) (h4 : m ≠ R) (a1 b1 : Int) : S18 w B R N n m lim ((X.setCell ⟨R, 0, none⟩ (.int .i64 a1)).setCell ⟨R, 1, none⟩ (.int .i64 b1)) := by
  obtain ⟨hc, hg, ⟨a, b, hr⟩, ⟨c, d, f, hp⟩, ⟨a', b', he⟩, ⟨c', d', f', hq⟩⟩ := h
  exact ⟨cr_putb (cr_putb hc hr.2.1 hr.2.2.1 _) hr.2.1 (hr.put0 a1).2.2.2.1 _, set_grown (set_grown hg h1 _) h1 _, ⟨_, _, hr.put a1 b1⟩, ⟨_, _, _, (hp.far1 (v := .int .i64 a1) h2).far1 h2⟩, ⟨_, _, (he.far1 (v := .int .i64 a1) h3).far1 h3⟩, ⟨_, _, _, (hq.far1 (v := .int .i64 a1) h4).far1 h4⟩⟩
theorem S18.le {w X : World} {B R N n m : Nat} {lim lim' : Int} (h : S18 w B R N n m lim X) (hl : lim ≤ lim') : S18 w B R N n m lim' X := ⟨h.cr.le hl, h.gr, h.r, h.p, h.e, h.q⟩
theorem S18.grow {w X Y : World} {B R N n m : Nat} {lim lim' : Int} (h : S18 w B R N n m lim X) (g : X.grownBy Y (some B)) (hc : Cr Y B lim') : S18 w B R N n m lim' Y := by
  obtain ⟨_, hg, ⟨a, b, hr⟩, ⟨c, d, f, hp⟩, ⟨a', b', he⟩, ⟨c', d', f', hq⟩⟩ := h
  exact ⟨hc, grown_trans hg g, ⟨_, _, hr.keep g⟩, ⟨_, _, _, hp.keep g⟩, ⟨_, _, he.keep g⟩, ⟨_, _, _, hq.keep g⟩⟩
theorem S18.drew {w X : World} {B R N n m : Nat} {lim : Int} (h : S18 w B R N n m lim X) : S18 w B R N n m lim X.drew := ⟨h.cr, grown_drew h.gr, h.r, h.p, h.e, h.q⟩
set_option maxHeartbeats 8000000 in
set_option maxRecDepth 100000 in
theorem anyPoint_any (B : Nat) (lim : Int) (w : World) (h : Cr w B lim) (hl : lim ≤ 100000000000000) :
    Calls Tryz.prog 97 #[.pointer (some ⟨B, 0, none⟩)] w (RetC PtA B (lim + 20000) w) := by
  have hB := h.lt
  have hz : (w.alloc (.cells #[.int .i64 0, .int .i64 0] 50)).heap.size = w.heap.size + 1 := by simp
  have HC := Lib.hid ((h.keep' (below_allocD w (.cells #[.int .i64 0, .int .i64 0] 50))).keep' (below_allocD _ (.cells #[.int .i64 0, .int .i64 0, .int .i64 0] 52)))
  have HG := Lib.hid (grown_belowD (below_grown B (below_allocD w (.cells #[.int .i64 0, .int .i64 0] 50))) (below_allocD _ (.cells #[.int .i64 0, .int .i64 0, .int .i64 0] 52)))
  have HR := Lib.hid ((BoxC.new 0 0 50 hB).keep (below_grown B (below_allocD _ (.cells #[.int .i64 0, .int .i64 0, .int .i64 0] 52))))
  have HP := Lib.hid (BoxP.new (B := B) (w := w.alloc (.cells #[.int .i64 0, .int .i64 0] 50)) 0 0 0 52 (by omega))
  clear h
  go_enter Tryz.func97, Tryz.ntmps97
  go_wp2_with fail
  rw [hz] at HP
  clear hz
  generalize (w.alloc (.cells #[.int .i64 0, .int .i64 0] 50)).alloc (.cells #[.int .i64 0, .int .i64 0, .int .i64 0] 52) = W at *
  obtain ⟨N, hN⟩ : ∃ N, w.heap.size + 1 = N := ⟨_, rfl⟩
  have hNl : w.heap.size < N := by omega
  rw [hN] at HP ⊢
  clear hN
  have HNW := Lib.hid hNl
  refine (pointed_any B _ _ HC.out (by omega)).mono ?_; rintro e' w' ⟨v, rfl, ⟨a, b, x, y, e, rfl, hpt⟩, hg, hc⟩
  have HGn := Lib.hid (grown_transN HG.out (by repeat' (first | exact HG.out | refine' set_grown ?_ (by omega) _ | refine' grown_belowD ?_ (below_allocD _ _) | refine' grown_drew ?_)) hg); (try clear HR_1 HR_2 HR_3 HR_4 HR_5 HR_6); have HRn := Lib.hid (BoxC.keepN HR.out (by repeat' (first | exact HR.out | refine' BoxC.keep ?_ (below_grown _ (below_allocD _ _)) | refine' BoxP.keep ?_ (below_grown _ (below_allocD _ _)) | refine' BoxC.far1 ?_ (by omega) | refine' BoxP.far1 ?_ (by omega) | refine' BoxC.put0 ?_ _ | refine' BoxC.put1 ?_ _ | refine' BoxP.put0 ?_ _ | refine' BoxP.put1 ?_ _ | refine' BoxP.put2 ?_ _)) hg); (try clear HP_1 HP_2 HP_3 HP_4 HP_5 HP_6 HP_7 HP_8); have HPn := Lib.hid (BoxP.keepN HP.out (by repeat' (first | exact HP.out | refine' BoxC.keep ?_ (below_grown _ (below_allocD _ _)) | refine' BoxP.keep ?_ (below_grown _ (below_allocD _ _)) | refine' BoxC.far1 ?_ (by omega) | refine' BoxP.far1 ?_ (by omega) | refine' BoxC.put0 ?_ _ | refine' BoxC.put1 ?_ _ | refine' BoxP.put0 ?_ _ | refine' BoxP.put1 ?_ _ | refine' BoxP.put2 ?_ _)) hg); clear HC HG HR HP; have HC := Lib.hid hc; have HG := Lib.hid HGn.out; have HR := Lib.hid HRn.out; obtain ⟨HR_1, HR_2, HR_3, HR_4, HR_5, HR_6⟩ := HR.out; clear HRn; have HP := Lib.hid HPn.out; obtain ⟨HP_1, HP_2, HP_3, HP_4, HP_5, HP_6, HP_7, HP_8⟩ := HP.out; clear HPn; clear HGn hc hg
  go_wp2_with fail
  have HC1 := HC; have HG1 := HG; have HR1 := HR; have HP1 := HP
  clear HC HG HR HP HR_1 HR_2 HR_3 HR_4 HR_5 HR_6 HP_1 HP_2 HP_3 HP_4 HP_5 HP_6 HP_7 HP_8
  obtain ⟨hcur, hon⟩ : curveB a b = true ∧ onB a b x y e = true := by unfold pointB at hpt; rwa [Bool.and_eq_true] at hpt
  have HPT := Lib.hid (And.intro hcur hon); clear hcur hon hpt
  have hb2 : Below w'.heap.size w' ((w'.alloc (.cells #[.int .i64 a, .int .i64 b] 50)).alloc (.cells #[.int .i64 x, .int .i64 y, .int .i64 e] 52)) := bel_alloc (below_allocD _ _) _
  have hx := (BoxC.new (B := B) a b 50 HC1.out.lt).keep (below_grown B (below_allocD _ (.cells #[.int .i64 x, .int .i64 y, .int .i64 e] 52)))
  have hy : BoxP B ((w'.alloc (.cells #[.int .i64 a, .int .i64 b] 50)).alloc (.cells #[.int .i64 x, .int .i64 y, .int .i64 e] 52)) (w'.heap.size + 1) x y e := by
    have := BoxP.new (B := B) (w := w'.alloc (.cells #[.int .i64 a, .int .i64 b] 50)) x y e 52 (by have := HC1.out.lt; simp; omega)
    rwa [show (w'.alloc (.cells #[.int .i64 a, .int .i64 b] 50)).heap.size = w'.heap.size + 1 by simp] at this
  have hn := HR1.out.1; have hn2 := HP1.out.1
  generalize (w'.alloc (.cells #[.int .i64 a, .int .i64 b] 50)).alloc (.cells #[.int .i64 x, .int .i64 y, .int .i64 e] 52) = w2 at hb2 hx hy ⊢
  have HC2 := Lib.hid (HC1.out.keep' hb2); have HG2 := Lib.hid (grown_belowD HG1.out hb2); have HR2 := Lib.hid (HR1.out.keep (below_grown B hb2)); have HP2 := Lib.hid (HP1.out.keep (below_grown B hb2)); have HE2 := Lib.hid hx; have HQ2 := Lib.hid hy
  clear hb2 hx hy HC1 HG1 HR1 HP1
  generalize w'.heap.size = n at *
  refine (one_any B _ 3 _ HC2.out (by omega) (by omega) (by omega)).mono ?_; rintro e' w3 ⟨v, rfl, ⟨bo, rfl⟩, hg, hc⟩
  have HC3 := Lib.hid hc; have HG3 := Lib.hid (grown_trans HG2.out hg); have HR3 := Lib.hid (HR2.out.keep hg); have HP3 := Lib.hid (HP2.out.keep hg); have HE3 := Lib.hid (HE2.out.keep hg); have HQ3 := Lib.hid (HQ2.out.keep hg)
  clear hg hc HC2 HG2 HR2 HP2 HE2 HQ2
  go_upto_if 15 with fail
  go_cut [6, 7] from 16 to 26 (fun _ _ wx => Hid (Cr wx B (lim + 5000)) ∧ Hid (w.grownBy wx (some B)) ∧ Hid (BoxC B wx w.heap.size 0 0) ∧ Hid (BoxP B wx N 0 0 0) ∧ Hid (BoxC B wx n a b) ∧ ∃ p q r, Hid (BoxP B wx (n + 1) p q r))
  case first =>
    cases bo
    · go_wp2_with fail
      go_meet
      exact ⟨HC3.out.le (by omega), HG3.out, HR3.out, HP3.out, HE3.out, _, _, _, HQ3.out⟩
    · go_wp2_with fail
      obtain ⟨W0, hW0⟩ : ∃ W0, w3 = W0 := ⟨_, rfl⟩
      obtain ⟨M, hM⟩ : ∃ M, M = w3.heap.size := ⟨_, rfl⟩
      obtain ⟨lim0, hl0⟩ : ∃ lim0, lim0 = lim + 60 := ⟨_, rfl⟩
      have HMW := Lib.hid (show M ≤ W0.heap.size ∧ W0.heap.size ≤ M by rw [← hW0, hM]; omega)
      have hE0 : Hid (BoxC B W0 n a b) := hW0 ▸ HE3
      have hQ0 : Hid (BoxP B W0 (n + 1) x y e) := hW0 ▸ HQ3
      have hlm : lim0 ≤ 200000000000000 := by omega
      refine wp_region_steps [17, 18, 19, 20, 21, 22, 16, 23, 24, 6, 7] (RP B M (fun p q r => onB a b p q r = true)) (look [(17, VC a b), (18, VV (.agg #[.int .i64 x, .int .i64 y, .int .i64 e])), (19, VB B), (20, VI 0 8), (21, VI (-4) 4), (22, VTp (fun p q r => onB a b p q r = true)), (16, VTp (fun p q r => onB a b p q r = true)), (23, VPe (fun p q r => onB a b p q r = true)), (24, VBo), (6, VFp B M (fun p q r => onB a b p q r = true)), (7, VBo)]) (SGp W0 B lim0) (by kernel_rfl) (by kernel_rfl) (by decide) (look_keep ?_) ?_ ?_
      · intro q hq v x y hv hr
        simp only [List.mem_cons, List.not_mem_nil, or_false] at hq
        rcases hq with rfl | rfl | rfl | rfl | rfl | rfl | rfl | rfl | rfl | rfl | rfl
        all_goals first | exact hv | exact VFp.keep hv hr
      · exact ⟨(show Cr w3.drew B lim0 from HC3.out.le (by omega)).le (by omega), hW0 ▸ below_grown B (bel_drew (Below.refl _ _))⟩
      refine Steps.cons ?_ ?_
      · refine TStep.of ?_ ?_ ?_
        · rfl
        · simp
        intro k g X hk9 hS hd
        refine ⟨_, X, wp_ldCb (hE0.out.keep hS.2) (by rw [eval_out (by decide)]; rfl), fun d e => ?_, hS.same, RP.refl _ _ _ _⟩
        cases e; exact rfl
      refine Steps.cons ?_ ?_
      · refine TStep.of ?_ ?_ ?_
        · rfl
        · simp
        intro k g X hk9 hS hd
        refine ⟨_, X, wp_ldP (hQ0.out.keep hS.2) (by rw [eval_out (by decide)]; rfl), fun d e => ?_, hS.same, RP.refl _ _ _ _⟩
        cases e; exact rfl
      refine Steps.cons ?_ ?_
      · refine TStep.move 0 ?_ ?_ ?_ ?_ ?_ ?_
        · exact .inl rfl
        · rfl
        · simp
        · exact fun _ _ h => h.same
        · exact fun X => RP.refl _ _ _ X
        intro g X hd d e; cases e; rw [eval_out (by decide)]; exact rfl
      refine Steps.cons ?_ ?_
      · refine TStep.call ?_ ?_ ?_
        · rfl
        · simp
        intro k g X hk9 hS hd
        refine ⟨_, _, wp_call_ofb (run_callPickb _ (by rfl) (by rfl)), ?_⟩
        have e1 : g 19 = .pointer (some ⟨B, 0, none⟩) := hd 19 (mem_b (by kernel_rfl))
        rw [eval_in (i := 19) (by decide) (by simp), e1]
        refine (pick_any B _ 9 _ hS.1 (by have h9 : k < 12 := hk9; omega) (by omega) (by omega)).mono ?_
        rintro e' X' ⟨v', rfl, ⟨z, rfl, z0, z1⟩, hg', hc'⟩
        refine ⟨_, rfl, fun d e => ?_, hS.step hg' (hc'.le (by omega)), RP.grown hg'⟩
        cases e; exact ⟨z, rfl, z0, by omega⟩
      refine Steps.cons ?_ ?_
      · refine TStep.of ?_ ?_ ?_
        · rfl
        · simp
        intro k g X hk9 hS hd
        obtain ⟨z, e1, z0, z1⟩ : VI _ _ (g 20) X := hd 20 (mem_b (by kernel_rfl))
        refine ⟨_, X, wp_value_ofb (run_subR (n := z) (c := 4) _ (by rw [eval_in (by decide) (by simp)]; exact e1) (by rfl)), fun d e => ?_, hS.same, RP.refl _ _ _ _⟩
        cases e
        exact ⟨_, rfl, by rw [wrapkb (by omega) (by omega)]; omega, by rw [wrapkb (by omega) (by omega)]; omega⟩
      refine Steps.cons ?_ ?_
      · refine TStep.call ?_ ?_ ?_
        · rfl
        · simp
        intro k g X hk9 hS hd
        refine ⟨_, _, wp_call_ofb (run_callTim _ (by rfl)), ?_⟩
        have e1 : g 17 = .agg #[.int .i64 a, .int .i64 b] := hd 17 (mem_b (by kernel_rfl))
        have e2 : g 18 = .agg #[.int .i64 x, .int .i64 y, .int .i64 e] := hd 18 (mem_b (by kernel_rfl))
        obtain ⟨z, e3, z0, z1⟩ : VI _ _ (g 21) X := hd 21 (mem_b (by kernel_rfl))
        rw [eval_in (i := 17) (by decide) (by simp), eval_in (i := 18) (by decide) (by simp), eval_in (i := 21) (by decide) (by simp), e1, e2, e3]
        refine (ptTimes_any a b x y e z X HPT.out.1 HPT.out.2 (by omega) (by omega)).mono ?_
        rintro e' X' ⟨rfl, hb'⟩
        refine ⟨_, rfl, fun d e => ?_, hS.step (below_grown B hb') ((hS.1.keep' hb').le (by omega)), RP.grown (below_grown B hb')⟩
        cases e; exact tim_tp HPT.out.2 X'
      refine Steps.cons ?_ ?_
      · refine TStep.move 22 ?_ ?_ ?_ ?_ ?_ ?_
        · exact .inl rfl
        · rfl
        · simp
        · exact fun _ _ h => h.same
        · exact fun X => RP.refl _ _ _ X
        intro g X hd d e; cases e; rw [eval_in (by decide) (by simp)]; exact hd 22 (mem_b (by kernel_rfl))
      refine Steps.cons ?_ ?_
      · refine TStep.of ?_ ?_ ?_
        · rfl
        · simp
        intro k g X hk9 hS hd
        obtain ⟨p', q', r', o', e1, hz⟩ : VTp _ (g 16) X := hd 16 (mem_b (by kernel_rfl))
        refine ⟨_, X, wp_value_ofb (run_ext _ (by rw [eval_in (by decide) (by simp)]; exact e1) (by simp)), fun d e => ?_, hS.same, RP.refl _ _ _ _⟩
        cases e; exact ⟨p', q', r', rfl, hz⟩
      refine Steps.cons ?_ ?_
      · refine TStep.of ?_ ?_ ?_
        · rfl
        · simp
        intro k g X hk9 hS hd
        obtain ⟨p', q', r', o', e1, hz⟩ : VTp _ (g 16) X := hd 16 (mem_b (by kernel_rfl))
        refine ⟨_, X, wp_value_ofb (run_ext _ (by rw [eval_in (by decide) (by simp)]; exact e1) (by simp)), fun d e => ?_, hS.same, RP.refl _ _ _ _⟩
        cases e; exact ⟨o', rfl⟩
      refine Steps.cons ?_ ?_
      · refine TStep.of ?_ ?_ ?_
        · rfl
        · simp
        intro k g X hk9 hS hd
        have hb' : Below X.heap.size X (X.alloc (.cells #[.int .i64 0, .int .i64 0, .int .i64 0] 52)) := below_allocD _ _
        have hM' : M ≤ X.heap.size := Nat.le_trans HMW.out.1 hS.2.size
        have hl' := hS.1.lt
        refine ⟨_, _, wp_value_ofb (run_allocP _), fun d e => ?_, hS.step (below_grown B hb') ((hS.1.keep' hb').le (by omega)), RP.grown (below_grown B hb')⟩
        cases e; exact ⟨_, rfl, hM', 0, 0, 0, BoxP.new 0 0 0 _ hl', on_zero a b⟩
      refine Steps.cons ?_ ?_
      · refine TStep.of ?_ ?_ ?_
        · rfl
        · simp
        intro k g X hk9 hS hd
        obtain ⟨m, e1, hm, p', q', r', hbx, hz⟩ : VFp B M _ (g 6) X := hd 6 (mem_b (by kernel_rfl))
        obtain ⟨p2, q2, r2, e2, hz2⟩ : VPe _ (g 23) X := hd 23 (mem_b (by kernel_rfl))
        refine ⟨undef, _, wp_stP (a := p2) (b := q2) (c := r2) hbx (by rw [eval_in (by decide) (by simp)]; exact e1) (by rw [eval_in (by decide) (by simp)]; exact e2), (by simp), ?_, RP.put hbx p2 q2 r2 hz2⟩
        have hWm := Nat.le_trans HMW.out.2 hm
        exact ⟨(cr_putb (cr_putb (cr_putb hS.1 hbx.2.1 hbx.2.2.1 _) hbx.2.1 (hbx.put0 p2).2.2.2.1 _) hbx.2.1 ((hbx.put0 p2).put1 q2).2.2.2.2.1 _).le (by push_cast; omega), set_grown (set_grown (set_grown hS.2 hWm _) hWm _) hWm _⟩
      refine Steps.one ?_
      refine LStep.move 24 ?_ ?_ ?_
      · exact .inr rfl
      · rfl
      intro g X hS hd
      obtain ⟨m, e6, hm, p', q', r', hbx, hz⟩ : VFp B M _ (g 6) X := hd 6 (mem_b (by kernel_rfl))
      obtain ⟨o', e7⟩ : VBo (g 24) X := hd 24 (mem_b (by kernel_rfl))
      rw [eval_in (by decide) (by simp)]
      simp only [fill, Act.put, List.setIfInBounds_toArray, List.set_cons_zero, List.set_cons_succ]
      rw [e6, e7]
      clear hd e6 e7
      obtain ⟨s1, s2⟩ := hS
      rw [← hW0] at s2
      have HC4 := Lib.hid (s1.le (lim' := lim + 4000) (by simp; omega)); have HG4 := Lib.hid (grown_trans HG3.out s2); have HR4 := Lib.hid (HR3.out.keep s2); have HP4 := Lib.hid (HP3.out.keep s2); have HE4 := Lib.hid (HE3.out.keep s2); have HQ4 := Lib.hid (HQ3.out.keep s2); have HF4 := Lib.hid hbx
      have hn1 : n + 1 < M := by rw [hM]; exact HQ3.out.1
      clear s1 s2 hbx HC3 HG3 HR3 HP3 HE3 HQ3 hE0 hQ0 HMW hW0
      cases o'
      · go_wp2_with fail
        go_meet
        exact ⟨HC4.out.le (by omega), HG4.out, HR4.out, HP4.out, HE4.out, _, _, _, HQ4.out⟩
      · obtain ⟨f1, f2, f3, f4, f5, f6, f7, f8⟩ := HF4.out
        obtain ⟨q1, q2, q3, q4, q5, q6, q7, q8⟩ := HQ4.out
        go_wp2_with fail
        go_meet
        have hq := HQ4.out.put p' q' r'
        have hc := cr_putb (cr_putb (cr_putb HC4.out q2 q3 (.int .i64 p')) q2 (HQ4.out.put0 p').2.2.2.1 (.int .i64 q')) q2 ((HQ4.out.put0 p').put1 q').2.2.2.2.1 (.int .i64 r')
        have hg := set_grown (o := 2) (set_grown (o := 1) (set_grown (o := 0) HG4.out (show w.heap.size ≤ n + 1 by omega) (.int .i64 p')) (show w.heap.size ≤ n + 1 by omega) (.int .i64 q')) (show w.heap.size ≤ n + 1 by omega) (.int .i64 r')
        have hr := (((HR4.out.far1 (v := .int .i64 p') (o := 0) (m := n + 1) (by omega)).far1 (v := .int .i64 q') (o := 1) (m := n + 1) (by omega)).far1 (v := .int .i64 r') (o := 2) (m := n + 1) (by omega))
        have he := (((HE4.out.far1 (v := .int .i64 p') (o := 0) (m := n + 1) (by omega)).far1 (v := .int .i64 q') (o := 1) (m := n + 1) (by omega)).far1 (v := .int .i64 r') (o := 2) (m := n + 1) (by omega))
        have hp := HP4.out.far3 (u := .int .i64 p') (v := .int .i64 q') (z := .int .i64 r') (m := n + 1) (by omega)
        exact ⟨hc.le (by omega), hg, hr, hp, he, _, _, _, hq⟩
  case rest =>
    obtain ⟨hc, hg, hr, hp, he, p, q, r, hq⟩ := hcut
    generalize wc = w4 at hc hg hr hp he hq ⊢
    have hn1 : n + 1 < w4.heap.size := hq.out.1
    have HNE := Lib.hid (show N ≠ w.heap.size ∧ n ≠ w.heap.size ∧ n + 1 ≠ w.heap.size by omega)
    have HNM := Lib.hid (show w.heap.size ≤ n ∧ N ≠ n ∧ N ≠ n + 1 by omega)
    have HNWL := Lib.hid (show w.heap.size ≤ N by omega)
    clear HC3 HG3 HR3 HP3 HE3 HQ3 HPT HNW hn hn2 hNl hn1
    have HS := Lib.hid (S18.mk (lim := lim + 5000) hc.out hg.out ⟨_, _, hr.out⟩ ⟨_, _, _, hp.out⟩ ⟨_, _, he.out⟩ ⟨_, _, _, hq.out⟩)
    clear hc hg hr hp he hq
    go_wp2_with fail
    refine (pick_any B _ 24 _ HS.out.cr (by omega) (by omega) (by omega)).mono ?_; rintro e' w5 ⟨v, rfl, ⟨k, rfl, k0, k1⟩, hg, hc⟩
    have HT := Lib.hid (HS.out.grow hg hc)
    clear hg hc HS
    rcases (by omega : k = 0 ∨ k = 1 ∨ k = 2 ∨ k = 3 ∨ k = 4 ∨ 5 ≤ k) with rfl | rfl | rfl | rfl | rfl | hk
    · obtain ⟨c1, d1, f1, hq⟩ := HT.out.q
      obtain ⟨t1, t2, t3, t4, t5, t6, t7, t8⟩ := hq
      go_wp2_with fail
      go_at_call 65
      refine (amongW_any _ _ _ _ _ _ HT.out.cr (by omega) (by rfl) (by decide) (by decide) (by simp only [AllI]; (repeat' apply And.intro); all_goals first | trivial | (refine anyI_mk ?_; first | assumption | exact i64w _ | exact i64w' _ | (unfold I64 at *; omega)))).mono ?_; rintro e' w6 ⟨v, rfl, ⟨z, rfl, zI⟩, hg, hc⟩
      have HU := Lib.hid (HT.out.grow hg hc)
      clear hg hc HT zI
      clear t1 t2 t3 t4 t5 t6 t7 t8
      obtain ⟨c2, d2, f2, hq⟩ := HU.out.q
      obtain ⟨t1, t2, t3, t4, t5, t6, t7, t8⟩ := hq
      go_wp2_with fail
      clear t1 t2 t3 t4 t5 t6 t7 t8
      have hy := HU.out.putP (o := 0) (by omega) (by have := HNM.out; omega) HNE.out.2.2.symm HNM.out.2.2 (by omega) z
      generalize w6.setCell ⟨n + 1, 0, none⟩ (.int .i64 z) = Y at hy ⊢
      have HY := Lib.hid (hy.le (lim' := lim + 10000) (by omega))
      clear hy HU
      refine wp_region_steps [68, 69] RT (look [(68, VCe), (69, VPe (fun _ _ _ => True))]) (fun _ X => S18 w B w.heap.size N n (n + 1) (lim + 10000) X) (by kernel_rfl) (by kernel_rfl) (by decide) (look_keep ?_) ?_ ?_
      · intro q hq v x y hv hr
        simp only [List.mem_cons, List.not_mem_nil, or_false] at hq
        rcases hq with rfl | rfl
        all_goals exact hv
      · exact HY.out.drew
      refine Steps.cons ?_ ?_
      · refine TStep.of ?_ ?_ ?_
        · rfl
        · simp
        intro k g X hk9 hS hd
        obtain ⟨c1, d1, hb⟩ := hS.e
        refine ⟨_, X, wp_ldCb hb (by rw [eval_out (by decide)]; rfl), fun d e => ?_, hS, trivial⟩
        cases e; exact ⟨_, _, rfl⟩
      refine Steps.cons ?_ ?_
      · refine TStep.of ?_ ?_ ?_
        · rfl
        · simp
        intro k g X hk9 hS hd
        obtain ⟨c1, d1, f1, hb⟩ := hS.q
        refine ⟨_, X, wp_ldP hb (by rw [eval_out (by decide)]; rfl), fun d e => ?_, hS, trivial⟩
        cases e; exact ⟨_, _, _, rfl, trivial⟩
      refine Steps.cons ?_ ?_
      · refine TStep.of ?_ ?_ ?_
        · rfl
        · simp
        intro k g X hk9 hS hd
        obtain ⟨c1, d1, e1⟩ : VCe (g 68) X := hd 68 (mem_b (by kernel_rfl))
        obtain ⟨c2, d2, hb⟩ := hS.r
        refine ⟨undef, _, wp_stCb hb (by rw [eval_out (by decide)]; rfl) (by rw [eval_in (by decide) (by simp)]; exact e1), (by simp), hS.putR (Nat.le_refl _) HNE.out.1 HNE.out.2.1 HNE.out.2.2 c1 d1, trivial⟩
      refine Steps.one ?_
      refine LStep.of ?_ ?_
      · rfl
      intro g X hS hd
      obtain ⟨c1, d1, f1, e1, -⟩ : VPe _ (g 69) X := hd 69 (mem_b (by kernel_rfl))
      obtain ⟨c2, d2, f2, hb⟩ := hS.p
      obtain ⟨a2, b2, hr⟩ := hS.r
      refine ⟨undef, _, wp_stP hb (by rw [eval_out (by decide)]; rfl) (by rw [eval_in (by decide) (by simp)]; exact e1), ?_⟩
      have hp2 := hb.put c1 d1 f1
      have hr2 := (((hr.far1 (v := .int .i64 c1) (o := 0) HNE.out.1.symm).far1 (v := .int .i64 d1) (o := 1) HNE.out.1.symm).far1 (v := .int .i64 f1) (o := 2) HNE.out.1.symm)
      have hc2 := cr_putb (cr_putb (cr_putb hS.cr hb.2.1 hb.2.2.1 (.int .i64 c1)) hb.2.1 (hb.put0 c1).2.2.2.1 (.int .i64 d1)) hb.2.1 ((hb.put0 c1).put1 d1).2.2.2.2.1 (.int .i64 f1)
      have hg2 := set_grown (o := 2) (set_grown (o := 1) (set_grown (o := 0) hS.gr HNWL.out (.int .i64 c1)) HNWL.out (.int .i64 d1)) HNWL.out (.int .i64 f1)
      generalize ((X.setCell ⟨N, 0, none⟩ (.int .i64 c1)).setCell ⟨N, 1, none⟩ (.int .i64 d1)).setCell ⟨N, 2, none⟩ (.int .i64 f1) = Y2 at hp2 hr2 hc2 hg2 ⊢
      obtain ⟨s1, s2, s3, s4, s5, s6⟩ := hr2
      obtain ⟨t1, t2, t3, t4, t5, t6, t7, t8⟩ := hp2
      have HC2 := Lib.hid hc2; have HG2 := Lib.hid hg2; clear hc2 hg2 hr hb hS hd e1 HNE HNWL HY
      simp only [fill, Act.put, List.setIfInBounds_toArray, List.set_cons_zero, List.set_cons_succ]
      go_wp2_with fail
      refine bodyPost_ret (by simp (maxDischargeDepth := 3) [results, Tryz.results97, go_sem, *]; try rfl) rfl ?_
      exact ⟨_, rfl, ⟨_, _, _, _, _, rfl⟩, HG2.out, HC2.out.le (by omega)⟩
    · obtain ⟨c1, d1, f1, hq⟩ := HT.out.q
      obtain ⟨t1, t2, t3, t4, t5, t6, t7, t8⟩ := hq
      go_wp2_with fail
      go_at_call 65
      refine (amongW_any _ _ _ _ _ _ HT.out.cr (by omega) (by rfl) (by decide) (by decide) (by simp only [AllI]; (repeat' apply And.intro); all_goals first | trivial | (refine anyI_mk ?_; first | assumption | exact i64w _ | exact i64w' _ | (unfold I64 at *; omega)))).mono ?_; rintro e' w6 ⟨v, rfl, ⟨z, rfl, zI⟩, hg, hc⟩
      have HU := Lib.hid (HT.out.grow hg hc)
      clear hg hc HT zI
      clear t1 t2 t3 t4 t5 t6 t7 t8
      obtain ⟨c2, d2, f2, hq⟩ := HU.out.q
      obtain ⟨t1, t2, t3, t4, t5, t6, t7, t8⟩ := hq
      go_wp2_with fail
      clear t1 t2 t3 t4 t5 t6 t7 t8
      have hy := HU.out.putP (o := 1) (by omega) (by have := HNM.out; omega) HNE.out.2.2.symm HNM.out.2.2 (by omega) z
      generalize w6.setCell ⟨n + 1, 1, none⟩ (.int .i64 z) = Y at hy ⊢
      have HY := Lib.hid (hy.le (lim' := lim + 10000) (by omega))
      clear hy HU
      refine wp_region_steps [68, 69] RT (look [(68, VCe), (69, VPe (fun _ _ _ => True))]) (fun _ X => S18 w B w.heap.size N n (n + 1) (lim + 10000) X) (by kernel_rfl) (by kernel_rfl) (by decide) (look_keep ?_) ?_ ?_
      · intro q hq v x y hv hr
        simp only [List.mem_cons, List.not_mem_nil, or_false] at hq
        rcases hq with rfl | rfl
        all_goals exact hv
      · exact HY.out.drew
      refine Steps.cons ?_ ?_
      · refine TStep.of ?_ ?_ ?_
        · rfl
        · simp
        intro k g X hk9 hS hd
        obtain ⟨c1, d1, hb⟩ := hS.e
        refine ⟨_, X, wp_ldCb hb (by rw [eval_out (by decide)]; rfl), fun d e => ?_, hS, trivial⟩
        cases e; exact ⟨_, _, rfl⟩
      refine Steps.cons ?_ ?_
      · refine TStep.of ?_ ?_ ?_
        · rfl
        · simp
        intro k g X hk9 hS hd
        obtain ⟨c1, d1, f1, hb⟩ := hS.q
        refine ⟨_, X, wp_ldP hb (by rw [eval_out (by decide)]; rfl), fun d e => ?_, hS, trivial⟩
        cases e; exact ⟨_, _, _, rfl, trivial⟩
      refine Steps.cons ?_ ?_
      · refine TStep.of ?_ ?_ ?_
        · rfl
        · simp
        intro k g X hk9 hS hd
        obtain ⟨c1, d1, e1⟩ : VCe (g 68) X := hd 68 (mem_b (by kernel_rfl))
        obtain ⟨c2, d2, hb⟩ := hS.r
        refine ⟨undef, _, wp_stCb hb (by rw [eval_out (by decide)]; rfl) (by rw [eval_in (by decide) (by simp)]; exact e1), (by simp), hS.putR (Nat.le_refl _) HNE.out.1 HNE.out.2.1 HNE.out.2.2 c1 d1, trivial⟩
      refine Steps.one ?_
      refine LStep.of ?_ ?_
      · rfl
      intro g X hS hd
      obtain ⟨c1, d1, f1, e1, -⟩ : VPe _ (g 69) X := hd 69 (mem_b (by kernel_rfl))
      obtain ⟨c2, d2, f2, hb⟩ := hS.p
      obtain ⟨a2, b2, hr⟩ := hS.r
      refine ⟨undef, _, wp_stP hb (by rw [eval_out (by decide)]; rfl) (by rw [eval_in (by decide) (by simp)]; exact e1), ?_⟩
      have hp2 := hb.put c1 d1 f1
      have hr2 := (((hr.far1 (v := .int .i64 c1) (o := 0) HNE.out.1.symm).far1 (v := .int .i64 d1) (o := 1) HNE.out.1.symm).far1 (v := .int .i64 f1) (o := 2) HNE.out.1.symm)
      have hc2 := cr_putb (cr_putb (cr_putb hS.cr hb.2.1 hb.2.2.1 (.int .i64 c1)) hb.2.1 (hb.put0 c1).2.2.2.1 (.int .i64 d1)) hb.2.1 ((hb.put0 c1).put1 d1).2.2.2.2.1 (.int .i64 f1)
      have hg2 := set_grown (o := 2) (set_grown (o := 1) (set_grown (o := 0) hS.gr HNWL.out (.int .i64 c1)) HNWL.out (.int .i64 d1)) HNWL.out (.int .i64 f1)
      generalize ((X.setCell ⟨N, 0, none⟩ (.int .i64 c1)).setCell ⟨N, 1, none⟩ (.int .i64 d1)).setCell ⟨N, 2, none⟩ (.int .i64 f1) = Y2 at hp2 hr2 hc2 hg2 ⊢
      obtain ⟨s1, s2, s3, s4, s5, s6⟩ := hr2
      obtain ⟨t1, t2, t3, t4, t5, t6, t7, t8⟩ := hp2
      have HC2 := Lib.hid hc2; have HG2 := Lib.hid hg2; clear hc2 hg2 hr hb hS hd e1 HNE HNWL HY
      simp only [fill, Act.put, List.setIfInBounds_toArray, List.set_cons_zero, List.set_cons_succ]
      go_wp2_with fail
      refine bodyPost_ret (by simp (maxDischargeDepth := 3) [results, Tryz.results97, go_sem, *]; try rfl) rfl ?_
      exact ⟨_, rfl, ⟨_, _, _, _, _, rfl⟩, HG2.out, HC2.out.le (by omega)⟩
    · obtain ⟨c1, d1, f1, hq⟩ := HT.out.q
      obtain ⟨t1, t2, t3, t4, t5, t6, t7, t8⟩ := hq
      go_wp2_with fail
      go_at_call 65
      refine (amongW_any _ _ _ _ _ _ HT.out.cr (by omega) (by rfl) (by decide) (by decide) (by simp only [AllI]; (repeat' apply And.intro); all_goals first | trivial | (refine anyI_mk ?_; first | assumption | exact i64w _ | exact i64w' _ | (unfold I64 at *; omega)))).mono ?_; rintro e' w6 ⟨v, rfl, ⟨z, rfl, zI⟩, hg, hc⟩
      have HU := Lib.hid (HT.out.grow hg hc)
      clear hg hc HT zI
      clear t1 t2 t3 t4 t5 t6 t7 t8
      obtain ⟨c2, d2, f2, hq⟩ := HU.out.q
      obtain ⟨t1, t2, t3, t4, t5, t6, t7, t8⟩ := hq
      go_wp2_with fail
      clear t1 t2 t3 t4 t5 t6 t7 t8
      have hy := HU.out.putP (o := 2) (by omega) (by have := HNM.out; omega) HNE.out.2.2.symm HNM.out.2.2 (by omega) z
      generalize w6.setCell ⟨n + 1, 2, none⟩ (.int .i64 z) = Y at hy ⊢
      have HY := Lib.hid (hy.le (lim' := lim + 10000) (by omega))
      clear hy HU
      refine wp_region_steps [68, 69] RT (look [(68, VCe), (69, VPe (fun _ _ _ => True))]) (fun _ X => S18 w B w.heap.size N n (n + 1) (lim + 10000) X) (by kernel_rfl) (by kernel_rfl) (by decide) (look_keep ?_) ?_ ?_
      · intro q hq v x y hv hr
        simp only [List.mem_cons, List.not_mem_nil, or_false] at hq
        rcases hq with rfl | rfl
        all_goals exact hv
      · exact HY.out.drew
      refine Steps.cons ?_ ?_
      · refine TStep.of ?_ ?_ ?_
        · rfl
        · simp
        intro k g X hk9 hS hd
        obtain ⟨c1, d1, hb⟩ := hS.e
        refine ⟨_, X, wp_ldCb hb (by rw [eval_out (by decide)]; rfl), fun d e => ?_, hS, trivial⟩
        cases e; exact ⟨_, _, rfl⟩
      refine Steps.cons ?_ ?_
      · refine TStep.of ?_ ?_ ?_
        · rfl
        · simp
        intro k g X hk9 hS hd
        obtain ⟨c1, d1, f1, hb⟩ := hS.q
        refine ⟨_, X, wp_ldP hb (by rw [eval_out (by decide)]; rfl), fun d e => ?_, hS, trivial⟩
        cases e; exact ⟨_, _, _, rfl, trivial⟩
      refine Steps.cons ?_ ?_
      · refine TStep.of ?_ ?_ ?_
        · rfl
        · simp
        intro k g X hk9 hS hd
        obtain ⟨c1, d1, e1⟩ : VCe (g 68) X := hd 68 (mem_b (by kernel_rfl))
        obtain ⟨c2, d2, hb⟩ := hS.r
        refine ⟨undef, _, wp_stCb hb (by rw [eval_out (by decide)]; rfl) (by rw [eval_in (by decide) (by simp)]; exact e1), (by simp), hS.putR (Nat.le_refl _) HNE.out.1 HNE.out.2.1 HNE.out.2.2 c1 d1, trivial⟩
      refine Steps.one ?_
      refine LStep.of ?_ ?_
      · rfl
      intro g X hS hd
      obtain ⟨c1, d1, f1, e1, -⟩ : VPe _ (g 69) X := hd 69 (mem_b (by kernel_rfl))
      obtain ⟨c2, d2, f2, hb⟩ := hS.p
      obtain ⟨a2, b2, hr⟩ := hS.r
      refine ⟨undef, _, wp_stP hb (by rw [eval_out (by decide)]; rfl) (by rw [eval_in (by decide) (by simp)]; exact e1), ?_⟩
      have hp2 := hb.put c1 d1 f1
      have hr2 := (((hr.far1 (v := .int .i64 c1) (o := 0) HNE.out.1.symm).far1 (v := .int .i64 d1) (o := 1) HNE.out.1.symm).far1 (v := .int .i64 f1) (o := 2) HNE.out.1.symm)
      have hc2 := cr_putb (cr_putb (cr_putb hS.cr hb.2.1 hb.2.2.1 (.int .i64 c1)) hb.2.1 (hb.put0 c1).2.2.2.1 (.int .i64 d1)) hb.2.1 ((hb.put0 c1).put1 d1).2.2.2.2.1 (.int .i64 f1)
      have hg2 := set_grown (o := 2) (set_grown (o := 1) (set_grown (o := 0) hS.gr HNWL.out (.int .i64 c1)) HNWL.out (.int .i64 d1)) HNWL.out (.int .i64 f1)
      generalize ((X.setCell ⟨N, 0, none⟩ (.int .i64 c1)).setCell ⟨N, 1, none⟩ (.int .i64 d1)).setCell ⟨N, 2, none⟩ (.int .i64 f1) = Y2 at hp2 hr2 hc2 hg2 ⊢
      obtain ⟨s1, s2, s3, s4, s5, s6⟩ := hr2
      obtain ⟨t1, t2, t3, t4, t5, t6, t7, t8⟩ := hp2
      have HC2 := Lib.hid hc2; have HG2 := Lib.hid hg2; clear hc2 hg2 hr hb hS hd e1 HNE HNWL HY
      simp only [fill, Act.put, List.setIfInBounds_toArray, List.set_cons_zero, List.set_cons_succ]
      go_wp2_with fail
      refine bodyPost_ret (by simp (maxDischargeDepth := 3) [results, Tryz.results97, go_sem, *]; try rfl) rfl ?_
      exact ⟨_, rfl, ⟨_, _, _, _, _, rfl⟩, HG2.out, HC2.out.le (by omega)⟩
    · go_wp2_with fail
      refine (anyCurve_any B _ _ HT.out.cr (by omega)).mono ?_; rintro e' w6 ⟨v, rfl, ⟨a', b', rfl, -, -⟩, hg, hc⟩
      have HU := Lib.hid (HT.out.grow hg hc)
      clear hg hc HT
      obtain ⟨c1, d1, he⟩ := HU.out.e
      obtain ⟨f1, f2, f3, f4, f5, f6⟩ := he
      go_wp2_with fail
      clear f1 f2 f3 f4 f5 f6
      have hy := HU.out.putC HNM.out.1 HNE.out.2.1.symm HNM.out.2.1 (by omega) a' b'
      generalize (w6.setCell ⟨n, 0, none⟩ (.int .i64 a')).setCell ⟨n, 1, none⟩ (.int .i64 b') = Y at hy ⊢
      have HY := Lib.hid (hy.le (lim' := lim + 10000) (by omega))
      clear hy HU
      refine wp_region_steps [68, 69] RT (look [(68, VCe), (69, VPe (fun _ _ _ => True))]) (fun _ X => S18 w B w.heap.size N n (n + 1) (lim + 10000) X) (by kernel_rfl) (by kernel_rfl) (by decide) (look_keep ?_) ?_ ?_
      · intro q hq v x y hv hr
        simp only [List.mem_cons, List.not_mem_nil, or_false] at hq
        rcases hq with rfl | rfl
        all_goals exact hv
      · exact HY.out.drew
      refine Steps.cons ?_ ?_
      · refine TStep.of ?_ ?_ ?_
        · rfl
        · simp
        intro k g X hk9 hS hd
        obtain ⟨c1, d1, hb⟩ := hS.e
        refine ⟨_, X, wp_ldCb hb (by rw [eval_out (by decide)]; rfl), fun d e => ?_, hS, trivial⟩
        cases e; exact ⟨_, _, rfl⟩
      refine Steps.cons ?_ ?_
      · refine TStep.of ?_ ?_ ?_
        · rfl
        · simp
        intro k g X hk9 hS hd
        obtain ⟨c1, d1, f1, hb⟩ := hS.q
        refine ⟨_, X, wp_ldP hb (by rw [eval_out (by decide)]; rfl), fun d e => ?_, hS, trivial⟩
        cases e; exact ⟨_, _, _, rfl, trivial⟩
      refine Steps.cons ?_ ?_
      · refine TStep.of ?_ ?_ ?_
        · rfl
        · simp
        intro k g X hk9 hS hd
        obtain ⟨c1, d1, e1⟩ : VCe (g 68) X := hd 68 (mem_b (by kernel_rfl))
        obtain ⟨c2, d2, hb⟩ := hS.r
        refine ⟨undef, _, wp_stCb hb (by rw [eval_out (by decide)]; rfl) (by rw [eval_in (by decide) (by simp)]; exact e1), (by simp), hS.putR (Nat.le_refl _) HNE.out.1 HNE.out.2.1 HNE.out.2.2 c1 d1, trivial⟩
      refine Steps.one ?_
      refine LStep.of ?_ ?_
      · rfl
      intro g X hS hd
      obtain ⟨c1, d1, f1, e1, -⟩ : VPe _ (g 69) X := hd 69 (mem_b (by kernel_rfl))
      obtain ⟨c2, d2, f2, hb⟩ := hS.p
      obtain ⟨a2, b2, hr⟩ := hS.r
      refine ⟨undef, _, wp_stP hb (by rw [eval_out (by decide)]; rfl) (by rw [eval_in (by decide) (by simp)]; exact e1), ?_⟩
      have hp2 := hb.put c1 d1 f1
      have hr2 := (((hr.far1 (v := .int .i64 c1) (o := 0) HNE.out.1.symm).far1 (v := .int .i64 d1) (o := 1) HNE.out.1.symm).far1 (v := .int .i64 f1) (o := 2) HNE.out.1.symm)
      have hc2 := cr_putb (cr_putb (cr_putb hS.cr hb.2.1 hb.2.2.1 (.int .i64 c1)) hb.2.1 (hb.put0 c1).2.2.2.1 (.int .i64 d1)) hb.2.1 ((hb.put0 c1).put1 d1).2.2.2.2.1 (.int .i64 f1)
      have hg2 := set_grown (o := 2) (set_grown (o := 1) (set_grown (o := 0) hS.gr HNWL.out (.int .i64 c1)) HNWL.out (.int .i64 d1)) HNWL.out (.int .i64 f1)
      generalize ((X.setCell ⟨N, 0, none⟩ (.int .i64 c1)).setCell ⟨N, 1, none⟩ (.int .i64 d1)).setCell ⟨N, 2, none⟩ (.int .i64 f1) = Y2 at hp2 hr2 hc2 hg2 ⊢
      obtain ⟨s1, s2, s3, s4, s5, s6⟩ := hr2
      obtain ⟨t1, t2, t3, t4, t5, t6, t7, t8⟩ := hp2
      have HC2 := Lib.hid hc2; have HG2 := Lib.hid hg2; clear hc2 hg2 hr hb hS hd e1 HNE HNWL HY
      simp only [fill, Act.put, List.setIfInBounds_toArray, List.set_cons_zero, List.set_cons_succ]
      go_wp2_with fail
      refine bodyPost_ret (by simp (maxDischargeDepth := 3) [results, Tryz.results97, go_sem, *]; try rfl) rfl ?_
      exact ⟨_, rfl, ⟨_, _, _, _, _, rfl⟩, HG2.out, HC2.out.le (by omega)⟩
    · skip
      go_wp2_with fail
      go_at_call 65
      refine (amongW_any _ _ _ _ _ _ HT.out.cr (by omega) (by rfl) (by decide) (by decide) (by simp only [AllI]; (repeat' apply And.intro); all_goals first | trivial | (refine anyI_mk ?_; first | assumption | exact i64w _ | exact i64w' _ | (unfold I64 at *; omega)))).mono ?_; rintro e' w6 ⟨v, rfl, ⟨z, rfl, zI⟩, hg, hc⟩
      have HU := Lib.hid (HT.out.grow hg hc)
      clear hg hc HT zI
      go_wp2_with fail
      go_at_call 65
      refine (amongW_any _ _ _ _ _ _ HU.out.cr (by omega) (by rfl) (by decide) (by decide) (by simp only [AllI]; (repeat' apply And.intro); all_goals first | trivial | (refine anyI_mk ?_; first | assumption | exact i64w _ | exact i64w' _ | (unfold I64 at *; omega)))).mono ?_; rintro e' w7 ⟨v, rfl, ⟨z2, rfl, zI⟩, hg, hc⟩
      have HV := Lib.hid (HU.out.grow hg hc)
      clear hg hc HU zI
      obtain ⟨a1, b1, hr⟩ := HV.out.r
      obtain ⟨c1, d1, f1, hp⟩ := HV.out.p
      have hst := st5 HV.out.cr HV.out.gr hr hp (Nat.le_refl _) HNWL.out HNE.out.1 1 (-10000) z z2 1
      obtain ⟨s1, s2, s3, s4, s5, s6⟩ := hr
      obtain ⟨t1, t2, t3, t4, t5, t6, t7, t8⟩ := hp
      have hne1 := HNE.out.1
      have hne2 := HNE.out.1.symm
      have HST := Lib.hid hst; clear hst
      go_wp2_with fail
      refine bodyPost_ret (by simp (maxDischargeDepth := 3) [results, Tryz.results97, go_sem, *]; try rfl) rfl ?_
      exact ⟨_, rfl, ⟨_, _, _, _, _, rfl⟩, HST.out.1, HST.out.2.le (by omega)⟩
    · have h0 : ¬ k = 0 := by omega
      have h1 : ¬ k = 1 := by omega
      have h2 : ¬ k = 2 := by omega
      have h3 : ¬ k = 3 := by omega
      have h4 : ¬ k = 4 := by omega
      have HY := Lib.hid (HT.out.le (lim' := lim + 10000) (by omega))
      clear HT hk
      go_wp2_with fail
      refine wp_region_steps [68, 69] RT (look [(68, VCe), (69, VPe (fun _ _ _ => True))]) (fun _ X => S18 w B w.heap.size N n (n + 1) (lim + 10000) X) (by kernel_rfl) (by kernel_rfl) (by decide) (look_keep ?_) ?_ ?_
      · intro q hq v x y hv hr
        simp only [List.mem_cons, List.not_mem_nil, or_false] at hq
        rcases hq with rfl | rfl
        all_goals exact hv
      · exact HY.out.drew
      refine Steps.cons ?_ ?_
      · refine TStep.of ?_ ?_ ?_
        · rfl
        · simp
        intro k g X hk9 hS hd
        obtain ⟨c1, d1, hb⟩ := hS.e
        refine ⟨_, X, wp_ldCb hb (by rw [eval_out (by decide)]; rfl), fun d e => ?_, hS, trivial⟩
        cases e; exact ⟨_, _, rfl⟩
      refine Steps.cons ?_ ?_
      · refine TStep.of ?_ ?_ ?_
        · rfl
        · simp
        intro k g X hk9 hS hd
        obtain ⟨c1, d1, f1, hb⟩ := hS.q
        refine ⟨_, X, wp_ldP hb (by rw [eval_out (by decide)]; rfl), fun d e => ?_, hS, trivial⟩
        cases e; exact ⟨_, _, _, rfl, trivial⟩
      refine Steps.cons ?_ ?_
      · refine TStep.of ?_ ?_ ?_
        · rfl
        · simp
        intro k g X hk9 hS hd
        obtain ⟨c1, d1, e1⟩ : VCe (g 68) X := hd 68 (mem_b (by kernel_rfl))
        obtain ⟨c2, d2, hb⟩ := hS.r
        refine ⟨undef, _, wp_stCb hb (by rw [eval_out (by decide)]; rfl) (by rw [eval_in (by decide) (by simp)]; exact e1), (by simp), hS.putR (Nat.le_refl _) HNE.out.1 HNE.out.2.1 HNE.out.2.2 c1 d1, trivial⟩
      refine Steps.one ?_
      refine LStep.of ?_ ?_
      · rfl
      intro g X hS hd
      obtain ⟨c1, d1, f1, e1, -⟩ : VPe _ (g 69) X := hd 69 (mem_b (by kernel_rfl))
      obtain ⟨c2, d2, f2, hb⟩ := hS.p
      obtain ⟨a2, b2, hr⟩ := hS.r
      refine ⟨undef, _, wp_stP hb (by rw [eval_out (by decide)]; rfl) (by rw [eval_in (by decide) (by simp)]; exact e1), ?_⟩
      have hp2 := hb.put c1 d1 f1
      have hr2 := (((hr.far1 (v := .int .i64 c1) (o := 0) HNE.out.1.symm).far1 (v := .int .i64 d1) (o := 1) HNE.out.1.symm).far1 (v := .int .i64 f1) (o := 2) HNE.out.1.symm)
      have hc2 := cr_putb (cr_putb (cr_putb hS.cr hb.2.1 hb.2.2.1 (.int .i64 c1)) hb.2.1 (hb.put0 c1).2.2.2.1 (.int .i64 d1)) hb.2.1 ((hb.put0 c1).put1 d1).2.2.2.2.1 (.int .i64 f1)
      have hg2 := set_grown (o := 2) (set_grown (o := 1) (set_grown (o := 0) hS.gr HNWL.out (.int .i64 c1)) HNWL.out (.int .i64 d1)) HNWL.out (.int .i64 f1)
      generalize ((X.setCell ⟨N, 0, none⟩ (.int .i64 c1)).setCell ⟨N, 1, none⟩ (.int .i64 d1)).setCell ⟨N, 2, none⟩ (.int .i64 f1) = Y2 at hp2 hr2 hc2 hg2 ⊢
      obtain ⟨s1, s2, s3, s4, s5, s6⟩ := hr2
      obtain ⟨t1, t2, t3, t4, t5, t6, t7, t8⟩ := hp2
      have HC2 := Lib.hid hc2; have HG2 := Lib.hid hg2; clear hc2 hg2 hr hb hS hd e1 HNE HNWL HY
      simp only [fill, Act.put, List.setIfInBounds_toArray, List.set_cons_zero, List.set_cons_succ]
      go_wp2_with fail
      refine bodyPost_ret (by simp (maxDischargeDepth := 3) [results, Tryz.results97, go_sem, *]; try rfl) rfl ?_
      exact ⟨_, rfl, ⟨_, _, _, _, _, rfl⟩, HG2.out, HC2.out.le (by omega)⟩
end Go.Proofs.YtakilincclnpdaaGreatDoor
namespace Go.Proofs.YtakilincclnpdaaGreatDoor
open Go.RowKit

def RetPt (w : World) (e : Ending) (w' : World) : Prop := ∃ a b x y e0 : Int, e = .returned (.tuple #[.agg #[.int .i64 a, .int .i64 b], .agg #[.int .i64 x, .int .i64 y, .int .i64 e0]]) ∧ Below w.heap.size w w'
theorem grown_bel {w X : World} {B : Nat} (g : w.grownBy X (some B)) (hB : w.heap.size ≤ B) : Below w.heap.size w X :=
  ⟨g.os, g.tape, g.output, g.size, fun i hi => g.block i hi (by intro e; cases e; omega)⟩
theorem s18_two {w X : World} {B R N n : Nat} {lim : Int} {a0 b0 x0 y0 e0 : Int} (hc : Cr X B lim) (hg : w.grownBy X (some B)) (hr : BoxC B X R a0 b0) (hp : BoxP B X N x0 y0 e0) (hn : n = X.heap.size) (a b x y e : Int) :
    S18 w B R N n (n + 1) lim ((X.alloc (.cells #[.int .i64 a, .int .i64 b] 50)).alloc (.cells #[.int .i64 x, .int .i64 y, .int .i64 e] 52)) := by
  subst hn
  have hb2 : Below X.heap.size X ((X.alloc (.cells #[.int .i64 a, .int .i64 b] 50)).alloc (.cells #[.int .i64 x, .int .i64 y, .int .i64 e] 52)) := bel_alloc (below_allocD _ _) _
  have hx := (BoxC.new (B := B) a b 50 hc.lt).keep (below_grown B (below_allocD _ (.cells #[.int .i64 x, .int .i64 y, .int .i64 e] 52)))
  have hy : BoxP B ((X.alloc (.cells #[.int .i64 a, .int .i64 b] 50)).alloc (.cells #[.int .i64 x, .int .i64 y, .int .i64 e] 52)) (X.heap.size + 1) x y e := by
    have := BoxP.new (B := B) (w := X.alloc (.cells #[.int .i64 a, .int .i64 b] 50)) x y e 52 (by have := hc.lt; simp; omega)
    rwa [show (X.alloc (.cells #[.int .i64 a, .int .i64 b] 50)).heap.size = X.heap.size + 1 by simp] at this
  exact ⟨hc.keep' hb2, grown_belowD hg hb2, ⟨_, _, hr.keep (below_grown B hb2)⟩, ⟨_, _, _, hp.keep (below_grown B hb2)⟩, ⟨_, _, hx⟩, ⟨_, _, _, hy⟩⟩
set_option maxHeartbeats 4000000 in
set_option maxRecDepth 100000 in
theorem drawIsPointOf_any (ad : Option Addr) (len cap : Nat) (zs : List Int) (w : World) (h : IsRow .u8 w ad len cap zs) (hl : len ≤ 1048576) :
    Calls Tryz.prog 84 #[.slice ad len cap] w (RetPt w) := by
  have h0 : Below w.heap.size w ((w.alloc (.cells #[.int .i64 0, .int .i64 0] 50)).alloc (.cells #[.int .i64 0, .int .i64 0, .int .i64 0] 52)) := bel_alloc (below_allocD _ _) _
  have hc0 := cr_startb h (by omega) h0 75
  have hz0 : ((w.alloc (.cells #[.int .i64 0, .int .i64 0] 50)).alloc (.cells #[.int .i64 0, .int .i64 0, .int .i64 0] 52)).heap.size = w.heap.size + 1 + 1 := by simp
  have hr0 : BoxC (w.heap.size + 1 + 1) (((w.alloc (.cells #[.int .i64 0, .int .i64 0] 50)).alloc (.cells #[.int .i64 0, .int .i64 0, .int .i64 0] 52)).alloc (.cells #[.slice ad len cap, .int .i64 0, .int .u64 0] 75)) w.heap.size 0 0 :=
    ⟨by simp <;> omega, by omega, by simp [go_sem], by simp [go_sem], by simp [go_sem], by simp [go_sem]⟩
  have hr1 : BoxP (w.heap.size + 1 + 1) (((w.alloc (.cells #[.int .i64 0, .int .i64 0] 50)).alloc (.cells #[.int .i64 0, .int .i64 0, .int .i64 0] 52)).alloc (.cells #[.slice ad len cap, .int .i64 0, .int .u64 0] 75)) (w.heap.size + 1) 0 0 0 :=
    ⟨by simp <;> omega, by omega, by simp [go_sem], by simp [go_sem], by simp [go_sem], by simp [go_sem], by simp [go_sem], by simp [go_sem]⟩
  have hl1 : Below w.heap.size w (((w.alloc (.cells #[.int .i64 0, .int .i64 0] 50)).alloc (.cells #[.int .i64 0, .int .i64 0, .int .i64 0] 52)).alloc (.cells #[.slice ad len cap, .int .i64 0, .int .u64 0] 75)) := bel_alloc h0 _
  have HC0 := Lib.hid hc0; have HL0 := Lib.hid hl1; have HR0 := Lib.hid hr0; have HS0 := Lib.hid hr1; have HZ0 := Lib.hid hz0; clear hc0 h0 hr0 hr1 hl1 hz0 h
  go_enter Tryz.func84, Tryz.ntmps84
  go_wp2_with fail
  have hc0 := HC0.out; have hr0 := HR0.out; have hs0 := HS0.out; have hl0 := HL0.out
  rw [HZ0.out] at hc0
  clear HC0 HR0 HS0 HL0 HZ0
  generalize ((w.alloc (.cells #[.int .i64 0, .int .i64 0] 50)).alloc (.cells #[.int .i64 0, .int .i64 0, .int .i64 0] 52)).alloc (.cells #[.slice ad len cap, .int .i64 0, .int .u64 0] 75) = V at hc0 hr0 hs0 hl0 ⊢
  obtain ⟨N, hN⟩ : ∃ N, N = w.heap.size + 1 := ⟨_, rfl⟩
  obtain ⟨B, hB⟩ : ∃ B, B = w.heap.size + 1 + 1 := ⟨_, rfl⟩
  rw [← hB] at hc0 hr0 hs0 ⊢
  rw [← hN] at hs0 ⊢
  have HN := Lib.hid (And.intro hN hB); clear hN hB
  have hg0 := below_grown B hl0
  refine (anyPoint_any B _ _ hc0 (by omega)).mono ?_; rintro e w1 ⟨v, rfl, ⟨a, b, x, y, e0, rfl⟩, hg1, hc1⟩
  have hg2 := grown_trans hg0 hg1; have hr2 := hr0.keep hg1; have hs2 := hs0.keep hg1
  clear hg1 hg0 hr0 hs0 hl0 hc0
  have HK := Lib.hid (And.intro hc1 (And.intro hg2 (And.intro hr2 hs2))); clear hc1 hg2 hr2 hs2
  go_wp2_with fail
  have hy := s18_two (n := w1.heap.size) HK.out.1 HK.out.2.1 HK.out.2.2.1 HK.out.2.2.2 rfl a b x y e0
  have hn1 := HK.out.2.2.1.1; have hn2 := HK.out.2.2.2.1
  generalize (w1.alloc (.cells #[.int .i64 a, .int .i64 b] 50)).alloc (.cells #[.int .i64 x, .int .i64 y, .int .i64 e0] 52) = Y at hy ⊢
  generalize w1.heap.size = n at hy hn1 hn2 ⊢
  have HNE := Lib.hid (show N ≠ w.heap.size ∧ n ≠ w.heap.size ∧ n + 1 ≠ w.heap.size by have := HN.out; omega)
  have HNWL := Lib.hid (show w.heap.size ≤ N by have := HN.out; omega)
  obtain ⟨lim, hlim⟩ : ∃ lim : Int, lim = 20000 := ⟨_, rfl⟩
  have HY := Lib.hid (hy.le (lim' := lim + 10000) (by omega))
  clear hy HK hn1 hn2 hlim
  refine wp_region_steps [15, 16] RT (look [(15, VCe), (16, VPe (fun _ _ _ => True))]) (fun _ X => S18 w B w.heap.size N n (n + 1) (lim + 10000) X) (by kernel_rfl) (by kernel_rfl) (by decide) (look_keep ?_) ?_ ?_
  · intro q hq v x y hv hr
    simp only [List.mem_cons, List.not_mem_nil, or_false] at hq
    rcases hq with rfl | rfl
    all_goals exact hv
  · exact HY.out.drew
  refine Steps.cons ?_ ?_
  · refine TStep.of ?_ ?_ ?_
    · rfl
    · simp
    intro k g X hk9 hS hd
    obtain ⟨c1, d1, hb⟩ := hS.e
    refine ⟨_, X, wp_ldCb hb (by rw [eval_out (by decide)]; rfl), fun d e => ?_, hS, trivial⟩
    cases e; exact ⟨_, _, rfl⟩
  refine Steps.cons ?_ ?_
  · refine TStep.of ?_ ?_ ?_
    · rfl
    · simp
    intro k g X hk9 hS hd
    obtain ⟨c1, d1, f1, hb⟩ := hS.q
    refine ⟨_, X, wp_ldP hb (by rw [eval_out (by decide)]; rfl), fun d e => ?_, hS, trivial⟩
    cases e; exact ⟨_, _, _, rfl, trivial⟩
  refine Steps.cons ?_ ?_
  · refine TStep.of ?_ ?_ ?_
    · rfl
    · simp
    intro k g X hk9 hS hd
    obtain ⟨c1, d1, e1⟩ : VCe (g 15) X := hd 15 (mem_b (by kernel_rfl))
    obtain ⟨c2, d2, hb⟩ := hS.r
    refine ⟨undef, _, wp_stCb hb (by rw [eval_out (by decide)]; rfl) (by rw [eval_in (by decide) (by simp)]; exact e1), (by simp), hS.putR (Nat.le_refl _) HNE.out.1 HNE.out.2.1 HNE.out.2.2 c1 d1, trivial⟩
  refine Steps.one ?_
  refine LStep.of ?_ ?_
  · rfl
  intro g X hS hd
  obtain ⟨c1, d1, f1, e1, -⟩ : VPe _ (g 16) X := hd 16 (mem_b (by kernel_rfl))
  obtain ⟨c2, d2, f2, hb⟩ := hS.p
  obtain ⟨a2, b2, hr⟩ := hS.r
  refine ⟨undef, _, wp_stP hb (by rw [eval_out (by decide)]; rfl) (by rw [eval_in (by decide) (by simp)]; exact e1), ?_⟩
  have hp2 := hb.put c1 d1 f1
  have hr2 := (((hr.far1 (v := .int .i64 c1) (o := 0) HNE.out.1.symm).far1 (v := .int .i64 d1) (o := 1) HNE.out.1.symm).far1 (v := .int .i64 f1) (o := 2) HNE.out.1.symm)
  have hc2 := cr_putb (cr_putb (cr_putb hS.cr hb.2.1 hb.2.2.1 (.int .i64 c1)) hb.2.1 (hb.put0 c1).2.2.2.1 (.int .i64 d1)) hb.2.1 ((hb.put0 c1).put1 d1).2.2.2.2.1 (.int .i64 f1)
  have hg2 := set_grown (o := 2) (set_grown (o := 1) (set_grown (o := 0) hS.gr HNWL.out (.int .i64 c1)) HNWL.out (.int .i64 d1)) HNWL.out (.int .i64 f1)
  generalize ((X.setCell ⟨N, 0, none⟩ (.int .i64 c1)).setCell ⟨N, 1, none⟩ (.int .i64 d1)).setCell ⟨N, 2, none⟩ (.int .i64 f1) = Y2 at hp2 hr2 hc2 hg2 ⊢
  obtain ⟨s1, s2, s3, s4, s5, s6⟩ := hr2
  obtain ⟨t1, t2, t3, t4, t5, t6, t7, t8⟩ := hp2
  have HC2 := Lib.hid hc2; have HG2 := Lib.hid hg2; clear hc2 hg2 hr hb hS hd e1 HNE HNWL HY
  simp only [fill, Act.put, List.setIfInBounds_toArray, List.set_cons_zero, List.set_cons_succ]
  go_wp2_with fail
  refine bodyPost_ret (by simp (maxDischargeDepth := 3) [results, Tryz.results84, go_sem, *]; try rfl) rfl ?_
  exact ⟨_, _, _, _, _, rfl, grown_bel HG2.out (by have := HN.out; omega)⟩
set_option maxHeartbeats 2000000 in
theorem drawPointText_any (ad : Option Addr) (len cap : Nat) (zs : List Int) (w : World) (h : IsRow .u8 w ad len cap zs) (hl : len ≤ 1048576) :
    Calls Tryz.prog 32 #[.slice ad len cap] w (RetPt w) := by
  have hb0 : Below w.heap.size w ((w.alloc (.cells #[.int .i64 0, .int .i64 0] 50)).alloc (.cells #[.int .i64 0, .int .i64 0, .int .i64 0] 52)) := bel_alloc (below_allocD _ _) _
  have hk := isRow_keepDb h hb0
  have hr0 : BoxC (w.heap.size + 2) ((w.alloc (.cells #[.int .i64 0, .int .i64 0] 50)).alloc (.cells #[.int .i64 0, .int .i64 0, .int .i64 0] 52)) w.heap.size 0 0 := ⟨by simp <;> omega, by omega, by simp [go_sem], by simp [go_sem], by simp [go_sem], by simp [go_sem]⟩
  have hr1 : BoxP (w.heap.size + 2) ((w.alloc (.cells #[.int .i64 0, .int .i64 0] 50)).alloc (.cells #[.int .i64 0, .int .i64 0, .int .i64 0] 52)) (w.heap.size + 1) 0 0 0 := ⟨by simp <;> omega, by omega, by simp [go_sem], by simp [go_sem], by simp [go_sem], by simp [go_sem], by simp [go_sem], by simp [go_sem]⟩
  have HK := Lib.hid hk; have H0 := Lib.hid hb0; have HR := Lib.hid hr0; have HP := Lib.hid hr1
  clear hk h hb0 hr0 hr1
  go_enter Tryz.func32, Tryz.ntmps32
  go_wp2_with fail
  refine (drawIsPointOf_any _ _ _ _ _ HK.out hl).mono ?_; rintro e w1 ⟨a, b, x, y, e0, rfl, hb⟩
  have H1 := Lib.hid (bel_trans hb H0.out)
  obtain ⟨r1, r2, r3, r4, r5, r6⟩ := HR.out.keep (below_grown _ hb)
  obtain ⟨t1, t2, t3, t4, t5, t6, t7, t8⟩ := HP.out.keep (below_grown _ hb)
  clear hb HK H0 HR HP r2 t2
  go_wp2_with fail
  refine bodyPost_ret (by simp (maxDischargeDepth := 3) [results, Tryz.results32, go_sem, *]; try rfl) rfl ?_
  exact ⟨_, _, _, _, _, rfl, ((((H1.out.setCell (by dsimp only; omega) _).setCell (by dsimp only; omega) _).setCell (by dsimp only; omega) _).setCell (by dsimp only; omega) _).setCell (by dsimp only; omega) _⟩
end Go.Proofs.YtakilincclnpdaaGreatDoor
