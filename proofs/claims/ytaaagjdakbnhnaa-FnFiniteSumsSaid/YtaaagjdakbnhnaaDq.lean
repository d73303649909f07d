/- Dq: contracts: DrawAddModulo, DrawTimesModulo: whatever the bytes are, a curve, a prime, numbers and slices come out. No conditions. -/
import Derived.Test.YtaaagjdakbnhnaaDh
namespace Go.Proofs.Ytaaagjdakbnhnaa
open Go.RowKit

theorem u8_bd {n : Int} (h : (Lit.int .u8 n).wf = true) : 0 ≤ n ∧ n ≤ 255 := by
  simp [Lit.wf, IntKind.min, IntKind.max, IntKind.signed, IntKind.bits] at h
  omega
/-- the reader's box at the start. -/
theorem cr_start {w V : World} {ad : Option Addr} {len cap : Nat} {zs : List Int} (h : IsRow .u8 w ad len cap zs) (hl : len ≤ 2097152) (hb : Below w.heap.size w V) (t : TypeId) :
    Cr (V.alloc (.cells #[.slice ad len cap, .int .i64 0, .int .u64 0] t)) V.heap.size 0 := by
  refine ⟨by simp, by simp [go_sem], by simp [go_sem], ad, len, cap, 0, 0, by simp [go_sem], by simp [go_sem], by simp [go_sem], by omega, by omega, by omega, by omega, hl, fun hp => ?_⟩
  rcases h with ⟨rfl, rfl, rfl, rfl⟩ | ⟨x, rfl, hlc, hm, hz, hcell, hwz⟩
  · omega
  · obtain ⟨b, off, spot⟩ := x
    have h0 := hcell 0 (by omega)
    have hspot : spot = none := by simpa [Addr.add] using World.cell?_spot h0
    subst hspot
    have hbl : b < w.heap.size := by
      have := World.block_lt_of_cell? w _ h0
      simpa [Addr.add] using this
    have hbV := Nat.lt_of_lt_of_le hbl hb.size
    refine ⟨b, off, rfl, hbV, fun i hi => ?_⟩
    have hi' := hcell i (by omega)
    have he : ((⟨b, off, none⟩ : Addr).add i) = ⟨b, off + i, none⟩ := by unfold Addr.add; split <;> simp_all
    rw [he] at hi'
    have hmem : zs.getD i 0 ∈ zs := by rw [List.getD_eq_getElem?_getD, List.getElem?_eq_getElem (by omega)]; exact List.getElem_mem (by omega)
    obtain ⟨q0, q1⟩ := u8_bd (hwz _ hmem)
    exact ⟨_, q0, q1, ((below_allocD V _).cell (p := ⟨b, off + i, none⟩) hbV).trans ((hb.cell (p := ⟨b, off + i, none⟩) hbl).trans hi')⟩
theorem SlB.le {M M' : Nat} {w : World} {v : Value} (h : SlB M w v) (hm : M' ≤ M) : SlB M' w v := by
  obtain ⟨xs, h1, h2, h3, h4⟩ := h
  exact ⟨xs, h1, h2, fun b off k n c e => Nat.le_trans hm (h3 b off k n c e), h4⟩
def SlD (w : World) (v : Value) : Prop := ∃ xs, Rd w v xs ∧ NilZ v
theorem SlB.d {M : Nat} {w : World} {v : Value} (h : SlB M w v) : SlD w v := by
  obtain ⟨xs, h1, h2, _⟩ := h
  exact ⟨xs, h1, h2⟩
def RetAdd (w : World) (e : Ending) (w' : World) : Prop := ∃ (a b p : Int) (v u : Value), e = .returned (.tuple #[.agg #[.int .i64 a, .int .i64 b], .int .i64 p, v, u]) ∧ SlD w' v ∧ SlD w' u ∧ Below w.heap.size w w'
set_option maxHeartbeats 4000000 in
theorem drawAddModulo_any (ad : Option Addr) (len cap : Nat) (zs : List Int) (w : World) (h : IsRow .u8 w ad len cap zs) (hl : len ≤ 1048576) :
    Calls Try.prog 5 #[.slice ad len cap] w (RetAdd w) := by
  have h0 : Below w.heap.size w (w.alloc (.cells #[.int .i64 0, .int .i64 0] 25)) := below_allocD _ _
  have hc0 := cr_start h (by omega) h0 41
  have hz0 : (w.alloc (.cells #[.int .i64 0, .int .i64 0] 25)).heap.size = w.heap.size + 1 := by simp
  have hr0 : BoxC (w.alloc (.cells #[.int .i64 0, .int .i64 0] 25)).heap.size ((w.alloc (.cells #[.int .i64 0, .int .i64 0] 25)).alloc (.cells #[.slice ad len cap, .int .i64 0, .int .u64 0] 41)) w.heap.size 0 0 :=
    ⟨by simp, by simp, by simp [go_sem], by simp [go_sem], by simp [go_sem], by simp [go_sem]⟩
  have hl1 : Below w.heap.size w ((w.alloc (.cells #[.int .i64 0, .int .i64 0] 25)).alloc (.cells #[.slice ad len cap, .int .i64 0, .int .u64 0] 41)) := bel_alloc h0 _
  have HC0 := Lib.hid hc0; have HL0 := Lib.hid hl1; have HR0 := Lib.hid hr0; have HZ0 := Lib.hid hz0; clear hc0 h0 hr0 hl1 hz0 h
  go_enter Try.func5, Try.ntmps5
  go_wp2_with fail
  have hc0 := HC0.out; have hr0 := HR0.out; have hl0 := HL0.out
  rw [HZ0.out] at hc0 hr0
  clear HC0 HR0 HL0 HZ0
  generalize (w.alloc (.cells #[.int .i64 0, .int .i64 0] 25)).alloc (.cells #[.slice ad len cap, .int .i64 0, .int .u64 0] 41) = V at hc0 hr0 hl0 ⊢
  obtain ⟨N, hN⟩ : ∃ N, N = w.heap.size := ⟨_, rfl⟩
  obtain ⟨B, hB⟩ : ∃ B, B = w.heap.size + 1 := ⟨_, rfl⟩
  rw [← hB] at hc0 hr0 ⊢
  rw [← hN] at hr0 ⊢
  have HN := Lib.hid hN; have HB0 := Lib.hid hB; clear hN hB
  have HC0 := Lib.hid hc0; have HR0 := Lib.hid hr0; have HL0 := Lib.hid hl0; clear hc0 hr0 hl0
  refine (anyCurve_any B _ _ HC0.out (by omega)).mono ?_; rintro e w1 ⟨v, rfl, ⟨a, b, rfl, ai, bi⟩, hg1, hc1⟩
  have HC1 := Lib.hid hc1; have HG1 := Lib.hid hg1; have HR1 := Lib.hid (HR0.out.keep hg1); clear hg1 hc1
  go_wp2_with fail
  refine (fieldPrime_any B _ _ HC1.out (by omega)).mono ?_; rintro e w2 ⟨v, rfl, ⟨p, rfl, pi⟩, hg2, hc2⟩
  have HC2 := Lib.hid hc2; have HG2 := Lib.hid (grown_trans HG1.out hg2); have HR2 := Lib.hid (HR1.out.keep hg2); clear hg2 hc2
  go_wp2_with fail
  have hc3 : Cr (w2.alloc (.cells #[.int .i64 a, .int .i64 b] 25)) B _ := HC2.out.keep' (below_allocD _ _)
  have hg3 : w2.grownBy (w2.alloc (.cells #[.int .i64 a, .int .i64 b] 25)) (some B) := below_grown B (below_allocD _ _)
  have hb3 := BoxC.new a b 25 HC2.out.lt
  have hn3 := HR2.out.1
  generalize w2.alloc (.cells #[.int .i64 a, .int .i64 b] 25) = w3 at hc3 hg3 hb3 ⊢
  generalize w2.heap.size = n at hb3 hn3 ⊢
  have HB3 := Lib.hid hb3; clear hb3
  have HC3 := Lib.hid hc3; have HG3 := Lib.hid (grown_trans HG2.out hg3); have HR3 := Lib.hid (HR2.out.keep hg3); clear hg3 hc3
  refine (pointModulo_any B _ a b p _ HC3.out (by omega)).mono ?_; rintro e w4 ⟨v, rfl, hs4, hg4, hc4⟩
  have HC4 := Lib.hid hc4; have HG4 := Lib.hid (grown_trans HG3.out hg4); have HR4 := Lib.hid (HR3.out.keep hg4); have HB4 := Lib.hid (HB3.out.keep hg4); have HS4 := Lib.hid hs4; clear hg4 hc4 hs4
  go_wp2_with fail
  refine (one_any B _ 4 _ HC4.out (by omega) (by omega) (by omega)).mono ?_; rintro e w5 ⟨u, rfl, ⟨bo, rfl⟩, hg5, hc5⟩
  have HC5 := Lib.hid hc5; have HG5 := Lib.hid (grown_trans HG4.out hg5); have HR5 := Lib.hid (HR4.out.keep hg5); have HB5 := Lib.hid (HB4.out.keep hg5); have HM : N + 2 ≤ w3.heap.size := by have := HC3.out.lt; have := HN.out; have := HB0.out; omega
  have HS5 := Lib.hid ((HS4.out.keep hg5 HC3.out.lt).le HM); clear hg5 hc5 HM
  clear HC0 HC1 HC2 HC3 HC4 HG1 HG2 HG3 HG4 HR0 HR1 HR2 HR3 HR4 HB3 HB4 HS4
  rcases bo with _ | _
  · go_wp2_with fail
    have hnN : n ≠ N := by omega
    have hwB : w.heap.size ≤ B := by have := HB0.out; omega
    have hBM : B < N + 2 := by have := HN.out; have := HB0.out; omega
    have hwN : w.heap.size ≤ N := by have := HN.out; omega
    have hNM : N < N + 2 := by omega
    refine wp_region_steps [28, 29, 30, 31, 32, 33, 34, 3, 4, 5] (RD B N) (TD (N + 2) [28, 32] [29, 33, 3] [30, 4] [31] [34] [] [] a b p B (v)) (SD w N B n (N + 2) a b (v)) (by kernel_rfl) (by kernel_rfl) (by decide) (fun d u x y hT hR => hT.keep hR hBM hNM) ?_ ?_
    · exact ⟨(HC5.out.keep' (bel_drew (Below.refl _ _))).le (by omega), bel_drew (grown_belowN HL0.out HG5.out hwB (Nat.le_refl _)), HB5.out.keep (below_grown B (bel_drew (Below.refl _ _))), HS5.out.keep (below_grown B (bel_drew (Below.refl _ _))) hBM, ⟨_, _, HR5.out.keep (below_grown B (bel_drew (Below.refl _ _)))⟩, by have := HC5.out.lt; have := HN.out; have := HB0.out; simp; omega⟩
    refine Steps.cons ?_ ?_
    · refine TStep.of ?_ ?_ ?_
      · rfl
      · simp
      intro k g x hk9 hS hd
      refine ⟨_, x, wp_ldC hS.2.2.1 (by rw [eval_out (by decide)]; rfl), fun d e => ?_, hS.same, RD.refl B N x⟩
      cases e; exact TD.of_cs rfl (by decide) (by decide) (by decide) (by decide) (by decide) (by decide)
    refine Steps.cons ?_ ?_
    · refine TStep.move 8 ?_ ?_ ?_ ?_ ?_ ?_
      · exact .inl rfl
      · rfl
      · simp
      · exact fun _ _ h => h.same
      · exact RD.refl B N
      intro g x hd d e; cases e; rw [eval_out (by decide)]; exact TD.of_ps rfl (by decide) (by decide) (by decide) (by decide) (by decide) (by decide)
    refine Steps.cons ?_ ?_
    · refine TStep.move 9 ?_ ?_ ?_ ?_ ?_ ?_
      · exact .inl rfl
      · rfl
      · simp
      · exact fun _ _ h => h.same
      · exact RD.refl B N
      intro g x hd d e; cases e; rw [eval_out (by decide)]; exact TD.of_ss rfl (by decide) (by decide) (by decide) (by decide) (by decide) (by decide)
    refine Steps.cons ?_ ?_
    · refine TStep.move 6 ?_ ?_ ?_ ?_ ?_ ?_
      · exact .inl rfl
      · rfl
      · simp
      · exact fun _ _ h => h.same
      · exact RD.refl B N
      intro g x hd d e; cases e; rw [eval_out (by decide)]; exact TD.of_bs rfl (by decide) (by decide) (by decide) (by decide) (by decide) (by decide)
    refine Steps.cons ?_ ?_
    · refine TStep.of ?_ ?_ ?_
      · rfl
      · simp
      intro k g x hk9 hS hd
      refine ⟨_, x, wp_ldC hS.2.2.1 (by rw [eval_out (by decide)]; rfl), fun d e => ?_, hS.same, RD.refl B N x⟩
      cases e; exact TD.of_cs rfl (by decide) (by decide) (by decide) (by decide) (by decide) (by decide)
    refine Steps.cons ?_ ?_
    · refine TStep.move 8 ?_ ?_ ?_ ?_ ?_ ?_
      · exact .inl rfl
      · rfl
      · simp
      · exact fun _ _ h => h.same
      · exact RD.refl B N
      intro g x hd d e; cases e; rw [eval_out (by decide)]; exact TD.of_ps rfl (by decide) (by decide) (by decide) (by decide) (by decide) (by decide)
    refine Steps.cons ?_ ?_
    · refine TStep.call ?_ ?_ ?_
      · rfl
      · simp
      intro k g x hk9 hS hd
      refine ⟨_, _, wp_call_of (run_callPM _ (by rfl)), ?_⟩
      rw [eval_in (i := 31) (by decide) (by simp), eval_in (i := 32) (by decide) (by simp), eval_in (i := 33) (by decide) (by simp), (hd 31 (mem_b (by kernel_rfl))).2.2.2.1 (by decide), (hd 32 (mem_b (by kernel_rfl))).1 (by decide), (hd 33 (mem_b (by kernel_rfl))).2.1 (by decide)]
      refine (pointModulo_any B _ a b p _ hS.1 (by have h9 : k < 11 := hk9; omega)).mono ?_
      rintro e x' ⟨v', rfl, hs', hg', hc'⟩
      have hm := hS.2.2.2.2.2
      refine ⟨v', rfl, fun d e => ?_, hS.step hg' (hc'.le (by omega)) hwB hBM, RD.grown hg'⟩
      cases e; exact TD.of_qs (hs'.le hm) (by decide) (by decide) (by decide) (by decide) (by decide) (by decide)
    refine Steps.cons ?_ ?_
    · refine TStep.of ?_ ?_ ?_
      · rfl
      · simp
      intro k g x hk9 hS hd
      refine ⟨undef, _, wp_stC (hS.2.2.2.2.1.choose_spec.choose_spec) (by rw [eval_out (by decide)]; rfl) (by rw [eval_in (by decide) (by simp)]; exact (hd 28 (mem_b (by kernel_rfl))).1 (by decide)), (by simp), (hS.put hnN hwN hNM a b).1, (hS.put hnN hwN hNM a b).2⟩
    refine Steps.cons ?_ ?_
    · refine TStep.move 29 ?_ ?_ ?_ ?_ ?_ ?_
      · exact .inr rfl
      · rfl
      · simp
      · exact fun _ _ h => h.same
      · exact RD.refl B N
      intro g x hd d e; cases e; rw [eval_in (by decide) (by simp)]; exact TD.of_ps ((hd 29 (mem_b (by kernel_rfl))).2.1 (by decide)) (by decide) (by decide) (by decide) (by decide) (by decide) (by decide)
    refine Steps.cons ?_ ?_
    · refine TStep.move 30 ?_ ?_ ?_ ?_ ?_ ?_
      · exact .inr rfl
      · rfl
      · simp
      · exact fun _ _ h => h.same
      · exact RD.refl B N
      intro g x hd d e; cases e; rw [eval_in (by decide) (by simp)]; exact TD.of_ss ((hd 30 (mem_b (by kernel_rfl))).2.2.1 (by decide)) (by decide) (by decide) (by decide) (by decide) (by decide) (by decide)
    refine Steps.one ?_
    refine LStep.move 34 ?_ ?_ ?_
    · exact .inr rfl
    · rfl
    intro g x hS hd
    have g3 := (hd 3 (mem_b (by kernel_rfl))).2.1 (by decide)
    have g4 := (hd 4 (mem_b (by kernel_rfl))).2.2.1 (by decide)
    have gq := (hd 34 (mem_b (by kernel_rfl))).2.2.2.2.1 (by decide)
    rw [eval_in (by decide) (by simp)]
    generalize g 34 = u at gq ⊢
    simp only [fill, Act.put, List.setIfInBounds_toArray, List.set_cons_zero, List.set_cons_succ]
    rw [g3, g4]
    obtain ⟨s1, s2, s3, s4, ⟨a', b', s5⟩, s6⟩ := hS
    obtain ⟨r1, r2, r3, r4, r5, r6⟩ := s5
    have S2 := Lib.hid s2; have S4 := Lib.hid s4.d; have GQ := Lib.hid gq.d; clear s1 s2 s3 s4 s6 gq g3 g4 hd
    clear HB0 HN HL0 HC5 HG5 HR5 HB5 HS5
    go_wp2_with fail
    refine bodyPost_ret (by simp (maxDischargeDepth := 3) [results, Try.results5, go_sem, *]; try rfl) rfl ?_
    exact ⟨_, _, _, _, _, rfl, S4.out, GQ.out, S2.out⟩
  · go_wp2_with fail
    have hnN : n ≠ N := by omega
    have hwB : w.heap.size ≤ B := by have := HB0.out; omega
    have hBM : B < N + 2 := by have := HN.out; have := HB0.out; omega
    have hwN : w.heap.size ≤ N := by have := HN.out; omega
    have hNM : N < N + 2 := by omega
    refine wp_region_steps [23, 24, 25, 26, 27, 3, 4, 5] (RD B N) (TD (N + 2) [23] [24, 3] [25, 26, 4] [] [27] [] [] a b p B (v)) (SD w N B n (N + 2) a b (v)) (by kernel_rfl) (by kernel_rfl) (by decide) (fun d u x y hT hR => hT.keep hR hBM hNM) ?_ ?_
    · exact ⟨(HC5.out.keep' (bel_drew (Below.refl _ _))).le (by omega), bel_drew (grown_belowN HL0.out HG5.out hwB (Nat.le_refl _)), HB5.out.keep (below_grown B (bel_drew (Below.refl _ _))), HS5.out.keep (below_grown B (bel_drew (Below.refl _ _))) hBM, ⟨_, _, HR5.out.keep (below_grown B (bel_drew (Below.refl _ _)))⟩, by have := HC5.out.lt; have := HN.out; have := HB0.out; simp; omega⟩
    refine Steps.cons ?_ ?_
    · refine TStep.of ?_ ?_ ?_
      · rfl
      · simp
      intro k g x hk9 hS hd
      refine ⟨_, x, wp_ldC hS.2.2.1 (by rw [eval_out (by decide)]; rfl), fun d e => ?_, hS.same, RD.refl B N x⟩
      cases e; exact TD.of_cs rfl (by decide) (by decide) (by decide) (by decide) (by decide) (by decide)
    refine Steps.cons ?_ ?_
    · refine TStep.move 8 ?_ ?_ ?_ ?_ ?_ ?_
      · exact .inl rfl
      · rfl
      · simp
      · exact fun _ _ h => h.same
      · exact RD.refl B N
      intro g x hd d e; cases e; rw [eval_out (by decide)]; exact TD.of_ps rfl (by decide) (by decide) (by decide) (by decide) (by decide) (by decide)
    refine Steps.cons ?_ ?_
    · refine TStep.move 9 ?_ ?_ ?_ ?_ ?_ ?_
      · exact .inl rfl
      · rfl
      · simp
      · exact fun _ _ h => h.same
      · exact RD.refl B N
      intro g x hd d e; cases e; rw [eval_out (by decide)]; exact TD.of_ss rfl (by decide) (by decide) (by decide) (by decide) (by decide) (by decide)
    refine Steps.cons ?_ ?_
    · refine TStep.move 9 ?_ ?_ ?_ ?_ ?_ ?_
      · exact .inl rfl
      · rfl
      · simp
      · exact fun _ _ h => h.same
      · exact RD.refl B N
      intro g x hd d e; cases e; rw [eval_out (by decide)]; exact TD.of_ss rfl (by decide) (by decide) (by decide) (by decide) (by decide) (by decide)
    refine Steps.cons ?_ ?_
    · refine TStep.call ?_ ?_ ?_
      · rfl
      · simp
      intro k g x hk9 hS hd
      refine ⟨_, _, wp_call_of (run_callOwn _ (by rfl)), ?_⟩
      rw [eval_in (i := 26) (by decide) (by simp), (hd 26 (mem_b (by kernel_rfl))).2.2.1 (by decide)]
      obtain ⟨xs, q1, q2, q3, q4⟩ := hS.2.2.2.1
      have hm := hS.2.2.2.2.2
      refine (l1Own_any _ _ _ q1 q2 (by omega)).mono ?_
      rintro e x' ⟨v', rfl, hb', ho'⟩
      refine ⟨v', rfl, fun d e => ?_, hS.step (below_grown B hb') ((hS.1.keep' hb').le (by omega)) hwB hBM, RD.grown (below_grown B hb')⟩
      cases e; exact TD.of_qs (SlB.own ho' hm q4) (by decide) (by decide) (by decide) (by decide) (by decide) (by decide)
    refine Steps.cons ?_ ?_
    · refine TStep.of ?_ ?_ ?_
      · rfl
      · simp
      intro k g x hk9 hS hd
      refine ⟨undef, _, wp_stC (hS.2.2.2.2.1.choose_spec.choose_spec) (by rw [eval_out (by decide)]; rfl) (by rw [eval_in (by decide) (by simp)]; exact (hd 23 (mem_b (by kernel_rfl))).1 (by decide)), (by simp), (hS.put hnN hwN hNM a b).1, (hS.put hnN hwN hNM a b).2⟩
    refine Steps.cons ?_ ?_
    · refine TStep.move 24 ?_ ?_ ?_ ?_ ?_ ?_
      · exact .inr rfl
      · rfl
      · simp
      · exact fun _ _ h => h.same
      · exact RD.refl B N
      intro g x hd d e; cases e; rw [eval_in (by decide) (by simp)]; exact TD.of_ps ((hd 24 (mem_b (by kernel_rfl))).2.1 (by decide)) (by decide) (by decide) (by decide) (by decide) (by decide) (by decide)
    refine Steps.cons ?_ ?_
    · refine TStep.move 25 ?_ ?_ ?_ ?_ ?_ ?_
      · exact .inr rfl
      · rfl
      · simp
      · exact fun _ _ h => h.same
      · exact RD.refl B N
      intro g x hd d e; cases e; rw [eval_in (by decide) (by simp)]; exact TD.of_ss ((hd 25 (mem_b (by kernel_rfl))).2.2.1 (by decide)) (by decide) (by decide) (by decide) (by decide) (by decide) (by decide)
    refine Steps.one ?_
    refine LStep.move 27 ?_ ?_ ?_
    · exact .inr rfl
    · rfl
    intro g x hS hd
    have g3 := (hd 3 (mem_b (by kernel_rfl))).2.1 (by decide)
    have g4 := (hd 4 (mem_b (by kernel_rfl))).2.2.1 (by decide)
    have gq := (hd 27 (mem_b (by kernel_rfl))).2.2.2.2.1 (by decide)
    rw [eval_in (by decide) (by simp)]
    generalize g 27 = u at gq ⊢
    simp only [fill, Act.put, List.setIfInBounds_toArray, List.set_cons_zero, List.set_cons_succ]
    rw [g3, g4]
    obtain ⟨s1, s2, s3, s4, ⟨a', b', s5⟩, s6⟩ := hS
    obtain ⟨r1, r2, r3, r4, r5, r6⟩ := s5
    have S2 := Lib.hid s2; have S4 := Lib.hid s4.d; have GQ := Lib.hid gq.d; clear s1 s2 s3 s4 s6 gq g3 g4 hd
    clear HB0 HN HL0 HC5 HG5 HR5 HB5 HS5
    go_wp2_with fail
    refine bodyPost_ret (by simp (maxDischargeDepth := 3) [results, Try.results5, go_sem, *]; try rfl) rfl ?_
    exact ⟨_, _, _, _, _, rfl, S4.out, GQ.out, S2.out⟩
def RetTimes (w : World) (e : Ending) (w' : World) : Prop := ∃ (a b p n : Int) (v : Value), e = .returned (.tuple #[.agg #[.int .i64 a, .int .i64 b], .int .i64 p, .int .i64 n, v]) ∧ I64 n ∧ SlD w' v ∧ Below w.heap.size w w'
set_option maxHeartbeats 4000000 in
theorem drawTimesModulo_any (ad : Option Addr) (len cap : Nat) (zs : List Int) (w : World) (h : IsRow .u8 w ad len cap zs) (hl : len ≤ 1048576) :
    Calls Try.prog 12 #[.slice ad len cap] w (RetTimes w) := by
  have h0 : Below w.heap.size w (w.alloc (.cells #[.int .i64 0, .int .i64 0] 25)) := below_allocD _ _
  have hc0 := cr_start h (by omega) h0 41
  have hz0 : (w.alloc (.cells #[.int .i64 0, .int .i64 0] 25)).heap.size = w.heap.size + 1 := by simp
  have hr0 : BoxC (w.alloc (.cells #[.int .i64 0, .int .i64 0] 25)).heap.size ((w.alloc (.cells #[.int .i64 0, .int .i64 0] 25)).alloc (.cells #[.slice ad len cap, .int .i64 0, .int .u64 0] 41)) w.heap.size 0 0 :=
    ⟨by simp, by simp, by simp [go_sem], by simp [go_sem], by simp [go_sem], by simp [go_sem]⟩
  have hl1 : Below w.heap.size w ((w.alloc (.cells #[.int .i64 0, .int .i64 0] 25)).alloc (.cells #[.slice ad len cap, .int .i64 0, .int .u64 0] 41)) := bel_alloc h0 _
  have HC0 := Lib.hid hc0; have HL0 := Lib.hid hl1; have HR0 := Lib.hid hr0; have HZ0 := Lib.hid hz0; clear hc0 h0 hr0 hl1 hz0 h
  go_enter Try.func12, Try.ntmps12
  go_wp2_with fail
  have hc0 := HC0.out; have hr0 := HR0.out; have hl0 := HL0.out
  rw [HZ0.out] at hc0 hr0
  clear HC0 HR0 HL0 HZ0
  generalize (w.alloc (.cells #[.int .i64 0, .int .i64 0] 25)).alloc (.cells #[.slice ad len cap, .int .i64 0, .int .u64 0] 41) = V at hc0 hr0 hl0 ⊢
  obtain ⟨N, hN⟩ : ∃ N, N = w.heap.size := ⟨_, rfl⟩
  obtain ⟨B, hB⟩ : ∃ B, B = w.heap.size + 1 := ⟨_, rfl⟩
  rw [← hB] at hc0 hr0 ⊢
  rw [← hN] at hr0 ⊢
  have HN := Lib.hid hN; have HB0 := Lib.hid hB; clear hN hB
  have HC0 := Lib.hid hc0; have HR0 := Lib.hid hr0; have HL0 := Lib.hid hl0; clear hc0 hr0 hl0
  refine (anyCurve_any B _ _ HC0.out (by omega)).mono ?_; rintro e w1 ⟨v, rfl, ⟨a, b, rfl, ai, bi⟩, hg1, hc1⟩
  have HC1 := Lib.hid hc1; have HG1 := Lib.hid hg1; have HR1 := Lib.hid (HR0.out.keep hg1); clear hg1 hc1
  go_wp2_with fail
  refine (fieldPrime_any B _ _ HC1.out (by omega)).mono ?_; rintro e w2 ⟨v, rfl, ⟨p, rfl, pi⟩, hg2, hc2⟩
  have HC2 := Lib.hid hc2; have HG2 := Lib.hid (grown_trans HG1.out hg2); have HR2 := Lib.hid (HR1.out.keep hg2); clear hg2 hc2
  go_wp2_with fail
  have hc3 : Cr (w2.alloc (.cells #[.int .i64 a, .int .i64 b] 25)) B _ := HC2.out.keep' (below_allocD _ _)
  have hg3 : w2.grownBy (w2.alloc (.cells #[.int .i64 a, .int .i64 b] 25)) (some B) := below_grown B (below_allocD _ _)
  have hb3 := BoxC.new a b 25 HC2.out.lt
  have hn3 := HR2.out.1
  generalize w2.alloc (.cells #[.int .i64 a, .int .i64 b] 25) = w3 at hc3 hg3 hb3 ⊢
  generalize w2.heap.size = n at hb3 hn3 ⊢
  have HB3 := Lib.hid hb3; clear hb3
  have HC3 := Lib.hid hc3; have HG3 := Lib.hid (grown_trans HG2.out hg3); have HR3 := Lib.hid (HR2.out.keep hg3); clear hg3 hc3
  have HC5 := HC3; have HG5 := HG3; have HR5 := HR3; have HB5 := HB3
  clear HC0 HC1 HC2 HC3 HG1 HG2 HG3 HR0 HR1 HR2 HR3 HB3
  have hNB : N + 2 ≤ w3.heap.size := by have := HC5.out.lt; have := HN.out; have := HB0.out; omega
  · skip
    have hnN : n ≠ N := by omega
    have hwB : w.heap.size ≤ B := by have := HB0.out; omega
    have hBM : B < N + 2 := by have := HN.out; have := HB0.out; omega
    have hwN : w.heap.size ≤ N := by have := HN.out; omega
    have hNM : N < N + 2 := by omega
    refine wp_region_steps [16, 17, 18, 19, 20, 21, 22, 23, 24, 25, 26, 27, 28, 29, 3, 4, 5] (RD B N) (TD (N + 2) [16, 27] [17, 28, 3] [] [18, 19, 21, 26] [29] [20, 23, 25, 4] [22, 24] a b p B (.slice none 0 0)) (SD w N B n (N + 2) a b (.slice none 0 0)) (by kernel_rfl) (by kernel_rfl) (by decide) (fun d u x y hT hR => hT.keep hR hBM hNM) ?_ ?_
    · exact ⟨(HC5.out.keep' (bel_drew (Below.refl _ _))).le (by omega), bel_drew (grown_belowN HL0.out HG5.out hwB (Nat.le_refl _)), HB5.out.keep (below_grown B (bel_drew (Below.refl _ _))), SlB.nil _ _, ⟨_, _, HR5.out.keep (below_grown B (bel_drew (Below.refl _ _)))⟩, by have := HC5.out.lt; have := HN.out; have := HB0.out; simp; omega⟩
    refine Steps.cons ?_ ?_
    · refine TStep.of ?_ ?_ ?_
      · rfl
      · simp
      intro k g x hk9 hS hd
      refine ⟨_, x, wp_ldC hS.2.2.1 (by rw [eval_out (by decide)]; rfl), fun d e => ?_, hS.same, RD.refl B N x⟩
      cases e; exact TD.of_cs rfl (by decide) (by decide) (by decide) (by decide) (by decide) (by decide)
    refine Steps.cons ?_ ?_
    · refine TStep.move 8 ?_ ?_ ?_ ?_ ?_ ?_
      · exact .inl rfl
      · rfl
      · simp
      · exact fun _ _ h => h.same
      · exact RD.refl B N
      intro g x hd d e; cases e; rw [eval_out (by decide)]; exact TD.of_ps rfl (by decide) (by decide) (by decide) (by decide) (by decide) (by decide)
    refine Steps.cons ?_ ?_
    · refine TStep.move 6 ?_ ?_ ?_ ?_ ?_ ?_
      · exact .inl rfl
      · rfl
      · simp
      · exact fun _ _ h => h.same
      · exact RD.refl B N
      intro g x hd d e; cases e; rw [eval_out (by decide)]; exact TD.of_bs rfl (by decide) (by decide) (by decide) (by decide) (by decide) (by decide)
    refine Steps.cons ?_ ?_
    · refine TStep.move 6 ?_ ?_ ?_ ?_ ?_ ?_
      · exact .inl rfl
      · rfl
      · simp
      · exact fun _ _ h => h.same
      · exact RD.refl B N
      intro g x hd d e; cases e; rw [eval_out (by decide)]; exact TD.of_bs rfl (by decide) (by decide) (by decide) (by decide) (by decide) (by decide)
    refine Steps.cons ?_ ?_
    · refine TStep.call ?_ ?_ ?_
      · rfl
      · simp
      intro k g x hk9 hS hd
      refine ⟨_, _, wp_call_of (run_callPick _ (by rfl) (by rfl)), ?_⟩
      rw [eval_in (i := 19) (by decide) (by simp), (hd 19 (mem_b (by kernel_rfl))).2.2.2.1 (by decide)]
      refine (pick_any B _ 60000 _ hS.1 (by have h9 : k < 18 := hk9; omega) (by omega) (by omega)).mono ?_
      rintro e x' ⟨v', rfl, ⟨z, rfl, z0, z1⟩, hg', hc'⟩
      refine ⟨_, rfl, fun d e => ?_, hS.step hg' (hc'.le (by omega)) hwB hBM, RD.grown hg'⟩
      cases e; exact TD.of_js ⟨z, rfl, by unfold I64; omega⟩ (by decide) (by decide) (by decide) (by decide) (by decide) (by decide)
    refine Steps.cons ?_ ?_
    · refine TStep.move 6 ?_ ?_ ?_ ?_ ?_ ?_
      · exact .inl rfl
      · rfl
      · simp
      · exact fun _ _ h => h.same
      · exact RD.refl B N
      intro g x hd d e; cases e; rw [eval_out (by decide)]; exact TD.of_bs rfl (by decide) (by decide) (by decide) (by decide) (by decide) (by decide)
    refine Steps.cons ?_ ?_
    · refine TStep.of ?_ ?_ ?_
      · rfl
      · simp
      intro k g x hk9 hS hd
      refine ⟨_, _, wp_value_of (run_bs2 _ (by rfl) (by rfl)), fun d e => ?_, hS.step (below_grown B (below_allocD _ _)) ((hS.1.keep' (below_allocD _ _)).le (by omega)) hwB hBM, RD.grown (below_grown B (below_allocD _ _))⟩
      cases e; exact TD.of_fs (SlI.lit _ _ hS.2.2.2.2.2 (by decide) (by decide) (by intro z hz; simp only [List.mem_cons, List.not_mem_nil, or_false] at hz; unfold I64; omega)) (by decide) (by decide) (by decide) (by decide) (by decide) (by decide)
    refine Steps.cons ?_ ?_
    · refine TStep.call ?_ ?_ ?_
      · rfl
      · simp
      intro k g x hk9 hS hd
      refine ⟨_, _, wp_call_of (run_callAmong _ (by rfl)), ?_⟩
      rw [eval_in (i := 21) (by decide) (by simp), eval_in (i := 22) (by decide) (by simp), (hd 21 (mem_b (by kernel_rfl))).2.2.2.1 (by decide)]
      obtain ⟨xs, h1, h2⟩ := ((hd 22 (mem_b (by kernel_rfl))).2.2.2.2.2.2 (by decide)).rdx hBM
      refine (among_any B _ _ xs _ hS.1 (by have h9 : k < 18 := hk9; omega) h1).mono ?_
      rintro e x' ⟨v', rfl, ⟨z, rfl, hz⟩, hg', hc'⟩
      refine ⟨_, rfl, fun d e => ?_, hS.step hg' (hc'.le (by omega)) hwB hBM, RD.grown hg'⟩
      cases e; exact TD.of_js ⟨z, rfl, h2 z hz⟩ (by decide) (by decide) (by decide) (by decide) (by decide) (by decide)
    refine Steps.cons ?_ ?_
    · refine TStep.of ?_ ?_ ?_
      · rfl
      · simp
      intro k g x hk9 hS hd
      obtain ⟨z, hz, z0⟩ := (hd 20 (mem_b (by kernel_rfl))).2.2.2.2.2.1 (by decide)
      obtain ⟨y, hy, y0⟩ := (hd 23 (mem_b (by kernel_rfl))).2.2.2.2.2.1 (by decide)
      refine ⟨_, _, wp_value_of (run_bs11 (n := z) (m := y) _ (by rw [eval_in (by decide) (by simp)]; exact hz) (by rw [eval_in (by decide) (by simp)]; exact hy) (by intro v; rfl)), fun d e => ?_, hS.step (below_grown B (below_allocD _ _)) ((hS.1.keep' (below_allocD _ _)).le (by omega)) hwB hBM, RD.grown (below_grown B (below_allocD _ _))⟩
      cases e; exact TD.of_fs (SlI.lit _ _ hS.2.2.2.2.2 (by simp) (by simp) (by intro u hu; simp only [List.mem_cons, List.not_mem_nil, or_false] at hu; unfold I64 at z0 y0 ⊢; omega)) (by decide) (by decide) (by decide) (by decide) (by decide) (by decide)
    refine Steps.cons ?_ ?_
    · refine TStep.call ?_ ?_ ?_
      · rfl
      · simp
      intro k g x hk9 hS hd
      refine ⟨_, _, wp_call_of (run_callAmong _ (by rfl)), ?_⟩
      rw [eval_in (i := 18) (by decide) (by simp), eval_in (i := 24) (by decide) (by simp), (hd 18 (mem_b (by kernel_rfl))).2.2.2.1 (by decide)]
      obtain ⟨xs, h1, h2⟩ := ((hd 24 (mem_b (by kernel_rfl))).2.2.2.2.2.2 (by decide)).rdx hBM
      refine (among_any B _ _ xs _ hS.1 (by have h9 : k < 18 := hk9; omega) h1).mono ?_
      rintro e x' ⟨v', rfl, ⟨z, rfl, hz⟩, hg', hc'⟩
      refine ⟨_, rfl, fun d e => ?_, hS.step hg' (hc'.le (by omega)) hwB hBM, RD.grown hg'⟩
      cases e; exact TD.of_js ⟨z, rfl, h2 z hz⟩ (by decide) (by decide) (by decide) (by decide) (by decide) (by decide)
    refine Steps.cons ?_ ?_
    · refine TStep.move 6 ?_ ?_ ?_ ?_ ?_ ?_
      · exact .inl rfl
      · rfl
      · simp
      · exact fun _ _ h => h.same
      · exact RD.refl B N
      intro g x hd d e; cases e; rw [eval_out (by decide)]; exact TD.of_bs rfl (by decide) (by decide) (by decide) (by decide) (by decide) (by decide)
    refine Steps.cons ?_ ?_
    · refine TStep.of ?_ ?_ ?_
      · rfl
      · simp
      intro k g x hk9 hS hd
      refine ⟨_, x, wp_ldC hS.2.2.1 (by rw [eval_out (by decide)]; rfl), fun d e => ?_, hS.same, RD.refl B N x⟩
      cases e; exact TD.of_cs rfl (by decide) (by decide) (by decide) (by decide) (by decide) (by decide)
    refine Steps.cons ?_ ?_
    · refine TStep.move 8 ?_ ?_ ?_ ?_ ?_ ?_
      · exact .inl rfl
      · rfl
      · simp
      · exact fun _ _ h => h.same
      · exact RD.refl B N
      intro g x hd d e; cases e; rw [eval_out (by decide)]; exact TD.of_ps rfl (by decide) (by decide) (by decide) (by decide) (by decide) (by decide)
    refine Steps.cons ?_ ?_
    · refine TStep.call ?_ ?_ ?_
      · rfl
      · simp
      intro k g x hk9 hS hd
      refine ⟨_, _, wp_call_of (run_callPM _ (by rfl)), ?_⟩
      rw [eval_in (i := 26) (by decide) (by simp), eval_in (i := 27) (by decide) (by simp), eval_in (i := 28) (by decide) (by simp), (hd 26 (mem_b (by kernel_rfl))).2.2.2.1 (by decide), (hd 27 (mem_b (by kernel_rfl))).1 (by decide), (hd 28 (mem_b (by kernel_rfl))).2.1 (by decide)]
      refine (pointModulo_any B _ a b p _ hS.1 (by have h9 : k < 18 := hk9; omega)).mono ?_
      rintro e x' ⟨v', rfl, hs', hg', hc'⟩
      have hm := hS.2.2.2.2.2
      refine ⟨v', rfl, fun d e => ?_, hS.step hg' (hc'.le (by omega)) hwB hBM, RD.grown hg'⟩
      cases e; exact TD.of_qs (hs'.le hm) (by decide) (by decide) (by decide) (by decide) (by decide) (by decide)
    refine Steps.cons ?_ ?_
    · refine TStep.of ?_ ?_ ?_
      · rfl
      · simp
      intro k g x hk9 hS hd
      refine ⟨undef, _, wp_stC (hS.2.2.2.2.1.choose_spec.choose_spec) (by rw [eval_out (by decide)]; rfl) (by rw [eval_in (by decide) (by simp)]; exact (hd 16 (mem_b (by kernel_rfl))).1 (by decide)), (by simp), (hS.put hnN hwN hNM a b).1, (hS.put hnN hwN hNM a b).2⟩
    refine Steps.cons ?_ ?_
    · refine TStep.move 17 ?_ ?_ ?_ ?_ ?_ ?_
      · exact .inr rfl
      · rfl
      · simp
      · exact fun _ _ h => h.same
      · exact RD.refl B N
      intro g x hd d e; cases e; rw [eval_in (by decide) (by simp)]; exact TD.of_ps ((hd 17 (mem_b (by kernel_rfl))).2.1 (by decide)) (by decide) (by decide) (by decide) (by decide) (by decide) (by decide)
    refine Steps.cons ?_ ?_
    · refine TStep.move 25 ?_ ?_ ?_ ?_ ?_ ?_
      · exact .inr rfl
      · rfl
      · simp
      · exact fun _ _ h => h.same
      · exact RD.refl B N
      intro g x hd d e; cases e; rw [eval_in (by decide) (by simp)]; exact TD.of_js ((hd 25 (mem_b (by kernel_rfl))).2.2.2.2.2.1 (by decide)) (by decide) (by decide) (by decide) (by decide) (by decide) (by decide)
    refine Steps.one ?_
    refine LStep.move 29 ?_ ?_ ?_
    · exact .inr rfl
    · rfl
    intro g x hS hd
    have g3 := (hd 3 (mem_b (by kernel_rfl))).2.1 (by decide)
    obtain ⟨z, g4, z0⟩ := (hd 4 (mem_b (by kernel_rfl))).2.2.2.2.2.1 (by decide)
    have gq := (hd 29 (mem_b (by kernel_rfl))).2.2.2.2.1 (by decide)
    rw [eval_in (by decide) (by simp)]
    generalize g 29 = u at gq ⊢
    simp only [fill, Act.put, List.setIfInBounds_toArray, List.set_cons_zero, List.set_cons_succ]
    rw [g3, g4]
    obtain ⟨s1, s2, s3, s4, ⟨a', b', s5⟩, s6⟩ := hS
    obtain ⟨r1, r2, r3, r4, r5, r6⟩ := s5
    have S2 := Lib.hid s2; have GQ := Lib.hid gq.d; clear s1 s2 s3 s4 s6 gq g3 g4 hd
    clear HB0 HN HL0 HC5 HG5 HR5 HB5
    go_wp2_with fail
    refine bodyPost_ret (by simp (maxDischargeDepth := 3) [results, Try.results12, go_sem, *]; try rfl) rfl ?_
    exact ⟨_, _, _, _, _, rfl, z0, GQ.out, S2.out⟩
end Go.Proofs.Ytaaagjdakbnhnaa
