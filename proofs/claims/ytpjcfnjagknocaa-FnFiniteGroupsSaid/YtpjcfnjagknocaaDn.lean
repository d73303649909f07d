/- Dn: contracts: the draws of FnFiniteGroups: whatever the bytes are, a curve, a prime, a point or a number come out. No conditions. -/
import Derived.Test.YtpjcfnjagknocaaDq
namespace Go.Proofs.Ytpjcfnjagknocaa
open Go.RowKit

def RetCp (w : World) (e : Ending) (w' : World) : Prop := ∃ a b p : Int, e = .returned (.tuple #[.agg #[.int .i64 a, .int .i64 b], .int .i64 p]) ∧ I64 p ∧ Below w.heap.size w w'
def RetCpS (w : World) (e : Ending) (w' : World) : Prop := ∃ (a b p : Int) (v : Value), e = .returned (.tuple #[.agg #[.int .i64 a, .int .i64 b], .int .i64 p, v]) ∧ I64 p ∧ SlB w.heap.size w' v ∧ Below w.heap.size w w'
def RetCpn (w : World) (e : Ending) (w' : World) : Prop := ∃ a b p n : Int, e = .returned (.tuple #[.agg #[.int .i64 a, .int .i64 b], .int .i64 p, .int .i64 n]) ∧ Below w.heap.size w w'
theorem SlD.keep {w w' : World} {v : Value} (h : SlD w v) (hb : Below w.heap.size w w') : SlD w' v := by
  obtain ⟨xs, h1, h2⟩ := h
  exact ⟨xs, h1.keep hb, h2⟩
theorem SlB.put2 {M N : Nat} {w : World} {v : Value} (h : SlB M w v) (hN : N < M) (u1 u2 : Value) : SlB M ((w.setCell ⟨N, 0, none⟩ u1).setCell ⟨N, 1, none⟩ u2) v :=
  h.same (by simp) fun i _ hM => by rw [Below.heap_setCell _ _ _ _ (by dsimp only; omega), Below.heap_setCell _ _ _ _ (by dsimp only; omega)]
theorem draw_endN {w V x : World} {B N : Nat} (hl : Below w.heap.size w V) (hg : V.grownBy x (some B)) (hN : N = w.heap.size) (hB : B = w.heap.size + 1) (u v : Value) : Below w.heap.size w ((x.setCell ⟨N, 0, none⟩ u).setCell ⟨N, 1, none⟩ v) := by
  have h := grown_belowN hl hg (by omega) (Nat.le_refl _)
  exact (h.setCell (by dsimp only; omega) _).setCell (by dsimp only; omega) _
set_option maxHeartbeats 4000000 in
theorem drawIsGoodPrime_any (ad : Option Addr) (len cap : Nat) (zs : List Int) (w : World) (h : IsRow .u8 w ad len cap zs) (hl : len ≤ 1048576) :
    Calls Try.prog 76 #[.slice ad len cap] w (RetCp w) := by
  have h0 : Below w.heap.size w (w.alloc (.cells #[.int .i64 0, .int .i64 0] 39)) := below_allocD _ _
  have hc0 := cr_start h (by omega) h0 81
  have hz0 : (w.alloc (.cells #[.int .i64 0, .int .i64 0] 39)).heap.size = w.heap.size + 1 := by simp
  have hr0 : BoxC (w.alloc (.cells #[.int .i64 0, .int .i64 0] 39)).heap.size ((w.alloc (.cells #[.int .i64 0, .int .i64 0] 39)).alloc (.cells #[.slice ad len cap, .int .i64 0, .int .u64 0] 81)) w.heap.size 0 0 :=
    ⟨by simp, by simp, by simp [go_sem], by simp [go_sem], by simp [go_sem], by simp [go_sem]⟩
  have hl1 : Below w.heap.size w ((w.alloc (.cells #[.int .i64 0, .int .i64 0] 39)).alloc (.cells #[.slice ad len cap, .int .i64 0, .int .u64 0] 81)) := bel_alloc h0 _
  have HC0 := Lib.hid hc0; have HL0 := Lib.hid hl1; have HR0 := Lib.hid hr0; have HZ0 := Lib.hid hz0; clear hc0 h0 hr0 hl1 hz0 h
  go_enter Try.func76, Try.ntmps76
  go_wp2_with fail
  have hc0 := HC0.out; have hr0 := HR0.out; have hl0 := HL0.out
  rw [HZ0.out] at hc0 hr0
  clear HC0 HR0 HL0 HZ0
  generalize (w.alloc (.cells #[.int .i64 0, .int .i64 0] 39)).alloc (.cells #[.slice ad len cap, .int .i64 0, .int .u64 0] 81) = V at hc0 hr0 hl0 ⊢
  obtain ⟨N, hN⟩ : ∃ N, N = w.heap.size := ⟨_, rfl⟩
  obtain ⟨B, hB⟩ : ∃ B, B = w.heap.size + 1 := ⟨_, rfl⟩
  rw [← hB] at hc0 hr0 ⊢
  rw [← hN] at hr0 ⊢
  have HN := Lib.hid hN; have HB0 := Lib.hid hB; clear hN hB
  have HC0 := Lib.hid hc0; have HR0 := Lib.hid hr0; have HL0 := Lib.hid hl0; clear hc0 hr0 hl0
  refine (anyCurve_any B _ _ HC0.out (by omega)).mono ?_; rintro e w1 ⟨v, rfl, ⟨a, b, rfl, ai, bi⟩, hg1, hc1⟩
  have HC1 := Lib.hid hc1; have HG1 := Lib.hid hg1; have HR1 := Lib.hid (HR0.out.keep hg1); clear hg1 hc1
  go_wp2_with fail
  refine (fieldPrime_any B _ _ HC1.out (by omega)).mono ?_; rintro e w2 ⟨v, rfl, ⟨p, rfl, pi⟩, hg2, hc2⟩
  have HC2 := Lib.hid hc2; have HG2 := Lib.hid (grown_trans HG1.out hg2); have HR2 := Lib.hid (HR1.out.keep hg2); clear hg2 hc2
  obtain ⟨r1, r2, r3, r4, r5, r6⟩ := HR2.out
  go_wp2_with fail
  refine bodyPost_ret (by simp (maxDischargeDepth := 3) [results, Try.results76, go_sem, *]; try rfl) rfl ?_
  exact ⟨_, _, _, rfl, pi, draw_endN HL0.out HG2.out HN.out HB0.out _ _⟩
theorem isRow_keepN {k : IntKind} {w w' : World} {a : Option Addr} {len cap : Nat} {zs : List Int} (h : IsRow k w a len cap zs) (hb : Below w.heap.size w w') : IsRow k w' a len cap zs := by
  rcases h with h | ⟨x, rfl, h1, h2, h3, h4, h5⟩
  · exact .inl h
  · refine .inr ⟨x, rfl, h1, h2, h3, fun i hi => ?_, h5⟩
    have hc := h4 i hi
    have hlt := World.block_lt_of_cell? w _ hc
    exact (hb.cell hlt).trans hc
theorem drawGroupShape_any (ad : Option Addr) (len cap : Nat) (zs : List Int) (w : World) (h : IsRow .u8 w ad len cap zs) (hl : len ≤ 1048576) :
    Calls Try.prog 20 #[.slice ad len cap] w (RetCp w) := by
  have hb0 := (below_allocD w (.cells #[.int .i64 0, .int .i64 0] 39))
  have hk := isRow_keepN h hb0
  have q0 : w.heap.size < (w.alloc (.cells #[.int .i64 0, .int .i64 0] 39)).heap.size := by simp
  have q1 : (w.alloc (.cells #[.int .i64 0, .int .i64 0] 39)).cell? ⟨w.heap.size, 0, none⟩ = some (.int .i64 0) := by simp [go_sem]
  have q2 : (w.alloc (.cells #[.int .i64 0, .int .i64 0] 39)).cell? ⟨w.heap.size, 1, none⟩ = some (.int .i64 0) := by simp [go_sem]
  have q3 : (w.alloc (.cells #[.int .i64 0, .int .i64 0] 39)).frozen? ⟨w.heap.size, 0, none⟩ = false := by simp [go_sem]
  have q4 : (w.alloc (.cells #[.int .i64 0, .int .i64 0] 39)).frozen? ⟨w.heap.size, 1, none⟩ = false := by simp [go_sem]
  have HK := Lib.hid hk; have Q := Lib.hid (And.intro q0 (And.intro q1 (And.intro q2 (And.intro q3 q4)))); have H0 := Lib.hid hb0
  clear hk h q0 q1 q2 q3 q4 hb0
  go_enter Try.func20, Try.ntmps20
  go_wp2_with fail
  refine (drawIsGoodPrime_any _ _ _ _ _ HK.out hl).mono ?_; rintro e w1 ⟨a, b, p, rfl, pI, hb⟩
  obtain ⟨q0, q1, q2, q3, q4⟩ := Q.out
  have r0 := Nat.lt_of_lt_of_le q0 hb.size
  have r1 := (hb.cell (p := ⟨w.heap.size, 0, none⟩) q0).trans q1
  have r2 := (hb.cell (p := ⟨w.heap.size, 1, none⟩) q0).trans q2
  have r3 := (hb.frozen (p := ⟨w.heap.size, 0, none⟩) q0).trans q3
  have r4 := (hb.frozen (p := ⟨w.heap.size, 1, none⟩) q0).trans q4
  have H1 := Lib.hid (bel_trans hb H0.out)
  clear hb q0 q1 q2 q3 q4 Q HK H0
  go_wp2_with fail
  refine bodyPost_ret (by simp (maxDischargeDepth := 3) [results, Try.results20, go_sem, *]; try rfl) rfl ?_
  exact ⟨_, _, _, rfl, pI, (H1.out.setCell (Nat.le_refl _) _).setCell (Nat.le_refl _) _⟩
set_option maxHeartbeats 4000000 in
theorem drawIsPointModulo_any (ad : Option Addr) (len cap : Nat) (zs : List Int) (w : World) (h : IsRow .u8 w ad len cap zs) (hl : len ≤ 1048576) :
    Calls Try.prog 36 #[.slice ad len cap] w (RetCpS w) := by
  have h0 : Below w.heap.size w (w.alloc (.cells #[.int .i64 0, .int .i64 0] 39)) := below_allocD _ _
  have hc0 := cr_start h (by omega) h0 81
  have hz0 : (w.alloc (.cells #[.int .i64 0, .int .i64 0] 39)).heap.size = w.heap.size + 1 := by simp
  have hr0 : BoxC (w.alloc (.cells #[.int .i64 0, .int .i64 0] 39)).heap.size ((w.alloc (.cells #[.int .i64 0, .int .i64 0] 39)).alloc (.cells #[.slice ad len cap, .int .i64 0, .int .u64 0] 81)) w.heap.size 0 0 :=
    ⟨by simp, by simp, by simp [go_sem], by simp [go_sem], by simp [go_sem], by simp [go_sem]⟩
  have hl1 : Below w.heap.size w ((w.alloc (.cells #[.int .i64 0, .int .i64 0] 39)).alloc (.cells #[.slice ad len cap, .int .i64 0, .int .u64 0] 81)) := bel_alloc h0 _
  have HC0 := Lib.hid hc0; have HL0 := Lib.hid hl1; have HR0 := Lib.hid hr0; have HZ0 := Lib.hid hz0; clear hc0 h0 hr0 hl1 hz0 h
  go_enter Try.func36, Try.ntmps36
  go_wp2_with fail
  have hc0 := HC0.out; have hr0 := HR0.out; have hl0 := HL0.out
  rw [HZ0.out] at hc0 hr0
  clear HC0 HR0 HL0 HZ0
  generalize (w.alloc (.cells #[.int .i64 0, .int .i64 0] 39)).alloc (.cells #[.slice ad len cap, .int .i64 0, .int .u64 0] 81) = V at hc0 hr0 hl0 ⊢
  obtain ⟨N, hN⟩ : ∃ N, N = w.heap.size := ⟨_, rfl⟩
  obtain ⟨B, hB⟩ : ∃ B, B = w.heap.size + 1 := ⟨_, rfl⟩
  rw [← hB] at hc0 hr0 ⊢
  rw [← hN] at hr0 ⊢
  have HN := Lib.hid hN; have HB0 := Lib.hid hB; clear hN hB
  have HC0 := Lib.hid hc0; have HR0 := Lib.hid hr0; have HL0 := Lib.hid hl0; clear hc0 hr0 hl0
  refine (anyCurve_any B _ _ HC0.out (by omega)).mono ?_; rintro e w1 ⟨v, rfl, ⟨a, b, rfl, ai, bi⟩, hg1, hc1⟩
  have HC1 := Lib.hid hc1; have HG1 := Lib.hid hg1; have HR1 := Lib.hid (HR0.out.keep hg1); clear hg1 hc1
  go_wp2_with fail
  refine (fieldPrime_any B _ _ HC1.out (by omega)).mono ?_; rintro e w2 ⟨v, rfl, ⟨p, rfl, pi⟩, hg2, hc2⟩
  have HC2 := Lib.hid hc2; have HG2 := Lib.hid (grown_trans HG1.out hg2); have HR2 := Lib.hid (HR1.out.keep hg2); clear hg2 hc2
  go_wp2_with fail
  have hc3 : Cr (w2.alloc (.cells #[.int .i64 a, .int .i64 b] 39)) B _ := HC2.out.keep' (below_allocD _ _)
  have hg3 : w2.grownBy (w2.alloc (.cells #[.int .i64 a, .int .i64 b] 39)) (some B) := below_grown B (below_allocD _ _)
  have hb3 := BoxC.new a b 39 HC2.out.lt
  have hn3 := HR2.out.1
  generalize w2.alloc (.cells #[.int .i64 a, .int .i64 b] 39) = w3 at hc3 hg3 hb3 ⊢
  generalize w2.heap.size = n at hb3 hn3 ⊢
  have HB3 := Lib.hid hb3; clear hb3
  have HC3 := Lib.hid hc3; have HG3 := Lib.hid (grown_trans HG2.out hg3); have HR3 := Lib.hid (HR2.out.keep hg3); clear hg3 hc3
  have HC5 := HC3; have HG5 := HG3; have HR5 := HR3; have HB5 := HB3
  clear HC0 HC1 HC2 HC3 HG1 HG2 HG3 HR0 HR1 HR2 HR3 HB3
  have hNB : N + 2 ≤ w3.heap.size := by have := HC5.out.lt; have := HN.out; have := HB0.out; omega
  · skip
    have hnN : n ≠ N := by omega
    have hwB : w.heap.size ≤ B := by have := HB0.out; omega
    have hBM : B < N + 2 := by have := HN.out; have := HB0.out; omega
    have hwN : w.heap.size ≤ N := by have := HN.out; omega
    have hNM : N < N + 2 := by omega
    refine wp_region_steps [15, 16, 17, 18, 19, 20, 3, 4] (RD B N) (TD (N + 2) [15, 18] [16, 19, 3] [] [17] [20] [] [] a b p B (.slice none 0 0)) (SD w N B n (N + 2) a b (.slice none 0 0)) (by kernel_rfl) (by kernel_rfl) (by decide) (fun d u x y hT hR => hT.keep hR hBM hNM) ?_ ?_
    · exact ⟨(HC5.out.keep' (bel_drew (Below.refl _ _))).le (by omega), bel_drew (grown_belowN HL0.out HG5.out hwB (Nat.le_refl _)), HB5.out.keep (below_grown B (bel_drew (Below.refl _ _))), SlB.nil _ _, ⟨_, _, HR5.out.keep (below_grown B (bel_drew (Below.refl _ _)))⟩, by have := HC5.out.lt; have := HN.out; have := HB0.out; simp; omega⟩
    refine Steps.cons ?_ ?_
    · refine TStep.of ?_ ?_ ?_
      · rfl
      · simp
      intro k g x hk9 hS hd
      refine ⟨_, x, wp_ldC hS.2.2.1 (by rw [eval_out (by decide)]; rfl), fun d e => ?_, hS.same, RD.refl B N x⟩
      cases e; exact TD.of_cs rfl (by decide) (by decide) (by decide) (by decide) (by decide) (by decide)
    refine Steps.cons ?_ ?_
    · refine TStep.move 7 ?_ ?_ ?_ ?_ ?_ ?_
      · exact .inl rfl
      · rfl
      · simp
      · exact fun _ _ h => h.same
      · exact RD.refl B N
      intro g x hd d e; cases e; rw [eval_out (by decide)]; exact TD.of_ps rfl (by decide) (by decide) (by decide) (by decide) (by decide) (by decide)
    refine Steps.cons ?_ ?_
    · refine TStep.move 5 ?_ ?_ ?_ ?_ ?_ ?_
      · exact .inl rfl
      · rfl
      · simp
      · exact fun _ _ h => h.same
      · exact RD.refl B N
      intro g x hd d e; cases e; rw [eval_out (by decide)]; exact TD.of_bs rfl (by decide) (by decide) (by decide) (by decide) (by decide) (by decide)
    refine Steps.cons ?_ ?_
    · refine TStep.of ?_ ?_ ?_
      · rfl
      · simp
      intro k g x hk9 hS hd
      refine ⟨_, x, wp_ldC hS.2.2.1 (by rw [eval_out (by decide)]; rfl), fun d e => ?_, hS.same, RD.refl B N x⟩
      cases e; exact TD.of_cs rfl (by decide) (by decide) (by decide) (by decide) (by decide) (by decide)
    refine Steps.cons ?_ ?_
    · refine TStep.move 7 ?_ ?_ ?_ ?_ ?_ ?_
      · exact .inl rfl
      · rfl
      · simp
      · exact fun _ _ h => h.same
      · exact RD.refl B N
      intro g x hd d e; cases e; rw [eval_out (by decide)]; exact TD.of_ps rfl (by decide) (by decide) (by decide) (by decide) (by decide) (by decide)
    refine Steps.cons ?_ ?_
    · refine TStep.call ?_ ?_ ?_
      · rfl
      · simp
      intro k g x hk9 hS hd
      refine ⟨_, _, wp_call_of (run_callPM _ (by rfl)), ?_⟩
      rw [eval_in (i := 17) (by decide) (by simp), eval_in (i := 18) (by decide) (by simp), eval_in (i := 19) (by decide) (by simp), (hd 17 (mem_b (by kernel_rfl))).2.2.2.1 (by decide), (hd 18 (mem_b (by kernel_rfl))).1 (by decide), (hd 19 (mem_b (by kernel_rfl))).2.1 (by decide)]
      refine (pointModulo_any B _ a b p _ hS.1 (by have h9 : k < 9 := hk9; omega)).mono ?_
      rintro e x' ⟨v', rfl, hs', hg', hc'⟩
      have hm := hS.2.2.2.2.2
      refine ⟨v', rfl, fun d e => ?_, hS.step hg' (hc'.le (by omega)) hwB hBM, RD.grown hg'⟩
      cases e; exact TD.of_qs (hs'.le hm) (by decide) (by decide) (by decide) (by decide) (by decide) (by decide)
    refine Steps.cons ?_ ?_
    · refine TStep.of ?_ ?_ ?_
      · rfl
      · simp
      intro k g x hk9 hS hd
      refine ⟨undef, _, wp_stC (hS.2.2.2.2.1.choose_spec.choose_spec) (by rw [eval_out (by decide)]; rfl) (by rw [eval_in (by decide) (by simp)]; exact (hd 15 (mem_b (by kernel_rfl))).1 (by decide)), (by simp), (hS.put hnN hwN hNM a b).1, (hS.put hnN hwN hNM a b).2⟩
    refine Steps.cons ?_ ?_
    · refine TStep.move 16 ?_ ?_ ?_ ?_ ?_ ?_
      · exact .inr rfl
      · rfl
      · simp
      · exact fun _ _ h => h.same
      · exact RD.refl B N
      intro g x hd d e; cases e; rw [eval_in (by decide) (by simp)]; exact TD.of_ps ((hd 16 (mem_b (by kernel_rfl))).2.1 (by decide)) (by decide) (by decide) (by decide) (by decide) (by decide) (by decide)
    refine Steps.one ?_
    refine LStep.move 20 ?_ ?_ ?_
    · exact .inr rfl
    · rfl
    intro g x hS hd
    have g3 := (hd 3 (mem_b (by kernel_rfl))).2.1 (by decide)
    have gq := (hd 20 (mem_b (by kernel_rfl))).2.2.2.2.1 (by decide)
    rw [eval_in (by decide) (by simp)]
    generalize g 20 = u at gq ⊢
    simp only [fill, Act.put, List.setIfInBounds_toArray, List.set_cons_zero, List.set_cons_succ]
    rw [g3]
    obtain ⟨s1, s2, s3, s4, ⟨a', b', s5⟩, s6⟩ := hS
    obtain ⟨r1, r2, r3, r4, r5, r6⟩ := s5
    have S2 := Lib.hid s2; have GQ := Lib.hid (gq.le (M' := w.heap.size) (by have := HN.out; omega)); clear s1 s2 s3 s4 s6 gq g3 hd
    clear HB0 HN HL0 HC5 HG5 HR5 HB5
    go_wp2_with fail
    refine bodyPost_ret (by simp (maxDischargeDepth := 3) [results, Try.results36, go_sem, *]; try rfl) rfl ?_
    exact ⟨_, _, _, _, rfl, pi, GQ.out, S2.out⟩
theorem drawOrderModulo_any (ad : Option Addr) (len cap : Nat) (zs : List Int) (w : World) (h : IsRow .u8 w ad len cap zs) (hl : len ≤ 1048576) :
    Calls Try.prog 32 #[.slice ad len cap] w (RetCpS w) := by
  have hb0 := (below_allocD w (.cells #[.int .i64 0, .int .i64 0] 39))
  have hk := isRow_keepN h hb0
  have q0 : w.heap.size < (w.alloc (.cells #[.int .i64 0, .int .i64 0] 39)).heap.size := by simp
  have q1 : (w.alloc (.cells #[.int .i64 0, .int .i64 0] 39)).cell? ⟨w.heap.size, 0, none⟩ = some (.int .i64 0) := by simp [go_sem]
  have q2 : (w.alloc (.cells #[.int .i64 0, .int .i64 0] 39)).cell? ⟨w.heap.size, 1, none⟩ = some (.int .i64 0) := by simp [go_sem]
  have q3 : (w.alloc (.cells #[.int .i64 0, .int .i64 0] 39)).frozen? ⟨w.heap.size, 0, none⟩ = false := by simp [go_sem]
  have q4 : (w.alloc (.cells #[.int .i64 0, .int .i64 0] 39)).frozen? ⟨w.heap.size, 1, none⟩ = false := by simp [go_sem]
  have HK := Lib.hid hk; have Q := Lib.hid (And.intro q0 (And.intro q1 (And.intro q2 (And.intro q3 q4)))); have H0 := Lib.hid hb0
  clear hk h q0 q1 q2 q3 q4 hb0
  go_enter Try.func32, Try.ntmps32
  go_wp2_with fail
  refine (drawIsPointModulo_any _ _ _ _ _ HK.out hl).mono ?_; rintro e w1 ⟨a, b, p, v, rfl, pI, hs, hb⟩
  obtain ⟨q0, q1, q2, q3, q4⟩ := Q.out
  have r0 := Nat.lt_of_lt_of_le q0 hb.size
  have r1 := (hb.cell (p := ⟨w.heap.size, 0, none⟩) q0).trans q1
  have r2 := (hb.cell (p := ⟨w.heap.size, 1, none⟩) q0).trans q2
  have r3 := (hb.frozen (p := ⟨w.heap.size, 0, none⟩) q0).trans q3
  have r4 := (hb.frozen (p := ⟨w.heap.size, 1, none⟩) q0).trans q4
  have H1 := Lib.hid (bel_trans hb H0.out)
  have HSD := Lib.hid hs; clear hs
  clear hb q0 q1 q2 q3 q4 Q HK H0
  go_wp2_with fail
  refine bodyPost_ret (by simp (maxDischargeDepth := 3) [results, Try.results32, go_sem, *]; try rfl) rfl ?_
  exact ⟨_, _, _, _, rfl, pI, (HSD.out.put2 (by simp) _ _).le (by simp), (H1.out.setCell (Nat.le_refl _) _).setCell (Nat.le_refl _) _⟩
set_option maxHeartbeats 4000000 in
theorem drawCountOrders_any (ad : Option Addr) (len cap : Nat) (zs : List Int) (w : World) (h : IsRow .u8 w ad len cap zs) (hl : len ≤ 1048576) :
    Calls Try.prog 39 #[.slice ad len cap] w (RetCpn w) := by
  have h0 : Below w.heap.size w (w.alloc (.cells #[.int .i64 0, .int .i64 0] 39)) := below_allocD _ _
  have hc0 := cr_start h (by omega) h0 81
  have hz0 : (w.alloc (.cells #[.int .i64 0, .int .i64 0] 39)).heap.size = w.heap.size + 1 := by simp
  have hr0 : BoxC (w.alloc (.cells #[.int .i64 0, .int .i64 0] 39)).heap.size ((w.alloc (.cells #[.int .i64 0, .int .i64 0] 39)).alloc (.cells #[.slice ad len cap, .int .i64 0, .int .u64 0] 81)) w.heap.size 0 0 :=
    ⟨by simp, by simp, by simp [go_sem], by simp [go_sem], by simp [go_sem], by simp [go_sem]⟩
  have hl1 : Below w.heap.size w ((w.alloc (.cells #[.int .i64 0, .int .i64 0] 39)).alloc (.cells #[.slice ad len cap, .int .i64 0, .int .u64 0] 81)) := bel_alloc h0 _
  have HC0 := Lib.hid hc0; have HL0 := Lib.hid hl1; have HR0 := Lib.hid hr0; have HZ0 := Lib.hid hz0; clear hc0 h0 hr0 hl1 hz0 h
  go_enter Try.func39, Try.ntmps39
  go_wp2_with fail
  have hc0 := HC0.out; have hr0 := HR0.out; have hl0 := HL0.out
  rw [HZ0.out] at hc0 hr0
  clear HC0 HR0 HL0 HZ0
  generalize (w.alloc (.cells #[.int .i64 0, .int .i64 0] 39)).alloc (.cells #[.slice ad len cap, .int .i64 0, .int .u64 0] 81) = V at hc0 hr0 hl0 ⊢
  obtain ⟨N, hN⟩ : ∃ N, N = w.heap.size := ⟨_, rfl⟩
  obtain ⟨B, hB⟩ : ∃ B, B = w.heap.size + 1 := ⟨_, rfl⟩
  rw [← hB] at hc0 hr0 ⊢
  rw [← hN] at hr0 ⊢
  have HN := Lib.hid hN; have HB0 := Lib.hid hB; clear hN hB
  have HC0 := Lib.hid hc0; have HR0 := Lib.hid hr0; have HL0 := Lib.hid hl0; clear hc0 hr0 hl0
  refine (anyCurve_any B _ _ HC0.out (by omega)).mono ?_; rintro e w1 ⟨v, rfl, ⟨a, b, rfl, ai, bi⟩, hg1, hc1⟩
  have HC1 := Lib.hid hc1; have HG1 := Lib.hid hg1; have HR1 := Lib.hid (HR0.out.keep hg1); clear hg1 hc1
  go_wp2_with fail
  refine (fieldPrime_any B _ _ HC1.out (by omega)).mono ?_; rintro e w2 ⟨v, rfl, ⟨p, rfl, pi⟩, hg2, hc2⟩
  have HC2 := Lib.hid hc2; have HG2 := Lib.hid (grown_trans HG1.out hg2); have HR2 := Lib.hid (HR1.out.keep hg2); clear hg2 hc2
  have HC3 := Lib.hid (HC2.out); clear HC0 HC1 HC2 HG1 HR0 HR1
  obtain ⟨r1, r2, r3, r4, r5, r6⟩ := HR2.out
  go_wp2_with fail
  clear r1 r2 r3 r4 r5 r6
  refine (amongLit_any B _ _ [0, 1001] _ HC3.out (by omega) (by intro n hn; simp only [List.mem_cons, List.not_mem_nil, or_false] at hn; unfold I64; omega) (by simp) (by simp)).mono ?_; rintro e w3 ⟨v, rfl, ⟨x, rfl, xi⟩, hg3, hc3⟩
  have HC4 := Lib.hid hc3; have HG4 := Lib.hid (grown_trans HG2.out hg3); have HR4 := Lib.hid (HR2.out.keep hg3); clear hg3 hc3 HC3 HG2 HR2
  go_wp2_with fail
  refine (amongLit_any B _ _ [1, 2, 3, 4, 6, 12, 1000, x] _ HC4.out (by omega) (by intro n hn; simp only [List.mem_cons, List.not_mem_nil, or_false] at hn; unfold I64 at xi ⊢; omega) (by simp) (by simp)).mono ?_; rintro e w4 ⟨v, rfl, ⟨n, rfl, ni⟩, hg4, hc4⟩
  have HG5 := Lib.hid (grown_trans HG4.out hg4); have HR5 := Lib.hid (HR4.out.keep hg4); clear hg4 hc4 HC4 HG4 HR4
  obtain ⟨r1, r2, r3, r4, r5, r6⟩ := HR5.out
  go_wp2_with fail
  refine bodyPost_ret (by simp (maxDischargeDepth := 3) [results, Try.results39, go_sem, *]; try rfl) rfl ?_
  exact ⟨_, _, _, _, rfl, draw_endN HL0.out HG5.out HN.out HB0.out _ _⟩
end Go.Proofs.Ytpjcfnjagknocaa
