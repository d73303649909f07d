/- Dap: contracts: DrawAddPoints, DrawSlopeOf, DrawAreCollinear. No conditions. -/
import Derived.Test.YtnhlcgbknkdbiaaDsb
import Derived.Test.YtnhlcgbknkdbiaaDPkc
import Derived.Test.YtnhlcgbknkdbiaaAq
namespace Go.Proofs.Ytnhlcgbknkdbiaa
open Go.RowKit

theorem ptMinusG_any (x y e : Int) (w : World) :
    Calls Try.prog 57 #[.agg #[.int .i64 x, .int .i64 y, .int .i64 e]] w (fun r w' => ∃ z : Int, r = .returned (.agg #[.int .i64 x, .int .i64 z, .int .i64 e]) ∧ Below w.heap.size w w') := by
  go_enter Try.func57, Try.ntmps57
  go_wp2_with fail
  refine bodyPost_ret (by simp (maxDischargeDepth := 3) [results, Try.results57, go_sem, *]; try rfl) rfl ?_
  exact ⟨_, rfl, (by repeat (first | exact Below.refl _ _ | (with_reducible assumption) | refine bel_alloc ?_ _ | refine bel_drew ?_ | refine bel_drewN ?_ _ | refine Below.setCell ?_ (by dsimp only; omega) _ | refine bel_trans (by assumption) ?_))⟩
theorem run_callMin {i : Nat} {x : World} {d : Option Nat} {t : TypeId} {ts : Array TypeId} {s : String} {af : Array Edge} (ρ : Operand → Value) (hf : ρ (.func 57) = .func (.func 57) #[] #[]) :
    (execOp ρ { dst := d, op := .call { callee := .value (.func 57), args := #[.tmp i], argTypes := ts }, type := t, pos := s, after := af, guard := none }).run Try.prog x = .ok (.enter 57 #[ρ (.tmp i)]) x := by
  simp only [execOp, resolve, hf]
  go_simp
theorem run_callOn {i j : Nat} {x : World} {d : Option Nat} {t : TypeId} {ts : Array TypeId} {s : String} {af : Array Edge} (ρ : Operand → Value) (hf : ρ (.func 58) = .func (.func 58) #[] #[]) :
    (execOp ρ { dst := d, op := .call { callee := .value (.func 58), args := #[.tmp i, .tmp j], argTypes := ts }, type := t, pos := s, after := af, guard := none }).run Try.prog x = .ok (.enter 58 #[ρ (.tmp i), ρ (.tmp j)]) x := by
  simp only [execOp, resolve, hf]
  go_simp
def RetPt2 (w : World) (e : Ending) (w' : World) : Prop := ∃ a b x y e0 x2 y2 e2 : Int, e = .returned (.tuple #[.agg #[.int .i64 a, .int .i64 b], .agg #[.int .i64 x, .int .i64 y, .int .i64 e0], .agg #[.int .i64 x2, .int .i64 y2, .int .i64 e2]]) ∧ Below w.heap.size w w'
def RetPt3 (w : World) (e : Ending) (w' : World) : Prop := ∃ a b x y e0 x2 y2 e2 x3 y3 e3 : Int, e = .returned (.tuple #[.agg #[.int .i64 a, .int .i64 b], .agg #[.int .i64 x, .int .i64 y, .int .i64 e0], .agg #[.int .i64 x2, .int .i64 y2, .int .i64 e2], .agg #[.int .i64 x3, .int .i64 y3, .int .i64 e3]]) ∧ Below w.heap.size w w'
theorem sb_two {w X : World} {B R N1 N2 : Nat} {lim : Int} (hc : Cr X B lim) (hg : w.grownBy X (some B)) (hr : BoxC B X R 0 0) (h1 : BoxP B X N1 0 0 0) (h2 : BoxP B X N2 0 0 0) (a b x y e : Int) :
    SB w B [R, X.heap.size] [N1, N2, X.heap.size + 1] lim ((X.alloc (.cells #[.int .i64 a, .int .i64 b] 39)).alloc (.cells #[.int .i64 x, .int .i64 y, .int .i64 e] 41)) := by
  have hb2 : Below X.heap.size X ((X.alloc (.cells #[.int .i64 a, .int .i64 b] 39)).alloc (.cells #[.int .i64 x, .int .i64 y, .int .i64 e] 41)) := bel_alloc (below_allocD _ _) _
  have hx := (BoxC.new (B := B) a b 39 hc.lt).keep (below_grown B (below_allocD _ (.cells #[.int .i64 x, .int .i64 y, .int .i64 e] 41)))
  have hy : BoxP B ((X.alloc (.cells #[.int .i64 a, .int .i64 b] 39)).alloc (.cells #[.int .i64 x, .int .i64 y, .int .i64 e] 41)) (X.heap.size + 1) x y e := by
    have := BoxP.new (B := B) (w := X.alloc (.cells #[.int .i64 a, .int .i64 b] 39)) x y e 41 (by have := hc.lt; simp; omega)
    rwa [show (X.alloc (.cells #[.int .i64 a, .int .i64 b] 39)).heap.size = X.heap.size + 1 by simp] at this
  refine ⟨hc.keep' hb2, grown_belowD hg hb2, fun n hn => ?_, fun n hn => ?_⟩
  · simp only [List.mem_cons, List.not_mem_nil, or_false] at hn
    rcases hn with rfl | rfl
    · exact ⟨_, _, hr.keep (below_grown B hb2)⟩
    · exact ⟨_, _, hx⟩
  · simp only [List.mem_cons, List.not_mem_nil, or_false] at hn
    rcases hn with rfl | rfl | rfl
    · exact ⟨_, _, _, h1.keep (below_grown B hb2)⟩
    · exact ⟨_, _, _, h2.keep (below_grown B hb2)⟩
    · exact ⟨_, _, _, hy⟩
set_option maxHeartbeats 8000000 in
set_option maxRecDepth 100000 in
theorem drawAddPoints_any (ad : Option Addr) (len cap : Nat) (zs : List Int) (w : World) (h : IsRow .u8 w ad len cap zs) (hl : len ≤ 1048576) :
    Calls Try.prog 19 #[.slice ad len cap] w (RetPt2 w) := by
  have h0 : Below w.heap.size w (((w.alloc (.cells #[.int .i64 0, .int .i64 0] 39)).alloc (.cells #[.int .i64 0, .int .i64 0, .int .i64 0] 41)).alloc (.cells #[.int .i64 0, .int .i64 0, .int .i64 0] 41)) := bel_alloc (bel_alloc (below_allocD _ _) _) _
  have hc0 := cr_startb h (by omega) h0 61
  have hz0 : (((w.alloc (.cells #[.int .i64 0, .int .i64 0] 39)).alloc (.cells #[.int .i64 0, .int .i64 0, .int .i64 0] 41)).alloc (.cells #[.int .i64 0, .int .i64 0, .int .i64 0] 41)).heap.size = w.heap.size + 1 + 1 + 1 := by simp
  have hr0 : BoxC (w.heap.size + 1 + 1 + 1) ((((w.alloc (.cells #[.int .i64 0, .int .i64 0] 39)).alloc (.cells #[.int .i64 0, .int .i64 0, .int .i64 0] 41)).alloc (.cells #[.int .i64 0, .int .i64 0, .int .i64 0] 41)).alloc (.cells #[.slice ad len cap, .int .i64 0, .int .u64 0] 61)) (w.heap.size) 0 0 := ⟨by simp <;> omega, by omega, by simp [go_sem], by simp [go_sem], by simp [go_sem], by simp [go_sem]⟩
  have hr1 : BoxP (w.heap.size + 1 + 1 + 1) ((((w.alloc (.cells #[.int .i64 0, .int .i64 0] 39)).alloc (.cells #[.int .i64 0, .int .i64 0, .int .i64 0] 41)).alloc (.cells #[.int .i64 0, .int .i64 0, .int .i64 0] 41)).alloc (.cells #[.slice ad len cap, .int .i64 0, .int .u64 0] 61)) (w.heap.size + 1) 0 0 0 := ⟨by simp <;> omega, by omega, by simp [go_sem], by simp [go_sem], by simp [go_sem], by simp [go_sem], by simp [go_sem], by simp [go_sem]⟩
  have hr2 : BoxP (w.heap.size + 1 + 1 + 1) ((((w.alloc (.cells #[.int .i64 0, .int .i64 0] 39)).alloc (.cells #[.int .i64 0, .int .i64 0, .int .i64 0] 41)).alloc (.cells #[.int .i64 0, .int .i64 0, .int .i64 0] 41)).alloc (.cells #[.slice ad len cap, .int .i64 0, .int .u64 0] 61)) (w.heap.size + 1 + 1) 0 0 0 := ⟨by simp <;> omega, by omega, by simp [go_sem], by simp [go_sem], by simp [go_sem], by simp [go_sem], by simp [go_sem], by simp [go_sem]⟩
  have hl1 : Below w.heap.size w ((((w.alloc (.cells #[.int .i64 0, .int .i64 0] 39)).alloc (.cells #[.int .i64 0, .int .i64 0, .int .i64 0] 41)).alloc (.cells #[.int .i64 0, .int .i64 0, .int .i64 0] 41)).alloc (.cells #[.slice ad len cap, .int .i64 0, .int .u64 0] 61)) := bel_alloc h0 _
  have HC0 := Lib.hid hc0; have HL0 := Lib.hid hl1; have HZ0 := Lib.hid hz0; have HR0 := Lib.hid hr0; have HR1 := Lib.hid hr1; have HR2 := Lib.hid hr2
  clear hc0 h0 hl1 hz0 h hr0 hr1 hr2
  go_enter Try.func19, Try.ntmps19
  go_wp2_with fail
  have hc0 := HC0.out; have hl0 := HL0.out; have hr0 := HR0.out; have hr1 := HR1.out; have hr2 := HR2.out
  rw [HZ0.out] at hc0
  clear HC0 HL0 HZ0 HR0 HR1 HR2
  generalize (((w.alloc (.cells #[.int .i64 0, .int .i64 0] 39)).alloc (.cells #[.int .i64 0, .int .i64 0, .int .i64 0] 41)).alloc (.cells #[.int .i64 0, .int .i64 0, .int .i64 0] 41)).alloc (.cells #[.slice ad len cap, .int .i64 0, .int .u64 0] 61) = V at hc0 hl0 hr0 hr1 hr2 ⊢
  obtain ⟨N1, hN1⟩ : ∃ N, N = w.heap.size + 1 := ⟨_, rfl⟩
  obtain ⟨N2, hN2⟩ : ∃ N, N = w.heap.size + 1 + 1 := ⟨_, rfl⟩
  obtain ⟨B, hB⟩ : ∃ N, N = w.heap.size + 1 + 1 + 1 := ⟨_, rfl⟩
  rw [← hB] at hc0 hr0 hr1 hr2 ⊢
  rw [← hN2] at hr2 ⊢
  rw [← hN1] at hr1 ⊢
  have HN := Lib.hid (show N1 = w.heap.size + 1 ∧ N2 = w.heap.size + 1 + 1 ∧ B = w.heap.size + 1 + 1 + 1 from ⟨hN1, hN2, hB⟩); clear hN1 hN2 hB
  have hg0 := below_grown B hl0; clear hl0
  refine (anyPoint_any B _ _ hc0 (by omega)).mono ?_; rintro e w1 ⟨v, rfl, ⟨a, b, x, y, e0, rfl⟩, hg1, hc1⟩
  have HK := Lib.hid (And.intro hc1 (And.intro (grown_trans hg0 hg1) (And.intro (hr0.keep hg1) (And.intro (hr1.keep hg1) (hr2.keep hg1)))))
  clear hg1 hg0 hr0 hr1 hr2 hc0 hc1
  go_wp2_with fail
  have hy := sb_two HK.out.1 HK.out.2.1 HK.out.2.2.1 HK.out.2.2.2.1 HK.out.2.2.2.2 a b x y e0
  have hn1 := HK.out.2.2.1.1; have hn2 := HK.out.2.2.2.2.1; have hn3 := HK.out.1.lt
  generalize (w1.alloc (.cells #[.int .i64 a, .int .i64 b] 39)).alloc (.cells #[.int .i64 x, .int .i64 y, .int .i64 e0] 41) = Y at hy ⊢
  generalize w1.heap.size = n at hy hn1 hn2 hn3 ⊢
  have HNB := Lib.hid (show N1 = w.heap.size + 1 ∧ N2 = w.heap.size + 1 + 1 ∧ w.heap.size + 1 + 1 + 1 < n by have := HN.out; omega)
  clear HK hn1 hn2 hn3
  refine (pick_any B _ 8 _ hy.cr (by omega) (by omega) (by omega)).mono ?_; rintro e w2 ⟨v, rfl, ⟨k, rfl, k0, k1⟩, hg, hc⟩
  have hy2 := hy.grow hg hc
  clear hy hg hc
  obtain ⟨lim, hlim⟩ : ∃ lim : Int, lim = 100000 := ⟨_, rfl⟩
  have HY := Lib.hid (hy2.le (lim' := lim) (by omega))
  clear hy2
  by_cases e0k : k = 0
  · subst e0k
    clear k0 k1
    go_wp2_with fail
    refine wp_region_steps [20, 21, 22] RT (look [(20, VCe), (21, VPe (fun _ _ _ => True)), (22, VPe (fun _ _ _ => True))]) (fun k X => SB w B [w.heap.size, n] [N1, N2, n + 1] (lim + 30000 * (k : Int)) X) (by kernel_rfl) (by kernel_rfl) (by decide) (look_keep ?_) ?_ ?_
    · intro q hq v x y hv hr
      simp only [List.mem_cons, List.not_mem_nil, or_false] at hq
      rcases hq with rfl | rfl | rfl
      all_goals exact hv
    · exact HY.out.drew.le (by omega)
    refine Steps.cons ?_ ?_
    · refine TStep.of ?_ ?_ ?_
      · rfl
      · simp
      intro k g X hk9 hS hd
      obtain ⟨c1, d1, hb⟩ := hS.c (n) (by simp)
      refine ⟨_, X, wp_ldCb hb (by rw [eval_out (by decide)]; rfl), fun d e => ?_, (hS.le (by push_cast; omega)), trivial⟩
      cases e; exact ⟨_, _, rfl⟩
    refine Steps.cons ?_ ?_
    · refine TStep.of ?_ ?_ ?_
      · rfl
      · simp
      intro k g X hk9 hS hd
      obtain ⟨c1, d1, f1, hb⟩ := hS.p (n + 1) (by simp)
      refine ⟨_, X, wp_ldP hb (by rw [eval_out (by decide)]; rfl), fun d e => ?_, (hS.le (by push_cast; omega)), trivial⟩
      cases e; exact ⟨_, _, _, rfl, trivial⟩
    refine Steps.cons ?_ ?_
    · refine TStep.of ?_ ?_ ?_
      · rfl
      · simp
      intro k g X hk9 hS hd
      obtain ⟨c1, d1, f1, hb⟩ := hS.p (n + 1) (by simp)
      refine ⟨_, X, wp_ldP hb (by rw [eval_out (by decide)]; rfl), fun d e => ?_, (hS.le (by push_cast; omega)), trivial⟩
      cases e; exact ⟨_, _, _, rfl, trivial⟩
    refine Steps.cons ?_ ?_
    · refine TStep.of ?_ ?_ ?_
      · rfl
      · simp
      intro k g X hk9 hS hd
      obtain ⟨c1, d1, e1⟩ : VCe (g 20) X := hd 20 (mem_b (by kernel_rfl))
      obtain ⟨c2, d2, hb⟩ := hS.c (w.heap.size) (by simp)
      refine ⟨undef, _, wp_stCb hb (by rw [eval_out (by decide)]; rfl) (by rw [eval_in (by decide) (by simp)]; exact e1), (by simp), (hS.putC (m := w.heap.size) (by simp) (by have := HNB.out; omega) (by have := HNB.out; simp; omega) c1 d1).le (by push_cast; omega), trivial⟩
    refine Steps.cons ?_ ?_
    · refine TStep.of ?_ ?_ ?_
      · rfl
      · simp
      intro k g X hk9 hS hd
      obtain ⟨c1, d1, f1, e1, -⟩ : VPe _ (g 21) X := hd 21 (mem_b (by kernel_rfl))
      obtain ⟨c2, d2, f2, hb⟩ := hS.p (N1) (by simp)
      refine ⟨undef, _, wp_stP hb (by rw [eval_out (by decide)]; rfl) (by rw [eval_in (by decide) (by simp)]; exact e1), (by simp), (hS.putP (m := N1) (by simp) (by have := HNB.out; omega) (by have := HNB.out; simp; omega) c1 d1 f1).le (by push_cast; omega), trivial⟩
    refine Steps.one ?_
    refine LStep.of ?_ ?_
    · rfl
    intro g X hS hd
    obtain ⟨c1, d1, f1, e1, -⟩ : VPe _ (g 22) X := hd 22 (mem_b (by kernel_rfl))
    obtain ⟨c2, d2, f2, hb⟩ := hS.p (N2) (by simp)
    refine ⟨undef, _, wp_stP hb (by rw [eval_out (by decide)]; rfl) (by rw [eval_in (by decide) (by simp)]; exact e1), ?_⟩
    have hE := hS.putP (m := N2) (by simp) (by have := HNB.out; omega) (by have := HNB.out; simp; omega) c1 d1 f1
    clear hb hS hd e1 HY
    generalize ((X.setCell ⟨N2, 0, none⟩ (.int .i64 c1)).setCell ⟨N2, 1, none⟩ (.int .i64 d1)).setCell ⟨N2, 2, none⟩ (.int .i64 f1) = Y2 at hE ⊢
    obtain ⟨_, _, q1, q2, q3, q4, q5, q6⟩ := hE.c (w.heap.size) (by simp)
    obtain ⟨_, _, _, r01, r02, r03, r04, r05, r06, r07, r08⟩ := hE.p N1 (by simp)
    obtain ⟨_, _, _, r11, r12, r13, r14, r15, r16, r17, r18⟩ := hE.p N2 (by simp)
    have HE := Lib.hid hE; clear hE
    clear HNB
    simp only [fill, Act.put, List.setIfInBounds_toArray, List.set_cons_zero, List.set_cons_succ]
    go_wp2_with fail
    refine bodyPost_ret (by simp (maxDischargeDepth := 3) [results, Try.results19, go_sem, *]; try rfl) rfl ?_
    exact ⟨_, _, _, _, _, _, _, _, rfl, grown_bel HE.out.gr (by have := HN.out; omega)⟩
  by_cases e1k : k = 1
  · subst e1k
    clear k0 k1 e0k
    go_wp2_with fail
    refine wp_region_steps [25, 26, 27, 28] RT (look [(25, VCe), (26, VPe (fun _ _ _ => True)), (27, VPe (fun _ _ _ => True)), (28, VPe (fun _ _ _ => True))]) (fun k X => SB w B [w.heap.size, n] [N1, N2, n + 1] (lim + 30000 * (k : Int)) X) (by kernel_rfl) (by kernel_rfl) (by decide) (look_keep ?_) ?_ ?_
    · intro q hq v x y hv hr
      simp only [List.mem_cons, List.not_mem_nil, or_false] at hq
      rcases hq with rfl | rfl | rfl | rfl
      all_goals exact hv
    · exact HY.out.drew.le (by omega)
    refine Steps.cons ?_ ?_
    · refine TStep.of ?_ ?_ ?_
      · rfl
      · simp
      intro k g X hk9 hS hd
      obtain ⟨c1, d1, hb⟩ := hS.c (n) (by simp)
      refine ⟨_, X, wp_ldCb hb (by rw [eval_out (by decide)]; rfl), fun d e => ?_, (hS.le (by push_cast; omega)), trivial⟩
      cases e; exact ⟨_, _, rfl⟩
    refine Steps.cons ?_ ?_
    · refine TStep.of ?_ ?_ ?_
      · rfl
      · simp
      intro k g X hk9 hS hd
      obtain ⟨c1, d1, f1, hb⟩ := hS.p (n + 1) (by simp)
      refine ⟨_, X, wp_ldP hb (by rw [eval_out (by decide)]; rfl), fun d e => ?_, (hS.le (by push_cast; omega)), trivial⟩
      cases e; exact ⟨_, _, _, rfl, trivial⟩
    refine Steps.cons ?_ ?_
    · refine TStep.of ?_ ?_ ?_
      · rfl
      · simp
      intro k g X hk9 hS hd
      obtain ⟨c1, d1, f1, hb⟩ := hS.p (n + 1) (by simp)
      refine ⟨_, X, wp_ldP hb (by rw [eval_out (by decide)]; rfl), fun d e => ?_, (hS.le (by push_cast; omega)), trivial⟩
      cases e; exact ⟨_, _, _, rfl, trivial⟩
    refine Steps.cons ?_ ?_
    · refine TStep.call ?_ ?_ ?_
      · rfl
      · simp
      intro k g X hk9 hS hd
      obtain ⟨c1, d1, f1, e1, -⟩ : VPe _ (g 27) X := hd 27 (mem_b (by kernel_rfl))
      refine ⟨_, _, wp_call_ofb (run_callMin _ (by rfl)), ?_⟩
      rw [eval_in (i := 27) (by decide) (by simp), e1]
      refine (ptMinusG_any c1 d1 f1 X).mono ?_
      rintro e' X' ⟨z, rfl, hb'⟩
      refine ⟨_, rfl, fun d e => ?_, (hS.grow (below_grown B hb') (hS.cr.keep' hb')).le (by push_cast; omega), trivial⟩
      cases e; exact ⟨_, _, _, rfl, trivial⟩
    refine Steps.cons ?_ ?_
    · refine TStep.of ?_ ?_ ?_
      · rfl
      · simp
      intro k g X hk9 hS hd
      obtain ⟨c1, d1, e1⟩ : VCe (g 25) X := hd 25 (mem_b (by kernel_rfl))
      obtain ⟨c2, d2, hb⟩ := hS.c (w.heap.size) (by simp)
      refine ⟨undef, _, wp_stCb hb (by rw [eval_out (by decide)]; rfl) (by rw [eval_in (by decide) (by simp)]; exact e1), (by simp), (hS.putC (m := w.heap.size) (by simp) (by have := HNB.out; omega) (by have := HNB.out; simp; omega) c1 d1).le (by push_cast; omega), trivial⟩
    refine Steps.cons ?_ ?_
    · refine TStep.of ?_ ?_ ?_
      · rfl
      · simp
      intro k g X hk9 hS hd
      obtain ⟨c1, d1, f1, e1, -⟩ : VPe _ (g 26) X := hd 26 (mem_b (by kernel_rfl))
      obtain ⟨c2, d2, f2, hb⟩ := hS.p (N1) (by simp)
      refine ⟨undef, _, wp_stP hb (by rw [eval_out (by decide)]; rfl) (by rw [eval_in (by decide) (by simp)]; exact e1), (by simp), (hS.putP (m := N1) (by simp) (by have := HNB.out; omega) (by have := HNB.out; simp; omega) c1 d1 f1).le (by push_cast; omega), trivial⟩
    refine Steps.one ?_
    refine LStep.of ?_ ?_
    · rfl
    intro g X hS hd
    obtain ⟨c1, d1, f1, e1, -⟩ : VPe _ (g 28) X := hd 28 (mem_b (by kernel_rfl))
    obtain ⟨c2, d2, f2, hb⟩ := hS.p (N2) (by simp)
    refine ⟨undef, _, wp_stP hb (by rw [eval_out (by decide)]; rfl) (by rw [eval_in (by decide) (by simp)]; exact e1), ?_⟩
    have hE := hS.putP (m := N2) (by simp) (by have := HNB.out; omega) (by have := HNB.out; simp; omega) c1 d1 f1
    clear hb hS hd e1 HY
    generalize ((X.setCell ⟨N2, 0, none⟩ (.int .i64 c1)).setCell ⟨N2, 1, none⟩ (.int .i64 d1)).setCell ⟨N2, 2, none⟩ (.int .i64 f1) = Y2 at hE ⊢
    obtain ⟨_, _, q1, q2, q3, q4, q5, q6⟩ := hE.c (w.heap.size) (by simp)
    obtain ⟨_, _, _, r01, r02, r03, r04, r05, r06, r07, r08⟩ := hE.p N1 (by simp)
    obtain ⟨_, _, _, r11, r12, r13, r14, r15, r16, r17, r18⟩ := hE.p N2 (by simp)
    have HE := Lib.hid hE; clear hE
    clear HNB
    simp only [fill, Act.put, List.setIfInBounds_toArray, List.set_cons_zero, List.set_cons_succ]
    go_wp2_with fail
    refine bodyPost_ret (by simp (maxDischargeDepth := 3) [results, Try.results19, go_sem, *]; try rfl) rfl ?_
    exact ⟨_, _, _, _, _, _, _, _, rfl, grown_bel HE.out.gr (by have := HN.out; omega)⟩
  have h0b : (k == 0) = false := by simp [e0k]
  have h1b : (k == 1) = false := by simp [e1k]
  clear k0 k1 e0k e1k
  go_wp2_with fail
  refine wp_region_steps [29, 30, 31, 32, 33] RT (look [(29, VCe), (30, VPe (fun _ _ _ => True)), (31, fun v _ => v = .pointer (some ⟨B, 0, none⟩)), (32, VCe), (33, VPe (fun _ _ _ => True))]) (fun k X => SB w B [w.heap.size, n] [N1, N2, n + 1] (lim + 30000 * (k : Int)) X) (by kernel_rfl) (by kernel_rfl) (by decide) (look_keep ?_) ?_ ?_
  · intro q hq v x y hv hr
    simp only [List.mem_cons, List.not_mem_nil, or_false] at hq
    rcases hq with rfl | rfl | rfl | rfl | rfl
    all_goals exact hv
  · exact HY.out.drew.le (by omega)
  refine Steps.cons ?_ ?_
  · refine TStep.of ?_ ?_ ?_
    · rfl
    · simp
    intro k g X hk9 hS hd
    obtain ⟨c1, d1, hb⟩ := hS.c (n) (by simp)
    refine ⟨_, X, wp_ldCb hb (by rw [eval_out (by decide)]; rfl), fun d e => ?_, (hS.le (by push_cast; omega)), trivial⟩
    cases e; exact ⟨_, _, rfl⟩
  refine Steps.cons ?_ ?_
  · refine TStep.of ?_ ?_ ?_
    · rfl
    · simp
    intro k g X hk9 hS hd
    obtain ⟨c1, d1, f1, hb⟩ := hS.p (n + 1) (by simp)
    refine ⟨_, X, wp_ldP hb (by rw [eval_out (by decide)]; rfl), fun d e => ?_, (hS.le (by push_cast; omega)), trivial⟩
    cases e; exact ⟨_, _, _, rfl, trivial⟩
  refine Steps.cons ?_ ?_
  · refine TStep.move 5 ?_ ?_ ?_ ?_ ?_ ?_
    · exact .inl rfl
    · rfl
    · simp
    · exact fun _ _ h => h.le (by push_cast; omega)
    · exact fun _ => trivial
    intro g X hd d e; cases e; rw [eval_out (by decide)]; exact rfl
  refine Steps.cons ?_ ?_
  · refine TStep.of ?_ ?_ ?_
    · rfl
    · simp
    intro k g X hk9 hS hd
    obtain ⟨c1, d1, hb⟩ := hS.c (n) (by simp)
    refine ⟨_, X, wp_ldCb hb (by rw [eval_out (by decide)]; rfl), fun d e => ?_, (hS.le (by push_cast; omega)), trivial⟩
    cases e; exact ⟨_, _, rfl⟩
  refine Steps.cons ?_ ?_
  · refine TStep.call ?_ ?_ ?_
    · rfl
    · simp
    intro k g X hk9 hS hd
    have e1 : g 31 = .pointer (some ⟨B, 0, none⟩) := hd 31 (mem_b (by kernel_rfl))
    obtain ⟨c1, d1, e2⟩ : VCe (g 32) X := hd 32 (mem_b (by kernel_rfl))
    refine ⟨_, _, wp_call_ofb (run_callOn _ (by rfl)), ?_⟩
    rw [eval_in (i := 31) (by decide) (by simp), eval_in (i := 32) (by decide) (by simp), e1, e2]
    refine (pointOn_any B _ c1 d1 X hS.cr (by have h9 : k < 8 := hk9; omega)).mono ?_
    rintro e' X' ⟨v', rfl, ⟨p1, p2, p3, rfl⟩, hg', hc'⟩
    refine ⟨_, rfl, fun d e => ?_, (hS.grow hg' hc').le (by push_cast; omega), trivial⟩
    cases e; exact ⟨_, _, _, rfl, trivial⟩
  refine Steps.cons ?_ ?_
  · refine TStep.of ?_ ?_ ?_
    · rfl
    · simp
    intro k g X hk9 hS hd
    obtain ⟨c1, d1, e1⟩ : VCe (g 29) X := hd 29 (mem_b (by kernel_rfl))
    obtain ⟨c2, d2, hb⟩ := hS.c (w.heap.size) (by simp)
    refine ⟨undef, _, wp_stCb hb (by rw [eval_out (by decide)]; rfl) (by rw [eval_in (by decide) (by simp)]; exact e1), (by simp), (hS.putC (m := w.heap.size) (by simp) (by have := HNB.out; omega) (by have := HNB.out; simp; omega) c1 d1).le (by push_cast; omega), trivial⟩
  refine Steps.cons ?_ ?_
  · refine TStep.of ?_ ?_ ?_
    · rfl
    · simp
    intro k g X hk9 hS hd
    obtain ⟨c1, d1, f1, e1, -⟩ : VPe _ (g 30) X := hd 30 (mem_b (by kernel_rfl))
    obtain ⟨c2, d2, f2, hb⟩ := hS.p (N1) (by simp)
    refine ⟨undef, _, wp_stP hb (by rw [eval_out (by decide)]; rfl) (by rw [eval_in (by decide) (by simp)]; exact e1), (by simp), (hS.putP (m := N1) (by simp) (by have := HNB.out; omega) (by have := HNB.out; simp; omega) c1 d1 f1).le (by push_cast; omega), trivial⟩
  refine Steps.one ?_
  refine LStep.of ?_ ?_
  · rfl
  intro g X hS hd
  obtain ⟨c1, d1, f1, e1, -⟩ : VPe _ (g 33) X := hd 33 (mem_b (by kernel_rfl))
  obtain ⟨c2, d2, f2, hb⟩ := hS.p (N2) (by simp)
  refine ⟨undef, _, wp_stP hb (by rw [eval_out (by decide)]; rfl) (by rw [eval_in (by decide) (by simp)]; exact e1), ?_⟩
  have hE := hS.putP (m := N2) (by simp) (by have := HNB.out; omega) (by have := HNB.out; simp; omega) c1 d1 f1
  clear hb hS hd e1 HY
  generalize ((X.setCell ⟨N2, 0, none⟩ (.int .i64 c1)).setCell ⟨N2, 1, none⟩ (.int .i64 d1)).setCell ⟨N2, 2, none⟩ (.int .i64 f1) = Y2 at hE ⊢
  obtain ⟨_, _, q1, q2, q3, q4, q5, q6⟩ := hE.c (w.heap.size) (by simp)
  obtain ⟨_, _, _, r01, r02, r03, r04, r05, r06, r07, r08⟩ := hE.p N1 (by simp)
  obtain ⟨_, _, _, r11, r12, r13, r14, r15, r16, r17, r18⟩ := hE.p N2 (by simp)
  have HE := Lib.hid hE; clear hE
  clear HNB
  simp only [fill, Act.put, List.setIfInBounds_toArray, List.set_cons_zero, List.set_cons_succ]
  go_wp2_with fail
  refine bodyPost_ret (by simp (maxDischargeDepth := 3) [results, Try.results19, go_sem, *]; try rfl) rfl ?_
  exact ⟨_, _, _, _, _, _, _, _, rfl, grown_bel HE.out.gr (by have := HN.out; omega)⟩
set_option maxHeartbeats 2000000 in
theorem drawSlopeOf_any (ad : Option Addr) (len cap : Nat) (zs : List Int) (w : World) (h : IsRow .u8 w ad len cap zs) (hl : len ≤ 1048576) :
    Calls Try.prog 30 #[.slice ad len cap] w (RetPt2 w) := by
  have hb0 : Below w.heap.size w (((w.alloc (.cells #[.int .i64 0, .int .i64 0] 39)).alloc (.cells #[.int .i64 0, .int .i64 0, .int .i64 0] 41)).alloc (.cells #[.int .i64 0, .int .i64 0, .int .i64 0] 41)) := bel_alloc (bel_alloc (below_allocD _ _) _) _
  have hk := isRow_keepDb h hb0
  have hr0 : BoxC (w.heap.size + 3) (((w.alloc (.cells #[.int .i64 0, .int .i64 0] 39)).alloc (.cells #[.int .i64 0, .int .i64 0, .int .i64 0] 41)).alloc (.cells #[.int .i64 0, .int .i64 0, .int .i64 0] 41)) w.heap.size 0 0 := ⟨by simp <;> omega, by omega, by simp [go_sem], by simp [go_sem], by simp [go_sem], by simp [go_sem]⟩
  have hr1 : BoxP (w.heap.size + 3) (((w.alloc (.cells #[.int .i64 0, .int .i64 0] 39)).alloc (.cells #[.int .i64 0, .int .i64 0, .int .i64 0] 41)).alloc (.cells #[.int .i64 0, .int .i64 0, .int .i64 0] 41)) (w.heap.size + 1) 0 0 0 := ⟨by simp <;> omega, by omega, by simp [go_sem], by simp [go_sem], by simp [go_sem], by simp [go_sem], by simp [go_sem], by simp [go_sem]⟩
  have hr2 : BoxP (w.heap.size + 3) (((w.alloc (.cells #[.int .i64 0, .int .i64 0] 39)).alloc (.cells #[.int .i64 0, .int .i64 0, .int .i64 0] 41)).alloc (.cells #[.int .i64 0, .int .i64 0, .int .i64 0] 41)) (w.heap.size + 1 + 1) 0 0 0 := ⟨by simp <;> omega, by omega, by simp [go_sem], by simp [go_sem], by simp [go_sem], by simp [go_sem], by simp [go_sem], by simp [go_sem]⟩
  have HK := Lib.hid hk; have H0 := Lib.hid hb0; have HR := Lib.hid hr0; have HP := Lib.hid hr1; have HQ := Lib.hid hr2
  clear hk h hb0 hr0 hr1 hr2
  go_enter Try.func30, Try.ntmps30
  go_wp2_with fail
  refine (drawAddPoints_any _ _ _ _ _ HK.out hl).mono ?_; rintro e w1 ⟨a, b, x, y, e0, x2, y2, e2, rfl, hb⟩
  have H1 := Lib.hid (bel_trans hb H0.out)
  obtain ⟨r1, r2, r3, r4, r5, r6⟩ := HR.out.keep (below_grown _ hb)
  obtain ⟨t1, t2, t3, t4, t5, t6, t7, t8⟩ := HP.out.keep (below_grown _ hb)
  obtain ⟨q1, q2, q3, q4, q5, q6, q7, q8⟩ := HQ.out.keep (below_grown _ hb)
  clear hb HK H0 HR HP HQ r2 t2 q2
  go_wp2_with fail
  refine bodyPost_ret (by simp (maxDischargeDepth := 3) [results, Try.results30, go_sem, *]; try rfl) rfl ?_
  refine ⟨_, _, _, _, _, _, _, _, rfl, ?_⟩
  repeat (refine Below.setCell ?_ (by dsimp only; omega) _)
  exact H1.out
theorem sb_three {w X : World} {B R N1 N2 N3 : Nat} {lim : Int} (hc : Cr X B lim) (hg : w.grownBy X (some B)) (hr : BoxC B X R 0 0) (h1 : BoxP B X N1 0 0 0) (h2 : BoxP B X N2 0 0 0) (h3 : BoxP B X N3 0 0 0) (a b x y e x2 y2 e2 : Int) :
    SB w B [R, X.heap.size] [N1, N2, N3, X.heap.size + 1, X.heap.size + 1 + 1] lim (((X.alloc (.cells #[.int .i64 a, .int .i64 b] 39)).alloc (.cells #[.int .i64 x, .int .i64 y, .int .i64 e] 41)).alloc (.cells #[.int .i64 x2, .int .i64 y2, .int .i64 e2] 41)) ∧ BoxC B (((X.alloc (.cells #[.int .i64 a, .int .i64 b] 39)).alloc (.cells #[.int .i64 x, .int .i64 y, .int .i64 e] 41)).alloc (.cells #[.int .i64 x2, .int .i64 y2, .int .i64 e2] 41)) X.heap.size a b ∧ BoxP B (((X.alloc (.cells #[.int .i64 a, .int .i64 b] 39)).alloc (.cells #[.int .i64 x, .int .i64 y, .int .i64 e] 41)).alloc (.cells #[.int .i64 x2, .int .i64 y2, .int .i64 e2] 41)) (X.heap.size + 1) x y e ∧ BoxP B (((X.alloc (.cells #[.int .i64 a, .int .i64 b] 39)).alloc (.cells #[.int .i64 x, .int .i64 y, .int .i64 e] 41)).alloc (.cells #[.int .i64 x2, .int .i64 y2, .int .i64 e2] 41)) (X.heap.size + 1 + 1) x2 y2 e2 := by
  have hb3 : Below X.heap.size X (((X.alloc (.cells #[.int .i64 a, .int .i64 b] 39)).alloc (.cells #[.int .i64 x, .int .i64 y, .int .i64 e] 41)).alloc (.cells #[.int .i64 x2, .int .i64 y2, .int .i64 e2] 41)) := bel_alloc (bel_alloc (below_allocD _ _) _) _
  have z1 : (X.alloc (.cells #[.int .i64 a, .int .i64 b] 39)).heap.size = X.heap.size + 1 := by simp
  have z2 : ((X.alloc (.cells #[.int .i64 a, .int .i64 b] 39)).alloc (.cells #[.int .i64 x, .int .i64 y, .int .i64 e] 41)).heap.size = X.heap.size + 1 + 1 := by simp
  have hx := ((BoxC.new (B := B) a b 39 hc.lt).keep (below_grown B (below_allocD _ (.cells #[.int .i64 x, .int .i64 y, .int .i64 e] 41)))).keep (below_grown B (below_allocD _ (.cells #[.int .i64 x2, .int .i64 y2, .int .i64 e2] 41)))
  have hy : BoxP B ((X.alloc (.cells #[.int .i64 a, .int .i64 b] 39)).alloc (.cells #[.int .i64 x, .int .i64 y, .int .i64 e] 41)) (X.heap.size + 1) x y e := by
    have := BoxP.new (B := B) (w := X.alloc (.cells #[.int .i64 a, .int .i64 b] 39)) x y e 41 (by have := hc.lt; simp; omega)
    rwa [z1] at this
  have hz : BoxP B (((X.alloc (.cells #[.int .i64 a, .int .i64 b] 39)).alloc (.cells #[.int .i64 x, .int .i64 y, .int .i64 e] 41)).alloc (.cells #[.int .i64 x2, .int .i64 y2, .int .i64 e2] 41)) (X.heap.size + 1 + 1) x2 y2 e2 := by
    have := BoxP.new (B := B) (w := (X.alloc (.cells #[.int .i64 a, .int .i64 b] 39)).alloc (.cells #[.int .i64 x, .int .i64 y, .int .i64 e] 41)) x2 y2 e2 41 (by have := hc.lt; simp; omega)
    rwa [z2] at this
  have hy2 := hy.keep (below_grown B (below_allocD _ (.cells #[.int .i64 x2, .int .i64 y2, .int .i64 e2] 41)))
  refine ⟨⟨hc.keep' hb3, grown_belowD hg hb3, fun n hn => ?_, fun n hn => ?_⟩, hx, hy2, hz⟩
  · simp only [List.mem_cons, List.not_mem_nil, or_false] at hn
    rcases hn with rfl | rfl
    · exact ⟨_, _, hr.keep (below_grown B hb3)⟩
    · exact ⟨_, _, hx⟩
  · simp only [List.mem_cons, List.not_mem_nil, or_false] at hn
    rcases hn with rfl | rfl | rfl | rfl | rfl
    · exact ⟨_, _, _, h1.keep (below_grown B hb3)⟩
    · exact ⟨_, _, _, h2.keep (below_grown B hb3)⟩
    · exact ⟨_, _, _, h3.keep (below_grown B hb3)⟩
    · exact ⟨_, _, _, hy2⟩
    · exact ⟨_, _, _, hz⟩
theorem sb_more {w X : World} {B : Nat} {cs ps : List Nat} {lim : Int} (h : SB w B cs ps lim X) (x y e : Int) : SB w B cs (ps ++ [X.heap.size]) lim (X.alloc (.cells #[.int .i64 x, .int .i64 y, .int .i64 e] 41)) := by
  have hb := below_allocD X (.cells #[.int .i64 x, .int .i64 y, .int .i64 e] 41)
  refine ⟨h.cr.keep' hb, grown_belowD h.gr hb, fun n hn => ?_, fun n hn => ?_⟩
  · obtain ⟨a, b, k⟩ := h.c n hn
    exact ⟨a, b, k.keep (below_grown B hb)⟩
  · rcases List.mem_append.1 hn with hn | hn
    · obtain ⟨a, b, c, k⟩ := h.p n hn
      exact ⟨a, b, c, k.keep (below_grown B hb)⟩
    · rw [List.mem_singleton.1 hn]
      exact ⟨_, _, _, BoxP.new (B := B) x y e 41 h.cr.lt⟩
theorem pointB_on' {a b x y e : Int} (h : pointB a b x y e = true) : curveB a b = true ∧ onB a b x y e = true := by
  unfold pointB at h; rw [Bool.and_eq_true] at h; exact h
theorem ptO_shape' (o : Option (Int × Int × Int)) : ∃ (n1 n2 n3 : Int) (ok : Bool), ptO o = .tuple #[.agg #[.int .i64 n1, .int .i64 n2, .int .i64 n3], .bool ok] := by
  cases o with
  | none => exact ⟨_, _, _, _, rfl⟩
  | some t => exact ⟨_, _, _, _, rfl⟩
set_option maxHeartbeats 8000000 in
set_option maxRecDepth 100000 in
theorem drawAreCollinear_any (ad : Option Addr) (len cap : Nat) (zs : List Int) (w : World) (h : IsRow .u8 w ad len cap zs) (hl : len ≤ 1048576) :
    Calls Try.prog 27 #[.slice ad len cap] w (RetPt3 w) := by
  have h0 : Below w.heap.size w ((((w.alloc (.cells #[.int .i64 0, .int .i64 0] 39)).alloc (.cells #[.int .i64 0, .int .i64 0, .int .i64 0] 41)).alloc (.cells #[.int .i64 0, .int .i64 0, .int .i64 0] 41)).alloc (.cells #[.int .i64 0, .int .i64 0, .int .i64 0] 41)) := bel_alloc (bel_alloc (bel_alloc (below_allocD _ _) _) _) _
  have hc0 := cr_startb h (by omega) h0 61
  have hz0 : ((((w.alloc (.cells #[.int .i64 0, .int .i64 0] 39)).alloc (.cells #[.int .i64 0, .int .i64 0, .int .i64 0] 41)).alloc (.cells #[.int .i64 0, .int .i64 0, .int .i64 0] 41)).alloc (.cells #[.int .i64 0, .int .i64 0, .int .i64 0] 41)).heap.size = w.heap.size + 1 + 1 + 1 + 1 := by simp
  have hr0 : BoxC (w.heap.size + 1 + 1 + 1 + 1) (((((w.alloc (.cells #[.int .i64 0, .int .i64 0] 39)).alloc (.cells #[.int .i64 0, .int .i64 0, .int .i64 0] 41)).alloc (.cells #[.int .i64 0, .int .i64 0, .int .i64 0] 41)).alloc (.cells #[.int .i64 0, .int .i64 0, .int .i64 0] 41)).alloc (.cells #[.slice ad len cap, .int .i64 0, .int .u64 0] 61)) (w.heap.size) 0 0 := ⟨by simp <;> omega, by omega, by simp [go_sem], by simp [go_sem], by simp [go_sem], by simp [go_sem]⟩
  have hr1 : BoxP (w.heap.size + 1 + 1 + 1 + 1) (((((w.alloc (.cells #[.int .i64 0, .int .i64 0] 39)).alloc (.cells #[.int .i64 0, .int .i64 0, .int .i64 0] 41)).alloc (.cells #[.int .i64 0, .int .i64 0, .int .i64 0] 41)).alloc (.cells #[.int .i64 0, .int .i64 0, .int .i64 0] 41)).alloc (.cells #[.slice ad len cap, .int .i64 0, .int .u64 0] 61)) (w.heap.size + 1) 0 0 0 := ⟨by simp <;> omega, by omega, by simp [go_sem], by simp [go_sem], by simp [go_sem], by simp [go_sem], by simp [go_sem], by simp [go_sem]⟩
  have hr2 : BoxP (w.heap.size + 1 + 1 + 1 + 1) (((((w.alloc (.cells #[.int .i64 0, .int .i64 0] 39)).alloc (.cells #[.int .i64 0, .int .i64 0, .int .i64 0] 41)).alloc (.cells #[.int .i64 0, .int .i64 0, .int .i64 0] 41)).alloc (.cells #[.int .i64 0, .int .i64 0, .int .i64 0] 41)).alloc (.cells #[.slice ad len cap, .int .i64 0, .int .u64 0] 61)) (w.heap.size + 1 + 1) 0 0 0 := ⟨by simp <;> omega, by omega, by simp [go_sem], by simp [go_sem], by simp [go_sem], by simp [go_sem], by simp [go_sem], by simp [go_sem]⟩
  have hr3 : BoxP (w.heap.size + 1 + 1 + 1 + 1) (((((w.alloc (.cells #[.int .i64 0, .int .i64 0] 39)).alloc (.cells #[.int .i64 0, .int .i64 0, .int .i64 0] 41)).alloc (.cells #[.int .i64 0, .int .i64 0, .int .i64 0] 41)).alloc (.cells #[.int .i64 0, .int .i64 0, .int .i64 0] 41)).alloc (.cells #[.slice ad len cap, .int .i64 0, .int .u64 0] 61)) (w.heap.size + 1 + 1 + 1) 0 0 0 := ⟨by simp <;> omega, by omega, by simp [go_sem], by simp [go_sem], by simp [go_sem], by simp [go_sem], by simp [go_sem], by simp [go_sem]⟩
  have hl1 : Below w.heap.size w (((((w.alloc (.cells #[.int .i64 0, .int .i64 0] 39)).alloc (.cells #[.int .i64 0, .int .i64 0, .int .i64 0] 41)).alloc (.cells #[.int .i64 0, .int .i64 0, .int .i64 0] 41)).alloc (.cells #[.int .i64 0, .int .i64 0, .int .i64 0] 41)).alloc (.cells #[.slice ad len cap, .int .i64 0, .int .u64 0] 61)) := bel_alloc h0 _
  have HROW := Lib.hid (isRow_keepDb h hl1)
  have HC0 := Lib.hid hc0; have HL0 := Lib.hid hl1; have HZ0 := Lib.hid hz0; have HR0 := Lib.hid hr0; have HR1 := Lib.hid hr1; have HR2 := Lib.hid hr2; have HR3 := Lib.hid hr3
  clear hc0 h0 hl1 hz0 h hr0 hr1 hr2 hr3
  go_enter Try.func27, Try.ntmps27
  go_wp2_with fail
  have hc0 := HC0.out; have hl0 := HL0.out; have hr0 := HR0.out; have hr1 := HR1.out; have hr2 := HR2.out; have hr3 := HR3.out
  rw [HZ0.out] at hc0
  clear HC0 HL0 HZ0 HR0 HR1 HR2 HR3
  generalize ((((w.alloc (.cells #[.int .i64 0, .int .i64 0] 39)).alloc (.cells #[.int .i64 0, .int .i64 0, .int .i64 0] 41)).alloc (.cells #[.int .i64 0, .int .i64 0, .int .i64 0] 41)).alloc (.cells #[.int .i64 0, .int .i64 0, .int .i64 0] 41)).alloc (.cells #[.slice ad len cap, .int .i64 0, .int .u64 0] 61) = V at hc0 hl0 hr0 hr1 hr2 hr3 HROW ⊢
  obtain ⟨N1, hN1⟩ : ∃ N, N = w.heap.size + 1 := ⟨_, rfl⟩
  obtain ⟨N2, hN2⟩ : ∃ N, N = w.heap.size + 1 + 1 := ⟨_, rfl⟩
  obtain ⟨N3, hN3⟩ : ∃ N, N = w.heap.size + 1 + 1 + 1 := ⟨_, rfl⟩
  obtain ⟨B, hB⟩ : ∃ N, N = w.heap.size + 1 + 1 + 1 + 1 := ⟨_, rfl⟩
  rw [← hB] at hc0 hr0 hr1 hr2 hr3 ⊢
  rw [← hN3] at hr3 ⊢
  rw [← hN2] at hr2 ⊢
  rw [← hN1] at hr1 ⊢
  have HN := Lib.hid (show N1 = w.heap.size + 1 ∧ N2 = w.heap.size + 1 + 1 ∧ N3 = w.heap.size + 1 + 1 + 1 ∧ B = w.heap.size + 1 + 1 + 1 + 1 from ⟨hN1, hN2, hN3, hB⟩); clear hN1 hN2 hN3 hB
  have hg0 := below_grown B hl0; clear hl0
  refine (drawAddPoints_any _ _ _ _ _ HROW.out hl).mono ?_; rintro e w1 ⟨a, b, x, y, e0, x2, y2, e2, rfl, hb⟩
  have hgb := below_grown B hb
  have HK := Lib.hid (And.intro (hc0.keep' hb) (And.intro (grown_trans hg0 hgb) (And.intro (hr0.keep hgb) (And.intro (hr1.keep hgb) (And.intro (hr2.keep hgb) (hr3.keep hgb))))))
  clear hb hgb hg0 hr0 hr1 hr2 hr3 hc0 HROW
  go_wp2_with fail
  have hy := sb_three HK.out.1 HK.out.2.1 HK.out.2.2.1 HK.out.2.2.2.1 HK.out.2.2.2.2.1 HK.out.2.2.2.2.2 a b x y e0 x2 y2 e2
  have hn3 := HK.out.1.lt
  generalize ((w1.alloc (.cells #[.int .i64 a, .int .i64 b] 39)).alloc (.cells #[.int .i64 x, .int .i64 y, .int .i64 e0] 41)).alloc (.cells #[.int .i64 x2, .int .i64 y2, .int .i64 e2] 41) = Y at hy ⊢
  generalize w1.heap.size = n at hy hn3 ⊢
  have HNB := Lib.hid (show N1 = w.heap.size + 1 ∧ N2 = w.heap.size + 1 + 1 ∧ N3 = w.heap.size + 1 + 1 + 1 ∧ w.heap.size + 1 + 1 + 1 + 1 < n by have := HN.out; omega)
  obtain ⟨hS0, hE0, hP0, hQ0⟩ := hy
  have HS0 := Lib.hid hS0; have HE0 := Lib.hid hE0; have HP0 := Lib.hid hP0; have HQ0 := Lib.hid hQ0
  clear HK hn3 hS0 hE0 hP0 hQ0
  refine (sIsPointOf_any a b x y e0 _).mono ?_; rintro e w2 ⟨rfl, hb⟩
  have HS1 := Lib.hid (HS0.out.grow (below_grown B hb) (HS0.out.cr.keep' hb)); have HE1 := Lib.hid (HE0.out.keep (below_grown B hb)); have HP1 := Lib.hid (HP0.out.keep (below_grown B hb)); have HQ1 := Lib.hid (HQ0.out.keep (below_grown B hb)); clear hb HS0 HE0 HP0 HQ0
  cases hpt : pointB a b x y e0
  · obtain ⟨c1, c2, c3, c4, c5, c6⟩ := HE1.out; obtain ⟨p1, p2, p3, p4, p5, p6, p7, p8⟩ := HP1.out; obtain ⟨q1, q2, q3, q4, q5, q6, q7, q8⟩ := HQ1.out
    go_wp2_with fail
    clear c1 c2 c3 c4 c5 c6 p1 p2 p3 p4 p5 p6 p7 p8 q1 q2 q3 q4 q5 q6 q7 q8
    obtain ⟨lim, hlim⟩ : ∃ lim : Int, lim = 100000 := ⟨_, rfl⟩
    have HY := Lib.hid (HS1.out.le (lim' := lim) (by omega))
    clear HS1 HE1 HP1 HQ1
    refine wp_region_steps [46, 47, 48, 49, 50, 51] RT (look [(46, VCe), (47, VPe (fun _ _ _ => True)), (48, VPe (fun _ _ _ => True)), (49, fun v _ => v = .pointer (some ⟨B, 0, none⟩)), (50, VCe), (51, VPe (fun _ _ _ => True))]) (fun k X => SB w B [w.heap.size, n] [N1, N2, N3, n + 1, n + 1 + 1] (lim + 30000 * (k : Int)) X) (by kernel_rfl) (by kernel_rfl) (by decide) (look_keep ?_) ?_ ?_
    · intro q hq v x y hv hr
      simp only [List.mem_cons, List.not_mem_nil, or_false] at hq
      rcases hq with rfl | rfl | rfl | rfl | rfl | rfl
      all_goals exact hv
    · exact HY.out.drew.le (by omega)
    refine Steps.cons ?_ ?_
    · refine TStep.of ?_ ?_ ?_
      · rfl
      · simp
      intro k g X hk9 hS hd
      obtain ⟨c1, d1, hb⟩ := hS.c (n) (by simp)
      refine ⟨_, X, wp_ldCb hb (by rw [eval_out (by decide)]; rfl), fun d e => ?_, (hS.le (by push_cast; omega)), trivial⟩
      cases e; exact ⟨_, _, rfl⟩
    refine Steps.cons ?_ ?_
    · refine TStep.of ?_ ?_ ?_
      · rfl
      · simp
      intro k g X hk9 hS hd
      obtain ⟨c1, d1, f1, hb⟩ := hS.p (n + 1) (by simp)
      refine ⟨_, X, wp_ldP hb (by rw [eval_out (by decide)]; rfl), fun d e => ?_, (hS.le (by push_cast; omega)), trivial⟩
      cases e; exact ⟨_, _, _, rfl, trivial⟩
    refine Steps.cons ?_ ?_
    · refine TStep.of ?_ ?_ ?_
      · rfl
      · simp
      intro k g X hk9 hS hd
      obtain ⟨c1, d1, f1, hb⟩ := hS.p (n + 1 + 1) (by simp)
      refine ⟨_, X, wp_ldP hb (by rw [eval_out (by decide)]; rfl), fun d e => ?_, (hS.le (by push_cast; omega)), trivial⟩
      cases e; exact ⟨_, _, _, rfl, trivial⟩
    refine Steps.cons ?_ ?_
    · refine TStep.move 6 ?_ ?_ ?_ ?_ ?_ ?_
      · exact .inl rfl
      · rfl
      · simp
      · exact fun _ _ h => h.le (by push_cast; omega)
      · exact fun _ => trivial
      intro g X hd d e; cases e; rw [eval_out (by decide)]; exact rfl
    refine Steps.cons ?_ ?_
    · refine TStep.of ?_ ?_ ?_
      · rfl
      · simp
      intro k g X hk9 hS hd
      obtain ⟨c1, d1, hb⟩ := hS.c (n) (by simp)
      refine ⟨_, X, wp_ldCb hb (by rw [eval_out (by decide)]; rfl), fun d e => ?_, (hS.le (by push_cast; omega)), trivial⟩
      cases e; exact ⟨_, _, rfl⟩
    refine Steps.cons ?_ ?_
    · refine TStep.call ?_ ?_ ?_
      · rfl
      · simp
      intro k g X hk9 hS hd
      have e1 : g 49 = .pointer (some ⟨B, 0, none⟩) := hd 49 (mem_b (by kernel_rfl))
      obtain ⟨c1, d1, e2⟩ : VCe (g 50) X := hd 50 (mem_b (by kernel_rfl))
      refine ⟨_, _, wp_call_ofb (run_callOn _ (by rfl)), ?_⟩
      rw [eval_in (i := 49) (by decide) (by simp), eval_in (i := 50) (by decide) (by simp), e1, e2]
      refine (pointOn_any B _ c1 d1 X hS.cr (by have h9 : k < 10 := hk9; omega)).mono ?_
      rintro e' X' ⟨v', rfl, ⟨p1, p2, p3, rfl⟩, hg', hc'⟩
      refine ⟨_, rfl, fun d e => ?_, (hS.grow hg' hc').le (by push_cast; omega), trivial⟩
      cases e; exact ⟨_, _, _, rfl, trivial⟩
    refine Steps.cons ?_ ?_
    · refine TStep.of ?_ ?_ ?_
      · rfl
      · simp
      intro k g X hk9 hS hd
      obtain ⟨c1, d1, e1⟩ : VCe (g 46) X := hd 46 (mem_b (by kernel_rfl))
      obtain ⟨c2, d2, hb⟩ := hS.c (w.heap.size) (by simp)
      refine ⟨undef, _, wp_stCb hb (by rw [eval_out (by decide)]; rfl) (by rw [eval_in (by decide) (by simp)]; exact e1), (by simp), (hS.putC (m := w.heap.size) (by simp) (by have := HNB.out; omega) (by have := HNB.out; simp; omega) c1 d1).le (by push_cast; omega), trivial⟩
    refine Steps.cons ?_ ?_
    · refine TStep.of ?_ ?_ ?_
      · rfl
      · simp
      intro k g X hk9 hS hd
      obtain ⟨c1, d1, f1, e1, -⟩ : VPe _ (g 47) X := hd 47 (mem_b (by kernel_rfl))
      obtain ⟨c2, d2, f2, hb⟩ := hS.p (N1) (by simp)
      refine ⟨undef, _, wp_stP hb (by rw [eval_out (by decide)]; rfl) (by rw [eval_in (by decide) (by simp)]; exact e1), (by simp), (hS.putP (m := N1) (by simp) (by have := HNB.out; omega) (by have := HNB.out; simp; omega) c1 d1 f1).le (by push_cast; omega), trivial⟩
    refine Steps.cons ?_ ?_
    · refine TStep.of ?_ ?_ ?_
      · rfl
      · simp
      intro k g X hk9 hS hd
      obtain ⟨c1, d1, f1, e1, -⟩ : VPe _ (g 48) X := hd 48 (mem_b (by kernel_rfl))
      obtain ⟨c2, d2, f2, hb⟩ := hS.p (N2) (by simp)
      refine ⟨undef, _, wp_stP hb (by rw [eval_out (by decide)]; rfl) (by rw [eval_in (by decide) (by simp)]; exact e1), (by simp), (hS.putP (m := N2) (by simp) (by have := HNB.out; omega) (by have := HNB.out; simp; omega) c1 d1 f1).le (by push_cast; omega), trivial⟩
    refine Steps.one ?_
    refine LStep.of ?_ ?_
    · rfl
    intro g X hS hd
    obtain ⟨c1, d1, f1, e1, -⟩ : VPe _ (g 51) X := hd 51 (mem_b (by kernel_rfl))
    obtain ⟨c2, d2, f2, hb⟩ := hS.p (N3) (by simp)
    refine ⟨undef, _, wp_stP hb (by rw [eval_out (by decide)]; rfl) (by rw [eval_in (by decide) (by simp)]; exact e1), ?_⟩
    have hE := hS.putP (m := N3) (by simp) (by have := HNB.out; omega) (by have := HNB.out; simp; omega) c1 d1 f1
    clear hb hS hd e1 HY
    generalize ((X.setCell ⟨N3, 0, none⟩ (.int .i64 c1)).setCell ⟨N3, 1, none⟩ (.int .i64 d1)).setCell ⟨N3, 2, none⟩ (.int .i64 f1) = Y2 at hE ⊢
    obtain ⟨_, _, q1, q2, q3, q4, q5, q6⟩ := hE.c (w.heap.size) (by simp)
    obtain ⟨_, _, _, r01, r02, r03, r04, r05, r06, r07, r08⟩ := hE.p N1 (by simp)
    obtain ⟨_, _, _, r11, r12, r13, r14, r15, r16, r17, r18⟩ := hE.p N2 (by simp)
    obtain ⟨_, _, _, r21, r22, r23, r24, r25, r26, r27, r28⟩ := hE.p N3 (by simp)
    have HE := Lib.hid hE; clear hE
    clear HNB
    simp only [fill, Act.put, List.setIfInBounds_toArray, List.set_cons_zero, List.set_cons_succ]
    go_wp2_with fail
    refine bodyPost_ret (by simp (maxDischargeDepth := 3) [results, Try.results27, go_sem, *]; try rfl) rfl ?_
    exact ⟨_, _, _, _, _, _, _, _, _, _, _, rfl, grown_bel HE.out.gr (by have := HN.out; omega)⟩
  obtain ⟨c1, c2, c3, c4, c5, c6⟩ := HE1.out; obtain ⟨p1, p2, p3, p4, p5, p6, p7, p8⟩ := HP1.out; obtain ⟨q1, q2, q3, q4, q5, q6, q7, q8⟩ := HQ1.out
  go_wp2_with fail
  clear c1 c2 c3 c4 c5 c6 p1 p2 p3 p4 p5 p6 p7 p8 q1 q2 q3 q4 q5 q6 q7 q8
  refine (sIsPointOf_any a b x2 y2 e2 _).mono ?_; rintro e w3 ⟨rfl, hb⟩
  have HS2 := Lib.hid (HS1.out.grow (below_grown B hb) (HS1.out.cr.keep' hb)); have HE2 := Lib.hid (HE1.out.keep (below_grown B hb)); have HP2 := Lib.hid (HP1.out.keep (below_grown B hb)); have HQ2 := Lib.hid (HQ1.out.keep (below_grown B hb)); clear hb HS1 HE1 HP1 HQ1
  cases hqt : pointB a b x2 y2 e2
  · obtain ⟨c1, c2, c3, c4, c5, c6⟩ := HE2.out; obtain ⟨p1, p2, p3, p4, p5, p6, p7, p8⟩ := HP2.out; obtain ⟨q1, q2, q3, q4, q5, q6, q7, q8⟩ := HQ2.out
    go_wp2_with fail
    clear c1 c2 c3 c4 c5 c6 p1 p2 p3 p4 p5 p6 p7 p8 q1 q2 q3 q4 q5 q6 q7 q8
    obtain ⟨lim, hlim⟩ : ∃ lim : Int, lim = 100000 := ⟨_, rfl⟩
    have HY := Lib.hid (HS2.out.le (lim' := lim) (by omega))
    clear HS2 HE2 HP2 HQ2
    refine wp_region_steps [46, 47, 48, 49, 50, 51] RT (look [(46, VCe), (47, VPe (fun _ _ _ => True)), (48, VPe (fun _ _ _ => True)), (49, fun v _ => v = .pointer (some ⟨B, 0, none⟩)), (50, VCe), (51, VPe (fun _ _ _ => True))]) (fun k X => SB w B [w.heap.size, n] [N1, N2, N3, n + 1, n + 1 + 1] (lim + 30000 * (k : Int)) X) (by kernel_rfl) (by kernel_rfl) (by decide) (look_keep ?_) ?_ ?_
    · intro q hq v x y hv hr
      simp only [List.mem_cons, List.not_mem_nil, or_false] at hq
      rcases hq with rfl | rfl | rfl | rfl | rfl | rfl
      all_goals exact hv
    · exact HY.out.drew.le (by omega)
    refine Steps.cons ?_ ?_
    · refine TStep.of ?_ ?_ ?_
      · rfl
      · simp
      intro k g X hk9 hS hd
      obtain ⟨c1, d1, hb⟩ := hS.c (n) (by simp)
      refine ⟨_, X, wp_ldCb hb (by rw [eval_out (by decide)]; rfl), fun d e => ?_, (hS.le (by push_cast; omega)), trivial⟩
      cases e; exact ⟨_, _, rfl⟩
    refine Steps.cons ?_ ?_
    · refine TStep.of ?_ ?_ ?_
      · rfl
      · simp
      intro k g X hk9 hS hd
      obtain ⟨c1, d1, f1, hb⟩ := hS.p (n + 1) (by simp)
      refine ⟨_, X, wp_ldP hb (by rw [eval_out (by decide)]; rfl), fun d e => ?_, (hS.le (by push_cast; omega)), trivial⟩
      cases e; exact ⟨_, _, _, rfl, trivial⟩
    refine Steps.cons ?_ ?_
    · refine TStep.of ?_ ?_ ?_
      · rfl
      · simp
      intro k g X hk9 hS hd
      obtain ⟨c1, d1, f1, hb⟩ := hS.p (n + 1 + 1) (by simp)
      refine ⟨_, X, wp_ldP hb (by rw [eval_out (by decide)]; rfl), fun d e => ?_, (hS.le (by push_cast; omega)), trivial⟩
      cases e; exact ⟨_, _, _, rfl, trivial⟩
    refine Steps.cons ?_ ?_
    · refine TStep.move 6 ?_ ?_ ?_ ?_ ?_ ?_
      · exact .inl rfl
      · rfl
      · simp
      · exact fun _ _ h => h.le (by push_cast; omega)
      · exact fun _ => trivial
      intro g X hd d e; cases e; rw [eval_out (by decide)]; exact rfl
    refine Steps.cons ?_ ?_
    · refine TStep.of ?_ ?_ ?_
      · rfl
      · simp
      intro k g X hk9 hS hd
      obtain ⟨c1, d1, hb⟩ := hS.c (n) (by simp)
      refine ⟨_, X, wp_ldCb hb (by rw [eval_out (by decide)]; rfl), fun d e => ?_, (hS.le (by push_cast; omega)), trivial⟩
      cases e; exact ⟨_, _, rfl⟩
    refine Steps.cons ?_ ?_
    · refine TStep.call ?_ ?_ ?_
      · rfl
      · simp
      intro k g X hk9 hS hd
      have e1 : g 49 = .pointer (some ⟨B, 0, none⟩) := hd 49 (mem_b (by kernel_rfl))
      obtain ⟨c1, d1, e2⟩ : VCe (g 50) X := hd 50 (mem_b (by kernel_rfl))
      refine ⟨_, _, wp_call_ofb (run_callOn _ (by rfl)), ?_⟩
      rw [eval_in (i := 49) (by decide) (by simp), eval_in (i := 50) (by decide) (by simp), e1, e2]
      refine (pointOn_any B _ c1 d1 X hS.cr (by have h9 : k < 10 := hk9; omega)).mono ?_
      rintro e' X' ⟨v', rfl, ⟨p1, p2, p3, rfl⟩, hg', hc'⟩
      refine ⟨_, rfl, fun d e => ?_, (hS.grow hg' hc').le (by push_cast; omega), trivial⟩
      cases e; exact ⟨_, _, _, rfl, trivial⟩
    refine Steps.cons ?_ ?_
    · refine TStep.of ?_ ?_ ?_
      · rfl
      · simp
      intro k g X hk9 hS hd
      obtain ⟨c1, d1, e1⟩ : VCe (g 46) X := hd 46 (mem_b (by kernel_rfl))
      obtain ⟨c2, d2, hb⟩ := hS.c (w.heap.size) (by simp)
      refine ⟨undef, _, wp_stCb hb (by rw [eval_out (by decide)]; rfl) (by rw [eval_in (by decide) (by simp)]; exact e1), (by simp), (hS.putC (m := w.heap.size) (by simp) (by have := HNB.out; omega) (by have := HNB.out; simp; omega) c1 d1).le (by push_cast; omega), trivial⟩
    refine Steps.cons ?_ ?_
    · refine TStep.of ?_ ?_ ?_
      · rfl
      · simp
      intro k g X hk9 hS hd
      obtain ⟨c1, d1, f1, e1, -⟩ : VPe _ (g 47) X := hd 47 (mem_b (by kernel_rfl))
      obtain ⟨c2, d2, f2, hb⟩ := hS.p (N1) (by simp)
      refine ⟨undef, _, wp_stP hb (by rw [eval_out (by decide)]; rfl) (by rw [eval_in (by decide) (by simp)]; exact e1), (by simp), (hS.putP (m := N1) (by simp) (by have := HNB.out; omega) (by have := HNB.out; simp; omega) c1 d1 f1).le (by push_cast; omega), trivial⟩
    refine Steps.cons ?_ ?_
    · refine TStep.of ?_ ?_ ?_
      · rfl
      · simp
      intro k g X hk9 hS hd
      obtain ⟨c1, d1, f1, e1, -⟩ : VPe _ (g 48) X := hd 48 (mem_b (by kernel_rfl))
      obtain ⟨c2, d2, f2, hb⟩ := hS.p (N2) (by simp)
      refine ⟨undef, _, wp_stP hb (by rw [eval_out (by decide)]; rfl) (by rw [eval_in (by decide) (by simp)]; exact e1), (by simp), (hS.putP (m := N2) (by simp) (by have := HNB.out; omega) (by have := HNB.out; simp; omega) c1 d1 f1).le (by push_cast; omega), trivial⟩
    refine Steps.one ?_
    refine LStep.of ?_ ?_
    · rfl
    intro g X hS hd
    obtain ⟨c1, d1, f1, e1, -⟩ : VPe _ (g 51) X := hd 51 (mem_b (by kernel_rfl))
    obtain ⟨c2, d2, f2, hb⟩ := hS.p (N3) (by simp)
    refine ⟨undef, _, wp_stP hb (by rw [eval_out (by decide)]; rfl) (by rw [eval_in (by decide) (by simp)]; exact e1), ?_⟩
    have hE := hS.putP (m := N3) (by simp) (by have := HNB.out; omega) (by have := HNB.out; simp; omega) c1 d1 f1
    clear hb hS hd e1 HY
    generalize ((X.setCell ⟨N3, 0, none⟩ (.int .i64 c1)).setCell ⟨N3, 1, none⟩ (.int .i64 d1)).setCell ⟨N3, 2, none⟩ (.int .i64 f1) = Y2 at hE ⊢
    obtain ⟨_, _, q1, q2, q3, q4, q5, q6⟩ := hE.c (w.heap.size) (by simp)
    obtain ⟨_, _, _, r01, r02, r03, r04, r05, r06, r07, r08⟩ := hE.p N1 (by simp)
    obtain ⟨_, _, _, r11, r12, r13, r14, r15, r16, r17, r18⟩ := hE.p N2 (by simp)
    obtain ⟨_, _, _, r21, r22, r23, r24, r25, r26, r27, r28⟩ := hE.p N3 (by simp)
    have HE := Lib.hid hE; clear hE
    clear HNB
    simp only [fill, Act.put, List.setIfInBounds_toArray, List.set_cons_zero, List.set_cons_succ]
    go_wp2_with fail
    refine bodyPost_ret (by simp (maxDischargeDepth := 3) [results, Try.results27, go_sem, *]; try rfl) rfl ?_
    exact ⟨_, _, _, _, _, _, _, _, _, _, _, rfl, grown_bel HE.out.gr (by have := HN.out; omega)⟩
  obtain ⟨c1, c2, c3, c4, c5, c6⟩ := HE2.out; obtain ⟨p1, p2, p3, p4, p5, p6, p7, p8⟩ := HP2.out; obtain ⟨q1, q2, q3, q4, q5, q6, q7, q8⟩ := HQ2.out
  go_wp2_with fail
  clear c1 c2 c3 c4 c5 c6 p1 p2 p3 p4 p5 p6 p7 p8 q1 q2 q3 q4 q5 q6 q7 q8
  refine (one_any B _ 2 _ HS2.out.cr (by omega) (by omega) (by omega)).mono ?_; rintro e w4 ⟨v, rfl, ⟨bo, rfl⟩, hg, hc⟩
  have HS3 := Lib.hid (HS2.out.grow hg hc); have HE3 := Lib.hid (HE2.out.keep hg); have HP3 := Lib.hid (HP2.out.keep hg); have HQ3 := Lib.hid (HQ2.out.keep hg); clear hg hc HS2 HE2 HP2 HQ2
  cases bo
  · obtain ⟨c1, c2, c3, c4, c5, c6⟩ := HE3.out; obtain ⟨p1, p2, p3, p4, p5, p6, p7, p8⟩ := HP3.out; obtain ⟨q1, q2, q3, q4, q5, q6, q7, q8⟩ := HQ3.out
    go_wp2_with fail
    clear c1 c2 c3 c4 c5 c6 p1 p2 p3 p4 p5 p6 p7 p8 q1 q2 q3 q4 q5 q6 q7 q8
    obtain ⟨lim, hlim⟩ : ∃ lim : Int, lim = 100000 := ⟨_, rfl⟩
    have HY := Lib.hid (HS3.out.le (lim' := lim) (by omega))
    clear HS3 HE3 HP3 HQ3
    refine wp_region_steps [46, 47, 48, 49, 50, 51] RT (look [(46, VCe), (47, VPe (fun _ _ _ => True)), (48, VPe (fun _ _ _ => True)), (49, fun v _ => v = .pointer (some ⟨B, 0, none⟩)), (50, VCe), (51, VPe (fun _ _ _ => True))]) (fun k X => SB w B [w.heap.size, n] [N1, N2, N3, n + 1, n + 1 + 1] (lim + 30000 * (k : Int)) X) (by kernel_rfl) (by kernel_rfl) (by decide) (look_keep ?_) ?_ ?_
    · intro q hq v x y hv hr
      simp only [List.mem_cons, List.not_mem_nil, or_false] at hq
      rcases hq with rfl | rfl | rfl | rfl | rfl | rfl
      all_goals exact hv
    · exact HY.out.drew.le (by omega)
    refine Steps.cons ?_ ?_
    · refine TStep.of ?_ ?_ ?_
      · rfl
      · simp
      intro k g X hk9 hS hd
      obtain ⟨c1, d1, hb⟩ := hS.c (n) (by simp)
      refine ⟨_, X, wp_ldCb hb (by rw [eval_out (by decide)]; rfl), fun d e => ?_, (hS.le (by push_cast; omega)), trivial⟩
      cases e; exact ⟨_, _, rfl⟩
    refine Steps.cons ?_ ?_
    · refine TStep.of ?_ ?_ ?_
      · rfl
      · simp
      intro k g X hk9 hS hd
      obtain ⟨c1, d1, f1, hb⟩ := hS.p (n + 1) (by simp)
      refine ⟨_, X, wp_ldP hb (by rw [eval_out (by decide)]; rfl), fun d e => ?_, (hS.le (by push_cast; omega)), trivial⟩
      cases e; exact ⟨_, _, _, rfl, trivial⟩
    refine Steps.cons ?_ ?_
    · refine TStep.of ?_ ?_ ?_
      · rfl
      · simp
      intro k g X hk9 hS hd
      obtain ⟨c1, d1, f1, hb⟩ := hS.p (n + 1 + 1) (by simp)
      refine ⟨_, X, wp_ldP hb (by rw [eval_out (by decide)]; rfl), fun d e => ?_, (hS.le (by push_cast; omega)), trivial⟩
      cases e; exact ⟨_, _, _, rfl, trivial⟩
    refine Steps.cons ?_ ?_
    · refine TStep.move 6 ?_ ?_ ?_ ?_ ?_ ?_
      · exact .inl rfl
      · rfl
      · simp
      · exact fun _ _ h => h.le (by push_cast; omega)
      · exact fun _ => trivial
      intro g X hd d e; cases e; rw [eval_out (by decide)]; exact rfl
    refine Steps.cons ?_ ?_
    · refine TStep.of ?_ ?_ ?_
      · rfl
      · simp
      intro k g X hk9 hS hd
      obtain ⟨c1, d1, hb⟩ := hS.c (n) (by simp)
      refine ⟨_, X, wp_ldCb hb (by rw [eval_out (by decide)]; rfl), fun d e => ?_, (hS.le (by push_cast; omega)), trivial⟩
      cases e; exact ⟨_, _, rfl⟩
    refine Steps.cons ?_ ?_
    · refine TStep.call ?_ ?_ ?_
      · rfl
      · simp
      intro k g X hk9 hS hd
      have e1 : g 49 = .pointer (some ⟨B, 0, none⟩) := hd 49 (mem_b (by kernel_rfl))
      obtain ⟨c1, d1, e2⟩ : VCe (g 50) X := hd 50 (mem_b (by kernel_rfl))
      refine ⟨_, _, wp_call_ofb (run_callOn _ (by rfl)), ?_⟩
      rw [eval_in (i := 49) (by decide) (by simp), eval_in (i := 50) (by decide) (by simp), e1, e2]
      refine (pointOn_any B _ c1 d1 X hS.cr (by have h9 : k < 10 := hk9; omega)).mono ?_
      rintro e' X' ⟨v', rfl, ⟨p1, p2, p3, rfl⟩, hg', hc'⟩
      refine ⟨_, rfl, fun d e => ?_, (hS.grow hg' hc').le (by push_cast; omega), trivial⟩
      cases e; exact ⟨_, _, _, rfl, trivial⟩
    refine Steps.cons ?_ ?_
    · refine TStep.of ?_ ?_ ?_
      · rfl
      · simp
      intro k g X hk9 hS hd
      obtain ⟨c1, d1, e1⟩ : VCe (g 46) X := hd 46 (mem_b (by kernel_rfl))
      obtain ⟨c2, d2, hb⟩ := hS.c (w.heap.size) (by simp)
      refine ⟨undef, _, wp_stCb hb (by rw [eval_out (by decide)]; rfl) (by rw [eval_in (by decide) (by simp)]; exact e1), (by simp), (hS.putC (m := w.heap.size) (by simp) (by have := HNB.out; omega) (by have := HNB.out; simp; omega) c1 d1).le (by push_cast; omega), trivial⟩
    refine Steps.cons ?_ ?_
    · refine TStep.of ?_ ?_ ?_
      · rfl
      · simp
      intro k g X hk9 hS hd
      obtain ⟨c1, d1, f1, e1, -⟩ : VPe _ (g 47) X := hd 47 (mem_b (by kernel_rfl))
      obtain ⟨c2, d2, f2, hb⟩ := hS.p (N1) (by simp)
      refine ⟨undef, _, wp_stP hb (by rw [eval_out (by decide)]; rfl) (by rw [eval_in (by decide) (by simp)]; exact e1), (by simp), (hS.putP (m := N1) (by simp) (by have := HNB.out; omega) (by have := HNB.out; simp; omega) c1 d1 f1).le (by push_cast; omega), trivial⟩
    refine Steps.cons ?_ ?_
    · refine TStep.of ?_ ?_ ?_
      · rfl
      · simp
      intro k g X hk9 hS hd
      obtain ⟨c1, d1, f1, e1, -⟩ : VPe _ (g 48) X := hd 48 (mem_b (by kernel_rfl))
      obtain ⟨c2, d2, f2, hb⟩ := hS.p (N2) (by simp)
      refine ⟨undef, _, wp_stP hb (by rw [eval_out (by decide)]; rfl) (by rw [eval_in (by decide) (by simp)]; exact e1), (by simp), (hS.putP (m := N2) (by simp) (by have := HNB.out; omega) (by have := HNB.out; simp; omega) c1 d1 f1).le (by push_cast; omega), trivial⟩
    refine Steps.one ?_
    refine LStep.of ?_ ?_
    · rfl
    intro g X hS hd
    obtain ⟨c1, d1, f1, e1, -⟩ : VPe _ (g 51) X := hd 51 (mem_b (by kernel_rfl))
    obtain ⟨c2, d2, f2, hb⟩ := hS.p (N3) (by simp)
    refine ⟨undef, _, wp_stP hb (by rw [eval_out (by decide)]; rfl) (by rw [eval_in (by decide) (by simp)]; exact e1), ?_⟩
    have hE := hS.putP (m := N3) (by simp) (by have := HNB.out; omega) (by have := HNB.out; simp; omega) c1 d1 f1
    clear hb hS hd e1 HY
    generalize ((X.setCell ⟨N3, 0, none⟩ (.int .i64 c1)).setCell ⟨N3, 1, none⟩ (.int .i64 d1)).setCell ⟨N3, 2, none⟩ (.int .i64 f1) = Y2 at hE ⊢
    obtain ⟨_, _, q1, q2, q3, q4, q5, q6⟩ := hE.c (w.heap.size) (by simp)
    obtain ⟨_, _, _, r01, r02, r03, r04, r05, r06, r07, r08⟩ := hE.p N1 (by simp)
    obtain ⟨_, _, _, r11, r12, r13, r14, r15, r16, r17, r18⟩ := hE.p N2 (by simp)
    obtain ⟨_, _, _, r21, r22, r23, r24, r25, r26, r27, r28⟩ := hE.p N3 (by simp)
    have HE := Lib.hid hE; clear hE
    clear HNB
    simp only [fill, Act.put, List.setIfInBounds_toArray, List.set_cons_zero, List.set_cons_succ]
    go_wp2_with fail
    refine bodyPost_ret (by simp (maxDischargeDepth := 3) [results, Try.results27, go_sem, *]; try rfl) rfl ?_
    exact ⟨_, _, _, _, _, _, _, _, _, _, _, rfl, grown_bel HE.out.gr (by have := HN.out; omega)⟩
  obtain ⟨c1, c2, c3, c4, c5, c6⟩ := HE3.out; obtain ⟨p1, p2, p3, p4, p5, p6, p7, p8⟩ := HP3.out; obtain ⟨q1, q2, q3, q4, q5, q6, q7, q8⟩ := HQ3.out
  go_wp2_with fail
  clear c1 c2 c3 c4 c5 c6 p1 p2 p3 p4 p5 p6 p7 p8 q1 q2 q3 q4 q5 q6 q7 q8
  have hadd := fun w => ptAdd_any a b x y e0 x2 y2 e2 w (pointB_on' hpt).1 (pointB_on' hpt).2 (pointB_on' hqt).2
  obtain ⟨s1, s2, s3, ok, hv⟩ := ptO_shape' (addT a x y e0 x2 y2 e2)
  rw [hv] at hadd
  refine (hadd _).mono ?_; rintro e w5 ⟨rfl, hb⟩
  clear hadd hv hpt hqt
  have HS4 := Lib.hid (HS3.out.grow (below_grown B hb) (HS3.out.cr.keep' hb)); have HE4 := Lib.hid (HE3.out.keep (below_grown B hb)); have HP4 := Lib.hid (HP3.out.keep (below_grown B hb)); have HQ4 := Lib.hid (HQ3.out.keep (below_grown B hb)); clear hb HS3 HE3 HP3 HQ3
  obtain ⟨c1, c2, c3, c4, c5, c6⟩ := HE4.out; obtain ⟨p1, p2, p3, p4, p5, p6, p7, p8⟩ := HP4.out; obtain ⟨q1, q2, q3, q4, q5, q6, q7, q8⟩ := HQ4.out
  cases ok
  · go_wp2_with fail
    clear c1 c2 c3 c4 c5 c6 p1 p2 p3 p4 p5 p6 p7 p8 q1 q2 q3 q4 q5 q6 q7 q8
    have hy2 := sb_more HS4.out s1 s2 s3
    clear HS4 HE4 HP4 HQ4
    generalize w5.alloc (.cells #[.int .i64 s1, .int .i64 s2, .int .i64 s3] 41) = Y5 at hy2 ⊢
    generalize w5.heap.size = m at hy2 ⊢
    obtain ⟨lim, hlim⟩ : ∃ lim : Int, lim = 100000 := ⟨_, rfl⟩
    have HY := Lib.hid (hy2.le (lim' := lim) (by omega))
    clear hy2
    rw [show [N1, N2, N3, n + 1, n + 1 + 1] ++ [m] = [N1, N2, N3, n + 1, n + 1 + 1, m] from rfl] at HY
    obtain ⟨cs5, ps5, hps⟩ : ∃ (cs5 ps5 : List Nat), True := ⟨[], [], trivial⟩
    clear cs5 ps5 hps
    have HY' := Lib.hid (show SB w B [w.heap.size, n] [N1, N2, N3, n + 1, n + 1 + 1] lim Y5 from ⟨HY.out.cr, HY.out.gr, HY.out.c, fun q hq => HY.out.p q (by simp only [List.mem_cons, List.not_mem_nil, or_false] at hq ⊢; rcases hq with h | h | h | h | h <;> simp [h])⟩)
    clear HY; have HY := Lib.hid HY'.out; clear HY'
    refine wp_region_steps [46, 47, 48, 49, 50, 51] RT (look [(46, VCe), (47, VPe (fun _ _ _ => True)), (48, VPe (fun _ _ _ => True)), (49, fun v _ => v = .pointer (some ⟨B, 0, none⟩)), (50, VCe), (51, VPe (fun _ _ _ => True))]) (fun k X => SB w B [w.heap.size, n] [N1, N2, N3, n + 1, n + 1 + 1] (lim + 30000 * (k : Int)) X) (by kernel_rfl) (by kernel_rfl) (by decide) (look_keep ?_) ?_ ?_
    · intro q hq v x y hv hr
      simp only [List.mem_cons, List.not_mem_nil, or_false] at hq
      rcases hq with rfl | rfl | rfl | rfl | rfl | rfl
      all_goals exact hv
    · exact HY.out.drew.le (by omega)
    refine Steps.cons ?_ ?_
    · refine TStep.of ?_ ?_ ?_
      · rfl
      · simp
      intro k g X hk9 hS hd
      obtain ⟨c1, d1, hb⟩ := hS.c (n) (by simp)
      refine ⟨_, X, wp_ldCb hb (by rw [eval_out (by decide)]; rfl), fun d e => ?_, (hS.le (by push_cast; omega)), trivial⟩
      cases e; exact ⟨_, _, rfl⟩
    refine Steps.cons ?_ ?_
    · refine TStep.of ?_ ?_ ?_
      · rfl
      · simp
      intro k g X hk9 hS hd
      obtain ⟨c1, d1, f1, hb⟩ := hS.p (n + 1) (by simp)
      refine ⟨_, X, wp_ldP hb (by rw [eval_out (by decide)]; rfl), fun d e => ?_, (hS.le (by push_cast; omega)), trivial⟩
      cases e; exact ⟨_, _, _, rfl, trivial⟩
    refine Steps.cons ?_ ?_
    · refine TStep.of ?_ ?_ ?_
      · rfl
      · simp
      intro k g X hk9 hS hd
      obtain ⟨c1, d1, f1, hb⟩ := hS.p (n + 1 + 1) (by simp)
      refine ⟨_, X, wp_ldP hb (by rw [eval_out (by decide)]; rfl), fun d e => ?_, (hS.le (by push_cast; omega)), trivial⟩
      cases e; exact ⟨_, _, _, rfl, trivial⟩
    refine Steps.cons ?_ ?_
    · refine TStep.move 6 ?_ ?_ ?_ ?_ ?_ ?_
      · exact .inl rfl
      · rfl
      · simp
      · exact fun _ _ h => h.le (by push_cast; omega)
      · exact fun _ => trivial
      intro g X hd d e; cases e; rw [eval_out (by decide)]; exact rfl
    refine Steps.cons ?_ ?_
    · refine TStep.of ?_ ?_ ?_
      · rfl
      · simp
      intro k g X hk9 hS hd
      obtain ⟨c1, d1, hb⟩ := hS.c (n) (by simp)
      refine ⟨_, X, wp_ldCb hb (by rw [eval_out (by decide)]; rfl), fun d e => ?_, (hS.le (by push_cast; omega)), trivial⟩
      cases e; exact ⟨_, _, rfl⟩
    refine Steps.cons ?_ ?_
    · refine TStep.call ?_ ?_ ?_
      · rfl
      · simp
      intro k g X hk9 hS hd
      have e1 : g 49 = .pointer (some ⟨B, 0, none⟩) := hd 49 (mem_b (by kernel_rfl))
      obtain ⟨c1, d1, e2⟩ : VCe (g 50) X := hd 50 (mem_b (by kernel_rfl))
      refine ⟨_, _, wp_call_ofb (run_callOn _ (by rfl)), ?_⟩
      rw [eval_in (i := 49) (by decide) (by simp), eval_in (i := 50) (by decide) (by simp), e1, e2]
      refine (pointOn_any B _ c1 d1 X hS.cr (by have h9 : k < 10 := hk9; omega)).mono ?_
      rintro e' X' ⟨v', rfl, ⟨p1, p2, p3, rfl⟩, hg', hc'⟩
      refine ⟨_, rfl, fun d e => ?_, (hS.grow hg' hc').le (by push_cast; omega), trivial⟩
      cases e; exact ⟨_, _, _, rfl, trivial⟩
    refine Steps.cons ?_ ?_
    · refine TStep.of ?_ ?_ ?_
      · rfl
      · simp
      intro k g X hk9 hS hd
      obtain ⟨c1, d1, e1⟩ : VCe (g 46) X := hd 46 (mem_b (by kernel_rfl))
      obtain ⟨c2, d2, hb⟩ := hS.c (w.heap.size) (by simp)
      refine ⟨undef, _, wp_stCb hb (by rw [eval_out (by decide)]; rfl) (by rw [eval_in (by decide) (by simp)]; exact e1), (by simp), (hS.putC (m := w.heap.size) (by simp) (by have := HNB.out; omega) (by have := HNB.out; simp; omega) c1 d1).le (by push_cast; omega), trivial⟩
    refine Steps.cons ?_ ?_
    · refine TStep.of ?_ ?_ ?_
      · rfl
      · simp
      intro k g X hk9 hS hd
      obtain ⟨c1, d1, f1, e1, -⟩ : VPe _ (g 47) X := hd 47 (mem_b (by kernel_rfl))
      obtain ⟨c2, d2, f2, hb⟩ := hS.p (N1) (by simp)
      refine ⟨undef, _, wp_stP hb (by rw [eval_out (by decide)]; rfl) (by rw [eval_in (by decide) (by simp)]; exact e1), (by simp), (hS.putP (m := N1) (by simp) (by have := HNB.out; omega) (by have := HNB.out; simp; omega) c1 d1 f1).le (by push_cast; omega), trivial⟩
    refine Steps.cons ?_ ?_
    · refine TStep.of ?_ ?_ ?_
      · rfl
      · simp
      intro k g X hk9 hS hd
      obtain ⟨c1, d1, f1, e1, -⟩ : VPe _ (g 48) X := hd 48 (mem_b (by kernel_rfl))
      obtain ⟨c2, d2, f2, hb⟩ := hS.p (N2) (by simp)
      refine ⟨undef, _, wp_stP hb (by rw [eval_out (by decide)]; rfl) (by rw [eval_in (by decide) (by simp)]; exact e1), (by simp), (hS.putP (m := N2) (by simp) (by have := HNB.out; omega) (by have := HNB.out; simp; omega) c1 d1 f1).le (by push_cast; omega), trivial⟩
    refine Steps.one ?_
    refine LStep.of ?_ ?_
    · rfl
    intro g X hS hd
    obtain ⟨c1, d1, f1, e1, -⟩ : VPe _ (g 51) X := hd 51 (mem_b (by kernel_rfl))
    obtain ⟨c2, d2, f2, hb⟩ := hS.p (N3) (by simp)
    refine ⟨undef, _, wp_stP hb (by rw [eval_out (by decide)]; rfl) (by rw [eval_in (by decide) (by simp)]; exact e1), ?_⟩
    have hE := hS.putP (m := N3) (by simp) (by have := HNB.out; omega) (by have := HNB.out; simp; omega) c1 d1 f1
    clear hb hS hd e1 HY
    generalize ((X.setCell ⟨N3, 0, none⟩ (.int .i64 c1)).setCell ⟨N3, 1, none⟩ (.int .i64 d1)).setCell ⟨N3, 2, none⟩ (.int .i64 f1) = Y2 at hE ⊢
    obtain ⟨_, _, q1, q2, q3, q4, q5, q6⟩ := hE.c (w.heap.size) (by simp)
    obtain ⟨_, _, _, r01, r02, r03, r04, r05, r06, r07, r08⟩ := hE.p N1 (by simp)
    obtain ⟨_, _, _, r11, r12, r13, r14, r15, r16, r17, r18⟩ := hE.p N2 (by simp)
    obtain ⟨_, _, _, r21, r22, r23, r24, r25, r26, r27, r28⟩ := hE.p N3 (by simp)
    have HE := Lib.hid hE; clear hE
    clear HNB
    simp only [fill, Act.put, List.setIfInBounds_toArray, List.set_cons_zero, List.set_cons_succ]
    go_wp2_with fail
    refine bodyPost_ret (by simp (maxDischargeDepth := 3) [results, Try.results27, go_sem, *]; try rfl) rfl ?_
    exact ⟨_, _, _, _, _, _, _, _, _, _, _, rfl, grown_bel HE.out.gr (by have := HN.out; omega)⟩
  · have hmn : w5.heap.size ≠ w.heap.size ∧ w.heap.size < w5.heap.size := by have := HE4.out.1; have := HNB.out; omega
    go_wp2_with fail
    clear c1 c2 c3 c4 c5 c6 p1 p2 p3 p4 p5 p6 p7 p8 q1 q2 q3 q4 q5 q6 q7 q8
    have hy2 := sb_more HS4.out s1 s2 s3
    clear HS4 HE4 HP4 HQ4
    generalize w5.alloc (.cells #[.int .i64 s1, .int .i64 s2, .int .i64 s3] 41) = Y5 at hy2 ⊢
    generalize w5.heap.size = m at hy2 hmn ⊢
    obtain ⟨lim, hlim⟩ : ∃ lim : Int, lim = 100000 := ⟨_, rfl⟩
    have HY := Lib.hid (hy2.le (lim' := lim) (by omega))
    clear hy2
    have HNB2 := Lib.hid (And.intro HNB.out hmn); clear HNB hmn; have HNB := Lib.hid HNB2.out; clear HNB2
    rw [show [N1, N2, N3, n + 1, n + 1 + 1] ++ [m] = [N1, N2, N3, n + 1, n + 1 + 1, m] from rfl] at HY
    refine wp_region_steps [41, 42, 43, 44, 45] RT (look [(41, VCe), (42, VPe (fun _ _ _ => True)), (43, VPe (fun _ _ _ => True)), (44, VPe (fun _ _ _ => True)), (45, VPe (fun _ _ _ => True))]) (fun k X => SB w B [w.heap.size, n] [N1, N2, N3, n + 1, n + 1 + 1, m] (lim + 30000 * (k : Int)) X) (by kernel_rfl) (by kernel_rfl) (by decide) (look_keep ?_) ?_ ?_
    · intro q hq v x y hv hr
      simp only [List.mem_cons, List.not_mem_nil, or_false] at hq
      rcases hq with rfl | rfl | rfl | rfl | rfl
      all_goals exact hv
    · exact HY.out.drew.le (by omega)
    refine Steps.cons ?_ ?_
    · refine TStep.of ?_ ?_ ?_
      · rfl
      · simp
      intro k g X hk9 hS hd
      obtain ⟨c1, d1, hb⟩ := hS.c (n) (by simp)
      refine ⟨_, X, wp_ldCb hb (by rw [eval_out (by decide)]; rfl), fun d e => ?_, (hS.le (by push_cast; omega)), trivial⟩
      cases e; exact ⟨_, _, rfl⟩
    refine Steps.cons ?_ ?_
    · refine TStep.of ?_ ?_ ?_
      · rfl
      · simp
      intro k g X hk9 hS hd
      obtain ⟨c1, d1, f1, hb⟩ := hS.p (n + 1) (by simp)
      refine ⟨_, X, wp_ldP hb (by rw [eval_out (by decide)]; rfl), fun d e => ?_, (hS.le (by push_cast; omega)), trivial⟩
      cases e; exact ⟨_, _, _, rfl, trivial⟩
    refine Steps.cons ?_ ?_
    · refine TStep.of ?_ ?_ ?_
      · rfl
      · simp
      intro k g X hk9 hS hd
      obtain ⟨c1, d1, f1, hb⟩ := hS.p (n + 1 + 1) (by simp)
      refine ⟨_, X, wp_ldP hb (by rw [eval_out (by decide)]; rfl), fun d e => ?_, (hS.le (by push_cast; omega)), trivial⟩
      cases e; exact ⟨_, _, _, rfl, trivial⟩
    refine Steps.cons ?_ ?_
    · refine TStep.of ?_ ?_ ?_
      · rfl
      · simp
      intro k g X hk9 hS hd
      obtain ⟨c1, d1, f1, hb⟩ := hS.p (m) (by simp)
      refine ⟨_, X, wp_ldP hb (by rw [eval_out (by decide)]; rfl), fun d e => ?_, (hS.le (by push_cast; omega)), trivial⟩
      cases e; exact ⟨_, _, _, rfl, trivial⟩
    refine Steps.cons ?_ ?_
    · refine TStep.call ?_ ?_ ?_
      · rfl
      · simp
      intro k g X hk9 hS hd
      obtain ⟨c1, d1, f1, e1, -⟩ : VPe _ (g 44) X := hd 44 (mem_b (by kernel_rfl))
      refine ⟨_, _, wp_call_ofb (run_callMin _ (by rfl)), ?_⟩
      rw [eval_in (i := 44) (by decide) (by simp), e1]
      refine (ptMinusG_any c1 d1 f1 X).mono ?_
      rintro e' X' ⟨z, rfl, hb'⟩
      refine ⟨_, rfl, fun d e => ?_, (hS.grow (below_grown B hb') (hS.cr.keep' hb')).le (by push_cast; omega), trivial⟩
      cases e; exact ⟨_, _, _, rfl, trivial⟩
    refine Steps.cons ?_ ?_
    · refine TStep.of ?_ ?_ ?_
      · rfl
      · simp
      intro k g X hk9 hS hd
      obtain ⟨c1, d1, e1⟩ : VCe (g 41) X := hd 41 (mem_b (by kernel_rfl))
      obtain ⟨c2, d2, hb⟩ := hS.c (w.heap.size) (by simp)
      refine ⟨undef, _, wp_stCb hb (by rw [eval_out (by decide)]; rfl) (by rw [eval_in (by decide) (by simp)]; exact e1), (by simp), (hS.putC (m := w.heap.size) (by simp) (by have := HNB.out; omega) (by have := HNB.out; simp; omega) c1 d1).le (by push_cast; omega), trivial⟩
    refine Steps.cons ?_ ?_
    · refine TStep.of ?_ ?_ ?_
      · rfl
      · simp
      intro k g X hk9 hS hd
      obtain ⟨c1, d1, f1, e1, -⟩ : VPe _ (g 42) X := hd 42 (mem_b (by kernel_rfl))
      obtain ⟨c2, d2, f2, hb⟩ := hS.p (N1) (by simp)
      refine ⟨undef, _, wp_stP hb (by rw [eval_out (by decide)]; rfl) (by rw [eval_in (by decide) (by simp)]; exact e1), (by simp), (hS.putP (m := N1) (by simp) (by have := HNB.out; omega) (by have := HNB.out; simp; omega) c1 d1 f1).le (by push_cast; omega), trivial⟩
    refine Steps.cons ?_ ?_
    · refine TStep.of ?_ ?_ ?_
      · rfl
      · simp
      intro k g X hk9 hS hd
      obtain ⟨c1, d1, f1, e1, -⟩ : VPe _ (g 43) X := hd 43 (mem_b (by kernel_rfl))
      obtain ⟨c2, d2, f2, hb⟩ := hS.p (N2) (by simp)
      refine ⟨undef, _, wp_stP hb (by rw [eval_out (by decide)]; rfl) (by rw [eval_in (by decide) (by simp)]; exact e1), (by simp), (hS.putP (m := N2) (by simp) (by have := HNB.out; omega) (by have := HNB.out; simp; omega) c1 d1 f1).le (by push_cast; omega), trivial⟩
    refine Steps.one ?_
    refine LStep.of ?_ ?_
    · rfl
    intro g X hS hd
    obtain ⟨c1, d1, f1, e1, -⟩ : VPe _ (g 45) X := hd 45 (mem_b (by kernel_rfl))
    obtain ⟨c2, d2, f2, hb⟩ := hS.p (N3) (by simp)
    refine ⟨undef, _, wp_stP hb (by rw [eval_out (by decide)]; rfl) (by rw [eval_in (by decide) (by simp)]; exact e1), ?_⟩
    have hE := hS.putP (m := N3) (by simp) (by have := HNB.out; omega) (by have := HNB.out; simp; omega) c1 d1 f1
    clear hb hS hd e1 HY
    generalize ((X.setCell ⟨N3, 0, none⟩ (.int .i64 c1)).setCell ⟨N3, 1, none⟩ (.int .i64 d1)).setCell ⟨N3, 2, none⟩ (.int .i64 f1) = Y2 at hE ⊢
    obtain ⟨_, _, q1, q2, q3, q4, q5, q6⟩ := hE.c (w.heap.size) (by simp)
    obtain ⟨_, _, _, r01, r02, r03, r04, r05, r06, r07, r08⟩ := hE.p N1 (by simp)
    obtain ⟨_, _, _, r11, r12, r13, r14, r15, r16, r17, r18⟩ := hE.p N2 (by simp)
    obtain ⟨_, _, _, r21, r22, r23, r24, r25, r26, r27, r28⟩ := hE.p N3 (by simp)
    have HE := Lib.hid hE; clear hE
    clear HNB
    simp only [fill, Act.put, List.setIfInBounds_toArray, List.set_cons_zero, List.set_cons_succ]
    go_wp2_with fail
    refine bodyPost_ret (by simp (maxDischargeDepth := 3) [results, Try.results27, go_sem, *]; try rfl) rfl ?_
    exact ⟨_, _, _, _, _, _, _, _, _, _, _, rfl, grown_bel HE.out.gr (by have := HN.out; omega)⟩
end Go.Proofs.Ytnhlcgbknkdbiaa
