/- Du: contracts: the draws of FnCurves: whatever the bytes are, curves, numbers and texts come out. No conditions. -/
import Derived.Test.YtpjcfnjagknocaaGreatDoorDv
import Derived.Test.YtpjcfnjagknocaaGreatDoorSm
import Derived.Test.YtpjcfnjagknocaaGreatDoorSp
import Derived.Test.YtpjcfnjagknocaaGreatDoorCv
namespace Go.Proofs.YtpjcfnjagknocaaGreatDoor
open Go.RowKit

theorem wrapk {u : Int} (h0 : -4000000000000000000 ≤ u) (h1 : u ≤ 4000000000000000000) : IntKind.i64.wrap u = u := i64_wrap h0 h1
theorem scV_tc (a b u : Int) (x : World) : VTc (scV a b u) x := by
  unfold scV
  split
  · exact ⟨_, _, _, rfl⟩
  · exact ⟨_, _, _, rfl⟩
def SG (W : World) (B : Nat) (lim : Int) (k : Nat) (x : World) : Prop := Cr x B (lim + 300 * (k : Int)) ∧ W.grownBy x (some B)
theorem SG.same {W x : World} {B k : Nat} {lim : Int} (h : SG W B lim k x) : SG W B lim (k + 1) x := ⟨h.1.le (by push_cast; omega), h.2⟩
theorem SG.step {W x y : World} {B k : Nat} {lim : Int} (h : SG W B lim k x) (g : x.grownBy y (some B)) (hc : Cr y B (lim + 300 * (k : Int) + 300)) : SG W B lim (k + 1) y := ⟨hc.le (by push_cast; omega), grown_trans h.2 g⟩
/-- the world of a region that writes two older boxes N1, N2 and reads the boxes n, n'. -/
def SH (w : World) (B N1 N2 n n' : Nat) (a b c d lim : Int) (k : Nat) (x : World) : Prop := Cr x B (lim + 300 * (k : Int)) ∧ Below w.heap.size w x ∧ BoxC B x n a b ∧ BoxC B x n' c d ∧ (∃ p q, BoxC B x N1 p q) ∧ ∃ p q, BoxC B x N2 p q
section
variable {w x y : World} {B N1 N2 n n' k : Nat} {a b c d lim : Int}
theorem SH.same (h : SH w B N1 N2 n n' a b c d lim k x) : SH w B N1 N2 n n' a b c d lim (k + 1) x := ⟨h.1.le (by push_cast; omega), h.2⟩
theorem SH.step (h : SH w B N1 N2 n n' a b c d lim k x) (hB : w.heap.size ≤ B) (g : x.grownBy y (some B)) (hc : Cr y B (lim + 300 * (k : Int) + 300)) : SH w B N1 N2 n n' a b c d lim (k + 1) y := by
  obtain ⟨_, h2, h3, h4, ⟨p, q, h5⟩, ⟨r, s, h6⟩⟩ := h
  exact ⟨hc.le (by push_cast; omega), grown_belowNb h2 g hB (Nat.le_refl _), h3.keep g, h4.keep g, ⟨p, q, h5.keep g⟩, ⟨r, s, h6.keep g⟩⟩
theorem SH.put1 (h : SH w B N1 N2 n n' a b c d lim k x) (hn : (n ≠ N1 ∧ n ≠ N2 ∧ n' ≠ N1 ∧ n' ≠ N2) ∧ w.heap.size ≤ N1 ∧ w.heap.size ≤ N2 ∧ N1 ≠ N2) (a1 b1 : Int) : SH w B N1 N2 n n' a b c d lim (k + 1) ((x.setCell ⟨N1, 0, none⟩ (.int .i64 a1)).setCell ⟨N1, 1, none⟩ (.int .i64 b1)) := by
  obtain ⟨h1, h2, h3, h4, ⟨p, q, h5⟩, ⟨r, s, h6⟩⟩ := h
  obtain ⟨⟨e1, e2, e3, e4⟩, l1, l2, e5⟩ := hn
  exact ⟨(cr_putb (cr_putb h1 h5.2.1 h5.2.2.1 _) h5.2.1 (h5.put0 a1).2.2.2.1 _).le (by push_cast; omega), (h2.setCell (by dsimp only; omega) _).setCell (by dsimp only; omega) _, (h3.far1 (v := .int .i64 a1) e1).far1 e1, (h4.far1 (v := .int .i64 a1) e3).far1 e3, ⟨_, _, h5.put a1 b1⟩, ⟨r, s, (h6.far1 (v := .int .i64 a1) e5.symm).far1 e5.symm⟩⟩
theorem SH.put2 (h : SH w B N1 N2 n n' a b c d lim k x) (hn : (n ≠ N1 ∧ n ≠ N2 ∧ n' ≠ N1 ∧ n' ≠ N2) ∧ w.heap.size ≤ N1 ∧ w.heap.size ≤ N2 ∧ N1 ≠ N2) (a1 b1 : Int) : SH w B N1 N2 n n' a b c d lim (k + 1) ((x.setCell ⟨N2, 0, none⟩ (.int .i64 a1)).setCell ⟨N2, 1, none⟩ (.int .i64 b1)) := by
  obtain ⟨h1, h2, h3, h4, ⟨r, s, h6⟩, ⟨p, q, h5⟩⟩ := h
  obtain ⟨⟨e1, e2, e3, e4⟩, l1, l2, e5⟩ := hn
  exact ⟨(cr_putb (cr_putb h1 h5.2.1 h5.2.2.1 _) h5.2.1 (h5.put0 a1).2.2.2.1 _).le (by push_cast; omega), (h2.setCell (by dsimp only; omega) _).setCell (by dsimp only; omega) _, (h3.far1 (v := .int .i64 a1) e2).far1 e2, (h4.far1 (v := .int .i64 a1) e4).far1 e4, ⟨r, s, (h6.far1 (v := .int .i64 a1) e5).far1 e5⟩, ⟨_, _, h5.put a1 b1⟩⟩
end
def RetCu (w : World) (e : Ending) (w' : World) : Prop := ∃ a b u : Int, e = .returned (.tuple #[.agg #[.int .i64 a, .int .i64 b], .int .i64 u]) ∧ Below w.heap.size w w'
def RetCc (w : World) (e : Ending) (w' : World) : Prop := ∃ a b c d : Int, e = .returned (.tuple #[.agg #[.int .i64 a, .int .i64 b], .agg #[.int .i64 c, .int .i64 d]]) ∧ Below w.heap.size w w'
def RetC1 (w : World) (e : Ending) (w' : World) : Prop := ∃ a b : Int, e = .returned (.agg #[.int .i64 a, .int .i64 b]) ∧ Below w.heap.size w w'
def RetSt (n : Nat) (w : World) (e : Ending) (w' : World) : Prop := ∃ s : ByteArray, e = .returned (.string s) ∧ s.size ≤ n ∧ Below w.heap.size w w'
set_option maxHeartbeats 4000000 in
set_option maxRecDepth 100000 in
theorem scalable_any (B : Nat) (lim : Int) (w : World) (h : Cr w B lim) (hl : lim ≤ 1000000000000000) :
    Calls Tryz.prog 67 #[.pointer (some ⟨B, 0, none⟩)] w (RetC (fun v => ∃ a b : Int, v = .agg #[.int .i64 a, .int .i64 b]) B (lim + 300) w) := by
  have hB := h.lt
  have HC := Lib.hid (h.keep' (below_allocD w (.cells #[.int .i64 0, .int .i64 0] 25)))
  have HG := Lib.hid (below_grown B (below_allocD w (.cells #[.int .i64 0, .int .i64 0] 25)))
  have HR := Lib.hid (BoxC.new 0 0 25 hB)
  clear h
  go_enter Tryz.func67, Tryz.ntmps67
  go_wp2_with fail
  generalize w.alloc (.cells #[.int .i64 0, .int .i64 0] 25) = W at *
  refine (one_any _ _ 3 _ HC.out (by omega) (by omega) (by omega)).mono ?_; rintro e w' ⟨v, rfl, ⟨bo, rfl⟩, hg, hc⟩
  have HGn := Lib.hid (grown_transN HG.out (by repeat' (first | exact HG.out | refine' set_grown ?_ (by omega) _ | refine' grown_belowD ?_ (below_allocD _ _) | refine' grown_drew ?_)) hg); (try clear HR_1 HR_2 HR_3 HR_4 HR_5 HR_6); have HRn := Lib.hid (BoxC.keepN HR.out (by repeat' (first | exact HR.out | refine' BoxC.keep ?_ (below_grown _ (below_allocD _ _)) | refine' BoxP.keep ?_ (below_grown _ (below_allocD _ _)) | refine' BoxC.far1 ?_ (by omega) | refine' BoxP.far1 ?_ (by omega) | refine' BoxC.put0 ?_ _ | refine' BoxC.put1 ?_ _ | refine' BoxP.put0 ?_ _ | refine' BoxP.put1 ?_ _ | refine' BoxP.put2 ?_ _)) hg); clear HC HG HR; have HC := Lib.hid hc; have HG := Lib.hid HGn.out; have HR := Lib.hid HRn.out; obtain ⟨HR_1, HR_2, HR_3, HR_4, HR_5, HR_6⟩ := HR.out; clear HRn; clear HGn hc hg
  rcases bo with _ | _
  · go_wp2_with (first | (go_at_call 89; refine (pick_any _ _ _ _ (by repeat' (first | exact HC.out | refine' set_cr ?_ (by omega) _ | refine' Cr.keep' ?_ (below_allocD _ _) | refine' cr_drewK ?_)) (by omega) (by omega) (by omega)).mono ?_; rintro e w' ⟨v, rfl, ⟨x, rfl, x0, x1⟩, hg, hc⟩; have HGn := Lib.hid (grown_transN HG.out (by repeat' (first | exact HG.out | refine' set_grown ?_ (by omega) _ | refine' grown_belowD ?_ (below_allocD _ _) | refine' grown_drew ?_)) hg); (try clear HR_1 HR_2 HR_3 HR_4 HR_5 HR_6); have HRn := Lib.hid (BoxC.keepN HR.out (by repeat' (first | exact HR.out | refine' BoxC.keep ?_ (below_grown _ (below_allocD _ _)) | refine' BoxP.keep ?_ (below_grown _ (below_allocD _ _)) | refine' BoxC.far1 ?_ (by omega) | refine' BoxP.far1 ?_ (by omega) | refine' BoxC.put0 ?_ _ | refine' BoxC.put1 ?_ _ | refine' BoxP.put0 ?_ _ | refine' BoxP.put1 ?_ _ | refine' BoxP.put2 ?_ _)) hg); clear HC HG HR; have HC := Lib.hid hc; have HG := Lib.hid HGn.out; have HR := Lib.hid HRn.out; obtain ⟨HR_1, HR_2, HR_3, HR_4, HR_5, HR_6⟩ := HR.out; clear HRn; clear HGn hc hg) | (go_at_call 68; refine (amongW_any _ _ _ _ _ _ (by repeat' (first | exact HC.out | refine' set_cr ?_ (by omega) _ | refine' Cr.keep' ?_ (below_allocD _ _) | refine' cr_drewK ?_)) (by omega) (by rfl) (by decide) (by decide) (by simp only [AllI]; (repeat' apply And.intro); all_goals first | trivial | (refine anyI_mk ?_; first | assumption | exact i64w _ | exact i64w' _ | (unfold I64 at *; omega)))).mono ?_; rintro e w' ⟨v, rfl, ⟨x, rfl, xI⟩, hg, hc⟩; have HGn := Lib.hid (grown_transN HG.out (by repeat' (first | exact HG.out | refine' set_grown ?_ (by omega) _ | refine' grown_belowD ?_ (below_allocD _ _) | refine' grown_drew ?_)) hg); (try clear HR_1 HR_2 HR_3 HR_4 HR_5 HR_6); have HRn := Lib.hid (BoxC.keepN HR.out (by repeat' (first | exact HR.out | refine' BoxC.keep ?_ (below_grown _ (below_allocD _ _)) | refine' BoxP.keep ?_ (below_grown _ (below_allocD _ _)) | refine' BoxC.far1 ?_ (by omega) | refine' BoxP.far1 ?_ (by omega) | refine' BoxC.put0 ?_ _ | refine' BoxC.put1 ?_ _ | refine' BoxP.put0 ?_ _ | refine' BoxP.put1 ?_ _ | refine' BoxP.put2 ?_ _)) hg); clear HC HG HR; have HC := Lib.hid hc; have HG := Lib.hid HGn.out; have HR := Lib.hid HRn.out; obtain ⟨HR_1, HR_2, HR_3, HR_4, HR_5, HR_6⟩ := HR.out; clear HRn; clear HGn hc hg))
    refine bodyPost_ret (by simp (maxDischargeDepth := 3) [results, Tryz.results67, go_sem, *]; try rfl) rfl ?_
    exact ⟨_, rfl, ⟨_, _, rfl⟩, (by repeat' (first | exact HG.out | refine' set_grown ?_ (by omega) _ | refine' grown_belowD ?_ (below_allocD _ _) | refine' grown_drew ?_)), Cr.le (by repeat' (first | exact HC.out | refine' set_cr ?_ (by omega) _ | refine' Cr.keep' ?_ (below_allocD _ _) | refine' cr_drewK ?_)) (by omega)⟩
  · go_wp2_with (go_at_call 88; refine (anyCurve_any _ _ _ (by repeat' (first | exact HC.out | refine' set_cr ?_ (by omega) _ | refine' Cr.keep' ?_ (below_allocD _ _) | refine' cr_drewK ?_)) (by omega)).mono ?_; rintro e w' ⟨v, rfl, ⟨a, b, rfl, aI, bI⟩, hg, hc⟩; have HGn := Lib.hid (grown_transN HG.out (by repeat' (first | exact HG.out | refine' set_grown ?_ (by omega) _ | refine' grown_belowD ?_ (below_allocD _ _) | refine' grown_drew ?_)) hg); (try clear HR_1 HR_2 HR_3 HR_4 HR_5 HR_6); have HRn := Lib.hid (BoxC.keepN HR.out (by repeat' (first | exact HR.out | refine' BoxC.keep ?_ (below_grown _ (below_allocD _ _)) | refine' BoxP.keep ?_ (below_grown _ (below_allocD _ _)) | refine' BoxC.far1 ?_ (by omega) | refine' BoxP.far1 ?_ (by omega) | refine' BoxC.put0 ?_ _ | refine' BoxC.put1 ?_ _ | refine' BoxP.put0 ?_ _ | refine' BoxP.put1 ?_ _ | refine' BoxP.put2 ?_ _)) hg); clear HC HG HR; have HC := Lib.hid hc; have HG := Lib.hid HGn.out; have HR := Lib.hid HRn.out; obtain ⟨HR_1, HR_2, HR_3, HR_4, HR_5, HR_6⟩ := HR.out; clear HRn; clear HGn hc hg)
    refine bodyPost_ret (by simp (maxDischargeDepth := 3) [results, Tryz.results67, go_sem, *]; try rfl) rfl ?_
    exact ⟨_, rfl, ⟨_, _, rfl⟩, (by repeat' (first | exact HG.out | refine' set_grown ?_ (by omega) _ | refine' grown_belowD ?_ (below_allocD _ _) | refine' grown_drew ?_)), Cr.le (by repeat' (first | exact HC.out | refine' set_cr ?_ (by omega) _ | refine' Cr.keep' ?_ (below_allocD _ _) | refine' cr_drewK ?_)) (by omega)⟩
set_option maxHeartbeats 4000000 in
set_option maxRecDepth 100000 in
theorem drawScaleCurve_any (ad : Option Addr) (len cap : Nat) (zs : List Int) (w : World) (h : IsRow .u8 w ad len cap zs) (hl : len ≤ 1048576) :
    Calls Tryz.prog 7 #[.slice ad len cap] w (RetCu w) := by
  have h0 : Below w.heap.size w (w.alloc (.cells #[.int .i64 0, .int .i64 0] 25)) := below_allocD _ _
  have hc0 := cr_startb h (by omega) h0 92
  have hz0 : (w.alloc (.cells #[.int .i64 0, .int .i64 0] 25)).heap.size = w.heap.size + 1 := by simp
  have hr0 : BoxC (w.alloc (.cells #[.int .i64 0, .int .i64 0] 25)).heap.size ((w.alloc (.cells #[.int .i64 0, .int .i64 0] 25)).alloc (.cells #[.slice ad len cap, .int .i64 0, .int .u64 0] 92)) w.heap.size 0 0 :=
    ⟨by simp, by simp, by simp [go_sem], by simp [go_sem], by simp [go_sem], by simp [go_sem]⟩
  have hl1 : Below w.heap.size w ((w.alloc (.cells #[.int .i64 0, .int .i64 0] 25)).alloc (.cells #[.slice ad len cap, .int .i64 0, .int .u64 0] 92)) := bel_alloc h0 _
  have HC0 := Lib.hid hc0; have HL0 := Lib.hid hl1; have HR0 := Lib.hid hr0; have HZ0 := Lib.hid hz0; clear hc0 h0 hr0 hl1 hz0 h
  go_enter Tryz.func7, Tryz.ntmps7
  go_wp2_with fail
  have hc0 := HC0.out; have hr0 := HR0.out; have hl0 := HL0.out
  rw [HZ0.out] at hc0 hr0
  clear HC0 HR0 HL0 HZ0
  generalize (w.alloc (.cells #[.int .i64 0, .int .i64 0] 25)).alloc (.cells #[.slice ad len cap, .int .i64 0, .int .u64 0] 92) = V at hc0 hr0 hl0 ⊢
  obtain ⟨N, hN⟩ : ∃ N, N = w.heap.size := ⟨_, rfl⟩
  obtain ⟨B, hB⟩ : ∃ B, B = w.heap.size + 1 := ⟨_, rfl⟩
  rw [← hB] at hc0 hr0 ⊢
  rw [← hN] at hr0 ⊢
  have HN := Lib.hid hN; have HB0 := Lib.hid hB; clear hN hB
  have HC0 := Lib.hid hc0; have HR0 := Lib.hid hr0; have HL0 := Lib.hid hl0; clear hc0 hr0 hl0
  refine (scalable_any B _ _ HC0.out (by omega)).mono ?_; rintro e w1 ⟨v, rfl, ⟨a, b, rfl⟩, hg1, hc1⟩
  have HC1 := Lib.hid hc1; have HG1 := Lib.hid hg1; have HR1 := Lib.hid (HR0.out.keep hg1); clear hg1 hc1 HC0 HR0
  go_wp2_with fail
  refine (amongLit_any B _ _ [0, 6] _ HC1.out (by omega) (by intro n hn; simp only [List.mem_cons, List.not_mem_nil, or_false] at hn; unfold I64; omega) (by simp) (by simp)).mono ?_; rintro e w2 ⟨v, rfl, ⟨x, rfl, xI⟩, hg2, hc2⟩
  have HC2 := Lib.hid hc2; have HG2 := Lib.hid (grown_trans HG1.out hg2); have HR2 := Lib.hid (HR1.out.keep hg2); clear hg2 hc2 HC1 HR1 HG1
  go_wp2_with fail
  refine (amongLit_any B _ _ [1, 2, 2, 3, 4, 5, x] _ HC2.out (by omega) (by intro n hn; simp only [List.mem_cons, List.not_mem_nil, or_false] at hn; unfold I64 at xI ⊢; omega) (by simp) (by simp)).mono ?_; rintro e w3 ⟨v, rfl, ⟨y, rfl, yI⟩, hg3, hc3⟩
  have HG3 := Lib.hid (grown_trans HG2.out hg3); have HR3 := Lib.hid (HR2.out.keep hg3); clear hg3 hc3 HC2 HR2 HG2
  obtain ⟨r1, r2, r3, r4, r5, r6⟩ := HR3.out
  go_wp2_with fail
  refine bodyPost_ret (by simp (maxDischargeDepth := 3) [results, Tryz.results7, go_sem, *]; try rfl) rfl ?_
  exact ⟨_, _, _, rfl, draw_endb HL0.out HG3.out HN.out HB0.out⟩
set_option maxHeartbeats 4000000 in
set_option maxRecDepth 100000 in
theorem drawIsCurve_any (ad : Option Addr) (len cap : Nat) (zs : List Int) (w : World) (h : IsRow .u8 w ad len cap zs) (hl : len ≤ 1048576) :
    Calls Tryz.prog 79 #[.slice ad len cap] w (RetC1 w) := by
  have h0 : Below w.heap.size w (w.alloc (.cells #[.int .i64 0, .int .i64 0] 25)) := below_allocD _ _
  have hc0 := cr_startb h (by omega) h0 92
  have hz0 : (w.alloc (.cells #[.int .i64 0, .int .i64 0] 25)).heap.size = w.heap.size + 1 := by simp
  have hr0 : BoxC (w.alloc (.cells #[.int .i64 0, .int .i64 0] 25)).heap.size ((w.alloc (.cells #[.int .i64 0, .int .i64 0] 25)).alloc (.cells #[.slice ad len cap, .int .i64 0, .int .u64 0] 92)) w.heap.size 0 0 :=
    ⟨by simp, by simp, by simp [go_sem], by simp [go_sem], by simp [go_sem], by simp [go_sem]⟩
  have hl1 : Below w.heap.size w ((w.alloc (.cells #[.int .i64 0, .int .i64 0] 25)).alloc (.cells #[.slice ad len cap, .int .i64 0, .int .u64 0] 92)) := bel_alloc h0 _
  have HC0 := Lib.hid hc0; have HL0 := Lib.hid hl1; have HR0 := Lib.hid hr0; have HZ0 := Lib.hid hz0; clear hc0 h0 hr0 hl1 hz0 h
  go_enter Tryz.func79, Tryz.ntmps79
  go_wp2_with fail
  have hc0 := HC0.out; have hr0 := HR0.out; have hl0 := HL0.out
  rw [HZ0.out] at hc0 hr0
  clear HC0 HR0 HL0 HZ0
  generalize (w.alloc (.cells #[.int .i64 0, .int .i64 0] 25)).alloc (.cells #[.slice ad len cap, .int .i64 0, .int .u64 0] 92) = V at hc0 hr0 hl0 ⊢
  obtain ⟨N, hN⟩ : ∃ N, N = w.heap.size := ⟨_, rfl⟩
  obtain ⟨B, hB⟩ : ∃ B, B = w.heap.size + 1 := ⟨_, rfl⟩
  rw [← hB] at hc0 hr0 ⊢
  rw [← hN] at hr0 ⊢
  have HN := Lib.hid hN; have HB0 := Lib.hid hB; clear hN hB
  have HC0 := Lib.hid hc0; have HR0 := Lib.hid hr0; have HL0 := Lib.hid hl0; clear hc0 hr0 hl0
  refine (anyCurve_any B _ _ HC0.out (by omega)).mono ?_; rintro e w1 ⟨v, rfl, ⟨a, b, rfl, aI, bI⟩, hg1, hc1⟩
  have HG1 := Lib.hid hg1; have HR1 := Lib.hid (HR0.out.keep hg1); clear hg1 hc1 HC0 HR0
  obtain ⟨r1, r2, r3, r4, r5, r6⟩ := HR1.out
  go_wp2_with fail
  refine bodyPost_ret (by simp (maxDischargeDepth := 3) [results, Tryz.results79, go_sem, *]; try rfl) rfl ?_
  exact ⟨_, _, rfl, draw_endb HL0.out HG1.out HN.out HB0.out⟩
theorem drawSmallestModel_any (ad : Option Addr) (len cap : Nat) (zs : List Int) (w : World) (h : IsRow .u8 w ad len cap zs) (hl : len ≤ 1048576) :
    Calls Tryz.prog 16 #[.slice ad len cap] w (RetC1 w) := by
  have hb0 := (below_allocD w (.cells #[.int .i64 0, .int .i64 0] 25))
  have hk := isRow_keepDb h hb0
  have q0 : w.heap.size < (w.alloc (.cells #[.int .i64 0, .int .i64 0] 25)).heap.size := by simp
  have q1 : (w.alloc (.cells #[.int .i64 0, .int .i64 0] 25)).cell? ⟨w.heap.size, 0, none⟩ = some (.int .i64 0) := by simp [go_sem]
  have q2 : (w.alloc (.cells #[.int .i64 0, .int .i64 0] 25)).cell? ⟨w.heap.size, 1, none⟩ = some (.int .i64 0) := by simp [go_sem]
  have q3 : (w.alloc (.cells #[.int .i64 0, .int .i64 0] 25)).frozen? ⟨w.heap.size, 0, none⟩ = false := by simp [go_sem]
  have q4 : (w.alloc (.cells #[.int .i64 0, .int .i64 0] 25)).frozen? ⟨w.heap.size, 1, none⟩ = false := by simp [go_sem]
  have HK := Lib.hid hk; have Q := Lib.hid (And.intro q0 (And.intro q1 (And.intro q2 (And.intro q3 q4)))); have H0 := Lib.hid hb0
  clear hk h q0 q1 q2 q3 q4 hb0
  go_enter Tryz.func16, Tryz.ntmps16
  go_wp2_with fail
  refine (drawIsCurve_any _ _ _ _ _ HK.out hl).mono ?_; rintro e w1 ⟨a, b, rfl, hb⟩
  obtain ⟨q0, q1, q2, q3, q4⟩ := Q.out
  have r0 := Nat.lt_of_lt_of_le q0 hb.size
  have r1 := (hb.cell (p := ⟨w.heap.size, 0, none⟩) q0).trans q1
  have r2 := (hb.cell (p := ⟨w.heap.size, 1, none⟩) q0).trans q2
  have r3 := (hb.frozen (p := ⟨w.heap.size, 0, none⟩) q0).trans q3
  have r4 := (hb.frozen (p := ⟨w.heap.size, 1, none⟩) q0).trans q4
  have H1 := Lib.hid (bel_trans hb H0.out)
  clear hb q0 q1 q2 q3 q4 Q HK H0
  go_wp2_with fail
  refine bodyPost_ret (by simp (maxDischargeDepth := 3) [results, Tryz.results16, go_sem, *]; try rfl) rfl ?_
  exact ⟨_, _, rfl, (H1.out.setCell (Nat.le_refl _) _).setCell (Nat.le_refl _) _⟩
theorem drawCurveText_any (ad : Option Addr) (len cap : Nat) (zs : List Int) (w : World) (h : IsRow .u8 w ad len cap zs) (hl : len ≤ 1048576) :
    Calls Tryz.prog 19 #[.slice ad len cap] w (RetC1 w) := by
  have hb0 := (below_allocD w (.cells #[.int .i64 0, .int .i64 0] 25))
  have hk := isRow_keepDb h hb0
  have q0 : w.heap.size < (w.alloc (.cells #[.int .i64 0, .int .i64 0] 25)).heap.size := by simp
  have q1 : (w.alloc (.cells #[.int .i64 0, .int .i64 0] 25)).cell? ⟨w.heap.size, 0, none⟩ = some (.int .i64 0) := by simp [go_sem]
  have q2 : (w.alloc (.cells #[.int .i64 0, .int .i64 0] 25)).cell? ⟨w.heap.size, 1, none⟩ = some (.int .i64 0) := by simp [go_sem]
  have q3 : (w.alloc (.cells #[.int .i64 0, .int .i64 0] 25)).frozen? ⟨w.heap.size, 0, none⟩ = false := by simp [go_sem]
  have q4 : (w.alloc (.cells #[.int .i64 0, .int .i64 0] 25)).frozen? ⟨w.heap.size, 1, none⟩ = false := by simp [go_sem]
  have HK := Lib.hid hk; have Q := Lib.hid (And.intro q0 (And.intro q1 (And.intro q2 (And.intro q3 q4)))); have H0 := Lib.hid hb0
  clear hk h q0 q1 q2 q3 q4 hb0
  go_enter Tryz.func19, Tryz.ntmps19
  go_wp2_with fail
  refine (drawIsCurve_any _ _ _ _ _ HK.out hl).mono ?_; rintro e w1 ⟨a, b, rfl, hb⟩
  obtain ⟨q0, q1, q2, q3, q4⟩ := Q.out
  have r0 := Nat.lt_of_lt_of_le q0 hb.size
  have r1 := (hb.cell (p := ⟨w.heap.size, 0, none⟩) q0).trans q1
  have r2 := (hb.cell (p := ⟨w.heap.size, 1, none⟩) q0).trans q2
  have r3 := (hb.frozen (p := ⟨w.heap.size, 0, none⟩) q0).trans q3
  have r4 := (hb.frozen (p := ⟨w.heap.size, 1, none⟩) q0).trans q4
  have H1 := Lib.hid (bel_trans hb H0.out)
  clear hb q0 q1 q2 q3 q4 Q HK H0
  go_wp2_with fail
  refine bodyPost_ret (by simp (maxDischargeDepth := 3) [results, Tryz.results19, go_sem, *]; try rfl) rfl ?_
  exact ⟨_, _, rfl, (H1.out.setCell (Nat.le_refl _) _).setCell (Nat.le_refl _) _⟩
theorem cvT_sz {a b : Int} (h1 : -1000 ≤ a) (h2 : a ≤ 1000) (h3 : -10000 ≤ b) (h4 : b ≤ 10000) : (cvT a b).size ≤ 30000 := by
  have s1 := intS_size a
  have s2 := intS_size b
  unfold cvT
  simp only [ByteArray.size_append]
  have h32 : ({ data := #[32] } : ByteArray).size = 1 := rfl
  omega
set_option maxHeartbeats 4000000 in
set_option maxRecDepth 100000 in
theorem drawParseCurve_any (ad : Option Addr) (len cap : Nat) (zs : List Int) (w : World) (h : IsRow .u8 w ad len cap zs) (hl : len ≤ 1048576) :
    Calls Tryz.prog 23 #[.slice ad len cap] w (RetSt 40000 w) := by
  have hc0 := cr_startb h (by omega) (Below.refl _ _) 92
  have hl1 : Below w.heap.size w (w.alloc (.cells #[.slice ad len cap, .int .i64 0, .int .u64 0] 92)) := below_allocD _ _
  have HC0 := Lib.hid hc0; have HL0 := Lib.hid hl1; clear hc0 hl1 h
  go_enter Tryz.func23, Tryz.ntmps23
  go_wp2_with fail
  have hc0 := HC0.out; have hl0 := HL0.out
  generalize w.alloc (.cells #[.slice ad len cap, .int .i64 0, .int .u64 0] 92) = V at hc0 hl0 ⊢
  obtain ⟨B, hB⟩ : ∃ B, B = w.heap.size := ⟨_, rfl⟩
  rw [← hB] at hc0 ⊢
  have HB0 := Lib.hid hB; clear hB HC0 HL0
  have HC0 := Lib.hid hc0; have HL0 := Lib.hid hl0; clear hc0 hl0
  refine (curve_any B _ _ HC0.out (by omega)).mono ?_; rintro e w1 ⟨v, rfl, ⟨a, b, rfl, hq⟩, hg1, hc1⟩
  have HC1 := Lib.hid hc1; have HG1 := Lib.hid hg1; clear hg1 hc1 HC0
  obtain ⟨h1, h2, h3, h4, _⟩ := curveB_true.1 hq
  go_wp2_with fail
  refine (ecText_any a b _ h1 h2 h3 h4).mono ?_; rintro e w2 ⟨rfl, hb2⟩
  have hs := cvT_sz h1 h2 h3 h4
  generalize cvT a b = s at hs ⊢
  have HC2 := Lib.hid (HC1.out.keep' hb2); have HG2 := Lib.hid (grown_trans HG1.out (below_grown B hb2)); clear hb2 HC1 HG1
  go_wp2_with fail
  refine (one_any B _ 3 _ HC2.out (by omega) (by omega) (by omega)).mono ?_; rintro e w3 ⟨v, rfl, ⟨bo, rfl⟩, hg3, hc3⟩
  have HC3 := Lib.hid hc3; have HG3 := Lib.hid (grown_trans HG2.out hg3); clear hg3 hc3 HC2 HG2
  rcases bo with _ | _
  · go_wp2_with fail
    go_ret
    exact ⟨_, rfl, by omega, grown_belowNb HL0.out HG3.out (by have := HB0.out; omega) (Nat.le_refl _)⟩
  · go_wp2_with fail
    refine (spoilt_any B _ s ⟨#[45, 48, 49, 57, 32]⟩ 30000 _ HC3.out (by omega) (by decide) (by decide) hs (by omega)).mono ?_; rintro e w4 ⟨v, rfl, ⟨u, rfl, hu⟩, hg4, hc4⟩
    have HG4 := Lib.hid (grown_trans HG3.out hg4); clear hg4 hc4 HC3 HG3
    go_wp2_with fail
    go_ret
    exact ⟨_, rfl, by omega, grown_belowNb HL0.out HG4.out (by have := HB0.out; omega) (Nat.le_refl _)⟩
set_option maxHeartbeats 8000000 in
set_option maxRecDepth 100000 in
theorem drawAreIsomorphic_any (ad : Option Addr) (len cap : Nat) (zs : List Int) (w : World) (h : IsRow .u8 w ad len cap zs) (hl : len ≤ 1048576) :
    Calls Tryz.prog 25 #[.slice ad len cap] w (RetCc w) := by
  have h0 : Below w.heap.size w ((w.alloc (.cells #[.int .i64 0, .int .i64 0] 25)).alloc (.cells #[.int .i64 0, .int .i64 0] 25)) := bel_alloc (below_allocD _ _) _
  have hc0 := cr_startb h (by omega) h0 92
  have hz0 : ((w.alloc (.cells #[.int .i64 0, .int .i64 0] 25)).alloc (.cells #[.int .i64 0, .int .i64 0] 25)).heap.size = w.heap.size + 1 + 1 := by simp
  have hr0 : BoxC (w.heap.size + 1 + 1) (((w.alloc (.cells #[.int .i64 0, .int .i64 0] 25)).alloc (.cells #[.int .i64 0, .int .i64 0] 25)).alloc (.cells #[.slice ad len cap, .int .i64 0, .int .u64 0] 92)) w.heap.size 0 0 :=
    ⟨by simp <;> omega, by omega, by simp [go_sem], by simp [go_sem], by simp [go_sem], by simp [go_sem]⟩
  have hr1 : BoxC (w.heap.size + 1 + 1) (((w.alloc (.cells #[.int .i64 0, .int .i64 0] 25)).alloc (.cells #[.int .i64 0, .int .i64 0] 25)).alloc (.cells #[.slice ad len cap, .int .i64 0, .int .u64 0] 92)) (w.heap.size + 1) 0 0 :=
    ⟨by simp <;> omega, by omega, by simp [go_sem], by simp [go_sem], by simp [go_sem], by simp [go_sem]⟩
  have hl1 : Below w.heap.size w (((w.alloc (.cells #[.int .i64 0, .int .i64 0] 25)).alloc (.cells #[.int .i64 0, .int .i64 0] 25)).alloc (.cells #[.slice ad len cap, .int .i64 0, .int .u64 0] 92)) := bel_alloc h0 _
  have HC0 := Lib.hid hc0; have HL0 := Lib.hid hl1; have HR0 := Lib.hid hr0; have HS0 := Lib.hid hr1; have HZ0 := Lib.hid hz0; clear hc0 h0 hr0 hr1 hl1 hz0 h
  go_enter Tryz.func25, Tryz.ntmps25
  go_wp2_with fail
  have hc0 := HC0.out; have hr0 := HR0.out; have hs0 := HS0.out; have hl0 := HL0.out
  rw [HZ0.out] at hc0
  clear HC0 HR0 HS0 HL0 HZ0
  generalize ((w.alloc (.cells #[.int .i64 0, .int .i64 0] 25)).alloc (.cells #[.int .i64 0, .int .i64 0] 25)).alloc (.cells #[.slice ad len cap, .int .i64 0, .int .u64 0] 92) = V at hc0 hr0 hs0 hl0 ⊢
  obtain ⟨N, hN⟩ : ∃ N, N = w.heap.size := ⟨_, rfl⟩
  obtain ⟨N2, hN2⟩ : ∃ N2, N2 = w.heap.size + 1 := ⟨_, rfl⟩
  obtain ⟨B, hB⟩ : ∃ B, B = w.heap.size + 1 + 1 := ⟨_, rfl⟩
  rw [← hB] at hc0 hr0 hs0 ⊢
  rw [← hN2] at hs0 ⊢
  rw [← hN] at hr0 ⊢
  have HN := Lib.hid (And.intro hN (And.intro hN2 hB)); clear hN hN2 hB
  have HC0 := Lib.hid hc0; have HR0 := Lib.hid hr0; have HS0 := Lib.hid hs0; have HL0 := Lib.hid hl0; clear hc0 hr0 hs0 hl0
  refine (anyCurve_any B _ _ HC0.out (by omega)).mono ?_; rintro e w1 ⟨v, rfl, ⟨a, b, rfl, aI, bI⟩, hg1, hc1⟩
  have HC1 := Lib.hid hc1; have HG1 := Lib.hid hg1; have HR1 := Lib.hid (HR0.out.keep hg1); have HS1 := Lib.hid (HS0.out.keep hg1); clear hg1 hc1 HC0 HR0 HS0 aI bI
  go_wp2_with fail
  have hc2 : Cr (w1.alloc (.cells #[.int .i64 a, .int .i64 b] 25)) B _ := HC1.out.keep' (below_allocD _ _)
  have hg2 : w1.grownBy (w1.alloc (.cells #[.int .i64 a, .int .i64 b] 25)) (some B) := below_grown B (below_allocD _ _)
  have hb2 := BoxC.new a b 25 HC1.out.lt
  have hn2 : N < w1.heap.size ∧ N2 < w1.heap.size := ⟨HR1.out.1, HS1.out.1⟩
  generalize w1.alloc (.cells #[.int .i64 a, .int .i64 b] 25) = w2 at hc2 hg2 hb2 ⊢
  generalize w1.heap.size = n at hb2 hn2 ⊢
  have HB2 := Lib.hid hb2; clear hb2
  have HC2 := Lib.hid hc2; have HG2 := Lib.hid (grown_trans HG1.out hg2); have HR2 := Lib.hid (HR1.out.keep hg2); have HS2 := Lib.hid (HS1.out.keep hg2); clear hg2 hc2 HC1 HG1 HR1 HS1
  refine (one_any B _ 2 _ HC2.out (by omega) (by omega) (by omega)).mono ?_; rintro e w3 ⟨u, rfl, ⟨bo, rfl⟩, hg3, hc3⟩
  have HC3 := Lib.hid hc3; have HG3 := Lib.hid (grown_trans HG2.out hg3); have HR3 := Lib.hid (HR2.out.keep hg3); have HS3 := Lib.hid (HS2.out.keep hg3); have HB3 := Lib.hid (HB2.out.keep hg3); clear hg3 hc3 HC2 HG2 HR2 HS2 HB2
  rcases bo with _ | _
  · go_wp2_with fail
    have HNE := Lib.hid (show (n ≠ N ∧ n ≠ N2 ∧ n ≠ N ∧ n ≠ N2) ∧ w.heap.size ≤ N ∧ w.heap.size ≤ N2 ∧ N ≠ N2 by have := HN.out; omega)
    have hwB : w.heap.size ≤ B := by have := HN.out; omega
    refine wp_region_steps [26, 27, 28] (RT) (look [(26, VC a b), (27, VB B), (28, VCe)]) (SH w B N N2 n n a b a b 10000) (by kernel_rfl) (by kernel_rfl) (by decide) (look_keep ?_) ?_ ?_
    · intro q hq v x y hv hr
      simp only [List.mem_cons, List.not_mem_nil, or_false] at hq
      rcases hq with rfl | rfl | rfl
      all_goals first | exact hv | exact VFc.keep hv hr
    · exact ⟨(HC3.out.keep' (bel_drew (Below.refl _ _))).le (by omega), bel_drew (grown_belowNb HL0.out HG3.out hwB (Nat.le_refl _)), HB3.out.keep (below_grown B (bel_drew (Below.refl _ _))), HB3.out.keep (below_grown B (bel_drew (Below.refl _ _))), ⟨_, _, HR3.out.keep (below_grown B (bel_drew (Below.refl _ _)))⟩, ⟨_, _, HS3.out.keep (below_grown B (bel_drew (Below.refl _ _)))⟩⟩
    refine Steps.cons ?_ ?_
    · refine TStep.of ?_ ?_ ?_
      · rfl
      · simp
      intro k g x hk9 hS hd
      refine ⟨_, x, wp_ldCb (hS.2.2.1) (by rw [eval_out (by decide)]; rfl), fun d e => ?_, hS.same, trivial⟩
      cases e; exact rfl
    refine Steps.cons ?_ ?_
    · refine TStep.move 4 ?_ ?_ ?_ ?_ ?_ ?_
      · exact .inl rfl
      · rfl
      · simp
      · exact fun _ _ h => h.same
      · exact fun x => trivial
      intro g x hd d e; cases e; rw [eval_out (by decide)]; exact rfl
    refine Steps.cons ?_ ?_
    · refine TStep.call ?_ ?_ ?_
      · rfl
      · simp
      intro k g x hk9 hS hd
      refine ⟨_, _, wp_call_ofb (run_callAny _ (by rfl)), ?_⟩
      have e1 : g 27 = .pointer (some ⟨B, 0, none⟩) := hd 27 (mem_b (by kernel_rfl))
      rw [eval_in (i := 27) (by decide) (by simp), e1]
      refine (anyCurve_any B _ _ hS.1 (by have h9 : k < 5 := hk9; omega)).mono ?_
      rintro e x' ⟨v', rfl, ⟨c', d', rfl, ci, di⟩, hg', hc'⟩
      refine ⟨_, rfl, fun d e => ?_, hS.step hwB hg' (hc'.le (by omega)), trivial⟩
      cases e; exact ⟨c', d', rfl⟩
    refine Steps.cons ?_ ?_
    · refine TStep.of ?_ ?_ ?_
      · rfl
      · simp
      intro k g x hk9 hS hd
      obtain ⟨a', b', e2⟩ : VCe (g 26) x := ⟨_, _, (hd 26 (mem_b (by kernel_rfl)) : VC _ _ _ _)⟩
      refine ⟨undef, _, wp_stCb (a := a') (b := b') (hS.2.2.2.2.1.choose_spec.choose_spec) (by rw [eval_out (by decide)]; rfl) (by rw [eval_in (by decide) (by simp)]; exact e2), (by simp), hS.put1 HNE.out a' b', trivial⟩
    refine Steps.one ?_
    refine LStep.of ?_ ?_
    · rfl
    intro g x hS hd
    obtain ⟨a', b', e2⟩ : VCe (g 28) x := hd 28 (mem_b (by kernel_rfl))
    refine ⟨undef, _, wp_stCb (a := a') (b := b') (hS.2.2.2.2.2.choose_spec.choose_spec) (by rw [eval_out (by decide)]; rfl) (by rw [eval_in (by decide) (by simp)]; exact e2), ?_⟩
    have hE := hS.put2 HNE.out a' b'
    obtain ⟨_, s2, _, _, ⟨p1, p2, s5⟩, ⟨p3, p4, s6⟩⟩ := hE
    generalize (x.setCell ⟨N2, 0, none⟩ (.int .i64 a')).setCell ⟨N2, 1, none⟩ (.int .i64 b') = y at s2 s5 s6 ⊢
    obtain ⟨r1, r2, r3, r4, r5, r6⟩ := s5
    obtain ⟨t1, t2, t3, t4, t5, t6⟩ := s6
    have S2 := Lib.hid s2; clear s2 hS hd e2
    simp only [fill, Act.put, List.setIfInBounds_toArray, List.set_cons_zero, List.set_cons_succ]
    clear HN HL0 HNE HC3 HG3 HR3 HS3 HB3
    go_wp2_with fail
    refine bodyPost_ret (by simp (maxDischargeDepth := 3) [results, Tryz.results25, go_sem, *]; try rfl) rfl ?_
    exact ⟨_, _, _, _, rfl, S2.out⟩
  · go_wp2_with fail
    have hwB : w.heap.size ≤ B := by have := HN.out; omega
    obtain ⟨M, hM⟩ : ∃ M, M = w3.heap.size := ⟨_, rfl⟩
    have HMW := Lib.hid (show w3.heap.size ≤ M by omega)
    have hMB : B < M := by have := HC3.out.lt; omega
    refine wp_region_steps [16, 17, 18, 19, 20, 15, 21, 22, 6, 7] (RF B M) (look [(16, VC a b), (17, VB B), (18, VI 0 1), (19, VI 2 3), (20, VTc), (15, VTc), (21, VCe), (22, VBo), (6, VFc B M), (7, VBo)]) (SG w3 B 10000) (by kernel_rfl) (by kernel_rfl) (by decide) (look_keep ?_) ?_ ?_
    · intro q hq v x y hv hr
      simp only [List.mem_cons, List.not_mem_nil, or_false] at hq
      rcases hq with rfl | rfl | rfl | rfl | rfl | rfl | rfl | rfl | rfl | rfl
      all_goals first | exact hv | exact VFc.keep hv hr
    · exact ⟨(HC3.out.keep' (bel_drew (Below.refl _ _))).le (by omega), below_grown B (bel_drew (Below.refl _ _))⟩
    refine Steps.cons ?_ ?_
    · refine TStep.of ?_ ?_ ?_
      · rfl
      · simp
      intro k g x hk9 hS hd
      refine ⟨_, x, wp_ldCb (HB3.out.keep hS.2) (by rw [eval_out (by decide)]; rfl), fun d e => ?_, hS.same, RF.refl B M x⟩
      cases e; exact rfl
    refine Steps.cons ?_ ?_
    · refine TStep.move 4 ?_ ?_ ?_ ?_ ?_ ?_
      · exact .inl rfl
      · rfl
      · simp
      · exact fun _ _ h => h.same
      · exact fun x => RF.refl B M x
      intro g x hd d e; cases e; rw [eval_out (by decide)]; exact rfl
    refine Steps.cons ?_ ?_
    · refine TStep.call ?_ ?_ ?_
      · rfl
      · simp
      intro k g x hk9 hS hd
      refine ⟨_, _, wp_call_ofb (run_callPickb _ (by rfl) (by rfl)), ?_⟩
      have e1 : g 17 = .pointer (some ⟨B, 0, none⟩) := hd 17 (mem_b (by kernel_rfl))
      rw [eval_in (i := 17) (by decide) (by simp), e1]
      refine (pick_any B _ 2 _ hS.1 (by have h9 : k < 11 := hk9; omega) (by omega) (by omega)).mono ?_
      rintro e x' ⟨v', rfl, ⟨z, rfl, z0, z1⟩, hg', hc'⟩
      refine ⟨_, rfl, fun d e => ?_, hS.step hg' (hc'.le (by omega)), RF.grown hg'⟩
      cases e; exact ⟨z, rfl, z0, by omega⟩
    refine Steps.cons ?_ ?_
    · refine TStep.of ?_ ?_ ?_
      · rfl
      · simp
      intro k g x hk9 hS hd
      obtain ⟨z, e1, z0, z1⟩ : VI _ _ (g 18) x := hd 18 (mem_b (by kernel_rfl))
      refine ⟨_, x, wp_value_ofb (run_addL (n := z) (c := 2) _ (by rw [eval_in (by decide) (by simp)]; exact e1) (by rfl)), fun d e => ?_, hS.same, RF.refl B M x⟩
      cases e
      exact ⟨_, rfl, by rw [wrapk (by omega) (by omega)]; omega, by rw [wrapk (by omega) (by omega)]; omega⟩
    refine Steps.cons ?_ ?_
    · refine TStep.call ?_ ?_ ?_
      · rfl
      · simp
      intro k g x hk9 hS hd
      refine ⟨_, _, wp_call_ofb (run_callSc _ (by rfl)), ?_⟩
      have e1 : g 16 = .agg #[.int .i64 a, .int .i64 b] := hd 16 (mem_b (by kernel_rfl))
      obtain ⟨z, e2, z0, z1⟩ : VI _ _ (g 19) x := hd 19 (mem_b (by kernel_rfl))
      rw [eval_in (i := 16) (by decide) (by simp), eval_in (i := 19) (by decide) (by simp), e1, e2]
      refine (sScaleCurve_any a b z x).mono ?_
      rintro e x' ⟨rfl, hb'⟩
      refine ⟨_, rfl, fun d e => ?_, hS.step (below_grown B hb') ((hS.1.keep' hb').le (by omega)), RF.grown (below_grown B hb')⟩
      cases e; exact scV_tc a b z x'
    refine Steps.cons ?_ ?_
    · refine TStep.move 20 ?_ ?_ ?_ ?_ ?_ ?_
      · exact .inl rfl
      · rfl
      · simp
      · exact fun _ _ h => h.same
      · exact fun x => RF.refl B M x
      intro g x hd d e; cases e; rw [eval_in (by decide) (by simp)]; exact hd 20 (mem_b (by kernel_rfl))
    refine Steps.cons ?_ ?_
    · refine TStep.of ?_ ?_ ?_
      · rfl
      · simp
      intro k g x hk9 hS hd
      obtain ⟨a', b', o', e1⟩ : VTc (g 15) x := hd 15 (mem_b (by kernel_rfl))
      refine ⟨_, x, wp_value_ofb (run_ext _ (by rw [eval_in (by decide) (by simp)]; exact e1) (by simp)), fun d e => ?_, hS.same, RF.refl B M x⟩
      cases e; exact ⟨a', b', rfl⟩
    refine Steps.cons ?_ ?_
    · refine TStep.of ?_ ?_ ?_
      · rfl
      · simp
      intro k g x hk9 hS hd
      obtain ⟨a', b', o', e1⟩ : VTc (g 15) x := hd 15 (mem_b (by kernel_rfl))
      refine ⟨_, x, wp_value_ofb (run_ext _ (by rw [eval_in (by decide) (by simp)]; exact e1) (by simp)), fun d e => ?_, hS.same, RF.refl B M x⟩
      cases e; exact ⟨o', rfl⟩
    refine Steps.cons ?_ ?_
    · refine TStep.of ?_ ?_ ?_
      · rfl
      · simp
      intro k g x hk9 hS hd
      have hb' : Below x.heap.size x (x.alloc (.cells #[.int .i64 0, .int .i64 0] 25)) := below_allocD _ _
      have hM' : M ≤ x.heap.size := by have := hS.2.size; omega
      have hl' := hS.1.lt
      refine ⟨_, _, wp_value_ofb (run_allocC _), fun d e => ?_, hS.step (below_grown B hb') ((hS.1.keep' hb').le (by omega)), RF.grown (below_grown B hb')⟩
      cases e; exact ⟨_, rfl, hM', 0, 0, BoxC.new 0 0 _ hl'⟩
    refine Steps.cons ?_ ?_
    · refine TStep.of ?_ ?_ ?_
      · rfl
      · simp
      intro k g x hk9 hS hd
      obtain ⟨m, e1, hm, c', d', hbx⟩ : VFc B M (g 6) x := hd 6 (mem_b (by kernel_rfl))
      obtain ⟨a', b', e2⟩ : VCe (g 21) x := hd 21 (mem_b (by kernel_rfl))
      refine ⟨undef, _, wp_stCb (a := a') (b := b') hbx (by rw [eval_in (by decide) (by simp)]; exact e1) (by rw [eval_in (by decide) (by simp)]; exact e2), (by simp), ?_, RF.put hbx a' b'⟩
      exact ⟨(cr_putb (cr_putb hS.1 hbx.2.1 hbx.2.2.1 _) hbx.2.1 (hbx.put0 a').2.2.2.1 _).le (by omega), set_grown (set_grown hS.2 (by have := HMW.out; omega) _) (by have := HMW.out; omega) _⟩
    refine Steps.one ?_
    refine LStep.move 22 ?_ ?_ ?_
    · exact .inr rfl
    · rfl
    intro g x hS hd
    obtain ⟨m, e6, hm, c, d, hbx⟩ : VFc B M (g 6) x := hd 6 (mem_b (by kernel_rfl))
    obtain ⟨o, e22⟩ : VBo (g 22) x := hd 22 (mem_b (by kernel_rfl))
    rw [eval_in (by decide) (by simp)]
    simp only [fill, Act.put, List.setIfInBounds_toArray, List.set_cons_zero, List.set_cons_succ]
    rw [e6, e22]
    clear hd e6 e22
    obtain ⟨s1, s2⟩ := hS
    have HC4 := Lib.hid (s1.le (lim' := 14000) (by simp)); have HG4 := Lib.hid (grown_trans HG3.out s2); have HR4 := Lib.hid (HR3.out.keep s2); have HS4 := Lib.hid (HS3.out.keep s2); have HB4 := Lib.hid (HB3.out.keep s2); have HF4 := Lib.hid hbx; clear s1 s2 hbx
    have hnM : N < M ∧ N2 < M := ⟨by rw [hM]; exact HR3.out.1, by rw [hM]; exact HS3.out.1⟩
    have HNE := Lib.hid (show (n ≠ N ∧ n ≠ N2 ∧ n ≠ N ∧ n ≠ N2) ∧ w.heap.size ≤ N ∧ w.heap.size ≤ N2 ∧ N ≠ N2 by have := HN.out; omega)
    have HNF := Lib.hid (show (n ≠ N ∧ n ≠ N2 ∧ m ≠ N ∧ m ≠ N2) ∧ w.heap.size ≤ N ∧ w.heap.size ≤ N2 ∧ N ≠ N2 by have := HN.out; omega)
    clear HC3 HG3 HR3 HS3 HB3 HMW hMB hnM hm hM hn2
    cases o
    · go_wp2_with fail
      have HC3 := HC4; have HG3 := HG4; have HR3 := HR4; have HS3 := HS4; have HB3 := HB4
      clear HC4 HG4 HR4 HS4 HB4 HF4 HNF
      refine wp_region_steps [26, 27, 28] (RT) (look [(26, VC a b), (27, VB B), (28, VCe)]) (SH w B N N2 n n a b a b 20000) (by kernel_rfl) (by kernel_rfl) (by decide) (look_keep ?_) ?_ ?_
      · intro q hq v x y hv hr
        simp only [List.mem_cons, List.not_mem_nil, or_false] at hq
        rcases hq with rfl | rfl | rfl
        all_goals first | exact hv | exact VFc.keep hv hr
      · exact ⟨(HC3.out.keep' (bel_drew (Below.refl _ _))).le (by omega), bel_drew (grown_belowNb HL0.out HG3.out hwB (Nat.le_refl _)), HB3.out.keep (below_grown B (bel_drew (Below.refl _ _))), HB3.out.keep (below_grown B (bel_drew (Below.refl _ _))), ⟨_, _, HR3.out.keep (below_grown B (bel_drew (Below.refl _ _)))⟩, ⟨_, _, HS3.out.keep (below_grown B (bel_drew (Below.refl _ _)))⟩⟩
      refine Steps.cons ?_ ?_
      · refine TStep.of ?_ ?_ ?_
        · rfl
        · simp
        intro k g x hk9 hS hd
        refine ⟨_, x, wp_ldCb (hS.2.2.1) (by rw [eval_out (by decide)]; rfl), fun d e => ?_, hS.same, trivial⟩
        cases e; exact rfl
      refine Steps.cons ?_ ?_
      · refine TStep.move 4 ?_ ?_ ?_ ?_ ?_ ?_
        · exact .inl rfl
        · rfl
        · simp
        · exact fun _ _ h => h.same
        · exact fun x => trivial
        intro g x hd d e; cases e; rw [eval_out (by decide)]; exact rfl
      refine Steps.cons ?_ ?_
      · refine TStep.call ?_ ?_ ?_
        · rfl
        · simp
        intro k g x hk9 hS hd
        refine ⟨_, _, wp_call_ofb (run_callAny _ (by rfl)), ?_⟩
        have e1 : g 27 = .pointer (some ⟨B, 0, none⟩) := hd 27 (mem_b (by kernel_rfl))
        rw [eval_in (i := 27) (by decide) (by simp), e1]
        refine (anyCurve_any B _ _ hS.1 (by have h9 : k < 5 := hk9; omega)).mono ?_
        rintro e x' ⟨v', rfl, ⟨c', d', rfl, ci, di⟩, hg', hc'⟩
        refine ⟨_, rfl, fun d e => ?_, hS.step hwB hg' (hc'.le (by omega)), trivial⟩
        cases e; exact ⟨c', d', rfl⟩
      refine Steps.cons ?_ ?_
      · refine TStep.of ?_ ?_ ?_
        · rfl
        · simp
        intro k g x hk9 hS hd
        obtain ⟨a', b', e2⟩ : VCe (g 26) x := ⟨_, _, (hd 26 (mem_b (by kernel_rfl)) : VC _ _ _ _)⟩
        refine ⟨undef, _, wp_stCb (a := a') (b := b') (hS.2.2.2.2.1.choose_spec.choose_spec) (by rw [eval_out (by decide)]; rfl) (by rw [eval_in (by decide) (by simp)]; exact e2), (by simp), hS.put1 HNE.out a' b', trivial⟩
      refine Steps.one ?_
      refine LStep.of ?_ ?_
      · rfl
      intro g x hS hd
      obtain ⟨a', b', e2⟩ : VCe (g 28) x := hd 28 (mem_b (by kernel_rfl))
      refine ⟨undef, _, wp_stCb (a := a') (b := b') (hS.2.2.2.2.2.choose_spec.choose_spec) (by rw [eval_out (by decide)]; rfl) (by rw [eval_in (by decide) (by simp)]; exact e2), ?_⟩
      have hE := hS.put2 HNE.out a' b'
      obtain ⟨_, s2, _, _, ⟨p1, p2, s5⟩, ⟨p3, p4, s6⟩⟩ := hE
      generalize (x.setCell ⟨N2, 0, none⟩ (.int .i64 a')).setCell ⟨N2, 1, none⟩ (.int .i64 b') = y at s2 s5 s6 ⊢
      obtain ⟨r1, r2, r3, r4, r5, r6⟩ := s5
      obtain ⟨t1, t2, t3, t4, t5, t6⟩ := s6
      have S2 := Lib.hid s2; clear s2 hS hd e2
      simp only [fill, Act.put, List.setIfInBounds_toArray, List.set_cons_zero, List.set_cons_succ]
      clear HN HL0 HNE HC3 HG3 HR3 HS3 HB3
      go_wp2_with fail
      refine bodyPost_ret (by simp (maxDischargeDepth := 3) [results, Tryz.results25, go_sem, *]; try rfl) rfl ?_
      exact ⟨_, _, _, _, rfl, S2.out⟩
    · go_wp2_with fail
      refine wp_region_steps [24, 25] (RT) (look [(24, VC a b), (25, VC c d)]) (SH w B N N2 n m a b c d 20000) (by kernel_rfl) (by kernel_rfl) (by decide) (look_keep ?_) ?_ ?_
      · intro q hq v x y hv hr
        simp only [List.mem_cons, List.not_mem_nil, or_false] at hq
        rcases hq with rfl | rfl
        all_goals first | exact hv | exact VFc.keep hv hr
      · exact ⟨(HC4.out.keep' (bel_drew (Below.refl _ _))).le (by omega), bel_drew (grown_belowNb HL0.out HG4.out hwB (Nat.le_refl _)), HB4.out.keep (below_grown B (bel_drew (Below.refl _ _))), HF4.out.keep (below_grown B (bel_drew (Below.refl _ _))), ⟨_, _, HR4.out.keep (below_grown B (bel_drew (Below.refl _ _)))⟩, ⟨_, _, HS4.out.keep (below_grown B (bel_drew (Below.refl _ _)))⟩⟩
      refine Steps.cons ?_ ?_
      · refine TStep.of ?_ ?_ ?_
        · rfl
        · simp
        intro k g x hk9 hS hd
        refine ⟨_, x, wp_ldCb (hS.2.2.1) (by rw [eval_out (by decide)]; rfl), fun d e => ?_, hS.same, trivial⟩
        cases e; exact rfl
      refine Steps.cons ?_ ?_
      · refine TStep.of ?_ ?_ ?_
        · rfl
        · simp
        intro k g x hk9 hS hd
        refine ⟨_, x, wp_ldCb (hS.2.2.2.1) (by rw [eval_out (by decide)]; rfl), fun d e => ?_, hS.same, trivial⟩
        cases e; exact rfl
      refine Steps.cons ?_ ?_
      · refine TStep.of ?_ ?_ ?_
        · rfl
        · simp
        intro k g x hk9 hS hd
        obtain ⟨a', b', e2⟩ : VCe (g 24) x := ⟨_, _, (hd 24 (mem_b (by kernel_rfl)) : VC _ _ _ _)⟩
        refine ⟨undef, _, wp_stCb (a := a') (b := b') (hS.2.2.2.2.1.choose_spec.choose_spec) (by rw [eval_out (by decide)]; rfl) (by rw [eval_in (by decide) (by simp)]; exact e2), (by simp), hS.put1 HNF.out a' b', trivial⟩
      refine Steps.one ?_
      refine LStep.of ?_ ?_
      · rfl
      intro g x hS hd
      obtain ⟨a', b', e2⟩ : VCe (g 25) x := ⟨_, _, (hd 25 (mem_b (by kernel_rfl)) : VC _ _ _ _)⟩
      refine ⟨undef, _, wp_stCb (a := a') (b := b') (hS.2.2.2.2.2.choose_spec.choose_spec) (by rw [eval_out (by decide)]; rfl) (by rw [eval_in (by decide) (by simp)]; exact e2), ?_⟩
      have hE := hS.put2 HNF.out a' b'
      obtain ⟨_, s2, _, _, ⟨p1, p2, s5⟩, ⟨p3, p4, s6⟩⟩ := hE
      generalize (x.setCell ⟨N2, 0, none⟩ (.int .i64 a')).setCell ⟨N2, 1, none⟩ (.int .i64 b') = y at s2 s5 s6 ⊢
      obtain ⟨r1, r2, r3, r4, r5, r6⟩ := s5
      obtain ⟨t1, t2, t3, t4, t5, t6⟩ := s6
      have S2 := Lib.hid s2; clear s2 hS hd e2
      simp only [fill, Act.put, List.setIfInBounds_toArray, List.set_cons_zero, List.set_cons_succ]
      clear HN HL0 HNE HNF HC4 HG4 HR4 HS4 HB4 HF4
      go_wp2_with fail
      refine bodyPost_ret (by simp (maxDischargeDepth := 3) [results, Tryz.results25, go_sem, *]; try rfl) rfl ?_
      exact ⟨_, _, _, _, rfl, S2.out⟩
end Go.Proofs.YtpjcfnjagknocaaGreatDoor
