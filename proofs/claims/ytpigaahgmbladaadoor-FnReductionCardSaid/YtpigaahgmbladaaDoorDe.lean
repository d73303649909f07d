/- De: contracts: draws of the laws on reduction. No conditions. -/
import Derived.Test.YtpigaahgmbladaaDoorDd
import Derived.Test.YtpigaahgmbladaaDoorDz
namespace Go.Proofs.YtpigaahgmbladaaDoor
open Go.RowKit

theorem isRow_keepD {k : IntKind} {w w' : World} {a : Option Addr} {len cap : Nat} {zs : List Int} (h : IsRow k w a len cap zs) (hb : Below w.heap.size w w') : IsRow k w' a len cap zs := by
  rcases h with h | ⟨x, rfl, h1, h2, h3, h4, h5⟩
  · exact .inl h
  · refine .inr ⟨x, rfl, h1, h2, h3, fun i hi => ?_, h5⟩
    have hc := h4 i hi
    have hlt := World.block_lt_of_cell? w _ hc
    exact (hb.cell hlt).trans hc
def RetCP (w : World) (e : Ending) (w' : World) : Prop := ∃ a b p : Int, e = .returned (.tuple #[.agg #[.int .i64 a, .int .i64 b], .int .i64 p]) ∧ I64 a ∧ I64 b ∧ I64 p ∧ Below w.heap.size w w'
def RetC2 (w : World) (e : Ending) (w' : World) : Prop := ∃ a b : Int, e = .returned (.agg #[.int .i64 a, .int .i64 b]) ∧ I64 a ∧ I64 b ∧ Below w.heap.size w w'
set_option maxHeartbeats 4000000 in
theorem drawMinimalAt_any (ad : Option Addr) (len cap : Nat) (zs : List Int) (w : World) (h : IsRow .u8 w ad len cap zs) (hl : len ≤ 1048576) :
    Calls Tryd.prog 39 #[.slice ad len cap] w (RetCP w) := by
  have h0 : Below w.heap.size w (w.alloc (.cells #[.int .i64 0, .int .i64 0] 24)) := below_allocD _ _
  have hc0 := cr_start h (by omega) h0 63
  have hz0 : (w.alloc (.cells #[.int .i64 0, .int .i64 0] 24)).heap.size = w.heap.size + 1 := by simp
  have hr0 : BoxC (w.alloc (.cells #[.int .i64 0, .int .i64 0] 24)).heap.size ((w.alloc (.cells #[.int .i64 0, .int .i64 0] 24)).alloc (.cells #[.slice ad len cap, .int .i64 0, .int .u64 0] 63)) w.heap.size 0 0 :=
    ⟨by simp, by simp, by simp [go_sem], by simp [go_sem], by simp [go_sem], by simp [go_sem]⟩
  have hl1 : Below w.heap.size w ((w.alloc (.cells #[.int .i64 0, .int .i64 0] 24)).alloc (.cells #[.slice ad len cap, .int .i64 0, .int .u64 0] 63)) := bel_alloc h0 _
  have HC0 := Lib.hid hc0; have HL0 := Lib.hid hl1; have HR0 := Lib.hid hr0; have HZ0 := Lib.hid hz0; clear hc0 h0 hr0 hl1 hz0 h
  go_enter Tryd.func39, Tryd.ntmps39
  go_wp2_with fail
  have hc0 := HC0.out; have hr0 := HR0.out; have hl0 := HL0.out
  rw [HZ0.out] at hc0 hr0
  clear HC0 HR0 HL0 HZ0
  generalize (w.alloc (.cells #[.int .i64 0, .int .i64 0] 24)).alloc (.cells #[.slice ad len cap, .int .i64 0, .int .u64 0] 63) = V at hc0 hr0 hl0 ⊢
  obtain ⟨N, hN⟩ : ∃ N, N = w.heap.size := ⟨_, rfl⟩
  obtain ⟨B, hB⟩ : ∃ B, B = w.heap.size + 1 := ⟨_, rfl⟩
  rw [← hB] at hc0 hr0 ⊢
  rw [← hN] at hr0 ⊢
  have HN := Lib.hid hN; have HB0 := Lib.hid hB; clear hN hB
  have HC0 := Lib.hid hc0; have HR0 := Lib.hid hr0; have HL0 := Lib.hid hl0; clear hc0 hr0 hl0
  refine (reduced_any B _ _ HC0.out (by omega)).mono ?_; rintro e w1 ⟨v, rfl, ⟨a, b, p, rfl, aI, bI, pI⟩, hg1, hc1⟩
  have HG1 := Lib.hid hg1; have HR1 := Lib.hid (HR0.out.keep hg1); clear hg1 hc1 HC0 HR0
  obtain ⟨r1, r2, r3, r4, r5, r6⟩ := HR1.out
  go_wp2_with fail
  refine bodyPost_ret (by simp (maxDischargeDepth := 3) [results, Tryd.results39, go_sem, *]; try rfl) rfl ?_
  exact ⟨_, _, _, rfl, aI, bI, pI, draw_end HL0.out HG1.out HN.out HB0.out⟩
theorem drawReductionKind_any (ad : Option Addr) (len cap : Nat) (zs : List Int) (w : World) (h : IsRow .u8 w ad len cap zs) (hl : len ≤ 1048576) :
    Calls Tryd.prog 5 #[.slice ad len cap] w (RetCP w) := by
  have hk := isRow_keepD h (below_allocD w (.cells #[.int .i64 0, .int .i64 0] 24))
  have hb0 := (below_allocD w (.cells #[.int .i64 0, .int .i64 0] 24))
  have hx := BoxC.new (B := w.heap.size + 1) (w := w)
  have q0 : w.heap.size < (w.alloc (.cells #[.int .i64 0, .int .i64 0] 24)).heap.size := by simp
  have q1 : (w.alloc (.cells #[.int .i64 0, .int .i64 0] 24)).cell? ⟨w.heap.size, 0, none⟩ = some (.int .i64 0) := by simp [go_sem]
  have q2 : (w.alloc (.cells #[.int .i64 0, .int .i64 0] 24)).cell? ⟨w.heap.size, 1, none⟩ = some (.int .i64 0) := by simp [go_sem]
  have q3 : (w.alloc (.cells #[.int .i64 0, .int .i64 0] 24)).frozen? ⟨w.heap.size, 0, none⟩ = false := by simp [go_sem]
  have q4 : (w.alloc (.cells #[.int .i64 0, .int .i64 0] 24)).frozen? ⟨w.heap.size, 1, none⟩ = false := by simp [go_sem]
  clear hx
  have HK := Lib.hid hk; have Q := Lib.hid (And.intro q0 (And.intro q1 (And.intro q2 (And.intro q3 q4)))); have H0 := Lib.hid hb0
  clear hk h q0 q1 q2 q3 q4 hb0
  go_enter Tryd.func5, Tryd.ntmps5
  go_wp2_with fail
  refine (drawMinimalAt_any _ _ _ _ _ HK.out hl).mono ?_; rintro e w1 ⟨a, b, p, rfl, aI, bI, pI, hb⟩
  obtain ⟨q0, q1, q2, q3, q4⟩ := Q.out
  have r0 := Nat.lt_of_lt_of_le q0 hb.size
  have r1 := (hb.cell (p := ⟨w.heap.size, 0, none⟩) q0).trans q1
  have r2 := (hb.cell (p := ⟨w.heap.size, 1, none⟩) q0).trans q2
  have r3 := (hb.frozen (p := ⟨w.heap.size, 0, none⟩) q0).trans q3
  have r4 := (hb.frozen (p := ⟨w.heap.size, 1, none⟩) q0).trans q4
  have H1 := Lib.hid (bel_trans hb H0.out)
  clear hb q0 q1 q2 q3 q4 Q HK H0
  go_wp2_with fail
  refine bodyPost_ret (by simp (maxDischargeDepth := 3) [results, Tryd.results5, go_sem, *]; try rfl) rfl ?_
  exact ⟨_, _, _, rfl, aI, bI, pI, (H1.out.setCell (Nat.le_refl _) _).setCell (Nat.le_refl _) _⟩
set_option maxHeartbeats 4000000 in
theorem drawBadFromFive_any (ad : Option Addr) (len cap : Nat) (zs : List Int) (w : World) (h : IsRow .u8 w ad len cap zs) (hl : len ≤ 1048576) :
    Calls Tryd.prog 23 #[.slice ad len cap] w (RetC2 w) := by
  have h0 : Below w.heap.size w (w.alloc (.cells #[.int .i64 0, .int .i64 0] 24)) := below_allocD _ _
  have hc0 := cr_start h (by omega) h0 63
  have hz0 : (w.alloc (.cells #[.int .i64 0, .int .i64 0] 24)).heap.size = w.heap.size + 1 := by simp
  have hr0 : BoxC (w.alloc (.cells #[.int .i64 0, .int .i64 0] 24)).heap.size ((w.alloc (.cells #[.int .i64 0, .int .i64 0] 24)).alloc (.cells #[.slice ad len cap, .int .i64 0, .int .u64 0] 63)) w.heap.size 0 0 :=
    ⟨by simp, by simp, by simp [go_sem], by simp [go_sem], by simp [go_sem], by simp [go_sem]⟩
  have hl1 : Below w.heap.size w ((w.alloc (.cells #[.int .i64 0, .int .i64 0] 24)).alloc (.cells #[.slice ad len cap, .int .i64 0, .int .u64 0] 63)) := bel_alloc h0 _
  have HC0 := Lib.hid hc0; have HL0 := Lib.hid hl1; have HR0 := Lib.hid hr0; have HZ0 := Lib.hid hz0; clear hc0 h0 hr0 hl1 hz0 h
  go_enter Tryd.func23, Tryd.ntmps23
  go_wp2_with fail
  have hc0 := HC0.out; have hr0 := HR0.out; have hl0 := HL0.out
  rw [HZ0.out] at hc0 hr0
  clear HC0 HR0 HL0 HZ0
  generalize (w.alloc (.cells #[.int .i64 0, .int .i64 0] 24)).alloc (.cells #[.slice ad len cap, .int .i64 0, .int .u64 0] 63) = V at hc0 hr0 hl0 ⊢
  obtain ⟨N, hN⟩ : ∃ N, N = w.heap.size := ⟨_, rfl⟩
  obtain ⟨B, hB⟩ : ∃ B, B = w.heap.size + 1 := ⟨_, rfl⟩
  rw [← hB] at hc0 hr0 ⊢
  rw [← hN] at hr0 ⊢
  have HN := Lib.hid hN; have HB0 := Lib.hid hB; clear hN hB
  have HC0 := Lib.hid hc0; have HR0 := Lib.hid hr0; have HL0 := Lib.hid hl0; clear hc0 hr0 hl0
  refine (reduced_any B _ _ HC0.out (by omega)).mono ?_; rintro e w1 ⟨v, rfl, ⟨a, b, p, rfl, aI, bI, pI⟩, hg1, hc1⟩
  have HG1 := Lib.hid hg1; have HR1 := Lib.hid (HR0.out.keep hg1); clear hg1 hc1 HC0 HR0
  obtain ⟨r1, r2, r3, r4, r5, r6⟩ := HR1.out
  have rn : ¬ N = w1.heap.size := by omega
  have rn' : ¬ w1.heap.size = N := by omega
  go_wp2_with fail
  refine bodyPost_ret (by simp (maxDischargeDepth := 3) [results, Tryd.results23, go_sem, *]; try rfl) rfl ?_
  exact ⟨_, _, rfl, aI, bI, bel_alloc (draw_end HL0.out HG1.out HN.out HB0.out) _⟩
end Go.Proofs.YtpigaahgmbladaaDoor
