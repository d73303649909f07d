/- De: contracts: draws of the laws on reduction. No conditions. -/
import Derived.Test.YtpjcfnjagknocaaDoorDd
import Derived.Test.YtpjcfnjagknocaaDoorDz
namespace Go.Proofs.YtpjcfnjagknocaaDoor
open Go.RowKit

theorem isRow_keepD {k : IntKind} {w w' : World} {a : Option Addr} {len cap : Nat} {zs : List Int} (h : IsRow k w a len cap zs) (hb : Below w.heap.size w w') : IsRow k w' a len cap zs := by
  rcases h with h | ⟨x, rfl, h1, h2, h3, h4, h5⟩
  · exact .inl h
  · refine .inr ⟨x, rfl, h1, h2, h3, fun i hi => ?_, h5⟩
    have hc := h4 i hi
    have hlt := World.block_lt_of_cell? w _ hc
    exact (hb.cell hlt).trans hc
def RetCP (w : World) (e : Ending) (w' : World) : Prop := ∃ a b p : Int, e = .returned (.tuple #[.agg #[.int .i64 a, .int .i64 b], .int .i64 p]) ∧ I64 a ∧ I64 b ∧ I64 p ∧ Below w.heap.size w w'
def RetC2 (w : World) (e : Ending) (w' : World) : Prop := ∃ a b : Int, e = .returned (.agg #[.int .i64 a, .int .i64 b]) ∧ I64 a ∧ I64 b ∧ Below w.heap.size w w'
set_option maxHeartbeats 4000000 in
theorem drawBadFromFive_any (ad : Option Addr) (len cap : Nat) (zs : List Int) (w : World) (h : IsRow .u8 w ad len cap zs) (hl : len ≤ 1048576) :
    Calls Tryd.prog 4 #[.slice ad len cap] w (RetC2 w) := by
  have h0 : Below w.heap.size w (w.alloc (.cells #[.int .i64 0, .int .i64 0] 24)) := below_allocD _ _
  have hc0 := cr_start h (by omega) h0 46
  have hz0 : (w.alloc (.cells #[.int .i64 0, .int .i64 0] 24)).heap.size = w.heap.size + 1 := by simp
  have hr0 : BoxC (w.alloc (.cells #[.int .i64 0, .int .i64 0] 24)).heap.size ((w.alloc (.cells #[.int .i64 0, .int .i64 0] 24)).alloc (.cells #[.slice ad len cap, .int .i64 0, .int .u64 0] 46)) w.heap.size 0 0 :=
    ⟨by simp, by simp, by simp [go_sem], by simp [go_sem], by simp [go_sem], by simp [go_sem]⟩
  have hl1 : Below w.heap.size w ((w.alloc (.cells #[.int .i64 0, .int .i64 0] 24)).alloc (.cells #[.slice ad len cap, .int .i64 0, .int .u64 0] 46)) := bel_alloc h0 _
  have HC0 := Lib.hid hc0; have HL0 := Lib.hid hl1; have HR0 := Lib.hid hr0; have HZ0 := Lib.hid hz0; clear hc0 h0 hr0 hl1 hz0 h
  go_enter Tryd.func4, Tryd.ntmps4
  go_wp2_with fail
  have hc0 := HC0.out; have hr0 := HR0.out; have hl0 := HL0.out
  rw [HZ0.out] at hc0 hr0
  clear HC0 HR0 HL0 HZ0
  generalize (w.alloc (.cells #[.int .i64 0, .int .i64 0] 24)).alloc (.cells #[.slice ad len cap, .int .i64 0, .int .u64 0] 46) = V at hc0 hr0 hl0 ⊢
  obtain ⟨N, hN⟩ : ∃ N, N = w.heap.size := ⟨_, rfl⟩
  obtain ⟨B, hB⟩ : ∃ B, B = w.heap.size + 1 := ⟨_, rfl⟩
  rw [← hB] at hc0 hr0 ⊢
  rw [← hN] at hr0 ⊢
  have HN := Lib.hid hN; have HB0 := Lib.hid hB; clear hN hB
  have HC0 := Lib.hid hc0; have HR0 := Lib.hid hr0; have HL0 := Lib.hid hl0; clear hc0 hr0 hl0
  refine (reduced_any B _ _ HC0.out (by omega)).mono ?_; rintro e w1 ⟨v, rfl, ⟨a, b, p, rfl, aI, bI, pI⟩, hg1, hc1⟩
  have HG1 := Lib.hid hg1; have HR1 := Lib.hid (HR0.out.keep hg1); clear hg1 hc1 HC0 HR0
  obtain ⟨r1, r2, r3, r4, r5, r6⟩ := HR1.out
  have rn : ¬ N = w1.heap.size := by omega
  have rn' : ¬ w1.heap.size = N := by omega
  go_wp2_with fail
  refine bodyPost_ret (by simp (maxDischargeDepth := 3) [results, Tryd.results4, go_sem, *]; try rfl) rfl ?_
  exact ⟨_, _, rfl, aI, bI, bel_alloc (draw_end HL0.out HG1.out HN.out HB0.out) _⟩
end Go.Proofs.YtpjcfnjagknocaaDoor
