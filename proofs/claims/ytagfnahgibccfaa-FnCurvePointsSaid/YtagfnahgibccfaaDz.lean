/- Dz: contracts: DrawOrderTwoAt, DrawIsIntegerPoint: whatever the bytes are, a curve and numbers come out. No conditions. -/
import Derived.Test.YtagfnahgibccfaaDc
namespace Go.Proofs.Ytagfnahgibccfaa
open Go.RowKit

theorem u8_bd {n : Int} (h : (Lit.int .u8 n).wf = true) : 0 ≤ n ∧ n ≤ 255 := by
  simp [Lit.wf, IntKind.min, IntKind.max, IntKind.signed, IntKind.bits] at h
  omega
/-- the reader's box at the start. -/
theorem cr_start {w V : World} {ad : Option Addr} {len cap : Nat} {zs : List Int} (h : IsRow .u8 w ad len cap zs) (hl : len ≤ 2097152) (hb : Below w.heap.size w V) (t : TypeId) :
    Cr (V.alloc (.cells #[.slice ad len cap, .int .i64 0, .int .u64 0] t)) V.heap.size 0 := by
  refine ⟨by simp, by simp [go_sem], by simp [go_sem], ad, len, cap, 0, 0, by simp [go_sem], by simp [go_sem], by simp [go_sem], by omega, by omega, by omega, by omega, hl, fun hp => ?_⟩
  rcases h with ⟨rfl, rfl, rfl, rfl⟩ | ⟨x, rfl, hlc, hm, hz, hcell, hwz⟩
  · omega
  · obtain ⟨b, off, spot⟩ := x
    have h0 := hcell 0 (by omega)
    have hspot : spot = none := by simpa [Addr.add] using World.cell?_spot h0
    subst hspot
    have hbl : b < w.heap.size := by
      have := World.block_lt_of_cell? w _ h0
      simpa [Addr.add] using this
    have hbV := Nat.lt_of_lt_of_le hbl hb.size
    refine ⟨b, off, rfl, hbV, fun i hi => ?_⟩
    have hi' := hcell i (by omega)
    have he : ((⟨b, off, none⟩ : Addr).add i) = ⟨b, off + i, none⟩ := by unfold Addr.add; split <;> simp_all
    rw [he] at hi'
    have hmem : zs.getD i 0 ∈ zs := by rw [List.getD_eq_getElem?_getD, List.getElem?_eq_getElem (by omega)]; exact List.getElem_mem (by omega)
    obtain ⟨q0, q1⟩ := u8_bd (hwz _ hmem)
    exact ⟨_, q0, q1, ((below_allocD V _).cell (p := ⟨b, off + i, none⟩) hbV).trans ((hb.cell (p := ⟨b, off + i, none⟩) hbl).trans hi')⟩
theorem grown_belowN {a V V' : World} {B n : Nat} (h : Below n a V) (g : V.grownBy V' (some B)) (hB : n ≤ B) (hn : n ≤ a.heap.size) : Below n a V' :=
  ⟨g.os.trans h.os, g.tape.trans h.tape, g.output.trans h.output, Nat.le_trans h.size g.size, fun i hi => (g.block i (Nat.lt_of_lt_of_le (Nat.lt_of_lt_of_le hi hn) h.size) (by intro e; cases e; omega)).trans (h.block i hi)⟩
def RetCur (w : World) (e : Ending) (w' : World) : Prop := ∃ a b : Int, e = .returned (.agg #[.int .i64 a, .int .i64 b]) ∧ Below w.heap.size w w'
def RetIP (w : World) (e : Ending) (w' : World) : Prop := ∃ a b x y : Int, e = .returned (.tuple #[.agg #[.int .i64 a, .int .i64 b], .int .i64 x, .int .i64 y]) ∧ Below w.heap.size w w'
theorem draw_end {w V x : World} {N B : Nat} {n m : Value} (hl : Below w.heap.size w V) (hg : V.grownBy x (some B)) (hN : N = w.heap.size) (hB : B = w.heap.size + 1) : Below w.heap.size w ((x.setCell ⟨N, 0, none⟩ n).setCell ⟨N, 1, none⟩ m) :=
  ((grown_belowN hl hg (by omega) (Nat.le_refl _)).setCell (by dsimp only; omega) _).setCell (by dsimp only; omega) _
set_option maxHeartbeats 4000000 in
theorem drawOrderTwoAt_any (ad : Option Addr) (len cap : Nat) (zs : List Int) (w : World) (h : IsRow .u8 w ad len cap zs) (hl : len ≤ 1048576) :
    Calls Try.prog 5 #[.slice ad len cap] w (RetCur w) := by
  have h0 : Below w.heap.size w (w.alloc (.cells #[.int .i64 0, .int .i64 0] 25)) := below_allocD _ _
  have hc0 := cr_start h (by omega) h0 44
  have hz0 : (w.alloc (.cells #[.int .i64 0, .int .i64 0] 25)).heap.size = w.heap.size + 1 := by simp
  have hr0 : BoxC (w.alloc (.cells #[.int .i64 0, .int .i64 0] 25)).heap.size ((w.alloc (.cells #[.int .i64 0, .int .i64 0] 25)).alloc (.cells #[.slice ad len cap, .int .i64 0, .int .u64 0] 44)) w.heap.size 0 0 :=
    ⟨by simp, by simp, by simp [go_sem], by simp [go_sem], by simp [go_sem], by simp [go_sem]⟩
  have hl1 : Below w.heap.size w ((w.alloc (.cells #[.int .i64 0, .int .i64 0] 25)).alloc (.cells #[.slice ad len cap, .int .i64 0, .int .u64 0] 44)) := bel_alloc h0 _
  have HC0 := Lib.hid hc0; have HL0 := Lib.hid hl1; have HR0 := Lib.hid hr0; have HZ0 := Lib.hid hz0; clear hc0 h0 hr0 hl1 hz0 h
  go_enter Try.func5, Try.ntmps5
  go_wp2_with fail
  have hc0 := HC0.out; have hr0 := HR0.out; have hl0 := HL0.out
  rw [HZ0.out] at hc0 hr0
  clear HC0 HR0 HL0 HZ0
  generalize (w.alloc (.cells #[.int .i64 0, .int .i64 0] 25)).alloc (.cells #[.slice ad len cap, .int .i64 0, .int .u64 0] 44) = V at hc0 hr0 hl0 ⊢
  obtain ⟨N, hN⟩ : ∃ N, N = w.heap.size := ⟨_, rfl⟩
  obtain ⟨B, hB⟩ : ∃ B, B = w.heap.size + 1 := ⟨_, rfl⟩
  rw [← hB] at hc0 hr0 ⊢
  rw [← hN] at hr0 ⊢
  have HN := Lib.hid hN; have HB0 := Lib.hid hB; clear hN hB
  have HC0 := Lib.hid hc0; have HR0 := Lib.hid hr0; have HL0 := Lib.hid hl0; clear hc0 hr0 hl0
  refine (one_any B _ 2 _ HC0.out (by omega) (by omega) (by omega)).mono ?_; rintro e w1 ⟨v, rfl, ⟨bo, rfl⟩, hg1, hc1⟩
  have HC1 := Lib.hid hc1; have HG1 := Lib.hid hg1; have HR1 := Lib.hid (HR0.out.keep hg1); clear hg1 hc1 HC0 HR0
  rcases bo with _ | _
  · go_wp2_with fail
    refine (one_any B _ 4 _ HC1.out (by omega) (by omega) (by omega)).mono ?_; rintro e w2 ⟨v, rfl, ⟨bo, rfl⟩, hg2, hc2⟩
    have HC2 := Lib.hid hc2; have HG2 := Lib.hid (grown_trans HG1.out hg2); have HR2 := Lib.hid (HR1.out.keep hg2); clear hg2 hc2 HC1 HR1 HG1
    rcases bo with _ | _
    · go_wp2_with fail
      refine (anyCurve_any B _ _ HC2.out (by omega)).mono ?_; rintro e w3 ⟨v, rfl, ⟨a, b, rfl, _, _⟩, hg3, hc3⟩
      have HC3 := Lib.hid hc3; have HG3 := Lib.hid (grown_trans HG2.out hg3); have HR3 := Lib.hid (HR2.out.keep hg3); clear hg3 hc3 HC2 HR2 HG2
      obtain ⟨r1, r2, r3, r4, r5, r6⟩ := HR3.out
      go_wp2_with fail
      refine bodyPost_ret (by simp (maxDischargeDepth := 3) [results, Try.results5, go_sem, *]; try rfl) rfl ?_
      exact ⟨_, _, rfl, draw_end HL0.out HG3.out HN.out HB0.out⟩
    · go_wp2_with fail
      refine (amongLit_any B _ _ [20, -20, 15] _ HC2.out (by omega) (by intro u hu; simp only [List.mem_cons, List.not_mem_nil, or_false] at hu; unfold I64; omega) (by simp) (by simp)).mono ?_; rintro e w3 ⟨v, rfl, ⟨x, rfl, xI⟩, hg3, hc3⟩
      have HC3 := Lib.hid hc3; have HG3 := Lib.hid (grown_trans HG2.out hg3); have HR3 := Lib.hid (HR2.out.keep hg3); clear hg3 hc3 HC2 HR2 HG2
      go_wp2_with fail
      refine (pick_any B _ 401 _ HC3.out (by omega) (by omega) (by omega)).mono ?_; rintro e w4 ⟨v, rfl, ⟨y, rfl, y0, y1⟩, hg4, hc4⟩
      have HC4 := Lib.hid hc4; have HG4 := Lib.hid (grown_trans HG3.out hg4); have HR4 := Lib.hid (HR3.out.keep hg4); clear hg4 hc4 HC3 HR3 HG3
      obtain ⟨r1, r2, r3, r4, r5, r6⟩ := HR4.out
      go_wp2_with fail
      refine bodyPost_ret (by simp (maxDischargeDepth := 3) [results, Try.results5, go_sem, *]; try rfl) rfl ?_
      exact ⟨_, _, rfl, draw_end HL0.out HG4.out HN.out HB0.out⟩
  · go_wp2_with fail
    refine (pick_any B _ 31 _ HC1.out (by omega) (by omega) (by omega)).mono ?_; rintro e w2 ⟨v, rfl, ⟨x, rfl, x0, x1⟩, hg2, hc2⟩
    have HC2 := Lib.hid hc2; have HG2 := Lib.hid (grown_trans HG1.out hg2); have HR2 := Lib.hid (HR1.out.keep hg2); clear hg2 hc2 HC1 HR1 HG1
    go_wp2_with fail
    refine (pick_any B _ 21 _ HC2.out (by omega) (by omega) (by omega)).mono ?_; rintro e w3 ⟨v, rfl, ⟨y, rfl, y0, y1⟩, hg3, hc3⟩
    have HC3 := Lib.hid hc3; have HG3 := Lib.hid (grown_trans HG2.out hg3); have HR3 := Lib.hid (HR2.out.keep hg3); clear hg3 hc3 HC2 HR2 HG2
    obtain ⟨r1, r2, r3, r4, r5, r6⟩ := HR3.out
    go_wp2_with fail
    refine bodyPost_ret (by simp (maxDischargeDepth := 3) [results, Try.results5, go_sem, *]; try rfl) rfl ?_
    exact ⟨_, _, rfl, draw_end HL0.out HG3.out HN.out HB0.out⟩
set_option maxHeartbeats 4000000 in
theorem drawIsIntegerPoint_any (ad : Option Addr) (len cap : Nat) (zs : List Int) (w : World) (h : IsRow .u8 w ad len cap zs) (hl : len ≤ 1048576) :
    Calls Try.prog 20 #[.slice ad len cap] w (RetIP w) := by
  have h0 : Below w.heap.size w (w.alloc (.cells #[.int .i64 0, .int .i64 0] 25)) := below_allocD _ _
  have hc0 := cr_start h (by omega) h0 44
  have hz0 : (w.alloc (.cells #[.int .i64 0, .int .i64 0] 25)).heap.size = w.heap.size + 1 := by simp
  have hr0 : BoxC (w.alloc (.cells #[.int .i64 0, .int .i64 0] 25)).heap.size ((w.alloc (.cells #[.int .i64 0, .int .i64 0] 25)).alloc (.cells #[.slice ad len cap, .int .i64 0, .int .u64 0] 44)) w.heap.size 0 0 :=
    ⟨by simp, by simp, by simp [go_sem], by simp [go_sem], by simp [go_sem], by simp [go_sem]⟩
  have hl1 : Below w.heap.size w ((w.alloc (.cells #[.int .i64 0, .int .i64 0] 25)).alloc (.cells #[.slice ad len cap, .int .i64 0, .int .u64 0] 44)) := bel_alloc h0 _
  have HC0 := Lib.hid hc0; have HL0 := Lib.hid hl1; have HR0 := Lib.hid hr0; have HZ0 := Lib.hid hz0; clear hc0 h0 hr0 hl1 hz0 h
  go_enter Try.func20, Try.ntmps20
  go_wp2_with fail
  have hc0 := HC0.out; have hr0 := HR0.out; have hl0 := HL0.out
  rw [HZ0.out] at hc0 hr0
  clear HC0 HR0 HL0 HZ0
  generalize (w.alloc (.cells #[.int .i64 0, .int .i64 0] 25)).alloc (.cells #[.slice ad len cap, .int .i64 0, .int .u64 0] 44) = V at hc0 hr0 hl0 ⊢
  obtain ⟨N, hN⟩ : ∃ N, N = w.heap.size := ⟨_, rfl⟩
  obtain ⟨B, hB⟩ : ∃ B, B = w.heap.size + 1 := ⟨_, rfl⟩
  rw [← hB] at hc0 hr0 ⊢
  rw [← hN] at hr0 ⊢
  have HN := Lib.hid hN; have HB0 := Lib.hid hB; clear hN hB
  have HC0 := Lib.hid hc0; have HR0 := Lib.hid hr0; have HL0 := Lib.hid hl0; clear hc0 hr0 hl0
  refine (one_any B _ 2 _ HC0.out (by omega) (by omega) (by omega)).mono ?_; rintro e w1 ⟨v, rfl, ⟨bo, rfl⟩, hg1, hc1⟩
  have HC1 := Lib.hid hc1; have HG1 := Lib.hid hg1; have HR1 := Lib.hid (HR0.out.keep hg1); clear hg1 hc1 HC0 HR0
  rcases bo with _ | _
  · go_wp2_with fail
    refine (anyCurve_any B _ _ HC1.out (by omega)).mono ?_; rintro e w2 ⟨v, rfl, ⟨a, b, rfl, _, _⟩, hg2, hc2⟩
    have HC2 := Lib.hid hc2; have HG2 := Lib.hid (grown_trans HG1.out hg2); have HR2 := Lib.hid (HR1.out.keep hg2); clear hg2 hc2 HC1 HR1 HG1
    go_wp2_with fail
    refine (amongLit_any B _ _ [1000001, -1000001] _ HC2.out (by omega) (by intro u hu; simp only [List.mem_cons, List.not_mem_nil, or_false] at hu; unfold I64; omega) (by simp) (by simp)).mono ?_; rintro e w3 ⟨v, rfl, ⟨x, rfl, xI⟩, hg3, hc3⟩
    have HC3 := Lib.hid hc3; have HG3 := Lib.hid (grown_trans HG2.out hg3); have HR3 := Lib.hid (HR2.out.keep hg3); clear hg3 hc3 HC2 HR2 HG2
    go_wp2_with fail
    refine (amongLit_any B _ _ [0, 1, -1, 100, 1000000, x] _ HC3.out (by omega) (by intro u hu; simp only [List.mem_cons, List.not_mem_nil, or_false] at hu; have := xI; unfold I64 at this; unfold I64; omega) (by simp) (by simp)).mono ?_; rintro e w4 ⟨v, rfl, ⟨y, rfl, yI⟩, hg4, hc4⟩
    have HC4 := Lib.hid hc4; have HG4 := Lib.hid (grown_trans HG3.out hg4); have HR4 := Lib.hid (HR3.out.keep hg4); clear hg4 hc4 HC3 HR3 HG3
    go_wp2_with fail
    refine (amongLit_any B _ _ [1000001, -1000001] _ HC4.out (by omega) (by intro u hu; simp only [List.mem_cons, List.not_mem_nil, or_false] at hu; unfold I64; omega) (by simp) (by simp)).mono ?_; rintro e w5 ⟨v, rfl, ⟨z, rfl, zI⟩, hg5, hc5⟩
    have HC5 := Lib.hid hc5; have HG5 := Lib.hid (grown_trans HG4.out hg5); have HR5 := Lib.hid (HR4.out.keep hg5); clear hg5 hc5 HC4 HR4 HG4
    go_wp2_with fail
    refine (amongLit_any B _ _ [0, 1, 4, -4, 1000000, z] _ HC5.out (by omega) (by intro u hu; simp only [List.mem_cons, List.not_mem_nil, or_false] at hu; have := zI; unfold I64 at this; unfold I64; omega) (by simp) (by simp)).mono ?_; rintro e w6 ⟨v, rfl, ⟨t, rfl, tI⟩, hg6, hc6⟩
    have HC6 := Lib.hid hc6; have HG6 := Lib.hid (grown_trans HG5.out hg6); have HR6 := Lib.hid (HR5.out.keep hg6); clear hg6 hc6 HC5 HR5 HG5
    obtain ⟨r1, r2, r3, r4, r5, r6⟩ := HR6.out
    go_wp2_with fail
    refine bodyPost_ret (by simp (maxDischargeDepth := 3) [results, Try.results20, go_sem, *]; try rfl) rfl ?_
    exact ⟨_, _, _, _, rfl, draw_end HL0.out HG6.out HN.out HB0.out⟩
  · go_wp2_with fail
    refine (pick_any B _ 41 _ HC1.out (by omega) (by omega) (by omega)).mono ?_; rintro e w2 ⟨v, rfl, ⟨x, rfl, x0, x1⟩, hg2, hc2⟩
    have HC2 := Lib.hid hc2; have HG2 := Lib.hid (grown_trans HG1.out hg2); have HR2 := Lib.hid (HR1.out.keep hg2); clear hg2 hc2 HC1 HR1 HG1
    go_wp2_with fail
    refine (pick_any B _ 61 _ HC2.out (by omega) (by omega) (by omega)).mono ?_; rintro e w3 ⟨v, rfl, ⟨y, rfl, y0, y1⟩, hg3, hc3⟩
    have HC3 := Lib.hid hc3; have HG3 := Lib.hid (grown_trans HG2.out hg3); have HR3 := Lib.hid (HR2.out.keep hg3); clear hg3 hc3 HC2 HR2 HG2
    go_wp2_with fail
    refine (pick_any B _ 41 _ HC3.out (by omega) (by omega) (by omega)).mono ?_; rintro e w4 ⟨v, rfl, ⟨z, rfl, z0, z1⟩, hg4, hc4⟩
    have HC4 := Lib.hid hc4; have HG4 := Lib.hid (grown_trans HG3.out hg4); have HR4 := Lib.hid (HR3.out.keep hg4); clear hg4 hc4 HC3 HR3 HG3
    go_wp2_with fail
    refine (pick_any B _ 4 _ HC4.out (by omega) (by omega) (by omega)).mono ?_; rintro e w5 ⟨v, rfl, ⟨t, rfl, t0, t1⟩, hg5, hc5⟩
    have HC5 := Lib.hid hc5; have HG5 := Lib.hid (grown_trans HG4.out hg5); have HR5 := Lib.hid (HR4.out.keep hg5); clear hg5 hc5 HC4 HR4 HG4
    obtain ⟨r1, r2, r3, r4, r5, r6⟩ := HR5.out
    go_wp2_with fail
    refine bodyPost_ret (by simp (maxDischargeDepth := 3) [results, Try.results20, go_sem, *]; try rfl) rfl ?_
    exact ⟨_, _, _, _, rfl, draw_end HL0.out HG5.out HN.out HB0.out⟩
end Go.Proofs.Ytagfnahgibccfaa
