/- FnGroupLaw: for every input the law returns true and leaves its arguments as they were. No conditions. -/
import Derived.Test.YtnhlcgbknkdbiaaDPkd
import Derived.Test.YtnhlcgbknkdbiaaDap
import Derived.Deep.Cut
import Derived.Deep.CutRange
import Derived.ShutString
import Derived.ChangeOld
import Derived.Carry
import Derived.SizedLaws
/- The walk of FnGroupLaw. No conditions. -/




namespace Go.Proofs.Ytnhlcgbknkdbiaa
open Go.RowKit
/-- a box of two numbers. -/
def Bc (n : Nat) (a b : Int) (w : World) : Prop := n < w.heap.size ∧ w.cell? ⟨n, 0, none⟩ = some (.int .i64 a) ∧ w.cell? ⟨n, 1, none⟩ = some (.int .i64 b)
theorem Bc.new (a b : Int) (w : World) (t : TypeId) : Bc w.heap.size a b (w.alloc (.cells #[.int .i64 a, .int .i64 b] t)) := ⟨by simp, by simp [go_sem], by simp [go_sem]⟩
theorem Bc.keep {n : Nat} {a b : Int} {w w' : World} (h : Bc n a b w) (hb : Below w.heap.size w w') : Bc n a b w' :=
  ⟨Nat.lt_of_lt_of_le h.1 hb.size, (hb.cell (p := ⟨n, 0, none⟩) h.1).trans h.2.1, (hb.cell (p := ⟨n, 1, none⟩) h.1).trans h.2.2⟩
/-- a box of three numbers. -/
def Bp (n : Nat) (a b c : Int) (w : World) : Prop := n < w.heap.size ∧ w.cell? ⟨n, 0, none⟩ = some (.int .i64 a) ∧ w.cell? ⟨n, 1, none⟩ = some (.int .i64 b) ∧ w.cell? ⟨n, 2, none⟩ = some (.int .i64 c)
theorem Bp.new (a b c : Int) (w : World) (t : TypeId) : Bp w.heap.size a b c (w.alloc (.cells #[.int .i64 a, .int .i64 b, .int .i64 c] t)) := ⟨by simp, by simp [go_sem], by simp [go_sem], by simp [go_sem]⟩
theorem Bp.keep {n : Nat} {a b c : Int} {w w' : World} (h : Bp n a b c w) (hb : Below w.heap.size w w') : Bp n a b c w' :=
  ⟨Nat.lt_of_lt_of_le h.1 hb.size, (hb.cell (p := ⟨n, 0, none⟩) h.1).trans h.2.1, (hb.cell (p := ⟨n, 1, none⟩) h.1).trans h.2.2.1, (hb.cell (p := ⟨n, 2, none⟩) h.1).trans h.2.2.2⟩
theorem len_wrap {len len' : Nat} (h1 : len ≤ 140737488355328) (h2 : len' ≤ 140737488355328) : IntKind.i64.wrap ((len : Int) + (len' : Int)) = (len : Int) + (len' : Int) := wrapkb (by omega) (by omega)
theorem len_wrap' {len len' : Nat} (h1 : len ≤ 140737488355328) (h2 : len' ≤ 140737488355328) : wrap64 ((len : Int) + (len' : Int)) = (len : Int) + (len' : Int) := by
  unfold wrap64
  omega
end Go.Proofs.Ytnhlcgbknkdbiaa
namespace Go.Proofs.Ytnhlcgbknkdbiaa.fnGroupLaw
open Go.RowKit
set_option maxHeartbeats 16000000 in
set_option maxRecDepth 100000 in
theorem walk (ad0 : Option Addr) (len0 cap0 : Nat) (z0 : List Int) (ad1 : Option Addr) (len1 cap1 : Nat) (z1 : List Int) (w : World) (h0 : IsRow .u8 w ad0 len0 cap0 z0) (h1 : IsRow .u8 w ad1 len1 cap1 z1) (hz0 : len0 ≤ 140737488355328) (hz1 : len1 ≤ 140737488355328) :
    Calls Try.prog 4 #[.slice ad0 len0 cap0, .slice ad1 len1 cap1] w (Ret (.bool true) w) := by
  have hw1 : IntKind.i64.wrap ((len0 : Int) + (len1 : Int)) = (len0 : Int) + (len1 : Int) := len_wrap hz0 hz1
  have hw2 : wrap64 ((len0 : Int) + (len1 : Int)) = (len0 : Int) + (len1 : Int) := len_wrap' hz0 hz1
  have HRow := Lib.hid h0; have HM1 := Lib.hid h1; clear h0 h1 hz0 hz1
  by_cases hbig : (1048576 : Int) < (len0 : Int) + (len1 : Int)
  · clear HM1 HRow
    go_enter Try.func4, Try.ntmps4
    go_wp2_with fail
    go_ret
    exact ret_eq (by rfl) (by repeat (first | exact Below.refl _ _ | (with_reducible assumption) | refine bel_alloc ?_ _ | refine bel_drew ?_ | refine bel_drewN ?_ _ | refine Below.setCell ?_ (by dsimp only; omega) _ | refine bel_trans (by assumption) ?_))
  have hl0 : len0 ≤ 1048576 := by omega
  have hl1 : len1 ≤ 1048576 := by omega
  have HL1 := Lib.hid hl1
  have hbig' : ¬ (1048576 : Int) < (len0 : Int) + (len1 : Int) := hbig
  go_enter Try.func4, Try.ntmps4
  go_wp2_with fail
  refine (drawAddPoints_any _ _ _ _ _ HRow.out hl0).mono ?_
  rintro e w2 ⟨a, b, x, y, ee, x2, y2, ee2, rfl, hb⟩
  have HB2 := Lib.hid hb
  have HM2 := Lib.hid (isRow_keepDb HM1.out hb)
  clear hb HM1 HRow hbig hbig' hl0 hl1 hw1 hw2
  go_wp2_with fail
  have hb : Below w2.heap.size w2 (((w2.alloc (.cells #[.int .i64 a, .int .i64 b] 39)).alloc (.cells #[.int .i64 x, .int .i64 y, .int .i64 ee] 41)).alloc (.cells #[.int .i64 x2, .int .i64 y2, .int .i64 ee2] 41)) := bel_alloc (bel_alloc (below_allocD _ _) _) _
  have hx0 := (((Bc.new (a) (b) w2 39).keep (below_allocD _ (.cells #[.int .i64 x, .int .i64 y, .int .i64 ee] 41))).keep (below_allocD _ (.cells #[.int .i64 x2, .int .i64 y2, .int .i64 ee2] 41)))
  have hx1 : Bp (w2.heap.size + 1) (x) (y) (ee) (((w2.alloc (.cells #[.int .i64 a, .int .i64 b] 39)).alloc (.cells #[.int .i64 x, .int .i64 y, .int .i64 ee] 41)).alloc (.cells #[.int .i64 x2, .int .i64 y2, .int .i64 ee2] 41)) := by
    have := Bp.new (x) (y) (ee) (w2.alloc (.cells #[.int .i64 a, .int .i64 b] 39)) 41
    rw [show (w2.alloc (.cells #[.int .i64 a, .int .i64 b] 39)).heap.size = w2.heap.size + 1 by simp] at this
    exact (this.keep (below_allocD _ (.cells #[.int .i64 x2, .int .i64 y2, .int .i64 ee2] 41)))
  have hx2 : Bp (w2.heap.size + 1 + 1) (x2) (y2) (ee2) (((w2.alloc (.cells #[.int .i64 a, .int .i64 b] 39)).alloc (.cells #[.int .i64 x, .int .i64 y, .int .i64 ee] 41)).alloc (.cells #[.int .i64 x2, .int .i64 y2, .int .i64 ee2] 41)) := by
    have := Bp.new (x2) (y2) (ee2) ((w2.alloc (.cells #[.int .i64 a, .int .i64 b] 39)).alloc (.cells #[.int .i64 x, .int .i64 y, .int .i64 ee] 41)) 41
    rw [show ((w2.alloc (.cells #[.int .i64 a, .int .i64 b] 39)).alloc (.cells #[.int .i64 x, .int .i64 y, .int .i64 ee] 41)).heap.size = w2.heap.size + 1 + 1 by simp] at this
    exact this
  generalize ((w2.alloc (.cells #[.int .i64 a, .int .i64 b] 39)).alloc (.cells #[.int .i64 x, .int .i64 y, .int .i64 ee] 41)).alloc (.cells #[.int .i64 x2, .int .i64 y2, .int .i64 ee2] 41) = w3 at hb hx0 hx1 hx2 ⊢
  generalize hn : w2.heap.size = nc at hx0 hx1 hx2 ⊢
  have BXc_3 := Lib.hid hx0; clear hx0
  have BXp_3 := Lib.hid hx1; clear hx1
  have BXq_3 := Lib.hid hx2; clear hx2
  clear hn
  have HB3 := Lib.hid (bel_trans hb HB2.out); clear HB2
  have HM3 := Lib.hid (isRow_keepDb HM2.out hb); clear HM2
  clear hb
  obtain ⟨s1, s2, s3, ok, rf⟩ := gafacts a b x y ee x2 y2 ee2
  have K0 := Lib.hid rf.c0; have K1 := Lib.hid rf.c1; have HY := Lib.hid rf.yes
  clear rf
  refine (K0.out _).mono ?_
  rintro e w4 ⟨rfl, hb⟩
  have HB4 := Lib.hid (bel_trans hb HB3.out); clear HB3
  have HM4 := Lib.hid (isRow_keepDb HM3.out hb); clear HM3
  have BXc_4 := Lib.hid (BXc_3.out.keep hb); clear BXc_3
  have BXp_4 := Lib.hid (BXp_3.out.keep hb); clear BXp_3
  have BXq_4 := Lib.hid (BXq_3.out.keep hb); clear BXq_3
  clear hb
  obtain ⟨cc0, cc1, cc2⟩ := BXc_4.out
  obtain ⟨cp0, cp1, cp2, cp3⟩ := BXp_4.out
  obtain ⟨cq0, cq1, cq2, cq3⟩ := BXq_4.out
  go_wp2_with fail
  clear cc0 cc1 cc2
  clear cp0 cp1 cp2 cp3
  clear cq0 cq1 cq2 cq3
  have hb : Below w4.heap.size w4 (w4.alloc (.cells #[.int .i64 s1, .int .i64 s2, .int .i64 s3] 41)) := below_allocD _ _
  have hx0 := (Bp.new (s1) (s2) (s3) w4 41)
  generalize w4.alloc (.cells #[.int .i64 s1, .int .i64 s2, .int .i64 s3] 41) = w5 at hb hx0 ⊢
  generalize hn : w4.heap.size = ns at hx0 ⊢
  have BXs_5 := Lib.hid hx0; clear hx0
  clear hn
  have HB5 := Lib.hid (bel_trans hb HB4.out); clear HB4
  have HM5 := Lib.hid (isRow_keepDb HM4.out hb); clear HM4
  have BXc_5 := Lib.hid (BXc_4.out.keep hb); clear BXc_4
  have BXp_5 := Lib.hid (BXp_4.out.keep hb); clear BXp_4
  have BXq_5 := Lib.hid (BXq_4.out.keep hb); clear BXq_4
  clear hb
  refine (K1.out _).mono ?_
  rintro e w6 ⟨rfl, hb⟩
  have HB6 := Lib.hid (bel_trans hb HB5.out); clear HB5
  have HM6 := Lib.hid (isRow_keepDb HM5.out hb); clear HM5
  have BXc_6 := Lib.hid (BXc_5.out.keep hb); clear BXc_5
  have BXp_6 := Lib.hid (BXp_5.out.keep hb); clear BXp_5
  have BXq_6 := Lib.hid (BXq_5.out.keep hb); clear BXq_5
  have BXs_6 := Lib.hid (BXs_5.out.keep hb); clear BXs_5
  clear hb
  obtain ⟨cc0, cc1, cc2⟩ := BXc_6.out
  obtain ⟨cp0, cp1, cp2, cp3⟩ := BXp_6.out
  obtain ⟨cq0, cq1, cq2, cq3⟩ := BXq_6.out
  obtain ⟨cs0, cs1, cs2, cs3⟩ := BXs_6.out
  go_wp2_with fail
  clear cc0 cc1 cc2
  clear cp0 cp1 cp2 cp3
  clear cq0 cq1 cq2 cq3
  clear cs0 cs1 cs2 cs3
  have hb : Below w6.heap.size w6 (w6.alloc (.cells #[.int .i64 s1, .int .i64 s2, .int .i64 s3] 41)) := below_allocD _ _
  have hx0 := (Bp.new (s1) (s2) (s3) w6 41)
  generalize w6.alloc (.cells #[.int .i64 s1, .int .i64 s2, .int .i64 s3] 41) = w7 at hb hx0 ⊢
  generalize hn : w6.heap.size = nt at hx0 ⊢
  have BXt_7 := Lib.hid hx0; clear hx0
  clear hn
  have HB7 := Lib.hid (bel_trans hb HB6.out); clear HB6
  have HM7 := Lib.hid (isRow_keepDb HM6.out hb); clear HM6
  have BXc_7 := Lib.hid (BXc_6.out.keep hb); clear BXc_6
  have BXp_7 := Lib.hid (BXp_6.out.keep hb); clear BXp_6
  have BXq_7 := Lib.hid (BXq_6.out.keep hb); clear BXq_6
  have BXs_7 := Lib.hid (BXs_6.out.keep hb); clear BXs_6
  clear hb
  clear K0 K1
  refine (drawDoublePoint_any _ _ _ _ _ HM7.out HL1.out).mono ?_
  rintro e w8 ⟨a3, b3, x3, y3, e3, rfl, hb⟩
  have HB8 := Lib.hid (bel_trans hb HB7.out); clear HB7
  have HM8 := Lib.hid (isRow_keepDb HM7.out hb); clear HM7
  have BXc_8 := Lib.hid (BXc_7.out.keep hb); clear BXc_7
  have BXp_8 := Lib.hid (BXp_7.out.keep hb); clear BXp_7
  have BXq_8 := Lib.hid (BXq_7.out.keep hb); clear BXq_7
  have BXs_8 := Lib.hid (BXs_7.out.keep hb); clear BXs_7
  have BXt_8 := Lib.hid (BXt_7.out.keep hb); clear BXt_7
  clear hb
  obtain ⟨cc0, cc1, cc2⟩ := BXc_8.out
  obtain ⟨cp0, cp1, cp2, cp3⟩ := BXp_8.out
  obtain ⟨cq0, cq1, cq2, cq3⟩ := BXq_8.out
  obtain ⟨cs0, cs1, cs2, cs3⟩ := BXs_8.out
  obtain ⟨ct0, ct1, ct2, ct3⟩ := BXt_8.out
  go_wp2_with fail
  clear cc0 cc1 cc2
  clear cp0 cp1 cp2 cp3
  clear cq0 cq1 cq2 cq3
  clear cs0 cs1 cs2 cs3
  clear ct0 ct1 ct2 ct3
  have hb : Below w8.heap.size w8 ((w8.alloc (.cells #[.int .i64 a3, .int .i64 b3] 39)).alloc (.cells #[.int .i64 x3, .int .i64 y3, .int .i64 e3] 41)) := bel_alloc (below_allocD _ _) _
  have hx0 := ((Bc.new (a3) (b3) w8 39).keep (below_allocD _ (.cells #[.int .i64 x3, .int .i64 y3, .int .i64 e3] 41)))
  have hx1 : Bp (w8.heap.size + 1) (x3) (y3) (e3) ((w8.alloc (.cells #[.int .i64 a3, .int .i64 b3] 39)).alloc (.cells #[.int .i64 x3, .int .i64 y3, .int .i64 e3] 41)) := by
    have := Bp.new (x3) (y3) (e3) (w8.alloc (.cells #[.int .i64 a3, .int .i64 b3] 39)) 41
    rw [show (w8.alloc (.cells #[.int .i64 a3, .int .i64 b3] 39)).heap.size = w8.heap.size + 1 by simp] at this
    exact this
  generalize (w8.alloc (.cells #[.int .i64 a3, .int .i64 b3] 39)).alloc (.cells #[.int .i64 x3, .int .i64 y3, .int .i64 e3] 41) = w9 at hb hx0 hx1 ⊢
  generalize hn : w8.heap.size = nf at hx0 hx1 ⊢
  have BXf_9 := Lib.hid hx0; clear hx0
  have BXg_9 := Lib.hid hx1; clear hx1
  clear hn
  have HB9 := Lib.hid (bel_trans hb HB8.out); clear HB8
  have HM9 := Lib.hid (isRow_keepDb HM8.out hb); clear HM8
  have BXc_9 := Lib.hid (BXc_8.out.keep hb); clear BXc_8
  have BXp_9 := Lib.hid (BXp_8.out.keep hb); clear BXp_8
  have BXq_9 := Lib.hid (BXq_8.out.keep hb); clear BXq_8
  have BXs_9 := Lib.hid (BXs_8.out.keep hb); clear BXs_8
  have BXt_9 := Lib.hid (BXt_8.out.keep hb); clear BXt_8
  clear hb
  obtain ⟨d1, d2, d3, n1, n2, n3, one, three, rf⟩ := gdfacts a3 b3 x3 y3 e3
  have D0 := Lib.hid rf.e0; have D1 := Lib.hid rf.e1; have D2 := Lib.hid rf.m0; have D3 := Lib.hid rf.m1; have D4 := Lib.hid rf.isP; have DI := Lib.hid rf.imp; have D5 := Lib.hid rf.neg; have D6 := Lib.hid rf.zer; have D7 := Lib.hid rf.dbl
  clear rf
  refine (D0.out _).mono ?_
  rintro e w10 ⟨rfl, hb⟩
  have HB10 := Lib.hid (bel_trans hb HB9.out); clear HB9
  have HM10 := Lib.hid (isRow_keepDb HM9.out hb); clear HM9
  have BXc_10 := Lib.hid (BXc_9.out.keep hb); clear BXc_9
  have BXp_10 := Lib.hid (BXp_9.out.keep hb); clear BXp_9
  have BXq_10 := Lib.hid (BXq_9.out.keep hb); clear BXq_9
  have BXs_10 := Lib.hid (BXs_9.out.keep hb); clear BXs_9
  have BXt_10 := Lib.hid (BXt_9.out.keep hb); clear BXt_9
  have BXf_10 := Lib.hid (BXf_9.out.keep hb); clear BXf_9
  have BXg_10 := Lib.hid (BXg_9.out.keep hb); clear BXg_9
  clear hb
  obtain ⟨cc0, cc1, cc2⟩ := BXc_10.out
  obtain ⟨cp0, cp1, cp2, cp3⟩ := BXp_10.out
  obtain ⟨cq0, cq1, cq2, cq3⟩ := BXq_10.out
  obtain ⟨cs0, cs1, cs2, cs3⟩ := BXs_10.out
  obtain ⟨ct0, ct1, ct2, ct3⟩ := BXt_10.out
  obtain ⟨cf0, cf1, cf2⟩ := BXf_10.out
  obtain ⟨cg0, cg1, cg2, cg3⟩ := BXg_10.out
  go_wp2_with fail
  clear cc0 cc1 cc2
  clear cp0 cp1 cp2 cp3
  clear cq0 cq1 cq2 cq3
  clear cs0 cs1 cs2 cs3
  clear ct0 ct1 ct2 ct3
  clear cf0 cf1 cf2
  clear cg0 cg1 cg2 cg3
  have hb : Below w10.heap.size w10 (w10.alloc (.cells #[.int .i64 d1, .int .i64 d2, .int .i64 d3] 41)) := below_allocD _ _
  have hx0 := (Bp.new (d1) (d2) (d3) w10 41)
  generalize w10.alloc (.cells #[.int .i64 d1, .int .i64 d2, .int .i64 d3] 41) = w11 at hb hx0 ⊢
  generalize hn : w10.heap.size = nh at hx0 ⊢
  have BXh_11 := Lib.hid hx0; clear hx0
  clear hn
  have HB11 := Lib.hid (bel_trans hb HB10.out); clear HB10
  have HM11 := Lib.hid (isRow_keepDb HM10.out hb); clear HM10
  have BXc_11 := Lib.hid (BXc_10.out.keep hb); clear BXc_10
  have BXp_11 := Lib.hid (BXp_10.out.keep hb); clear BXp_10
  have BXq_11 := Lib.hid (BXq_10.out.keep hb); clear BXq_10
  have BXs_11 := Lib.hid (BXs_10.out.keep hb); clear BXs_10
  have BXt_11 := Lib.hid (BXt_10.out.keep hb); clear BXt_10
  have BXf_11 := Lib.hid (BXf_10.out.keep hb); clear BXf_10
  have BXg_11 := Lib.hid (BXg_10.out.keep hb); clear BXg_10
  clear hb
  refine (D1.out _).mono ?_
  rintro e w12 ⟨rfl, hb⟩
  have HB12 := Lib.hid (bel_trans hb HB11.out); clear HB11
  have HM12 := Lib.hid (isRow_keepDb HM11.out hb); clear HM11
  have BXc_12 := Lib.hid (BXc_11.out.keep hb); clear BXc_11
  have BXp_12 := Lib.hid (BXp_11.out.keep hb); clear BXp_11
  have BXq_12 := Lib.hid (BXq_11.out.keep hb); clear BXq_11
  have BXs_12 := Lib.hid (BXs_11.out.keep hb); clear BXs_11
  have BXt_12 := Lib.hid (BXt_11.out.keep hb); clear BXt_11
  have BXf_12 := Lib.hid (BXf_11.out.keep hb); clear BXf_11
  have BXg_12 := Lib.hid (BXg_11.out.keep hb); clear BXg_11
  have BXh_12 := Lib.hid (BXh_11.out.keep hb); clear BXh_11
  clear hb
  obtain ⟨cc0, cc1, cc2⟩ := BXc_12.out
  obtain ⟨cp0, cp1, cp2, cp3⟩ := BXp_12.out
  obtain ⟨cq0, cq1, cq2, cq3⟩ := BXq_12.out
  obtain ⟨cs0, cs1, cs2, cs3⟩ := BXs_12.out
  obtain ⟨ct0, ct1, ct2, ct3⟩ := BXt_12.out
  obtain ⟨cf0, cf1, cf2⟩ := BXf_12.out
  obtain ⟨cg0, cg1, cg2, cg3⟩ := BXg_12.out
  obtain ⟨ch0, ch1, ch2, ch3⟩ := BXh_12.out
  go_wp2_with fail
  clear cc0 cc1 cc2
  clear cp0 cp1 cp2 cp3
  clear cq0 cq1 cq2 cq3
  clear cs0 cs1 cs2 cs3
  clear ct0 ct1 ct2 ct3
  clear cf0 cf1 cf2
  clear cg0 cg1 cg2 cg3
  clear ch0 ch1 ch2 ch3
  have hb : Below w12.heap.size w12 (w12.alloc (.cells #[.int .i64 d1, .int .i64 d2, .int .i64 d3] 41)) := below_allocD _ _
  have hx0 := (Bp.new (d1) (d2) (d3) w12 41)
  generalize w12.alloc (.cells #[.int .i64 d1, .int .i64 d2, .int .i64 d3] 41) = w13 at hb hx0 ⊢
  generalize hn : w12.heap.size = ni at hx0 ⊢
  have BXi_13 := Lib.hid hx0; clear hx0
  clear hn
  have HB13 := Lib.hid (bel_trans hb HB12.out); clear HB12
  have HM13 := Lib.hid (isRow_keepDb HM12.out hb); clear HM12
  have BXc_13 := Lib.hid (BXc_12.out.keep hb); clear BXc_12
  have BXp_13 := Lib.hid (BXp_12.out.keep hb); clear BXp_12
  have BXq_13 := Lib.hid (BXq_12.out.keep hb); clear BXq_12
  have BXs_13 := Lib.hid (BXs_12.out.keep hb); clear BXs_12
  have BXt_13 := Lib.hid (BXt_12.out.keep hb); clear BXt_12
  have BXf_13 := Lib.hid (BXf_12.out.keep hb); clear BXf_12
  have BXg_13 := Lib.hid (BXg_12.out.keep hb); clear BXg_12
  have BXh_13 := Lib.hid (BXh_12.out.keep hb); clear BXh_12
  clear hb
  refine (D2.out _).mono ?_
  rintro e w14 ⟨rfl, hb⟩
  have HB14 := Lib.hid (bel_trans hb HB13.out); clear HB13
  have HM14 := Lib.hid (isRow_keepDb HM13.out hb); clear HM13
  have BXc_14 := Lib.hid (BXc_13.out.keep hb); clear BXc_13
  have BXp_14 := Lib.hid (BXp_13.out.keep hb); clear BXp_13
  have BXq_14 := Lib.hid (BXq_13.out.keep hb); clear BXq_13
  have BXs_14 := Lib.hid (BXs_13.out.keep hb); clear BXs_13
  have BXt_14 := Lib.hid (BXt_13.out.keep hb); clear BXt_13
  have BXf_14 := Lib.hid (BXf_13.out.keep hb); clear BXf_13
  have BXg_14 := Lib.hid (BXg_13.out.keep hb); clear BXg_13
  have BXh_14 := Lib.hid (BXh_13.out.keep hb); clear BXh_13
  have BXi_14 := Lib.hid (BXi_13.out.keep hb); clear BXi_13
  clear hb
  obtain ⟨cc0, cc1, cc2⟩ := BXc_14.out
  obtain ⟨cp0, cp1, cp2, cp3⟩ := BXp_14.out
  obtain ⟨cq0, cq1, cq2, cq3⟩ := BXq_14.out
  obtain ⟨cs0, cs1, cs2, cs3⟩ := BXs_14.out
  obtain ⟨ct0, ct1, ct2, ct3⟩ := BXt_14.out
  obtain ⟨cf0, cf1, cf2⟩ := BXf_14.out
  obtain ⟨cg0, cg1, cg2, cg3⟩ := BXg_14.out
  obtain ⟨ch0, ch1, ch2, ch3⟩ := BXh_14.out
  obtain ⟨ci0, ci1, ci2, ci3⟩ := BXi_14.out
  go_wp2_with fail
  clear cc0 cc1 cc2
  clear cp0 cp1 cp2 cp3
  clear cq0 cq1 cq2 cq3
  clear cs0 cs1 cs2 cs3
  clear ct0 ct1 ct2 ct3
  clear cf0 cf1 cf2
  clear cg0 cg1 cg2 cg3
  clear ch0 ch1 ch2 ch3
  clear ci0 ci1 ci2 ci3
  have hb : Below w14.heap.size w14 (w14.alloc (.cells #[.int .i64 n1, .int .i64 n2, .int .i64 n3] 41)) := below_allocD _ _
  have hx0 := (Bp.new (n1) (n2) (n3) w14 41)
  generalize w14.alloc (.cells #[.int .i64 n1, .int .i64 n2, .int .i64 n3] 41) = w15 at hb hx0 ⊢
  generalize hn : w14.heap.size = nj at hx0 ⊢
  have BXj_15 := Lib.hid hx0; clear hx0
  clear hn
  have HB15 := Lib.hid (bel_trans hb HB14.out); clear HB14
  have HM15 := Lib.hid (isRow_keepDb HM14.out hb); clear HM14
  have BXc_15 := Lib.hid (BXc_14.out.keep hb); clear BXc_14
  have BXp_15 := Lib.hid (BXp_14.out.keep hb); clear BXp_14
  have BXq_15 := Lib.hid (BXq_14.out.keep hb); clear BXq_14
  have BXs_15 := Lib.hid (BXs_14.out.keep hb); clear BXs_14
  have BXt_15 := Lib.hid (BXt_14.out.keep hb); clear BXt_14
  have BXf_15 := Lib.hid (BXf_14.out.keep hb); clear BXf_14
  have BXg_15 := Lib.hid (BXg_14.out.keep hb); clear BXg_14
  have BXh_15 := Lib.hid (BXh_14.out.keep hb); clear BXh_14
  have BXi_15 := Lib.hid (BXi_14.out.keep hb); clear BXi_14
  clear hb
  refine (D3.out _).mono ?_
  rintro e w16 ⟨rfl, hb⟩
  have HB16 := Lib.hid (bel_trans hb HB15.out); clear HB15
  have HM16 := Lib.hid (isRow_keepDb HM15.out hb); clear HM15
  have BXc_16 := Lib.hid (BXc_15.out.keep hb); clear BXc_15
  have BXp_16 := Lib.hid (BXp_15.out.keep hb); clear BXp_15
  have BXq_16 := Lib.hid (BXq_15.out.keep hb); clear BXq_15
  have BXs_16 := Lib.hid (BXs_15.out.keep hb); clear BXs_15
  have BXt_16 := Lib.hid (BXt_15.out.keep hb); clear BXt_15
  have BXf_16 := Lib.hid (BXf_15.out.keep hb); clear BXf_15
  have BXg_16 := Lib.hid (BXg_15.out.keep hb); clear BXg_15
  have BXh_16 := Lib.hid (BXh_15.out.keep hb); clear BXh_15
  have BXi_16 := Lib.hid (BXi_15.out.keep hb); clear BXi_15
  have BXj_16 := Lib.hid (BXj_15.out.keep hb); clear BXj_15
  clear hb
  obtain ⟨cc0, cc1, cc2⟩ := BXc_16.out
  obtain ⟨cp0, cp1, cp2, cp3⟩ := BXp_16.out
  obtain ⟨cq0, cq1, cq2, cq3⟩ := BXq_16.out
  obtain ⟨cs0, cs1, cs2, cs3⟩ := BXs_16.out
  obtain ⟨ct0, ct1, ct2, ct3⟩ := BXt_16.out
  obtain ⟨cf0, cf1, cf2⟩ := BXf_16.out
  obtain ⟨cg0, cg1, cg2, cg3⟩ := BXg_16.out
  obtain ⟨ch0, ch1, ch2, ch3⟩ := BXh_16.out
  obtain ⟨ci0, ci1, ci2, ci3⟩ := BXi_16.out
  obtain ⟨cj0, cj1, cj2, cj3⟩ := BXj_16.out
  go_wp2_with fail
  clear cc0 cc1 cc2
  clear cp0 cp1 cp2 cp3
  clear cq0 cq1 cq2 cq3
  clear cs0 cs1 cs2 cs3
  clear ct0 ct1 ct2 ct3
  clear cf0 cf1 cf2
  clear cg0 cg1 cg2 cg3
  clear ch0 ch1 ch2 ch3
  clear ci0 ci1 ci2 ci3
  clear cj0 cj1 cj2 cj3
  have hb : Below w16.heap.size w16 (w16.alloc (.cells #[.int .i64 n1, .int .i64 n2, .int .i64 n3] 41)) := below_allocD _ _
  have hx0 := (Bp.new (n1) (n2) (n3) w16 41)
  generalize w16.alloc (.cells #[.int .i64 n1, .int .i64 n2, .int .i64 n3] 41) = w17 at hb hx0 ⊢
  generalize hn : w16.heap.size = nk at hx0 ⊢
  have BXk_17 := Lib.hid hx0; clear hx0
  clear hn
  have HB17 := Lib.hid (bel_trans hb HB16.out); clear HB16
  have HM17 := Lib.hid (isRow_keepDb HM16.out hb); clear HM16
  have BXc_17 := Lib.hid (BXc_16.out.keep hb); clear BXc_16
  have BXp_17 := Lib.hid (BXp_16.out.keep hb); clear BXp_16
  have BXq_17 := Lib.hid (BXq_16.out.keep hb); clear BXq_16
  have BXs_17 := Lib.hid (BXs_16.out.keep hb); clear BXs_16
  have BXt_17 := Lib.hid (BXt_16.out.keep hb); clear BXt_16
  have BXf_17 := Lib.hid (BXf_16.out.keep hb); clear BXf_16
  have BXg_17 := Lib.hid (BXg_16.out.keep hb); clear BXg_16
  have BXh_17 := Lib.hid (BXh_16.out.keep hb); clear BXh_16
  have BXi_17 := Lib.hid (BXi_16.out.keep hb); clear BXi_16
  have BXj_17 := Lib.hid (BXj_16.out.keep hb); clear BXj_16
  clear hb
  clear D0 D1 D2 D3
  as_aux_lemma =>
  refine (drawAreCollinear_any _ _ _ _ _ HM17.out HL1.out).mono ?_
  rintro e w18 ⟨a4, b4, x4, y4, e4, x5, y5, e5, x6, y6, e6, rfl, hb⟩
  have HB18 := Lib.hid (bel_trans hb HB17.out); clear HB17
  have HM18 := Lib.hid (isRow_keepDb HM17.out hb); clear HM17
  have BXc_18 := Lib.hid (BXc_17.out.keep hb); clear BXc_17
  have BXp_18 := Lib.hid (BXp_17.out.keep hb); clear BXp_17
  have BXq_18 := Lib.hid (BXq_17.out.keep hb); clear BXq_17
  have BXs_18 := Lib.hid (BXs_17.out.keep hb); clear BXs_17
  have BXt_18 := Lib.hid (BXt_17.out.keep hb); clear BXt_17
  have BXf_18 := Lib.hid (BXf_17.out.keep hb); clear BXf_17
  have BXg_18 := Lib.hid (BXg_17.out.keep hb); clear BXg_17
  have BXh_18 := Lib.hid (BXh_17.out.keep hb); clear BXh_17
  have BXi_18 := Lib.hid (BXi_17.out.keep hb); clear BXi_17
  have BXj_18 := Lib.hid (BXj_17.out.keep hb); clear BXj_17
  have BXk_18 := Lib.hid (BXk_17.out.keep hb); clear BXk_17
  clear hb
  obtain ⟨cc0, cc1, cc2⟩ := BXc_18.out
  obtain ⟨cp0, cp1, cp2, cp3⟩ := BXp_18.out
  obtain ⟨cq0, cq1, cq2, cq3⟩ := BXq_18.out
  obtain ⟨cs0, cs1, cs2, cs3⟩ := BXs_18.out
  obtain ⟨ct0, ct1, ct2, ct3⟩ := BXt_18.out
  obtain ⟨cf0, cf1, cf2⟩ := BXf_18.out
  obtain ⟨cg0, cg1, cg2, cg3⟩ := BXg_18.out
  obtain ⟨ch0, ch1, ch2, ch3⟩ := BXh_18.out
  obtain ⟨ci0, ci1, ci2, ci3⟩ := BXi_18.out
  obtain ⟨cj0, cj1, cj2, cj3⟩ := BXj_18.out
  obtain ⟨ck0, ck1, ck2, ck3⟩ := BXk_18.out
  go_wp2_with fail
  clear cc0 cc1 cc2
  clear cp0 cp1 cp2 cp3
  clear cq0 cq1 cq2 cq3
  clear cs0 cs1 cs2 cs3
  clear ct0 ct1 ct2 ct3
  clear cf0 cf1 cf2
  clear cg0 cg1 cg2 cg3
  clear ch0 ch1 ch2 ch3
  clear ci0 ci1 ci2 ci3
  clear cj0 cj1 cj2 cj3
  clear ck0 ck1 ck2 ck3
  have hb : Below w18.heap.size w18 ((((w18.alloc (.cells #[.int .i64 a4, .int .i64 b4] 39)).alloc (.cells #[.int .i64 x4, .int .i64 y4, .int .i64 e4] 41)).alloc (.cells #[.int .i64 x5, .int .i64 y5, .int .i64 e5] 41)).alloc (.cells #[.int .i64 x6, .int .i64 y6, .int .i64 e6] 41)) := bel_alloc (bel_alloc (bel_alloc (below_allocD _ _) _) _) _
  have hx0 := ((((Bc.new (a4) (b4) w18 39).keep (below_allocD _ (.cells #[.int .i64 x4, .int .i64 y4, .int .i64 e4] 41))).keep (below_allocD _ (.cells #[.int .i64 x5, .int .i64 y5, .int .i64 e5] 41))).keep (below_allocD _ (.cells #[.int .i64 x6, .int .i64 y6, .int .i64 e6] 41)))
  have hx1 : Bp (w18.heap.size + 1) (x4) (y4) (e4) ((((w18.alloc (.cells #[.int .i64 a4, .int .i64 b4] 39)).alloc (.cells #[.int .i64 x4, .int .i64 y4, .int .i64 e4] 41)).alloc (.cells #[.int .i64 x5, .int .i64 y5, .int .i64 e5] 41)).alloc (.cells #[.int .i64 x6, .int .i64 y6, .int .i64 e6] 41)) := by
    have := Bp.new (x4) (y4) (e4) (w18.alloc (.cells #[.int .i64 a4, .int .i64 b4] 39)) 41
    rw [show (w18.alloc (.cells #[.int .i64 a4, .int .i64 b4] 39)).heap.size = w18.heap.size + 1 by simp] at this
    exact ((this.keep (below_allocD _ (.cells #[.int .i64 x5, .int .i64 y5, .int .i64 e5] 41))).keep (below_allocD _ (.cells #[.int .i64 x6, .int .i64 y6, .int .i64 e6] 41)))
  have hx2 : Bp (w18.heap.size + 1 + 1) (x5) (y5) (e5) ((((w18.alloc (.cells #[.int .i64 a4, .int .i64 b4] 39)).alloc (.cells #[.int .i64 x4, .int .i64 y4, .int .i64 e4] 41)).alloc (.cells #[.int .i64 x5, .int .i64 y5, .int .i64 e5] 41)).alloc (.cells #[.int .i64 x6, .int .i64 y6, .int .i64 e6] 41)) := by
    have := Bp.new (x5) (y5) (e5) ((w18.alloc (.cells #[.int .i64 a4, .int .i64 b4] 39)).alloc (.cells #[.int .i64 x4, .int .i64 y4, .int .i64 e4] 41)) 41
    rw [show ((w18.alloc (.cells #[.int .i64 a4, .int .i64 b4] 39)).alloc (.cells #[.int .i64 x4, .int .i64 y4, .int .i64 e4] 41)).heap.size = w18.heap.size + 1 + 1 by simp] at this
    exact (this.keep (below_allocD _ (.cells #[.int .i64 x6, .int .i64 y6, .int .i64 e6] 41)))
  have hx3 : Bp (w18.heap.size + 1 + 1 + 1) (x6) (y6) (e6) ((((w18.alloc (.cells #[.int .i64 a4, .int .i64 b4] 39)).alloc (.cells #[.int .i64 x4, .int .i64 y4, .int .i64 e4] 41)).alloc (.cells #[.int .i64 x5, .int .i64 y5, .int .i64 e5] 41)).alloc (.cells #[.int .i64 x6, .int .i64 y6, .int .i64 e6] 41)) := by
    have := Bp.new (x6) (y6) (e6) (((w18.alloc (.cells #[.int .i64 a4, .int .i64 b4] 39)).alloc (.cells #[.int .i64 x4, .int .i64 y4, .int .i64 e4] 41)).alloc (.cells #[.int .i64 x5, .int .i64 y5, .int .i64 e5] 41)) 41
    rw [show (((w18.alloc (.cells #[.int .i64 a4, .int .i64 b4] 39)).alloc (.cells #[.int .i64 x4, .int .i64 y4, .int .i64 e4] 41)).alloc (.cells #[.int .i64 x5, .int .i64 y5, .int .i64 e5] 41)).heap.size = w18.heap.size + 1 + 1 + 1 by simp] at this
    exact this
  generalize (((w18.alloc (.cells #[.int .i64 a4, .int .i64 b4] 39)).alloc (.cells #[.int .i64 x4, .int .i64 y4, .int .i64 e4] 41)).alloc (.cells #[.int .i64 x5, .int .i64 y5, .int .i64 e5] 41)).alloc (.cells #[.int .i64 x6, .int .i64 y6, .int .i64 e6] 41) = w19 at hb hx0 hx1 hx2 hx3 ⊢
  generalize hn : w18.heap.size = nl at hx0 hx1 hx2 hx3 ⊢
  have BXl_19 := Lib.hid hx0; clear hx0
  have BXm_19 := Lib.hid hx1; clear hx1
  have BXn_19 := Lib.hid hx2; clear hx2
  have BXo_19 := Lib.hid hx3; clear hx3
  clear hn
  have HB19 := Lib.hid (bel_trans hb HB18.out); clear HB18
  have HM19 := Lib.hid (isRow_keepDb HM18.out hb); clear HM18
  have BXc_19 := Lib.hid (BXc_18.out.keep hb); clear BXc_18
  have BXp_19 := Lib.hid (BXp_18.out.keep hb); clear BXp_18
  have BXq_19 := Lib.hid (BXq_18.out.keep hb); clear BXq_18
  have BXs_19 := Lib.hid (BXs_18.out.keep hb); clear BXs_18
  have BXt_19 := Lib.hid (BXt_18.out.keep hb); clear BXt_18
  have BXf_19 := Lib.hid (BXf_18.out.keep hb); clear BXf_18
  have BXg_19 := Lib.hid (BXg_18.out.keep hb); clear BXg_18
  have BXh_19 := Lib.hid (BXh_18.out.keep hb); clear BXh_18
  have BXi_19 := Lib.hid (BXi_18.out.keep hb); clear BXi_18
  have BXj_19 := Lib.hid (BXj_18.out.keep hb); clear BXj_18
  have BXk_19 := Lib.hid (BXk_18.out.keep hb); clear BXk_18
  clear hb
  obtain ⟨li, five, rf⟩ := gcfacts a4 b4 x4 y4 e4 x5 y5 e5 x6 y6 e6
  have C0 := Lib.hid rf.c0; have C1 := Lib.hid rf.c1; have C2 := Lib.hid rf.turn
  clear rf
  refine (C0.out _).mono ?_
  rintro e w20 ⟨rfl, hb⟩
  have HB20 := Lib.hid (bel_trans hb HB19.out); clear HB19
  have HM20 := Lib.hid (isRow_keepDb HM19.out hb); clear HM19
  have BXc_20 := Lib.hid (BXc_19.out.keep hb); clear BXc_19
  have BXp_20 := Lib.hid (BXp_19.out.keep hb); clear BXp_19
  have BXq_20 := Lib.hid (BXq_19.out.keep hb); clear BXq_19
  have BXs_20 := Lib.hid (BXs_19.out.keep hb); clear BXs_19
  have BXt_20 := Lib.hid (BXt_19.out.keep hb); clear BXt_19
  have BXf_20 := Lib.hid (BXf_19.out.keep hb); clear BXf_19
  have BXg_20 := Lib.hid (BXg_19.out.keep hb); clear BXg_19
  have BXh_20 := Lib.hid (BXh_19.out.keep hb); clear BXh_19
  have BXi_20 := Lib.hid (BXi_19.out.keep hb); clear BXi_19
  have BXj_20 := Lib.hid (BXj_19.out.keep hb); clear BXj_19
  have BXk_20 := Lib.hid (BXk_19.out.keep hb); clear BXk_19
  have BXl_20 := Lib.hid (BXl_19.out.keep hb); clear BXl_19
  have BXm_20 := Lib.hid (BXm_19.out.keep hb); clear BXm_19
  have BXn_20 := Lib.hid (BXn_19.out.keep hb); clear BXn_19
  have BXo_20 := Lib.hid (BXo_19.out.keep hb); clear BXo_19
  clear hb
  obtain ⟨cc0, cc1, cc2⟩ := BXc_20.out
  obtain ⟨cp0, cp1, cp2, cp3⟩ := BXp_20.out
  obtain ⟨cq0, cq1, cq2, cq3⟩ := BXq_20.out
  obtain ⟨cs0, cs1, cs2, cs3⟩ := BXs_20.out
  obtain ⟨ct0, ct1, ct2, ct3⟩ := BXt_20.out
  obtain ⟨cf0, cf1, cf2⟩ := BXf_20.out
  obtain ⟨cg0, cg1, cg2, cg3⟩ := BXg_20.out
  obtain ⟨ch0, ch1, ch2, ch3⟩ := BXh_20.out
  obtain ⟨ci0, ci1, ci2, ci3⟩ := BXi_20.out
  obtain ⟨cj0, cj1, cj2, cj3⟩ := BXj_20.out
  obtain ⟨ck0, ck1, ck2, ck3⟩ := BXk_20.out
  obtain ⟨cl0, cl1, cl2⟩ := BXl_20.out
  obtain ⟨cm0, cm1, cm2, cm3⟩ := BXm_20.out
  obtain ⟨cn0, cn1, cn2, cn3⟩ := BXn_20.out
  obtain ⟨co0, co1, co2, co3⟩ := BXo_20.out
  go_wp2_with fail
  clear cc0 cc1 cc2
  clear cp0 cp1 cp2 cp3
  clear cq0 cq1 cq2 cq3
  clear cs0 cs1 cs2 cs3
  clear ct0 ct1 ct2 ct3
  clear cf0 cf1 cf2
  clear cg0 cg1 cg2 cg3
  clear ch0 ch1 ch2 ch3
  clear ci0 ci1 ci2 ci3
  clear cj0 cj1 cj2 cj3
  clear ck0 ck1 ck2 ck3
  clear cl0 cl1 cl2
  clear cm0 cm1 cm2 cm3
  clear cn0 cn1 cn2 cn3
  clear co0 co1 co2 co3
  refine (C1.out _).mono ?_
  rintro e w21 ⟨rfl, hb⟩
  have HB21 := Lib.hid (bel_trans hb HB20.out); clear HB20
  have HM21 := Lib.hid (isRow_keepDb HM20.out hb); clear HM20
  have BXc_21 := Lib.hid (BXc_20.out.keep hb); clear BXc_20
  have BXp_21 := Lib.hid (BXp_20.out.keep hb); clear BXp_20
  have BXq_21 := Lib.hid (BXq_20.out.keep hb); clear BXq_20
  have BXs_21 := Lib.hid (BXs_20.out.keep hb); clear BXs_20
  have BXt_21 := Lib.hid (BXt_20.out.keep hb); clear BXt_20
  have BXf_21 := Lib.hid (BXf_20.out.keep hb); clear BXf_20
  have BXg_21 := Lib.hid (BXg_20.out.keep hb); clear BXg_20
  have BXh_21 := Lib.hid (BXh_20.out.keep hb); clear BXh_20
  have BXi_21 := Lib.hid (BXi_20.out.keep hb); clear BXi_20
  have BXj_21 := Lib.hid (BXj_20.out.keep hb); clear BXj_20
  have BXk_21 := Lib.hid (BXk_20.out.keep hb); clear BXk_20
  have BXl_21 := Lib.hid (BXl_20.out.keep hb); clear BXl_20
  have BXm_21 := Lib.hid (BXm_20.out.keep hb); clear BXm_20
  have BXn_21 := Lib.hid (BXn_20.out.keep hb); clear BXn_20
  have BXo_21 := Lib.hid (BXo_20.out.keep hb); clear BXo_20
  clear hb
  obtain ⟨cc0, cc1, cc2⟩ := BXc_21.out
  obtain ⟨cp0, cp1, cp2, cp3⟩ := BXp_21.out
  obtain ⟨cq0, cq1, cq2, cq3⟩ := BXq_21.out
  obtain ⟨cs0, cs1, cs2, cs3⟩ := BXs_21.out
  obtain ⟨ct0, ct1, ct2, ct3⟩ := BXt_21.out
  obtain ⟨cf0, cf1, cf2⟩ := BXf_21.out
  obtain ⟨cg0, cg1, cg2, cg3⟩ := BXg_21.out
  obtain ⟨ch0, ch1, ch2, ch3⟩ := BXh_21.out
  obtain ⟨ci0, ci1, ci2, ci3⟩ := BXi_21.out
  obtain ⟨cj0, cj1, cj2, cj3⟩ := BXj_21.out
  obtain ⟨ck0, ck1, ck2, ck3⟩ := BXk_21.out
  obtain ⟨cl0, cl1, cl2⟩ := BXl_21.out
  obtain ⟨cm0, cm1, cm2, cm3⟩ := BXm_21.out
  obtain ⟨cn0, cn1, cn2, cn3⟩ := BXn_21.out
  obtain ⟨co0, co1, co2, co3⟩ := BXo_21.out
  go_wp2_with fail
  clear cc0 cc1 cc2
  clear cp0 cp1 cp2 cp3
  clear cq0 cq1 cq2 cq3
  clear cs0 cs1 cs2 cs3
  clear ct0 ct1 ct2 ct3
  clear cf0 cf1 cf2
  clear cg0 cg1 cg2 cg3
  clear ch0 ch1 ch2 ch3
  clear ci0 ci1 ci2 ci3
  clear cj0 cj1 cj2 cj3
  clear ck0 ck1 ck2 ck3
  clear cl0 cl1 cl2
  clear cm0 cm1 cm2 cm3
  clear cn0 cn1 cn2 cn3
  clear co0 co1 co2 co3
  clear C0 C1
  as_aux_lemma =>
  refine (drawSlopeOf_any _ _ _ _ _ HM21.out HL1.out).mono ?_
  rintro e w22 ⟨a7, b7, x7, y7, e7, x8, y8, e8, rfl, hb⟩
  have HB22 := Lib.hid (bel_trans hb HB21.out); clear HB21
  have HM22 := Lib.hid (isRow_keepDb HM21.out hb); clear HM21
  have BXc_22 := Lib.hid (BXc_21.out.keep hb); clear BXc_21
  have BXp_22 := Lib.hid (BXp_21.out.keep hb); clear BXp_21
  have BXq_22 := Lib.hid (BXq_21.out.keep hb); clear BXq_21
  have BXs_22 := Lib.hid (BXs_21.out.keep hb); clear BXs_21
  have BXt_22 := Lib.hid (BXt_21.out.keep hb); clear BXt_21
  have BXf_22 := Lib.hid (BXf_21.out.keep hb); clear BXf_21
  have BXg_22 := Lib.hid (BXg_21.out.keep hb); clear BXg_21
  have BXh_22 := Lib.hid (BXh_21.out.keep hb); clear BXh_21
  have BXi_22 := Lib.hid (BXi_21.out.keep hb); clear BXi_21
  have BXj_22 := Lib.hid (BXj_21.out.keep hb); clear BXj_21
  have BXk_22 := Lib.hid (BXk_21.out.keep hb); clear BXk_21
  have BXl_22 := Lib.hid (BXl_21.out.keep hb); clear BXl_21
  have BXm_22 := Lib.hid (BXm_21.out.keep hb); clear BXm_21
  have BXn_22 := Lib.hid (BXn_21.out.keep hb); clear BXn_21
  have BXo_22 := Lib.hid (BXo_21.out.keep hb); clear BXo_21
  clear hb
  clear HM22 HL1
  obtain ⟨cc0, cc1, cc2⟩ := BXc_22.out
  obtain ⟨cp0, cp1, cp2, cp3⟩ := BXp_22.out
  obtain ⟨cq0, cq1, cq2, cq3⟩ := BXq_22.out
  obtain ⟨cs0, cs1, cs2, cs3⟩ := BXs_22.out
  obtain ⟨ct0, ct1, ct2, ct3⟩ := BXt_22.out
  obtain ⟨cf0, cf1, cf2⟩ := BXf_22.out
  obtain ⟨cg0, cg1, cg2, cg3⟩ := BXg_22.out
  obtain ⟨ch0, ch1, ch2, ch3⟩ := BXh_22.out
  obtain ⟨ci0, ci1, ci2, ci3⟩ := BXi_22.out
  obtain ⟨cj0, cj1, cj2, cj3⟩ := BXj_22.out
  obtain ⟨ck0, ck1, ck2, ck3⟩ := BXk_22.out
  obtain ⟨cl0, cl1, cl2⟩ := BXl_22.out
  obtain ⟨cm0, cm1, cm2, cm3⟩ := BXm_22.out
  obtain ⟨cn0, cn1, cn2, cn3⟩ := BXn_22.out
  obtain ⟨co0, co1, co2, co3⟩ := BXo_22.out
  go_wp2_with fail
  clear cc0 cc1 cc2
  clear cp0 cp1 cp2 cp3
  clear cq0 cq1 cq2 cq3
  clear cs0 cs1 cs2 cs3
  clear ct0 ct1 ct2 ct3
  clear cf0 cf1 cf2
  clear cg0 cg1 cg2 cg3
  clear ch0 ch1 ch2 ch3
  clear ci0 ci1 ci2 ci3
  clear cj0 cj1 cj2 cj3
  clear ck0 ck1 ck2 ck3
  clear cl0 cl1 cl2
  clear cm0 cm1 cm2 cm3
  clear cn0 cn1 cn2 cn3
  clear co0 co1 co2 co3
  have hb : Below w22.heap.size w22 (((w22.alloc (.cells #[.int .i64 a7, .int .i64 b7] 39)).alloc (.cells #[.int .i64 x7, .int .i64 y7, .int .i64 e7] 41)).alloc (.cells #[.int .i64 x8, .int .i64 y8, .int .i64 e8] 41)) := bel_alloc (bel_alloc (below_allocD _ _) _) _
  have hx0 := (((Bc.new (a7) (b7) w22 39).keep (below_allocD _ (.cells #[.int .i64 x7, .int .i64 y7, .int .i64 e7] 41))).keep (below_allocD _ (.cells #[.int .i64 x8, .int .i64 y8, .int .i64 e8] 41)))
  have hx1 : Bp (w22.heap.size + 1) (x7) (y7) (e7) (((w22.alloc (.cells #[.int .i64 a7, .int .i64 b7] 39)).alloc (.cells #[.int .i64 x7, .int .i64 y7, .int .i64 e7] 41)).alloc (.cells #[.int .i64 x8, .int .i64 y8, .int .i64 e8] 41)) := by
    have := Bp.new (x7) (y7) (e7) (w22.alloc (.cells #[.int .i64 a7, .int .i64 b7] 39)) 41
    rw [show (w22.alloc (.cells #[.int .i64 a7, .int .i64 b7] 39)).heap.size = w22.heap.size + 1 by simp] at this
    exact (this.keep (below_allocD _ (.cells #[.int .i64 x8, .int .i64 y8, .int .i64 e8] 41)))
  have hx2 : Bp (w22.heap.size + 1 + 1) (x8) (y8) (e8) (((w22.alloc (.cells #[.int .i64 a7, .int .i64 b7] 39)).alloc (.cells #[.int .i64 x7, .int .i64 y7, .int .i64 e7] 41)).alloc (.cells #[.int .i64 x8, .int .i64 y8, .int .i64 e8] 41)) := by
    have := Bp.new (x8) (y8) (e8) ((w22.alloc (.cells #[.int .i64 a7, .int .i64 b7] 39)).alloc (.cells #[.int .i64 x7, .int .i64 y7, .int .i64 e7] 41)) 41
    rw [show ((w22.alloc (.cells #[.int .i64 a7, .int .i64 b7] 39)).alloc (.cells #[.int .i64 x7, .int .i64 y7, .int .i64 e7] 41)).heap.size = w22.heap.size + 1 + 1 by simp] at this
    exact this
  generalize ((w22.alloc (.cells #[.int .i64 a7, .int .i64 b7] 39)).alloc (.cells #[.int .i64 x7, .int .i64 y7, .int .i64 e7] 41)).alloc (.cells #[.int .i64 x8, .int .i64 y8, .int .i64 e8] 41) = w23 at hb hx0 hx1 hx2 ⊢
  generalize hn : w22.heap.size = nu at hx0 hx1 hx2 ⊢
  have BXu_23 := Lib.hid hx0; clear hx0
  have BXv_23 := Lib.hid hx1; clear hx1
  have BXw_23 := Lib.hid hx2; clear hx2
  clear hn
  have HB23 := Lib.hid (bel_trans hb HB22.out); clear HB22
  have BXc_23 := Lib.hid (BXc_22.out.keep hb); clear BXc_22
  have BXp_23 := Lib.hid (BXp_22.out.keep hb); clear BXp_22
  have BXq_23 := Lib.hid (BXq_22.out.keep hb); clear BXq_22
  have BXs_23 := Lib.hid (BXs_22.out.keep hb); clear BXs_22
  have BXt_23 := Lib.hid (BXt_22.out.keep hb); clear BXt_22
  have BXf_23 := Lib.hid (BXf_22.out.keep hb); clear BXf_22
  have BXg_23 := Lib.hid (BXg_22.out.keep hb); clear BXg_22
  have BXh_23 := Lib.hid (BXh_22.out.keep hb); clear BXh_22
  have BXi_23 := Lib.hid (BXi_22.out.keep hb); clear BXi_22
  have BXj_23 := Lib.hid (BXj_22.out.keep hb); clear BXj_22
  have BXk_23 := Lib.hid (BXk_22.out.keep hb); clear BXk_22
  have BXl_23 := Lib.hid (BXl_22.out.keep hb); clear BXl_22
  have BXm_23 := Lib.hid (BXm_22.out.keep hb); clear BXm_22
  have BXn_23 := Lib.hid (BXn_22.out.keep hb); clear BXn_22
  have BXo_23 := Lib.hid (BXo_22.out.keep hb); clear BXo_22
  clear hb
  obtain ⟨r1, r2, seven, rf⟩ := gsfacts a7 b7 x7 y7 e7 x8 y8 e8
  have S0 := Lib.hid rf.s0; have S1 := Lib.hid rf.s1; have S2 := Lib.hid rf.back
  clear rf
  refine (S0.out _).mono ?_
  rintro e w24 ⟨rfl, hb⟩
  have HB24 := Lib.hid (bel_trans hb HB23.out); clear HB23
  have BXc_24 := Lib.hid (BXc_23.out.keep hb); clear BXc_23
  have BXp_24 := Lib.hid (BXp_23.out.keep hb); clear BXp_23
  have BXq_24 := Lib.hid (BXq_23.out.keep hb); clear BXq_23
  have BXs_24 := Lib.hid (BXs_23.out.keep hb); clear BXs_23
  have BXt_24 := Lib.hid (BXt_23.out.keep hb); clear BXt_23
  have BXf_24 := Lib.hid (BXf_23.out.keep hb); clear BXf_23
  have BXg_24 := Lib.hid (BXg_23.out.keep hb); clear BXg_23
  have BXh_24 := Lib.hid (BXh_23.out.keep hb); clear BXh_23
  have BXi_24 := Lib.hid (BXi_23.out.keep hb); clear BXi_23
  have BXj_24 := Lib.hid (BXj_23.out.keep hb); clear BXj_23
  have BXk_24 := Lib.hid (BXk_23.out.keep hb); clear BXk_23
  have BXl_24 := Lib.hid (BXl_23.out.keep hb); clear BXl_23
  have BXm_24 := Lib.hid (BXm_23.out.keep hb); clear BXm_23
  have BXn_24 := Lib.hid (BXn_23.out.keep hb); clear BXn_23
  have BXo_24 := Lib.hid (BXo_23.out.keep hb); clear BXo_23
  have BXu_24 := Lib.hid (BXu_23.out.keep hb); clear BXu_23
  have BXv_24 := Lib.hid (BXv_23.out.keep hb); clear BXv_23
  have BXw_24 := Lib.hid (BXw_23.out.keep hb); clear BXw_23
  clear hb
  obtain ⟨cc0, cc1, cc2⟩ := BXc_24.out
  obtain ⟨cp0, cp1, cp2, cp3⟩ := BXp_24.out
  obtain ⟨cq0, cq1, cq2, cq3⟩ := BXq_24.out
  obtain ⟨cs0, cs1, cs2, cs3⟩ := BXs_24.out
  obtain ⟨ct0, ct1, ct2, ct3⟩ := BXt_24.out
  obtain ⟨cf0, cf1, cf2⟩ := BXf_24.out
  obtain ⟨cg0, cg1, cg2, cg3⟩ := BXg_24.out
  obtain ⟨ch0, ch1, ch2, ch3⟩ := BXh_24.out
  obtain ⟨ci0, ci1, ci2, ci3⟩ := BXi_24.out
  obtain ⟨cj0, cj1, cj2, cj3⟩ := BXj_24.out
  obtain ⟨ck0, ck1, ck2, ck3⟩ := BXk_24.out
  obtain ⟨cl0, cl1, cl2⟩ := BXl_24.out
  obtain ⟨cm0, cm1, cm2, cm3⟩ := BXm_24.out
  obtain ⟨cn0, cn1, cn2, cn3⟩ := BXn_24.out
  obtain ⟨co0, co1, co2, co3⟩ := BXo_24.out
  obtain ⟨cu0, cu1, cu2⟩ := BXu_24.out
  obtain ⟨cv0, cv1, cv2, cv3⟩ := BXv_24.out
  obtain ⟨cw0, cw1, cw2, cw3⟩ := BXw_24.out
  go_wp2_with fail
  clear cc0 cc1 cc2
  clear cp0 cp1 cp2 cp3
  clear cq0 cq1 cq2 cq3
  clear cs0 cs1 cs2 cs3
  clear ct0 ct1 ct2 ct3
  clear cf0 cf1 cf2
  clear cg0 cg1 cg2 cg3
  clear ch0 ch1 ch2 ch3
  clear ci0 ci1 ci2 ci3
  clear cj0 cj1 cj2 cj3
  clear ck0 ck1 ck2 ck3
  clear cl0 cl1 cl2
  clear cm0 cm1 cm2 cm3
  clear cn0 cn1 cn2 cn3
  clear co0 co1 co2 co3
  clear cu0 cu1 cu2
  clear cv0 cv1 cv2 cv3
  clear cw0 cw1 cw2 cw3
  have hb : Below w24.heap.size w24 (w24.alloc (.cells #[.int .i64 r1, .int .i64 r2] 54)) := below_allocD _ _
  have hx0 := (Bc.new (r1) (r2) w24 54)
  generalize w24.alloc (.cells #[.int .i64 r1, .int .i64 r2] 54) = w25 at hb hx0 ⊢
  generalize hn : w24.heap.size = nx at hx0 ⊢
  have BXx_25 := Lib.hid hx0; clear hx0
  clear hn
  have HB25 := Lib.hid (bel_trans hb HB24.out); clear HB24
  have BXc_25 := Lib.hid (BXc_24.out.keep hb); clear BXc_24
  have BXp_25 := Lib.hid (BXp_24.out.keep hb); clear BXp_24
  have BXq_25 := Lib.hid (BXq_24.out.keep hb); clear BXq_24
  have BXs_25 := Lib.hid (BXs_24.out.keep hb); clear BXs_24
  have BXt_25 := Lib.hid (BXt_24.out.keep hb); clear BXt_24
  have BXf_25 := Lib.hid (BXf_24.out.keep hb); clear BXf_24
  have BXg_25 := Lib.hid (BXg_24.out.keep hb); clear BXg_24
  have BXh_25 := Lib.hid (BXh_24.out.keep hb); clear BXh_24
  have BXi_25 := Lib.hid (BXi_24.out.keep hb); clear BXi_24
  have BXj_25 := Lib.hid (BXj_24.out.keep hb); clear BXj_24
  have BXk_25 := Lib.hid (BXk_24.out.keep hb); clear BXk_24
  have BXl_25 := Lib.hid (BXl_24.out.keep hb); clear BXl_24
  have BXm_25 := Lib.hid (BXm_24.out.keep hb); clear BXm_24
  have BXn_25 := Lib.hid (BXn_24.out.keep hb); clear BXn_24
  have BXo_25 := Lib.hid (BXo_24.out.keep hb); clear BXo_24
  have BXu_25 := Lib.hid (BXu_24.out.keep hb); clear BXu_24
  have BXv_25 := Lib.hid (BXv_24.out.keep hb); clear BXv_24
  have BXw_25 := Lib.hid (BXw_24.out.keep hb); clear BXw_24
  clear hb
  refine (S1.out _).mono ?_
  rintro e w26 ⟨rfl, hb⟩
  have HB26 := Lib.hid (bel_trans hb HB25.out); clear HB25
  have BXc_26 := Lib.hid (BXc_25.out.keep hb); clear BXc_25
  have BXp_26 := Lib.hid (BXp_25.out.keep hb); clear BXp_25
  have BXq_26 := Lib.hid (BXq_25.out.keep hb); clear BXq_25
  have BXs_26 := Lib.hid (BXs_25.out.keep hb); clear BXs_25
  have BXt_26 := Lib.hid (BXt_25.out.keep hb); clear BXt_25
  have BXf_26 := Lib.hid (BXf_25.out.keep hb); clear BXf_25
  have BXg_26 := Lib.hid (BXg_25.out.keep hb); clear BXg_25
  have BXh_26 := Lib.hid (BXh_25.out.keep hb); clear BXh_25
  have BXi_26 := Lib.hid (BXi_25.out.keep hb); clear BXi_25
  have BXj_26 := Lib.hid (BXj_25.out.keep hb); clear BXj_25
  have BXk_26 := Lib.hid (BXk_25.out.keep hb); clear BXk_25
  have BXl_26 := Lib.hid (BXl_25.out.keep hb); clear BXl_25
  have BXm_26 := Lib.hid (BXm_25.out.keep hb); clear BXm_25
  have BXn_26 := Lib.hid (BXn_25.out.keep hb); clear BXn_25
  have BXo_26 := Lib.hid (BXo_25.out.keep hb); clear BXo_25
  have BXu_26 := Lib.hid (BXu_25.out.keep hb); clear BXu_25
  have BXv_26 := Lib.hid (BXv_25.out.keep hb); clear BXv_25
  have BXw_26 := Lib.hid (BXw_25.out.keep hb); clear BXw_25
  have BXx_26 := Lib.hid (BXx_25.out.keep hb); clear BXx_25
  clear hb
  clear S0 S1
  as_aux_lemma =>
  have hok : (ok != ok) = false := by cases ok <;> rfl
  have hone : (one != one) = false := by cases one <;> rfl
  have hthree : (three != three) = false := by cases three <;> rfl
  have hfive : (five != five) = false := by cases five <;> rfl
  have hli : (li != li) = false := by cases li <;> rfl
  have hseven : (seven != seven) = false := by cases seven <;> rfl
  obtain ⟨cc0, cc1, cc2⟩ := BXc_26.out
  obtain ⟨cp0, cp1, cp2, cp3⟩ := BXp_26.out
  obtain ⟨cq0, cq1, cq2, cq3⟩ := BXq_26.out
  obtain ⟨cs0, cs1, cs2, cs3⟩ := BXs_26.out
  obtain ⟨ct0, ct1, ct2, ct3⟩ := BXt_26.out
  obtain ⟨cf0, cf1, cf2⟩ := BXf_26.out
  obtain ⟨cg0, cg1, cg2, cg3⟩ := BXg_26.out
  obtain ⟨ch0, ch1, ch2, ch3⟩ := BXh_26.out
  obtain ⟨ci0, ci1, ci2, ci3⟩ := BXi_26.out
  obtain ⟨cj0, cj1, cj2, cj3⟩ := BXj_26.out
  obtain ⟨ck0, ck1, ck2, ck3⟩ := BXk_26.out
  obtain ⟨cl0, cl1, cl2⟩ := BXl_26.out
  obtain ⟨cm0, cm1, cm2, cm3⟩ := BXm_26.out
  obtain ⟨cn0, cn1, cn2, cn3⟩ := BXn_26.out
  obtain ⟨co0, co1, co2, co3⟩ := BXo_26.out
  obtain ⟨cu0, cu1, cu2⟩ := BXu_26.out
  obtain ⟨cv0, cv1, cv2, cv3⟩ := BXv_26.out
  obtain ⟨cw0, cw1, cw2, cw3⟩ := BXw_26.out
  obtain ⟨cx0, cx1, cx2⟩ := BXx_26.out
  go_upto_region 17 with fail
  clear cc0 cc1 cc2
  clear cp0 cp1 cp2 cp3
  clear cq0 cq1 cq2 cq3
  clear cs0 cs1 cs2 cs3
  clear ct0 ct1 ct2 ct3
  clear cf0 cf1 cf2
  clear cg0 cg1 cg2 cg3
  clear ch0 ch1 ch2 ch3
  clear ci0 ci1 ci2 ci3
  clear cj0 cj1 cj2 cj3
  clear ck0 ck1 ck2 ck3
  clear cl0 cl1 cl2
  clear cm0 cm1 cm2 cm3
  clear cn0 cn1 cn2 cn3
  clear co0 co1 co2 co3
  clear cu0 cu1 cu2
  clear cv0 cv1 cv2 cv3
  clear cw0 cw1 cw2 cw3
  clear cx0 cx1 cx2
  have hb : Below w26.heap.size w26 (w26.alloc (.cells #[.int .i64 r1, .int .i64 r2] 54)) := below_allocD _ _
  have hx0 := (Bc.new (r1) (r2) w26 54)
  generalize w26.alloc (.cells #[.int .i64 r1, .int .i64 r2] 54) = w27 at hb hx0 ⊢
  generalize hn : w26.heap.size = ny at hx0 ⊢
  have BXy_27 := Lib.hid hx0; clear hx0
  clear hn
  have HB27 := Lib.hid (bel_trans hb HB26.out); clear HB26
  have BXc_27 := Lib.hid (BXc_26.out.keep hb); clear BXc_26
  have BXp_27 := Lib.hid (BXp_26.out.keep hb); clear BXp_26
  have BXq_27 := Lib.hid (BXq_26.out.keep hb); clear BXq_26
  have BXs_27 := Lib.hid (BXs_26.out.keep hb); clear BXs_26
  have BXt_27 := Lib.hid (BXt_26.out.keep hb); clear BXt_26
  have BXf_27 := Lib.hid (BXf_26.out.keep hb); clear BXf_26
  have BXg_27 := Lib.hid (BXg_26.out.keep hb); clear BXg_26
  have BXh_27 := Lib.hid (BXh_26.out.keep hb); clear BXh_26
  have BXi_27 := Lib.hid (BXi_26.out.keep hb); clear BXi_26
  have BXj_27 := Lib.hid (BXj_26.out.keep hb); clear BXj_26
  have BXk_27 := Lib.hid (BXk_26.out.keep hb); clear BXk_26
  have BXl_27 := Lib.hid (BXl_26.out.keep hb); clear BXl_26
  have BXm_27 := Lib.hid (BXm_26.out.keep hb); clear BXm_26
  have BXn_27 := Lib.hid (BXn_26.out.keep hb); clear BXn_26
  have BXo_27 := Lib.hid (BXo_26.out.keep hb); clear BXo_26
  have BXu_27 := Lib.hid (BXu_26.out.keep hb); clear BXu_26
  have BXv_27 := Lib.hid (BXv_26.out.keep hb); clear BXv_26
  have BXw_27 := Lib.hid (BXw_26.out.keep hb); clear BXw_26
  have BXx_27 := Lib.hid (BXx_26.out.keep hb); clear BXx_26
  clear hb
  go_cut [212] from 151 to 211 (fun v wx => v = .bool false ∧ Below w27.heap.size w27 wx)
  case first =>
    as_aux_lemma =>
    have HBW := Lib.hid (Below.refl w27.heap.size w27)
    clear HY D5 D6 D7 C2 S2
    clear BXc_27
    clear BXp_27
    clear BXq_27
    clear BXl_27
    clear BXm_27
    clear BXn_27
    clear BXo_27
    clear BXu_27
    clear BXv_27
    clear BXw_27
    cases one
    · clear DI
      obtain ⟨cs0, cs1, cs2, cs3⟩ := BXs_27.out
      obtain ⟨ct0, ct1, ct2, ct3⟩ := BXt_27.out
      obtain ⟨cf0, cf1, cf2⟩ := BXf_27.out
      obtain ⟨cg0, cg1, cg2, cg3⟩ := BXg_27.out
      obtain ⟨ch0, ch1, ch2, ch3⟩ := BXh_27.out
      obtain ⟨ci0, ci1, ci2, ci3⟩ := BXi_27.out
      obtain ⟨cj0, cj1, cj2, cj3⟩ := BXj_27.out
      obtain ⟨ck0, ck1, ck2, ck3⟩ := BXk_27.out
      obtain ⟨cx0, cx1, cx2⟩ := BXx_27.out
      obtain ⟨cy0, cy1, cy2⟩ := BXy_27.out
      go_wp2_with fail
      clear cs0 cs1 cs2 cs3
      clear ct0 ct1 ct2 ct3
      clear cf0 cf1 cf2
      clear cg0 cg1 cg2 cg3
      clear ch0 ch1 ch2 ch3
      clear ci0 ci1 ci2 ci3
      clear cj0 cj1 cj2 cj3
      clear ck0 ck1 ck2 ck3
      clear cx0 cx1 cx2
      clear cy0 cy1 cy2
      refine (D4.out _).mono ?_
      rintro e w28 ⟨rfl, hb⟩
      have HBW' := Lib.hid (bel_trans hb HBW.out); clear HBW; have HBW := Lib.hid HBW'.out; clear HBW'
      have HB28 := Lib.hid (bel_trans hb HB27.out); clear HB27
      have BXs_28 := Lib.hid (BXs_27.out.keep hb); clear BXs_27
      have BXt_28 := Lib.hid (BXt_27.out.keep hb); clear BXt_27
      have BXf_28 := Lib.hid (BXf_27.out.keep hb); clear BXf_27
      have BXg_28 := Lib.hid (BXg_27.out.keep hb); clear BXg_27
      have BXh_28 := Lib.hid (BXh_27.out.keep hb); clear BXh_27
      have BXi_28 := Lib.hid (BXi_27.out.keep hb); clear BXi_27
      have BXj_28 := Lib.hid (BXj_27.out.keep hb); clear BXj_27
      have BXk_28 := Lib.hid (BXk_27.out.keep hb); clear BXk_27
      have BXx_28 := Lib.hid (BXx_27.out.keep hb); clear BXx_27
      have BXy_28 := Lib.hid (BXy_27.out.keep hb); clear BXy_27
      clear hb
      clear BXs_28
      clear BXt_28
      clear BXf_28
      clear BXg_28
      clear BXh_28
      clear BXi_28
      clear BXj_28
      clear BXk_28
      clear BXx_28
      clear BXy_28
      have hthree : (three != three) = false := by cases three <;> rfl
      go_wp2_with fail
      go_meet
      exact ⟨rfl, HBW.out⟩
    · have h3 := DI.out rfl
      subst h3
      clear DI
      obtain ⟨cs0, cs1, cs2, cs3⟩ := BXs_27.out
      obtain ⟨ct0, ct1, ct2, ct3⟩ := BXt_27.out
      obtain ⟨cf0, cf1, cf2⟩ := BXf_27.out
      obtain ⟨cg0, cg1, cg2, cg3⟩ := BXg_27.out
      obtain ⟨ch0, ch1, ch2, ch3⟩ := BXh_27.out
      obtain ⟨ci0, ci1, ci2, ci3⟩ := BXi_27.out
      obtain ⟨cj0, cj1, cj2, cj3⟩ := BXj_27.out
      obtain ⟨ck0, ck1, ck2, ck3⟩ := BXk_27.out
      obtain ⟨cx0, cx1, cx2⟩ := BXx_27.out
      obtain ⟨cy0, cy1, cy2⟩ := BXy_27.out
      go_wp2_with fail
      clear cs0 cs1 cs2 cs3
      clear ct0 ct1 ct2 ct3
      clear cf0 cf1 cf2
      clear cg0 cg1 cg2 cg3
      clear ch0 ch1 ch2 ch3
      clear ci0 ci1 ci2 ci3
      clear cj0 cj1 cj2 cj3
      clear ck0 ck1 ck2 ck3
      clear cx0 cx1 cx2
      clear cy0 cy1 cy2
      refine (D4.out _).mono ?_
      rintro e w28 ⟨rfl, hb⟩
      have HBW' := Lib.hid (bel_trans hb HBW.out); clear HBW; have HBW := Lib.hid HBW'.out; clear HBW'
      have HB28 := Lib.hid (bel_trans hb HB27.out); clear HB27
      have BXs_28 := Lib.hid (BXs_27.out.keep hb); clear BXs_27
      have BXt_28 := Lib.hid (BXt_27.out.keep hb); clear BXt_27
      have BXf_28 := Lib.hid (BXf_27.out.keep hb); clear BXf_27
      have BXg_28 := Lib.hid (BXg_27.out.keep hb); clear BXg_27
      have BXh_28 := Lib.hid (BXh_27.out.keep hb); clear BXh_27
      have BXi_28 := Lib.hid (BXi_27.out.keep hb); clear BXi_27
      have BXj_28 := Lib.hid (BXj_27.out.keep hb); clear BXj_27
      have BXk_28 := Lib.hid (BXk_27.out.keep hb); clear BXk_27
      have BXx_28 := Lib.hid (BXx_27.out.keep hb); clear BXx_27
      have BXy_28 := Lib.hid (BXy_27.out.keep hb); clear BXy_27
      clear hb
      clear BXs_28
      clear BXt_28
      clear BXf_28
      clear BXg_28
      clear BXh_28
      clear BXi_28
      clear BXj_28
      clear BXk_28
      clear BXx_28
      clear BXy_28
      go_wp2_with fail
      go_meet
      exact ⟨rfl, HBW.out⟩
  case rest =>
    as_aux_lemma =>
    obtain ⟨rfl, hb⟩ := hcut
    generalize wc = w28 at hb ⊢
    have HB28 := Lib.hid (bel_trans hb HB27.out); clear HB27
    have BXc_28 := Lib.hid (BXc_27.out.keep hb); clear BXc_27
    have BXp_28 := Lib.hid (BXp_27.out.keep hb); clear BXp_27
    have BXq_28 := Lib.hid (BXq_27.out.keep hb); clear BXq_27
    have BXs_28 := Lib.hid (BXs_27.out.keep hb); clear BXs_27
    have BXt_28 := Lib.hid (BXt_27.out.keep hb); clear BXt_27
    have BXf_28 := Lib.hid (BXf_27.out.keep hb); clear BXf_27
    have BXg_28 := Lib.hid (BXg_27.out.keep hb); clear BXg_27
    have BXh_28 := Lib.hid (BXh_27.out.keep hb); clear BXh_27
    have BXi_28 := Lib.hid (BXi_27.out.keep hb); clear BXi_27
    have BXj_28 := Lib.hid (BXj_27.out.keep hb); clear BXj_27
    have BXk_28 := Lib.hid (BXk_27.out.keep hb); clear BXk_27
    have BXl_28 := Lib.hid (BXl_27.out.keep hb); clear BXl_27
    have BXm_28 := Lib.hid (BXm_27.out.keep hb); clear BXm_27
    have BXn_28 := Lib.hid (BXn_27.out.keep hb); clear BXn_27
    have BXo_28 := Lib.hid (BXo_27.out.keep hb); clear BXo_27
    have BXu_28 := Lib.hid (BXu_27.out.keep hb); clear BXu_27
    have BXv_28 := Lib.hid (BXv_27.out.keep hb); clear BXv_27
    have BXw_28 := Lib.hid (BXw_27.out.keep hb); clear BXw_27
    have BXx_28 := Lib.hid (BXx_27.out.keep hb); clear BXx_27
    have BXy_28 := Lib.hid (BXy_27.out.keep hb); clear BXy_27
    clear hb
    clear D4
    obtain ⟨cc0, cc1, cc2⟩ := BXc_28.out
    obtain ⟨cp0, cp1, cp2, cp3⟩ := BXp_28.out
    obtain ⟨cq0, cq1, cq2, cq3⟩ := BXq_28.out
    obtain ⟨cs0, cs1, cs2, cs3⟩ := BXs_28.out
    obtain ⟨ct0, ct1, ct2, ct3⟩ := BXt_28.out
    obtain ⟨cf0, cf1, cf2⟩ := BXf_28.out
    obtain ⟨cg0, cg1, cg2, cg3⟩ := BXg_28.out
    obtain ⟨ch0, ch1, ch2, ch3⟩ := BXh_28.out
    obtain ⟨ci0, ci1, ci2, ci3⟩ := BXi_28.out
    obtain ⟨cj0, cj1, cj2, cj3⟩ := BXj_28.out
    obtain ⟨ck0, ck1, ck2, ck3⟩ := BXk_28.out
    obtain ⟨cl0, cl1, cl2⟩ := BXl_28.out
    obtain ⟨cm0, cm1, cm2, cm3⟩ := BXm_28.out
    obtain ⟨cn0, cn1, cn2, cn3⟩ := BXn_28.out
    obtain ⟨co0, co1, co2, co3⟩ := BXo_28.out
    obtain ⟨cu0, cu1, cu2⟩ := BXu_28.out
    obtain ⟨cv0, cv1, cv2, cv3⟩ := BXv_28.out
    obtain ⟨cw0, cw1, cw2, cw3⟩ := BXw_28.out
    obtain ⟨cx0, cx1, cx2⟩ := BXx_28.out
    obtain ⟨cy0, cy1, cy2⟩ := BXy_28.out
    go_upto_if 213 with fail
    clear cc0 cc1 cc2
    clear cp0 cp1 cp2 cp3
    clear cq0 cq1 cq2 cq3
    clear cs0 cs1 cs2 cs3
    clear ct0 ct1 ct2 ct3
    clear cf0 cf1 cf2
    clear cg0 cg1 cg2 cg3
    clear ch0 ch1 ch2 ch3
    clear ci0 ci1 ci2 ci3
    clear cj0 cj1 cj2 cj3
    clear ck0 ck1 ck2 ck3
    clear cl0 cl1 cl2
    clear cm0 cm1 cm2 cm3
    clear cn0 cn1 cn2 cn3
    clear co0 co1 co2 co3
    clear cu0 cu1 cu2
    clear cv0 cv1 cv2 cv3
    clear cw0 cw1 cw2 cw3
    clear cx0 cx1 cx2
    clear cy0 cy1 cy2
    go_cut [37, 38, 39, 40, 41, 42] from 214 to 275 (fun _ _ _ _ _ _ wx => Below w28.heap.size w28 wx)
    case first =>
      as_aux_lemma =>
      have HBW := Lib.hid (Below.refl w28.heap.size w28)
      clear hok hone hthree hfive hli hseven
      cases ok
      · clear HY
        clear BXc_28
        clear BXp_28
        clear BXq_28
        clear BXs_28
        clear BXt_28
        clear BXf_28
        clear BXg_28
        clear BXh_28
        clear BXi_28
        clear BXj_28
        clear BXk_28
        clear BXl_28
        clear BXm_28
        clear BXn_28
        clear BXo_28
        clear BXu_28
        clear BXv_28
        clear BXw_28
        clear BXx_28
        clear BXy_28
        go_wp2_with fail
        go_meet
        exact HBW.out
      · skip
        have R := HY.out rfl
        have F0 := Lib.hid R.oth; have F1 := Lib.hid R.isP; have F2 := Lib.hid R.back; have F3 := Lib.hid R.col
        have q0 := R.b0; have q1 := R.b1; have q2 := R.b2; have q3 := R.b3
        clear R HY D5 D6 D7 DI C2 S2
        clear BXf_28
        clear BXg_28
        clear BXh_28
        clear BXi_28
        clear BXj_28
        clear BXk_28
        clear BXl_28
        clear BXm_28
        clear BXn_28
        clear BXo_28
        clear BXu_28
        clear BXv_28
        clear BXw_28
        clear BXx_28
        clear BXy_28
        obtain ⟨cc0, cc1, cc2⟩ := BXc_28.out
        obtain ⟨cp0, cp1, cp2, cp3⟩ := BXp_28.out
        obtain ⟨cq0, cq1, cq2, cq3⟩ := BXq_28.out
        obtain ⟨cs0, cs1, cs2, cs3⟩ := BXs_28.out
        obtain ⟨ct0, ct1, ct2, ct3⟩ := BXt_28.out
        go_wp2_with fail
        clear cc0 cc1 cc2
        clear cp0 cp1 cp2 cp3
        clear cq0 cq1 cq2 cq3
        clear cs0 cs1 cs2 cs3
        clear ct0 ct1 ct2 ct3
        refine (F0.out _).mono ?_
        rintro e w29 ⟨rfl, hb⟩
        have HBW' := Lib.hid (bel_trans hb HBW.out); clear HBW; have HBW := Lib.hid HBW'.out; clear HBW'
        have HB29 := Lib.hid (bel_trans hb HB28.out); clear HB28
        have BXc_29 := Lib.hid (BXc_28.out.keep hb); clear BXc_28
        have BXp_29 := Lib.hid (BXp_28.out.keep hb); clear BXp_28
        have BXq_29 := Lib.hid (BXq_28.out.keep hb); clear BXq_28
        have BXs_29 := Lib.hid (BXs_28.out.keep hb); clear BXs_28
        have BXt_29 := Lib.hid (BXt_28.out.keep hb); clear BXt_28
        clear hb
        obtain ⟨cc0, cc1, cc2⟩ := BXc_29.out
        obtain ⟨cp0, cp1, cp2, cp3⟩ := BXp_29.out
        obtain ⟨cq0, cq1, cq2, cq3⟩ := BXq_29.out
        obtain ⟨cs0, cs1, cs2, cs3⟩ := BXs_29.out
        obtain ⟨ct0, ct1, ct2, ct3⟩ := BXt_29.out
        go_wp2_with fail
        clear cc0 cc1 cc2
        clear cp0 cp1 cp2 cp3
        clear cq0 cq1 cq2 cq3
        clear cs0 cs1 cs2 cs3
        clear ct0 ct1 ct2 ct3
        have hb : Below w29.heap.size w29 (w29.alloc (.cells #[.int .i64 s1, .int .i64 s2, .int .i64 s3] 41)) := below_allocD _ _
        have hx0 := (Bp.new (s1) (s2) (s3) w29 41)
        generalize w29.alloc (.cells #[.int .i64 s1, .int .i64 s2, .int .i64 s3] 41) = w30 at hb hx0 ⊢
        generalize hn : w29.heap.size = nz at hx0 ⊢
        have BXz_30 := Lib.hid hx0; clear hx0
        clear hn
        have HBW' := Lib.hid (bel_trans hb HBW.out); clear HBW; have HBW := Lib.hid HBW'.out; clear HBW'
        have HB30 := Lib.hid (bel_trans hb HB29.out); clear HB29
        have BXc_30 := Lib.hid (BXc_29.out.keep hb); clear BXc_29
        have BXp_30 := Lib.hid (BXp_29.out.keep hb); clear BXp_29
        have BXq_30 := Lib.hid (BXq_29.out.keep hb); clear BXq_29
        have BXs_30 := Lib.hid (BXs_29.out.keep hb); clear BXs_29
        have BXt_30 := Lib.hid (BXt_29.out.keep hb); clear BXt_29
        clear hb
        refine (F1.out _).mono ?_
        rintro e w31 ⟨rfl, hb⟩
        have HBW' := Lib.hid (bel_trans hb HBW.out); clear HBW; have HBW := Lib.hid HBW'.out; clear HBW'
        have HB31 := Lib.hid (bel_trans hb HB30.out); clear HB30
        have BXc_31 := Lib.hid (BXc_30.out.keep hb); clear BXc_30
        have BXp_31 := Lib.hid (BXp_30.out.keep hb); clear BXp_30
        have BXq_31 := Lib.hid (BXq_30.out.keep hb); clear BXq_30
        have BXs_31 := Lib.hid (BXs_30.out.keep hb); clear BXs_30
        have BXt_31 := Lib.hid (BXt_30.out.keep hb); clear BXt_30
        have BXz_31 := Lib.hid (BXz_30.out.keep hb); clear BXz_30
        clear hb
        obtain ⟨cc0, cc1, cc2⟩ := BXc_31.out
        obtain ⟨cp0, cp1, cp2, cp3⟩ := BXp_31.out
        obtain ⟨cq0, cq1, cq2, cq3⟩ := BXq_31.out
        obtain ⟨cs0, cs1, cs2, cs3⟩ := BXs_31.out
        obtain ⟨ct0, ct1, ct2, ct3⟩ := BXt_31.out
        obtain ⟨cz0, cz1, cz2, cz3⟩ := BXz_31.out
        go_wp2_with fail
        clear cc0 cc1 cc2
        clear cp0 cp1 cp2 cp3
        clear cq0 cq1 cq2 cq3
        clear cs0 cs1 cs2 cs3
        clear ct0 ct1 ct2 ct3
        clear cz0 cz1 cz2 cz3
        refine (F2.out _).mono ?_
        rintro e w32 ⟨rfl, hb⟩
        have HBW' := Lib.hid (bel_trans hb HBW.out); clear HBW; have HBW := Lib.hid HBW'.out; clear HBW'
        have HB32 := Lib.hid (bel_trans hb HB31.out); clear HB31
        have BXc_32 := Lib.hid (BXc_31.out.keep hb); clear BXc_31
        have BXp_32 := Lib.hid (BXp_31.out.keep hb); clear BXp_31
        have BXq_32 := Lib.hid (BXq_31.out.keep hb); clear BXq_31
        have BXs_32 := Lib.hid (BXs_31.out.keep hb); clear BXs_31
        have BXt_32 := Lib.hid (BXt_31.out.keep hb); clear BXt_31
        have BXz_32 := Lib.hid (BXz_31.out.keep hb); clear BXz_31
        clear hb
        obtain ⟨cc0, cc1, cc2⟩ := BXc_32.out
        obtain ⟨cp0, cp1, cp2, cp3⟩ := BXp_32.out
        obtain ⟨cq0, cq1, cq2, cq3⟩ := BXq_32.out
        obtain ⟨cs0, cs1, cs2, cs3⟩ := BXs_32.out
        obtain ⟨ct0, ct1, ct2, ct3⟩ := BXt_32.out
        obtain ⟨cz0, cz1, cz2, cz3⟩ := BXz_32.out
        go_wp2_with fail
        clear cc0 cc1 cc2
        clear cp0 cp1 cp2 cp3
        clear cq0 cq1 cq2 cq3
        clear cs0 cs1 cs2 cs3
        clear ct0 ct1 ct2 ct3
        clear cz0 cz1 cz2 cz3
        have hb : Below w32.heap.size w32 (w32.alloc (.cells #[.int .i64 x, .int .i64 y, .int .i64 ee] 41)) := below_allocD _ _
        have hx0 := (Bp.new (x) (y) (ee) w32 41)
        generalize w32.alloc (.cells #[.int .i64 x, .int .i64 y, .int .i64 ee] 41) = w33 at hb hx0 ⊢
        generalize hn : w32.heap.size = nz2 at hx0 ⊢
        have BXz2_33 := Lib.hid hx0; clear hx0
        clear hn
        have HBW' := Lib.hid (bel_trans hb HBW.out); clear HBW; have HBW := Lib.hid HBW'.out; clear HBW'
        have HB33 := Lib.hid (bel_trans hb HB32.out); clear HB32
        have BXc_33 := Lib.hid (BXc_32.out.keep hb); clear BXc_32
        have BXp_33 := Lib.hid (BXp_32.out.keep hb); clear BXp_32
        have BXq_33 := Lib.hid (BXq_32.out.keep hb); clear BXq_32
        have BXs_33 := Lib.hid (BXs_32.out.keep hb); clear BXs_32
        have BXt_33 := Lib.hid (BXt_32.out.keep hb); clear BXt_32
        have BXz_33 := Lib.hid (BXz_32.out.keep hb); clear BXz_32
        clear hb
        refine (F3.out _).mono ?_
        rintro e w34 ⟨rfl, hb⟩
        have HBW' := Lib.hid (bel_trans hb HBW.out); clear HBW; have HBW := Lib.hid HBW'.out; clear HBW'
        have HB34 := Lib.hid (bel_trans hb HB33.out); clear HB33
        have BXc_34 := Lib.hid (BXc_33.out.keep hb); clear BXc_33
        have BXp_34 := Lib.hid (BXp_33.out.keep hb); clear BXp_33
        have BXq_34 := Lib.hid (BXq_33.out.keep hb); clear BXq_33
        have BXs_34 := Lib.hid (BXs_33.out.keep hb); clear BXs_33
        have BXt_34 := Lib.hid (BXt_33.out.keep hb); clear BXt_33
        have BXz_34 := Lib.hid (BXz_33.out.keep hb); clear BXz_33
        have BXz2_34 := Lib.hid (BXz2_33.out.keep hb); clear BXz2_33
        clear hb
        obtain ⟨cc0, cc1, cc2⟩ := BXc_34.out
        obtain ⟨cp0, cp1, cp2, cp3⟩ := BXp_34.out
        obtain ⟨cq0, cq1, cq2, cq3⟩ := BXq_34.out
        obtain ⟨cs0, cs1, cs2, cs3⟩ := BXs_34.out
        obtain ⟨ct0, ct1, ct2, ct3⟩ := BXt_34.out
        obtain ⟨cz0, cz1, cz2, cz3⟩ := BXz_34.out
        obtain ⟨cz20, cz21, cz22, cz23⟩ := BXz2_34.out
        go_wp2_with fail
        clear cc0 cc1 cc2
        clear cp0 cp1 cp2 cp3
        clear cq0 cq1 cq2 cq3
        clear cs0 cs1 cs2 cs3
        clear ct0 ct1 ct2 ct3
        clear cz0 cz1 cz2 cz3
        clear cz20 cz21 cz22 cz23
        go_meet
        exact HBW.out
    case rest =>
      as_aux_lemma =>
      have hb := hcut; clear hcut
      generalize wc = w29 at hb ⊢
      have HB29 := Lib.hid (bel_trans hb HB28.out); clear HB28
      have BXc_29 := Lib.hid (BXc_28.out.keep hb); clear BXc_28
      have BXp_29 := Lib.hid (BXp_28.out.keep hb); clear BXp_28
      have BXq_29 := Lib.hid (BXq_28.out.keep hb); clear BXq_28
      have BXs_29 := Lib.hid (BXs_28.out.keep hb); clear BXs_28
      have BXt_29 := Lib.hid (BXt_28.out.keep hb); clear BXt_28
      have BXf_29 := Lib.hid (BXf_28.out.keep hb); clear BXf_28
      have BXg_29 := Lib.hid (BXg_28.out.keep hb); clear BXg_28
      have BXh_29 := Lib.hid (BXh_28.out.keep hb); clear BXh_28
      have BXi_29 := Lib.hid (BXi_28.out.keep hb); clear BXi_28
      have BXj_29 := Lib.hid (BXj_28.out.keep hb); clear BXj_28
      have BXk_29 := Lib.hid (BXk_28.out.keep hb); clear BXk_28
      have BXl_29 := Lib.hid (BXl_28.out.keep hb); clear BXl_28
      have BXm_29 := Lib.hid (BXm_28.out.keep hb); clear BXm_28
      have BXn_29 := Lib.hid (BXn_28.out.keep hb); clear BXn_28
      have BXo_29 := Lib.hid (BXo_28.out.keep hb); clear BXo_28
      have BXu_29 := Lib.hid (BXu_28.out.keep hb); clear BXu_28
      have BXv_29 := Lib.hid (BXv_28.out.keep hb); clear BXv_28
      have BXw_29 := Lib.hid (BXw_28.out.keep hb); clear BXw_28
      have BXx_29 := Lib.hid (BXx_28.out.keep hb); clear BXx_28
      have BXy_29 := Lib.hid (BXy_28.out.keep hb); clear BXy_28
      clear hb
      clear HY hok hone hthree hfive hli hseven
      clear BXc_29
      clear BXp_29
      clear BXq_29
      clear BXs_29
      clear BXt_29
      clear BXk_29
      obtain ⟨cf0, cf1, cf2⟩ := BXf_29.out
      obtain ⟨cg0, cg1, cg2, cg3⟩ := BXg_29.out
      obtain ⟨ch0, ch1, ch2, ch3⟩ := BXh_29.out
      obtain ⟨ci0, ci1, ci2, ci3⟩ := BXi_29.out
      obtain ⟨cj0, cj1, cj2, cj3⟩ := BXj_29.out
      obtain ⟨cl0, cl1, cl2⟩ := BXl_29.out
      obtain ⟨cm0, cm1, cm2, cm3⟩ := BXm_29.out
      obtain ⟨cn0, cn1, cn2, cn3⟩ := BXn_29.out
      obtain ⟨co0, co1, co2, co3⟩ := BXo_29.out
      obtain ⟨cu0, cu1, cu2⟩ := BXu_29.out
      obtain ⟨cv0, cv1, cv2, cv3⟩ := BXv_29.out
      obtain ⟨cw0, cw1, cw2, cw3⟩ := BXw_29.out
      obtain ⟨cx0, cx1, cx2⟩ := BXx_29.out
      obtain ⟨cy0, cy1, cy2⟩ := BXy_29.out
      go_upto_if 276 with fail
      clear cf0 cf1 cf2
      clear cg0 cg1 cg2 cg3
      clear ch0 ch1 ch2 ch3
      clear ci0 ci1 ci2 ci3
      clear cj0 cj1 cj2 cj3
      clear cl0 cl1 cl2
      clear cm0 cm1 cm2 cm3
      clear cn0 cn1 cn2 cn3
      clear co0 co1 co2 co3
      clear cu0 cu1 cu2
      clear cv0 cv1 cv2 cv3
      clear cw0 cw1 cw2 cw3
      clear cx0 cx1 cx2
      clear cy0 cy1 cy2
      go_cut [43, 44, 45, 46, 47, 48] from 277 to 323 (fun _ _ _ _ _ _ wx => Below w29.heap.size w29 wx)
      case first =>
        as_aux_lemma =>
        have HBW := Lib.hid (Below.refl w29.heap.size w29)
        cases three
        · clear D5 D6 D7 DI C2 S2
          clear BXf_29
          clear BXg_29
          clear BXh_29
          clear BXi_29
          clear BXj_29
          clear BXl_29
          clear BXm_29
          clear BXn_29
          clear BXo_29
          clear BXu_29
          clear BXv_29
          clear BXw_29
          clear BXx_29
          clear BXy_29
          go_wp2_with fail
          go_meet
          exact HBW.out
        · skip
          have F5 := Lib.hid (D5.out rfl); have F6 := Lib.hid (D6.out rfl)
          clear D5 D6 DI C2 S2
          have hone : (one != one) = false := by cases one <;> rfl
          clear BXh_29
          clear BXl_29
          clear BXm_29
          clear BXn_29
          clear BXo_29
          clear BXu_29
          clear BXv_29
          clear BXw_29
          clear BXx_29
          clear BXy_29
          obtain ⟨cf0, cf1, cf2⟩ := BXf_29.out
          obtain ⟨cg0, cg1, cg2, cg3⟩ := BXg_29.out
          obtain ⟨ci0, ci1, ci2, ci3⟩ := BXi_29.out
          obtain ⟨cj0, cj1, cj2, cj3⟩ := BXj_29.out
          go_wp2_with fail
          clear cf0 cf1 cf2
          clear cg0 cg1 cg2 cg3
          clear ci0 ci1 ci2 ci3
          clear cj0 cj1 cj2 cj3
          refine (F5.out _).mono ?_
          rintro e w30 ⟨rfl, hb⟩
          have HBW' := Lib.hid (bel_trans hb HBW.out); clear HBW; have HBW := Lib.hid HBW'.out; clear HBW'
          have HB30 := Lib.hid (bel_trans hb HB29.out); clear HB29
          have BXf_30 := Lib.hid (BXf_29.out.keep hb); clear BXf_29
          have BXg_30 := Lib.hid (BXg_29.out.keep hb); clear BXg_29
          have BXi_30 := Lib.hid (BXi_29.out.keep hb); clear BXi_29
          have BXj_30 := Lib.hid (BXj_29.out.keep hb); clear BXj_29
          clear hb
          obtain ⟨cf0, cf1, cf2⟩ := BXf_30.out
          obtain ⟨cg0, cg1, cg2, cg3⟩ := BXg_30.out
          obtain ⟨ci0, ci1, ci2, ci3⟩ := BXi_30.out
          obtain ⟨cj0, cj1, cj2, cj3⟩ := BXj_30.out
          go_wp2_with fail
          clear cf0 cf1 cf2
          clear cg0 cg1 cg2 cg3
          clear ci0 ci1 ci2 ci3
          clear cj0 cj1 cj2 cj3
          have hb : Below w30.heap.size w30 (w30.alloc (.cells #[.int .i64 0, .int .i64 0, .int .i64 0] 41)) := below_allocD _ _
          have hx0 := (Bp.new (0) (0) (0) w30 41)
          generalize w30.alloc (.cells #[.int .i64 0, .int .i64 0, .int .i64 0] 41) = w31 at hb hx0 ⊢
          generalize hn : w30.heap.size = nz3 at hx0 ⊢
          have BXz3_31 := Lib.hid hx0; clear hx0
          clear hn
          have HBW' := Lib.hid (bel_trans hb HBW.out); clear HBW; have HBW := Lib.hid HBW'.out; clear HBW'
          have HB31 := Lib.hid (bel_trans hb HB30.out); clear HB30
          have BXf_31 := Lib.hid (BXf_30.out.keep hb); clear BXf_30
          have BXg_31 := Lib.hid (BXg_30.out.keep hb); clear BXg_30
          have BXi_31 := Lib.hid (BXi_30.out.keep hb); clear BXi_30
          have BXj_31 := Lib.hid (BXj_30.out.keep hb); clear BXj_30
          clear hb
          refine (F6.out _).mono ?_
          rintro e w32 ⟨rfl, hb⟩
          have HBW' := Lib.hid (bel_trans hb HBW.out); clear HBW; have HBW := Lib.hid HBW'.out; clear HBW'
          have HB32 := Lib.hid (bel_trans hb HB31.out); clear HB31
          have BXf_32 := Lib.hid (BXf_31.out.keep hb); clear BXf_31
          have BXg_32 := Lib.hid (BXg_31.out.keep hb); clear BXg_31
          have BXi_32 := Lib.hid (BXi_31.out.keep hb); clear BXi_31
          have BXj_32 := Lib.hid (BXj_31.out.keep hb); clear BXj_31
          have BXz3_32 := Lib.hid (BXz3_31.out.keep hb); clear BXz3_31
          clear hb
          obtain ⟨cf0, cf1, cf2⟩ := BXf_32.out
          obtain ⟨cg0, cg1, cg2, cg3⟩ := BXg_32.out
          obtain ⟨ci0, ci1, ci2, ci3⟩ := BXi_32.out
          obtain ⟨cj0, cj1, cj2, cj3⟩ := BXj_32.out
          obtain ⟨cz30, cz31, cz32, cz33⟩ := BXz3_32.out
          go_wp2_with fail
          clear cf0 cf1 cf2
          clear cg0 cg1 cg2 cg3
          clear ci0 ci1 ci2 ci3
          clear cj0 cj1 cj2 cj3
          clear cz30 cz31 cz32 cz33
          have hb : Below w32.heap.size w32 (w32.alloc (.cells #[.int .i64 x3, .int .i64 y3, .int .i64 e3] 41)) := below_allocD _ _
          have hx0 := (Bp.new (x3) (y3) (e3) w32 41)
          generalize w32.alloc (.cells #[.int .i64 x3, .int .i64 y3, .int .i64 e3] 41) = w33 at hb hx0 ⊢
          generalize hn : w32.heap.size = nz4 at hx0 ⊢
          have BXz4_33 := Lib.hid hx0; clear hx0
          clear hn
          have HBW' := Lib.hid (bel_trans hb HBW.out); clear HBW; have HBW := Lib.hid HBW'.out; clear HBW'
          have HB33 := Lib.hid (bel_trans hb HB32.out); clear HB32
          have BXf_33 := Lib.hid (BXf_32.out.keep hb); clear BXf_32
          have BXg_33 := Lib.hid (BXg_32.out.keep hb); clear BXg_32
          have BXi_33 := Lib.hid (BXi_32.out.keep hb); clear BXi_32
          have BXj_33 := Lib.hid (BXj_32.out.keep hb); clear BXj_32
          have BXz3_33 := Lib.hid (BXz3_32.out.keep hb); clear BXz3_32
          clear hb
          refine (D7.out _).mono ?_
          rintro e w34 ⟨rfl, hb⟩
          have HBW' := Lib.hid (bel_trans hb HBW.out); clear HBW; have HBW := Lib.hid HBW'.out; clear HBW'
          have HB34 := Lib.hid (bel_trans hb HB33.out); clear HB33
          have BXf_34 := Lib.hid (BXf_33.out.keep hb); clear BXf_33
          have BXg_34 := Lib.hid (BXg_33.out.keep hb); clear BXg_33
          have BXi_34 := Lib.hid (BXi_33.out.keep hb); clear BXi_33
          have BXj_34 := Lib.hid (BXj_33.out.keep hb); clear BXj_33
          have BXz3_34 := Lib.hid (BXz3_33.out.keep hb); clear BXz3_33
          have BXz4_34 := Lib.hid (BXz4_33.out.keep hb); clear BXz4_33
          clear hb
          clear F5 F6 D7
          obtain ⟨cf0, cf1, cf2⟩ := BXf_34.out
          obtain ⟨cg0, cg1, cg2, cg3⟩ := BXg_34.out
          obtain ⟨ci0, ci1, ci2, ci3⟩ := BXi_34.out
          obtain ⟨cj0, cj1, cj2, cj3⟩ := BXj_34.out
          obtain ⟨cz30, cz31, cz32, cz33⟩ := BXz3_34.out
          obtain ⟨cz40, cz41, cz42, cz43⟩ := BXz4_34.out
          go_wp2_with fail
          clear cf0 cf1 cf2
          clear cg0 cg1 cg2 cg3
          clear ci0 ci1 ci2 ci3
          clear cj0 cj1 cj2 cj3
          clear cz30 cz31 cz32 cz33
          clear cz40 cz41 cz42 cz43
          go_meet
          exact bel_alloc (HBW.out) _
      case rest =>
        as_aux_lemma =>
        have hb := hcut; clear hcut
        generalize wc = w30 at hb ⊢
        have HB30 := Lib.hid (bel_trans hb HB29.out); clear HB29
        have BXf_30 := Lib.hid (BXf_29.out.keep hb); clear BXf_29
        have BXg_30 := Lib.hid (BXg_29.out.keep hb); clear BXg_29
        have BXh_30 := Lib.hid (BXh_29.out.keep hb); clear BXh_29
        have BXi_30 := Lib.hid (BXi_29.out.keep hb); clear BXi_29
        have BXj_30 := Lib.hid (BXj_29.out.keep hb); clear BXj_29
        have BXl_30 := Lib.hid (BXl_29.out.keep hb); clear BXl_29
        have BXm_30 := Lib.hid (BXm_29.out.keep hb); clear BXm_29
        have BXn_30 := Lib.hid (BXn_29.out.keep hb); clear BXn_29
        have BXo_30 := Lib.hid (BXo_29.out.keep hb); clear BXo_29
        have BXu_30 := Lib.hid (BXu_29.out.keep hb); clear BXu_29
        have BXv_30 := Lib.hid (BXv_29.out.keep hb); clear BXv_29
        have BXw_30 := Lib.hid (BXw_29.out.keep hb); clear BXw_29
        have BXx_30 := Lib.hid (BXx_29.out.keep hb); clear BXx_29
        have BXy_30 := Lib.hid (BXy_29.out.keep hb); clear BXy_29
        clear hb
        clear D5 D6 D7 DI
        clear BXf_30
        clear BXg_30
        clear BXh_30
        clear BXi_30
        clear BXj_30
        obtain ⟨cl0, cl1, cl2⟩ := BXl_30.out
        obtain ⟨cm0, cm1, cm2, cm3⟩ := BXm_30.out
        obtain ⟨cn0, cn1, cn2, cn3⟩ := BXn_30.out
        obtain ⟨co0, co1, co2, co3⟩ := BXo_30.out
        obtain ⟨cu0, cu1, cu2⟩ := BXu_30.out
        obtain ⟨cv0, cv1, cv2, cv3⟩ := BXv_30.out
        obtain ⟨cw0, cw1, cw2, cw3⟩ := BXw_30.out
        obtain ⟨cx0, cx1, cx2⟩ := BXx_30.out
        obtain ⟨cy0, cy1, cy2⟩ := BXy_30.out
        go_upto_region 35 with fail
        clear cl0 cl1 cl2
        clear cm0 cm1 cm2 cm3
        clear cn0 cn1 cn2 cn3
        clear co0 co1 co2 co3
        clear cu0 cu1 cu2
        clear cv0 cv1 cv2 cv3
        clear cw0 cw1 cw2 cw3
        clear cx0 cx1 cx2
        clear cy0 cy1 cy2
        go_cut [327] from 324 to 326 (fun v wx => ∃ fl : Bool, v = .bool fl ∧ fl = (five && li) ∧ Below w30.heap.size w30 wx)
        case first =>
          as_aux_lemma =>
          clear BXl_30
          clear BXm_30
          clear BXn_30
          clear BXo_30
          clear BXu_30
          clear BXv_30
          clear BXw_30
          clear BXx_30
          clear BXy_30
          clear C2 S2
          cases five
          · go_wp2_with fail
            go_meet
            exact ⟨_, rfl, rfl, Below.refl _ _⟩
          · go_wp2_with fail
            go_meet
            exact ⟨_, rfl, by cases li <;> rfl, Below.refl _ _⟩
        case rest =>
          as_aux_lemma =>
          obtain ⟨fl, rfl, hfl, hb⟩ := hcut
          generalize wc = w31 at hb ⊢
          have HB31 := Lib.hid (bel_trans hb HB30.out); clear HB30
          have BXl_31 := Lib.hid (BXl_30.out.keep hb); clear BXl_30
          have BXm_31 := Lib.hid (BXm_30.out.keep hb); clear BXm_30
          have BXn_31 := Lib.hid (BXn_30.out.keep hb); clear BXn_30
          have BXo_31 := Lib.hid (BXo_30.out.keep hb); clear BXo_30
          have BXu_31 := Lib.hid (BXu_30.out.keep hb); clear BXu_30
          have BXv_31 := Lib.hid (BXv_30.out.keep hb); clear BXv_30
          have BXw_31 := Lib.hid (BXw_30.out.keep hb); clear BXw_30
          have BXx_31 := Lib.hid (BXx_30.out.keep hb); clear BXx_30
          have BXy_31 := Lib.hid (BXy_30.out.keep hb); clear BXy_30
          clear hb
          have CT : fl = true → ∀ w, Calls Try.prog 28 #[.agg #[.int .i64 a4, .int .i64 b4], .agg #[.int .i64 x5, .int .i64 y5, .int .i64 e5], .agg #[.int .i64 x4, .int .i64 y4, .int .i64 e4], .agg #[.int .i64 x6, .int .i64 y6, .int .i64 e6]] w (Ret (.tuple #[.bool true, .bool true]) w) := fun h => by
            rw [hfl, Bool.and_eq_true] at h
            exact C2.out h.1 h.2
          have C3 := Lib.hid CT; clear CT hfl C2
          obtain ⟨cl0, cl1, cl2⟩ := BXl_31.out
          obtain ⟨cm0, cm1, cm2, cm3⟩ := BXm_31.out
          obtain ⟨cn0, cn1, cn2, cn3⟩ := BXn_31.out
          obtain ⟨co0, co1, co2, co3⟩ := BXo_31.out
          obtain ⟨cu0, cu1, cu2⟩ := BXu_31.out
          obtain ⟨cv0, cv1, cv2, cv3⟩ := BXv_31.out
          obtain ⟨cw0, cw1, cw2, cw3⟩ := BXw_31.out
          obtain ⟨cx0, cx1, cx2⟩ := BXx_31.out
          obtain ⟨cy0, cy1, cy2⟩ := BXy_31.out
          go_upto_if 327 with fail
          clear cl0 cl1 cl2
          clear cm0 cm1 cm2 cm3
          clear cn0 cn1 cn2 cn3
          clear co0 co1 co2 co3
          clear cu0 cu1 cu2
          clear cv0 cv1 cv2 cv3
          clear cw0 cw1 cw2 cw3
          clear cx0 cx1 cx2
          clear cy0 cy1 cy2
          go_cut [49, 50] from 328 to 341 (fun _ _ wx => Below w31.heap.size w31 wx)
          case first =>
            as_aux_lemma =>
            have HBW := Lib.hid (Below.refl w31.heap.size w31)
            cases fl
            · clear C3 S2
              clear BXl_31
              clear BXm_31
              clear BXn_31
              clear BXo_31
              clear BXu_31
              clear BXv_31
              clear BXw_31
              clear BXx_31
              clear BXy_31
              go_wp2_with fail
              go_meet
              exact HBW.out
            · skip
              have F8 := Lib.hid (C3.out rfl)
              clear C3 S2
              clear BXu_31
              clear BXv_31
              clear BXw_31
              clear BXx_31
              clear BXy_31
              obtain ⟨cl0, cl1, cl2⟩ := BXl_31.out
              obtain ⟨cm0, cm1, cm2, cm3⟩ := BXm_31.out
              obtain ⟨cn0, cn1, cn2, cn3⟩ := BXn_31.out
              obtain ⟨co0, co1, co2, co3⟩ := BXo_31.out
              go_wp2_with fail
              clear cl0 cl1 cl2
              clear cm0 cm1 cm2 cm3
              clear cn0 cn1 cn2 cn3
              clear co0 co1 co2 co3
              refine (F8.out _).mono ?_
              rintro e w32 ⟨rfl, hb⟩
              have HBW' := Lib.hid (bel_trans hb HBW.out); clear HBW; have HBW := Lib.hid HBW'.out; clear HBW'
              have HB32 := Lib.hid (bel_trans hb HB31.out); clear HB31
              have BXl_32 := Lib.hid (BXl_31.out.keep hb); clear BXl_31
              have BXm_32 := Lib.hid (BXm_31.out.keep hb); clear BXm_31
              have BXn_32 := Lib.hid (BXn_31.out.keep hb); clear BXn_31
              have BXo_32 := Lib.hid (BXo_31.out.keep hb); clear BXo_31
              clear hb
              obtain ⟨cl0, cl1, cl2⟩ := BXl_32.out
              obtain ⟨cm0, cm1, cm2, cm3⟩ := BXm_32.out
              obtain ⟨cn0, cn1, cn2, cn3⟩ := BXn_32.out
              obtain ⟨co0, co1, co2, co3⟩ := BXo_32.out
              go_wp2_with fail
              clear cl0 cl1 cl2
              clear cm0 cm1 cm2 cm3
              clear cn0 cn1 cn2 cn3
              clear co0 co1 co2 co3
              go_meet
              exact HBW.out
          case rest =>
            as_aux_lemma =>
            have hb := hcut; clear hcut
            generalize wc = w32 at hb ⊢
            have HB32 := Lib.hid (bel_trans hb HB31.out); clear HB31
            have BXl_32 := Lib.hid (BXl_31.out.keep hb); clear BXl_31
            have BXm_32 := Lib.hid (BXm_31.out.keep hb); clear BXm_31
            have BXn_32 := Lib.hid (BXn_31.out.keep hb); clear BXn_31
            have BXo_32 := Lib.hid (BXo_31.out.keep hb); clear BXo_31
            have BXu_32 := Lib.hid (BXu_31.out.keep hb); clear BXu_31
            have BXv_32 := Lib.hid (BXv_31.out.keep hb); clear BXv_31
            have BXw_32 := Lib.hid (BXw_31.out.keep hb); clear BXw_31
            have BXx_32 := Lib.hid (BXx_31.out.keep hb); clear BXx_31
            have BXy_32 := Lib.hid (BXy_31.out.keep hb); clear BXy_31
            clear hb
            clear C3
            clear BXl_32
            clear BXm_32
            clear BXn_32
            clear BXo_32
            cases seven
            · clear S2
              clear BXu_32
              clear BXv_32
              clear BXw_32
              clear BXx_32
              clear BXy_32
              go_wp2_with fail
              go_ret
              exact ret_eq (by rfl) HB32.out
            · skip
              obtain ⟨cu0, cu1, cu2⟩ := BXu_32.out
              obtain ⟨cv0, cv1, cv2, cv3⟩ := BXv_32.out
              obtain ⟨cw0, cw1, cw2, cw3⟩ := BXw_32.out
              obtain ⟨cx0, cx1, cx2⟩ := BXx_32.out
              obtain ⟨cy0, cy1, cy2⟩ := BXy_32.out
              go_wp2_with fail
              clear cu0 cu1 cu2
              clear cv0 cv1 cv2 cv3
              clear cw0 cw1 cw2 cw3
              clear cx0 cx1 cx2
              clear cy0 cy1 cy2
              refine (S2.out _).mono ?_
              rintro e w33 ⟨rfl, hb⟩
              have HB33 := Lib.hid (bel_trans hb HB32.out); clear HB32
              have BXu_33 := Lib.hid (BXu_32.out.keep hb); clear BXu_32
              have BXv_33 := Lib.hid (BXv_32.out.keep hb); clear BXv_32
              have BXw_33 := Lib.hid (BXw_32.out.keep hb); clear BXw_32
              have BXx_33 := Lib.hid (BXx_32.out.keep hb); clear BXx_32
              have BXy_33 := Lib.hid (BXy_32.out.keep hb); clear BXy_32
              clear hb
              clear S2
              obtain ⟨cu0, cu1, cu2⟩ := BXu_33.out
              obtain ⟨cv0, cv1, cv2, cv3⟩ := BXv_33.out
              obtain ⟨cw0, cw1, cw2, cw3⟩ := BXw_33.out
              obtain ⟨cx0, cx1, cx2⟩ := BXx_33.out
              obtain ⟨cy0, cy1, cy2⟩ := BXy_33.out
              go_wp2_with fail
              clear cu0 cu1 cu2
              clear cv0 cv1 cv2 cv3
              clear cw0 cw1 cw2 cw3
              clear cx0 cx1 cx2
              clear cy0 cy1 cy2
              go_ret
              exact ret_eq (by rfl) (bel_alloc HB33.out _)
end Go.Proofs.Ytnhlcgbknkdbiaa.fnGroupLaw
namespace Go.Proofs.Ytnhlcgbknkdbiaa.fnGroupLaw
open Go.ChangeShapes Go.WideShapes Go.ChangeAt Go.RowKit Go.Joins
open Go.ChangeMaps (open_string shut_string)
set_option linter.unusedVariables false
theorem own : ownKnob Try.prog.godebug = none := by kernel_rfl
theorem laidOut : laidOutB Try.prog = true := by kernel_rfl
set_option maxRecDepth 100000 in
theorem lifted (os : Os) (started : os.Started) (H : Type) (enc : TypeId × Value → H) :
    ReturnsInHanded {} Try.checked os 4 .any (Rows.fnGroupLawSpec.pre6 enc Try.prog Try.f4 Rows.fnGroupLawRow.domain false) (Rows.fnGroupLawSpec.post enc Try.prog Try.f4 false true false false) := by
  refine returnsInHanded_of_change_sized (C := Try.checked) own started (by kernel_rfl) Try.func4
    (ChangeSpec.witness6 (enc := enc) (C := Try.checked) false ⟨#[], #[.slice none 0 0, .slice none 0 0], []⟩ 8 (by kernel_rfl) (by kernel_rfl) (by kernel_rfl) (by kernel_rfl)) ?_
  intro W base args ds gs before hval0 hW hcnd hsz0 _
  have hval : ∀ (j : Nat) t v, Try.f4.params[j]? = some t → args[j]? = some v → Value.okWide Try.prog W .any base t v := hval0
  have hsz : (DataW.weightsEach Try.prog (Try.f4.params.toList ++ Rows.fnGroupLawSpec.plain.varTypes Try.prog) (ds ++ gs)).all (· ≤ reachBytes) = true := hsz0
  have hW' := hW
  obtain ⟨p, q, hA0, hV, rfl, hfz, hnd⟩ := hW
  have hA : DataW.TrodAll enc Try.prog W 0 (fun _ => true) true Try.f4.params.toList args.toList ds p := hA0
  rw [Try.params4] at hA hval hsz
  obtain ⟨v0, vs0, d0, ds0, p0, q0, hargs, rfl, rfl, h0, r0⟩ := trodAll_cons hA
  obtain ⟨v1, vs1, d1, ds1, p1, q1, rfl, rfl, rfl, h1, r1⟩ := trodAll_cons r0
  obtain ⟨rfl, rfl, rfl⟩ := trodAll_nil r1
  obtain rfl : args = #[v0, v1] := by cases args; simp_all
  obtain ⟨rfl, rfl⟩ := trodVars_none hV
  have k0 := h0
  have lt0 : ∀ x ∈ p0, x.block < W.heap.size := by obtain ⟨m, hm⟩ := k0; exact DataW.trod_lt m _ _ _ hm
  have k1 := h1
  have lt1 : ∀ x ∈ p1, x.block < W.heap.size := by obtain ⟨m, hm⟩ := k1; exact DataW.trod_lt m _ _ _ hm
  obtain ⟨ad0, len0, cap0, rfl⟩ := okWide_slice Try.underlying22 (hval 0 22 v0 rfl rfl)
  obtain ⟨z0, w0, b0⟩ : ∃ zs, IsRow .u8 W ad0 len0 cap0 zs ∧ len0 ≤ 140737488355328 := by
    obtain ⟨fuel, hf⟩ := h0
    rcases open_ints Try.underlying22 Try.underlying5 (by kernel_rfl) hf with ⟨hcs, _⟩ | ⟨x, l, c, zs, hcs, _, hl, hm, hz, hd, hcell, hwz⟩
    · simp [Value.cells] at hcs; obtain ⟨rfl, rfl, rfl⟩ := hcs; exact ⟨[], .inl ⟨rfl, rfl, rfl, rfl⟩, by omega⟩
    · have hz' : zs.length = c := by simpa using hz
      have hs := sized_slice hsz (j := 0) (t := 22) (e := 5) rfl (by rw [(Prod.mk.inj hd).1]; rfl) Try.underlying22
      rw [show Try.prog.bytesOf 5 = 1 by kernel_rfl] at hs
      simp only [lits, List.length_map, List.length_take, List.length_drop, Nat.mul_one] at hs
      have hr := reachBytes_lt
      have h47 : (2 : Nat) ^ 47 = 140737488355328 := by decide
      have hlen : l ≤ 140737488355328 := by omega
      simp [Value.cells] at hcs; obtain ⟨rfl, rfl, rfl⟩ := hcs; exact ⟨zs, .inr ⟨_, rfl, hl, hm, hz', hcell, hwz⟩, hlen⟩
  obtain ⟨ad1, len1, cap1, rfl⟩ := okWide_slice Try.underlying22 (hval 1 22 v1 rfl rfl)
  obtain ⟨z1, w1, b1⟩ : ∃ zs, IsRow .u8 W ad1 len1 cap1 zs ∧ len1 ≤ 140737488355328 := by
    obtain ⟨fuel, hf⟩ := h1
    rcases open_ints Try.underlying22 Try.underlying5 (by kernel_rfl) hf with ⟨hcs, _⟩ | ⟨x, l, c, zs, hcs, _, hl, hm, hz, hd, hcell, hwz⟩
    · simp [Value.cells] at hcs; obtain ⟨rfl, rfl, rfl⟩ := hcs; exact ⟨[], .inl ⟨rfl, rfl, rfl, rfl⟩, by omega⟩
    · have hz' : zs.length = c := by simpa using hz
      have hs := sized_slice hsz (j := 1) (t := 22) (e := 5) rfl (by rw [(Prod.mk.inj hd).1]; rfl) Try.underlying22
      rw [show Try.prog.bytesOf 5 = 1 by kernel_rfl] at hs
      simp only [lits, List.length_map, List.length_take, List.length_drop, Nat.mul_one] at hs
      have hr := reachBytes_lt
      have h47 : (2 : Nat) ^ 47 = 140737488355328 := by decide
      have hlen : l ≤ 140737488355328 := by omega
      simp [Value.cells] at hcs; obtain ⟨rfl, rfl, rfl⟩ := hcs; exact ⟨zs, .inr ⟨_, rfl, hl, hm, hz', hcell, hwz⟩, hlen⟩
  clear hA0 hval0
  refine (walk ad0 len0 cap0 z0 ad1 len1 cap1 z1 W w0 w1 b0 b1).mono fun e W' ⟨he, bel⟩ => ?_
  subst he
  exact ⟨_, rfl, _, _, _, [], _, [], hW', trodAll_mk1 (shut_bool Try.underlying4 _), (trodAll_cons_mk (Below.trod laidOut (by kernel_rfl) (of_decide_eq_true (by kernel_rfl)) k0 bel lt0) (trodAll_cons_mk (Below.trod laidOut (by kernel_rfl) (of_decide_eq_true (by kernel_rfl)) k1 bel lt1) trodAll_mk0)), rfl, bel.frame _, fun h => by cases h⟩

theorem over : Rows.fnGroupLawRow.holds Try.pinned (OpenSpec.ofChange Rows.fnGroupLawSpec) :=
  OpenClaim.holds_of_wide 4 Try.f4 rfl rfl rfl rfl rfl rfl rfl ⟨rfl, rfl, rfl, rfl, rfl⟩ rfl rfl rfl rfl rfl (by kernel_rfl) Try.func4 (by kernel_rfl)
    (of_decide_eq_true (by kernel_rfl)) (by unfold Func.isWrapper; first | (rw [if_pos (by decide +kernel)]; kernel_rfl) | (rw [if_neg (by decide +kernel)]; exact ⟨rfl, rfl⟩))
    (fun os started H enc _ => lifted os started H enc)
theorem proved : Rows.FnGroupLawSaid := over
end Go.Proofs.Ytnhlcgbknkdbiaa.fnGroupLaw
