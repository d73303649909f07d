/- The walk of FnWholes. No conditions. -/
import Derived.Test.YtnhlcgbknkdbiaaYm
import Derived.Test.YtnhlcgbknkdbiaaYj
import Derived.Deep.Cut
import Derived.Deep.CutRange
namespace Go.Proofs.Ytnhlcgbknkdbiaa
open Go.RowKit
/-- a box of two values. -/
def Bv (n : Nat) (u0 u1 : Value) (w : World) : Prop := n < w.heap.size ∧ w.cell? ⟨n, 0, none⟩ = some u0 ∧ w.cell? ⟨n, 1, none⟩ = some u1
theorem Bv.new (u0 u1 : Value) (w : World) (t : TypeId) : Bv w.heap.size u0 u1 (w.alloc (.cells #[u0, u1] t)) := ⟨by simp, by simp [go_sem], by simp [go_sem]⟩
theorem Bv.keep {n : Nat} {u0 u1 : Value} {w w' : World} (h : Bv n u0 u1 w) (hb : Below w.heap.size w w') : Bv n u0 u1 w' :=
  ⟨Nat.lt_of_lt_of_le h.1 hb.size, (hb.cell (p := ⟨n, 0, none⟩) h.1).trans h.2.1, (hb.cell (p := ⟨n, 1, none⟩) h.1).trans h.2.2⟩
end Go.Proofs.Ytnhlcgbknkdbiaa
namespace Go.Proofs.Ytnhlcgbknkdbiaa.fnWholes
open Go.RowKit
set_option maxHeartbeats 16000000 in
set_option maxRecDepth 100000 in
theorem walk (ad0 : Option Addr) (len0 cap0 : Nat) (z0 : List Int) (ad1 : Option Addr) (len1 cap1 : Nat) (z1 : List Int) (w : World) (h0 : IsRow .u8 w ad0 len0 cap0 z0) (h1 : IsRow .u8 w ad1 len1 cap1 z1) :
    Calls Try.prog 3 #[.slice ad0 len0 cap0, .slice ad1 len1 cap1] w (Ret (.bool true) w) := by
  have HRow := Lib.hid h0; have HMore := Lib.hid h1; clear h0 h1
  by_cases hbig : 1048576 < len0 + len1
  · go_enter Try.func3, Try.ntmps3
    go_wp2_with fail
    have hb := big_any ad0 ad1 len0 len1 cap0 cap1 w
    rw [decide_eq_true hbig] at hb
    refine hb.mono ?_
    rintro e w1 ⟨rfl, hb1⟩
    go_wp2_with fail
    go_ret
    exact ret_eq (by rfl) hb1
  have hl0 : len0 ≤ 1048576 := by omega
  have hl1 : len1 ≤ 1048576 := by omega
  go_enter Try.func3, Try.ntmps3
  go_wp2_with fail
  have hb := big_any ad0 ad1 len0 len1 cap0 cap1 w
  rw [decide_eq_false hbig] at hb
  refine hb.mono ?_
  rintro e w1 ⟨rfl, hb1⟩
  clear hb hbig
  go_wp2_with fail
  refine (drawAddWholes_any _ _ _ _ _ (isRow_keepDb HRow.out hb1) hl0).mono ?_
  rintro e w2 ⟨v8, v9, ba, bb, xs, ys, rfl, hra, hrb, hxl, hyl, hb2⟩
  have HB2 := Lib.hid (bel_trans hb2 hb1); have HM2 := Lib.hid (isRow_keepDb (isRow_keepDb HMore.out hb1) hb2); have HL1 := Lib.hid hl1
  clear hb1 hb2 HRow HMore hl0 hl1
  obtain ⟨S, D, P, ok1, ok2, ok3, rf⟩ := wfacts (n := ba) (m := bb) hxl hyl
  have A0 := Lib.hid rf.a0; have A1 := Lib.hid rf.a1; have A2 := Lib.hid rf.s0; have A3 := Lib.hid rf.s1; have A4 := Lib.hid rf.p0; have A5 := Lib.hid rf.p1; have AY := Lib.hid rf.yes; have AO := Lib.hid rf.oth
  clear rf hxl hyl
  obtain ⟨ada, cca, hq, -⟩ := id hra
  generalize xs.length = la at hq
  subst hq
  obtain ⟨adb, ccb, hq, -⟩ := id hrb
  generalize ys.length = lb at hq
  subst hq
  have HVa_2 := Lib.hid hra; have HVb_2 := Lib.hid hrb; clear hra hrb
  go_wp2_with fail
  have hb : Below w2.heap.size w2 ((w2.alloc (.cells #[.bool ba, .slice ada la cca] 26)).alloc (.cells #[.bool bb, .slice adb lb ccb] 26)) := bel_alloc (below_allocD _ _) _
  have hx0 := ((Bv.new (.bool ba) (.slice ada la cca) w2 26).keep (below_allocD _ (.cells #[.bool bb, .slice adb lb ccb] 26)))
  have hx1 : Bv (w2.heap.size + 1) (.bool bb) (.slice adb lb ccb) ((w2.alloc (.cells #[.bool ba, .slice ada la cca] 26)).alloc (.cells #[.bool bb, .slice adb lb ccb] 26)) := by
    have := Bv.new (.bool bb) (.slice adb lb ccb) (w2.alloc (.cells #[.bool ba, .slice ada la cca] 26)) 26
    rw [show (w2.alloc (.cells #[.bool ba, .slice ada la cca] 26)).heap.size = w2.heap.size + 1 by simp] at this
    exact this
  generalize (w2.alloc (.cells #[.bool ba, .slice ada la cca] 26)).alloc (.cells #[.bool bb, .slice adb lb ccb] 26) = w3 at hb hx0 hx1 ⊢
  generalize hn : w2.heap.size = na at hx0 hx1 ⊢
  have BXa_3 := Lib.hid hx0; clear hx0
  have BXb_3 := Lib.hid hx1; clear hx1
  clear hn
  have HB3 := Lib.hid (bel_trans hb HB2.out); clear HB2
  have HM3 := Lib.hid (isRow_keepDb HM2.out hb); clear HM2
  have HVa_3 := Lib.hid (HVa_2.out.keep hb); clear HVa_2
  have HVb_3 := Lib.hid (HVb_2.out.keep hb); clear HVb_2
  clear hb
  refine (A0.out _ _ _ HVa_3.out HVb_3.out).mono ?_
  rintro e w4 ⟨v9, rfl, hb, hv⟩
  have HB4 := Lib.hid (bel_trans hb HB3.out); clear HB3
  have HM4 := Lib.hid (isRow_keepDb HM3.out hb); clear HM3
  have BXa_4 := Lib.hid (BXa_3.out.keep hb); clear BXa_3
  have BXb_4 := Lib.hid (BXb_3.out.keep hb); clear BXb_3
  have HVa_4 := Lib.hid (HVa_3.out.keep hb); clear HVa_3
  have HVb_4 := Lib.hid (HVb_3.out.keep hb); clear HVb_3
  clear hb
  obtain ⟨ads, ccs, hq, -⟩ := id hv
  generalize decide (S < 0) = bs at hq
  generalize (digs (S).natAbs).length = ls at hq
  subst hq
  have HVs_4 := Lib.hid hv; clear hv
  obtain ⟨ca0, ca1, ca2⟩ := BXa_4.out
  obtain ⟨cb0, cb1, cb2⟩ := BXb_4.out
  go_wp2_with fail
  clear ca0 ca1 ca2
  clear cb0 cb1 cb2
  have hb : Below w4.heap.size w4 (w4.alloc (.cells #[.bool bs, .slice ads ls ccs] 26)) := below_allocD _ _
  have hx0 := (Bv.new (.bool bs) (.slice ads ls ccs) w4 26)
  generalize w4.alloc (.cells #[.bool bs, .slice ads ls ccs] 26) = w5 at hb hx0 ⊢
  generalize hn : w4.heap.size = ns at hx0 ⊢
  have BXs_5 := Lib.hid hx0; clear hx0
  clear hn
  have HB5 := Lib.hid (bel_trans hb HB4.out); clear HB4
  have HM5 := Lib.hid (isRow_keepDb HM4.out hb); clear HM4
  have BXa_5 := Lib.hid (BXa_4.out.keep hb); clear BXa_4
  have BXb_5 := Lib.hid (BXb_4.out.keep hb); clear BXb_4
  have HVa_5 := Lib.hid (HVa_4.out.keep hb); clear HVa_4
  have HVb_5 := Lib.hid (HVb_4.out.keep hb); clear HVb_4
  have HVs_5 := Lib.hid (HVs_4.out.keep hb); clear HVs_4
  clear hb
  refine (A1.out _ _ _ HVa_5.out HVb_5.out).mono ?_
  rintro e w6 ⟨v9, rfl, hb, hv⟩
  have HB6 := Lib.hid (bel_trans hb HB5.out); clear HB5
  have HM6 := Lib.hid (isRow_keepDb HM5.out hb); clear HM5
  have BXa_6 := Lib.hid (BXa_5.out.keep hb); clear BXa_5
  have BXb_6 := Lib.hid (BXb_5.out.keep hb); clear BXb_5
  have BXs_6 := Lib.hid (BXs_5.out.keep hb); clear BXs_5
  have HVa_6 := Lib.hid (HVa_5.out.keep hb); clear HVa_5
  have HVb_6 := Lib.hid (HVb_5.out.keep hb); clear HVb_5
  have HVs_6 := Lib.hid (HVs_5.out.keep hb); clear HVs_5
  clear hb
  obtain ⟨adt, cct, hq, -⟩ := id hv
  generalize decide (S < 0) = bt at hq
  generalize (digs (S).natAbs).length = lt at hq
  subst hq
  have HVt_6 := Lib.hid hv; clear hv
  obtain ⟨ca0, ca1, ca2⟩ := BXa_6.out
  obtain ⟨cb0, cb1, cb2⟩ := BXb_6.out
  obtain ⟨cs0, cs1, cs2⟩ := BXs_6.out
  go_wp2_with fail
  clear ca0 ca1 ca2
  clear cb0 cb1 cb2
  clear cs0 cs1 cs2
  have hb : Below w6.heap.size w6 (w6.alloc (.cells #[.bool bt, .slice adt lt cct] 26)) := below_allocD _ _
  have hx0 := (Bv.new (.bool bt) (.slice adt lt cct) w6 26)
  generalize w6.alloc (.cells #[.bool bt, .slice adt lt cct] 26) = w7 at hb hx0 ⊢
  generalize hn : w6.heap.size = nt at hx0 ⊢
  have BXt_7 := Lib.hid hx0; clear hx0
  clear hn
  have HB7 := Lib.hid (bel_trans hb HB6.out); clear HB6
  have HM7 := Lib.hid (isRow_keepDb HM6.out hb); clear HM6
  have BXa_7 := Lib.hid (BXa_6.out.keep hb); clear BXa_6
  have BXb_7 := Lib.hid (BXb_6.out.keep hb); clear BXb_6
  have BXs_7 := Lib.hid (BXs_6.out.keep hb); clear BXs_6
  have HVa_7 := Lib.hid (HVa_6.out.keep hb); clear HVa_6
  have HVb_7 := Lib.hid (HVb_6.out.keep hb); clear HVb_6
  have HVs_7 := Lib.hid (HVs_6.out.keep hb); clear HVs_6
  have HVt_7 := Lib.hid (HVt_6.out.keep hb); clear HVt_6
  clear hb
  refine (A2.out _ _ _ HVa_7.out HVb_7.out).mono ?_
  rintro e w8 ⟨v9, rfl, hb, hv⟩
  have HB8 := Lib.hid (bel_trans hb HB7.out); clear HB7
  have HM8 := Lib.hid (isRow_keepDb HM7.out hb); clear HM7
  have BXa_8 := Lib.hid (BXa_7.out.keep hb); clear BXa_7
  have BXb_8 := Lib.hid (BXb_7.out.keep hb); clear BXb_7
  have BXs_8 := Lib.hid (BXs_7.out.keep hb); clear BXs_7
  have BXt_8 := Lib.hid (BXt_7.out.keep hb); clear BXt_7
  have HVa_8 := Lib.hid (HVa_7.out.keep hb); clear HVa_7
  have HVb_8 := Lib.hid (HVb_7.out.keep hb); clear HVb_7
  have HVs_8 := Lib.hid (HVs_7.out.keep hb); clear HVs_7
  have HVt_8 := Lib.hid (HVt_7.out.keep hb); clear HVt_7
  clear hb
  obtain ⟨add, ccd, hq, -⟩ := id hv
  generalize decide (D < 0) = bd at hq
  generalize (digs (D).natAbs).length = ld at hq
  subst hq
  have HVd_8 := Lib.hid hv; clear hv
  obtain ⟨ca0, ca1, ca2⟩ := BXa_8.out
  obtain ⟨cb0, cb1, cb2⟩ := BXb_8.out
  obtain ⟨cs0, cs1, cs2⟩ := BXs_8.out
  obtain ⟨ct0, ct1, ct2⟩ := BXt_8.out
  go_wp2_with fail
  clear ca0 ca1 ca2
  clear cb0 cb1 cb2
  clear cs0 cs1 cs2
  clear ct0 ct1 ct2
  have hb : Below w8.heap.size w8 (w8.alloc (.cells #[.bool bd, .slice add ld ccd] 26)) := below_allocD _ _
  have hx0 := (Bv.new (.bool bd) (.slice add ld ccd) w8 26)
  generalize w8.alloc (.cells #[.bool bd, .slice add ld ccd] 26) = w9 at hb hx0 ⊢
  generalize hn : w8.heap.size = nd at hx0 ⊢
  have BXd_9 := Lib.hid hx0; clear hx0
  clear hn
  have HB9 := Lib.hid (bel_trans hb HB8.out); clear HB8
  have HM9 := Lib.hid (isRow_keepDb HM8.out hb); clear HM8
  have BXa_9 := Lib.hid (BXa_8.out.keep hb); clear BXa_8
  have BXb_9 := Lib.hid (BXb_8.out.keep hb); clear BXb_8
  have BXs_9 := Lib.hid (BXs_8.out.keep hb); clear BXs_8
  have BXt_9 := Lib.hid (BXt_8.out.keep hb); clear BXt_8
  have HVa_9 := Lib.hid (HVa_8.out.keep hb); clear HVa_8
  have HVb_9 := Lib.hid (HVb_8.out.keep hb); clear HVb_8
  have HVs_9 := Lib.hid (HVs_8.out.keep hb); clear HVs_8
  have HVt_9 := Lib.hid (HVt_8.out.keep hb); clear HVt_8
  have HVd_9 := Lib.hid (HVd_8.out.keep hb); clear HVd_8
  clear hb
  refine (A3.out _ _ _ HVa_9.out HVb_9.out).mono ?_
  rintro e w10 ⟨v9, rfl, hb, hv⟩
  have HB10 := Lib.hid (bel_trans hb HB9.out); clear HB9
  have HM10 := Lib.hid (isRow_keepDb HM9.out hb); clear HM9
  have BXa_10 := Lib.hid (BXa_9.out.keep hb); clear BXa_9
  have BXb_10 := Lib.hid (BXb_9.out.keep hb); clear BXb_9
  have BXs_10 := Lib.hid (BXs_9.out.keep hb); clear BXs_9
  have BXt_10 := Lib.hid (BXt_9.out.keep hb); clear BXt_9
  have BXd_10 := Lib.hid (BXd_9.out.keep hb); clear BXd_9
  have HVa_10 := Lib.hid (HVa_9.out.keep hb); clear HVa_9
  have HVb_10 := Lib.hid (HVb_9.out.keep hb); clear HVb_9
  have HVs_10 := Lib.hid (HVs_9.out.keep hb); clear HVs_9
  have HVt_10 := Lib.hid (HVt_9.out.keep hb); clear HVt_9
  have HVd_10 := Lib.hid (HVd_9.out.keep hb); clear HVd_9
  clear hb
  obtain ⟨ade, cce, hq, -⟩ := id hv
  generalize decide (D < 0) = be at hq
  generalize (digs (D).natAbs).length = le at hq
  subst hq
  have HVe_10 := Lib.hid hv; clear hv
  obtain ⟨ca0, ca1, ca2⟩ := BXa_10.out
  obtain ⟨cb0, cb1, cb2⟩ := BXb_10.out
  obtain ⟨cs0, cs1, cs2⟩ := BXs_10.out
  obtain ⟨ct0, ct1, ct2⟩ := BXt_10.out
  obtain ⟨cd0, cd1, cd2⟩ := BXd_10.out
  go_wp2_with fail
  clear ca0 ca1 ca2
  clear cb0 cb1 cb2
  clear cs0 cs1 cs2
  clear ct0 ct1 ct2
  clear cd0 cd1 cd2
  have hb : Below w10.heap.size w10 (w10.alloc (.cells #[.bool be, .slice ade le cce] 26)) := below_allocD _ _
  have hx0 := (Bv.new (.bool be) (.slice ade le cce) w10 26)
  generalize w10.alloc (.cells #[.bool be, .slice ade le cce] 26) = w11 at hb hx0 ⊢
  generalize hn : w10.heap.size = ne at hx0 ⊢
  have BXe_11 := Lib.hid hx0; clear hx0
  clear hn
  have HB11 := Lib.hid (bel_trans hb HB10.out); clear HB10
  have HM11 := Lib.hid (isRow_keepDb HM10.out hb); clear HM10
  have BXa_11 := Lib.hid (BXa_10.out.keep hb); clear BXa_10
  have BXb_11 := Lib.hid (BXb_10.out.keep hb); clear BXb_10
  have BXs_11 := Lib.hid (BXs_10.out.keep hb); clear BXs_10
  have BXt_11 := Lib.hid (BXt_10.out.keep hb); clear BXt_10
  have BXd_11 := Lib.hid (BXd_10.out.keep hb); clear BXd_10
  have HVa_11 := Lib.hid (HVa_10.out.keep hb); clear HVa_10
  have HVb_11 := Lib.hid (HVb_10.out.keep hb); clear HVb_10
  have HVs_11 := Lib.hid (HVs_10.out.keep hb); clear HVs_10
  have HVt_11 := Lib.hid (HVt_10.out.keep hb); clear HVt_10
  have HVd_11 := Lib.hid (HVd_10.out.keep hb); clear HVd_10
  have HVe_11 := Lib.hid (HVe_10.out.keep hb); clear HVe_10
  clear hb
  refine (A4.out _ _ _ HVa_11.out HVb_11.out).mono ?_
  rintro e w12 ⟨v9, rfl, hb, hv⟩
  have HB12 := Lib.hid (bel_trans hb HB11.out); clear HB11
  have HM12 := Lib.hid (isRow_keepDb HM11.out hb); clear HM11
  have BXa_12 := Lib.hid (BXa_11.out.keep hb); clear BXa_11
  have BXb_12 := Lib.hid (BXb_11.out.keep hb); clear BXb_11
  have BXs_12 := Lib.hid (BXs_11.out.keep hb); clear BXs_11
  have BXt_12 := Lib.hid (BXt_11.out.keep hb); clear BXt_11
  have BXd_12 := Lib.hid (BXd_11.out.keep hb); clear BXd_11
  have BXe_12 := Lib.hid (BXe_11.out.keep hb); clear BXe_11
  have HVa_12 := Lib.hid (HVa_11.out.keep hb); clear HVa_11
  have HVb_12 := Lib.hid (HVb_11.out.keep hb); clear HVb_11
  have HVs_12 := Lib.hid (HVs_11.out.keep hb); clear HVs_11
  have HVt_12 := Lib.hid (HVt_11.out.keep hb); clear HVt_11
  have HVd_12 := Lib.hid (HVd_11.out.keep hb); clear HVd_11
  have HVe_12 := Lib.hid (HVe_11.out.keep hb); clear HVe_11
  clear hb
  obtain ⟨adp, ccp, hq, -⟩ := id hv
  generalize decide (P < 0) = bp at hq
  generalize (digs (P).natAbs).length = lp at hq
  subst hq
  have HVp_12 := Lib.hid hv; clear hv
  obtain ⟨ca0, ca1, ca2⟩ := BXa_12.out
  obtain ⟨cb0, cb1, cb2⟩ := BXb_12.out
  obtain ⟨cs0, cs1, cs2⟩ := BXs_12.out
  obtain ⟨ct0, ct1, ct2⟩ := BXt_12.out
  obtain ⟨cd0, cd1, cd2⟩ := BXd_12.out
  obtain ⟨ce0, ce1, ce2⟩ := BXe_12.out
  go_wp2_with fail
  clear ca0 ca1 ca2
  clear cb0 cb1 cb2
  clear cs0 cs1 cs2
  clear ct0 ct1 ct2
  clear cd0 cd1 cd2
  clear ce0 ce1 ce2
  have hb : Below w12.heap.size w12 (w12.alloc (.cells #[.bool bp, .slice adp lp ccp] 26)) := below_allocD _ _
  have hx0 := (Bv.new (.bool bp) (.slice adp lp ccp) w12 26)
  generalize w12.alloc (.cells #[.bool bp, .slice adp lp ccp] 26) = w13 at hb hx0 ⊢
  generalize hn : w12.heap.size = np at hx0 ⊢
  have BXp_13 := Lib.hid hx0; clear hx0
  clear hn
  have HB13 := Lib.hid (bel_trans hb HB12.out); clear HB12
  have HM13 := Lib.hid (isRow_keepDb HM12.out hb); clear HM12
  have BXa_13 := Lib.hid (BXa_12.out.keep hb); clear BXa_12
  have BXb_13 := Lib.hid (BXb_12.out.keep hb); clear BXb_12
  have BXs_13 := Lib.hid (BXs_12.out.keep hb); clear BXs_12
  have BXt_13 := Lib.hid (BXt_12.out.keep hb); clear BXt_12
  have BXd_13 := Lib.hid (BXd_12.out.keep hb); clear BXd_12
  have BXe_13 := Lib.hid (BXe_12.out.keep hb); clear BXe_12
  have HVa_13 := Lib.hid (HVa_12.out.keep hb); clear HVa_12
  have HVb_13 := Lib.hid (HVb_12.out.keep hb); clear HVb_12
  have HVs_13 := Lib.hid (HVs_12.out.keep hb); clear HVs_12
  have HVt_13 := Lib.hid (HVt_12.out.keep hb); clear HVt_12
  have HVd_13 := Lib.hid (HVd_12.out.keep hb); clear HVd_12
  have HVe_13 := Lib.hid (HVe_12.out.keep hb); clear HVe_12
  have HVp_13 := Lib.hid (HVp_12.out.keep hb); clear HVp_12
  clear hb
  clear A0 A1 A2 A3 A4
  as_aux_lemma =>
  refine (A5.out _ _ _ HVa_13.out HVb_13.out).mono ?_
  rintro e w14 ⟨v9, rfl, hb, hv⟩
  have HB14 := Lib.hid (bel_trans hb HB13.out); clear HB13
  have HM14 := Lib.hid (isRow_keepDb HM13.out hb); clear HM13
  have BXa_14 := Lib.hid (BXa_13.out.keep hb); clear BXa_13
  have BXb_14 := Lib.hid (BXb_13.out.keep hb); clear BXb_13
  have BXs_14 := Lib.hid (BXs_13.out.keep hb); clear BXs_13
  have BXt_14 := Lib.hid (BXt_13.out.keep hb); clear BXt_13
  have BXd_14 := Lib.hid (BXd_13.out.keep hb); clear BXd_13
  have BXe_14 := Lib.hid (BXe_13.out.keep hb); clear BXe_13
  have BXp_14 := Lib.hid (BXp_13.out.keep hb); clear BXp_13
  have HVa_14 := Lib.hid (HVa_13.out.keep hb); clear HVa_13
  have HVb_14 := Lib.hid (HVb_13.out.keep hb); clear HVb_13
  have HVs_14 := Lib.hid (HVs_13.out.keep hb); clear HVs_13
  have HVt_14 := Lib.hid (HVt_13.out.keep hb); clear HVt_13
  have HVd_14 := Lib.hid (HVd_13.out.keep hb); clear HVd_13
  have HVe_14 := Lib.hid (HVe_13.out.keep hb); clear HVe_13
  have HVp_14 := Lib.hid (HVp_13.out.keep hb); clear HVp_13
  clear hb
  obtain ⟨adr, ccr, hq, -⟩ := id hv
  generalize decide (P < 0) = br at hq
  generalize (digs (P).natAbs).length = lr at hq
  subst hq
  have HVr_14 := Lib.hid hv; clear hv
  clear A5
  have hok1 : (ok1 != ok1) = false := by cases ok1 <;> rfl
  have hok2 : (ok2 != ok2) = false := by cases ok2 <;> rfl
  have hok3 : (ok3 != ok3) = false := by cases ok3 <;> rfl
  obtain ⟨ca0, ca1, ca2⟩ := BXa_14.out
  obtain ⟨cb0, cb1, cb2⟩ := BXb_14.out
  obtain ⟨cs0, cs1, cs2⟩ := BXs_14.out
  obtain ⟨ct0, ct1, ct2⟩ := BXt_14.out
  obtain ⟨cd0, cd1, cd2⟩ := BXd_14.out
  obtain ⟨ce0, ce1, ce2⟩ := BXe_14.out
  obtain ⟨cp0, cp1, cp2⟩ := BXp_14.out
  go_wp2_with fail
  clear ca0 ca1 ca2
  clear cb0 cb1 cb2
  clear cs0 cs1 cs2
  clear ct0 ct1 ct2
  clear cd0 cd1 cd2
  clear ce0 ce1 ce2
  clear cp0 cp1 cp2
  have hb : Below w14.heap.size w14 (w14.alloc (.cells #[.bool br, .slice adr lr ccr] 26)) := below_allocD _ _
  have hx0 := (Bv.new (.bool br) (.slice adr lr ccr) w14 26)
  generalize w14.alloc (.cells #[.bool br, .slice adr lr ccr] 26) = w15 at hb hx0 ⊢
  generalize hn : w14.heap.size = nr at hx0 ⊢
  have BXr_15 := Lib.hid hx0; clear hx0
  clear hn
  have HB15 := Lib.hid (bel_trans hb HB14.out); clear HB14
  have HM15 := Lib.hid (isRow_keepDb HM14.out hb); clear HM14
  have BXa_15 := Lib.hid (BXa_14.out.keep hb); clear BXa_14
  have BXb_15 := Lib.hid (BXb_14.out.keep hb); clear BXb_14
  have BXs_15 := Lib.hid (BXs_14.out.keep hb); clear BXs_14
  have BXt_15 := Lib.hid (BXt_14.out.keep hb); clear BXt_14
  have BXd_15 := Lib.hid (BXd_14.out.keep hb); clear BXd_14
  have BXe_15 := Lib.hid (BXe_14.out.keep hb); clear BXe_14
  have BXp_15 := Lib.hid (BXp_14.out.keep hb); clear BXp_14
  have HVa_15 := Lib.hid (HVa_14.out.keep hb); clear HVa_14
  have HVb_15 := Lib.hid (HVb_14.out.keep hb); clear HVb_14
  have HVs_15 := Lib.hid (HVs_14.out.keep hb); clear HVs_14
  have HVt_15 := Lib.hid (HVt_14.out.keep hb); clear HVt_14
  have HVd_15 := Lib.hid (HVd_14.out.keep hb); clear HVd_14
  have HVe_15 := Lib.hid (HVe_14.out.keep hb); clear HVe_14
  have HVp_15 := Lib.hid (HVp_14.out.keep hb); clear HVp_14
  have HVr_15 := Lib.hid (HVr_14.out.keep hb); clear HVr_14
  clear hb
  refine (pSame_yes _ _ S _ HVs_15.out HVt_15.out).mono ?_
  rintro e w16 ⟨rfl, hb⟩
  have HB16 := Lib.hid (bel_trans hb HB15.out); clear HB15
  have HM16 := Lib.hid (isRow_keepDb HM15.out hb); clear HM15
  have BXa_16 := Lib.hid (BXa_15.out.keep hb); clear BXa_15
  have BXb_16 := Lib.hid (BXb_15.out.keep hb); clear BXb_15
  have BXs_16 := Lib.hid (BXs_15.out.keep hb); clear BXs_15
  have BXt_16 := Lib.hid (BXt_15.out.keep hb); clear BXt_15
  have BXd_16 := Lib.hid (BXd_15.out.keep hb); clear BXd_15
  have BXe_16 := Lib.hid (BXe_15.out.keep hb); clear BXe_15
  have BXp_16 := Lib.hid (BXp_15.out.keep hb); clear BXp_15
  have BXr_16 := Lib.hid (BXr_15.out.keep hb); clear BXr_15
  have HVa_16 := Lib.hid (HVa_15.out.keep hb); clear HVa_15
  have HVb_16 := Lib.hid (HVb_15.out.keep hb); clear HVb_15
  have HVs_16 := Lib.hid (HVs_15.out.keep hb); clear HVs_15
  have HVt_16 := Lib.hid (HVt_15.out.keep hb); clear HVt_15
  have HVd_16 := Lib.hid (HVd_15.out.keep hb); clear HVd_15
  have HVe_16 := Lib.hid (HVe_15.out.keep hb); clear HVe_15
  have HVp_16 := Lib.hid (HVp_15.out.keep hb); clear HVp_15
  have HVr_16 := Lib.hid (HVr_15.out.keep hb); clear HVr_15
  clear hb
  obtain ⟨ca0, ca1, ca2⟩ := BXa_16.out
  obtain ⟨cb0, cb1, cb2⟩ := BXb_16.out
  obtain ⟨cs0, cs1, cs2⟩ := BXs_16.out
  obtain ⟨ct0, ct1, ct2⟩ := BXt_16.out
  obtain ⟨cd0, cd1, cd2⟩ := BXd_16.out
  obtain ⟨ce0, ce1, ce2⟩ := BXe_16.out
  obtain ⟨cp0, cp1, cp2⟩ := BXp_16.out
  obtain ⟨cr0, cr1, cr2⟩ := BXr_16.out
  go_wp2_with fail
  clear ca0 ca1 ca2
  clear cb0 cb1 cb2
  clear cs0 cs1 cs2
  clear ct0 ct1 ct2
  clear cd0 cd1 cd2
  clear ce0 ce1 ce2
  clear cp0 cp1 cp2
  clear cr0 cr1 cr2
  refine (pSame_yes _ _ D _ HVd_16.out HVe_16.out).mono ?_
  rintro e w17 ⟨rfl, hb⟩
  have HB17 := Lib.hid (bel_trans hb HB16.out); clear HB16
  have HM17 := Lib.hid (isRow_keepDb HM16.out hb); clear HM16
  have BXa_17 := Lib.hid (BXa_16.out.keep hb); clear BXa_16
  have BXb_17 := Lib.hid (BXb_16.out.keep hb); clear BXb_16
  have BXs_17 := Lib.hid (BXs_16.out.keep hb); clear BXs_16
  have BXt_17 := Lib.hid (BXt_16.out.keep hb); clear BXt_16
  have BXd_17 := Lib.hid (BXd_16.out.keep hb); clear BXd_16
  have BXe_17 := Lib.hid (BXe_16.out.keep hb); clear BXe_16
  have BXp_17 := Lib.hid (BXp_16.out.keep hb); clear BXp_16
  have BXr_17 := Lib.hid (BXr_16.out.keep hb); clear BXr_16
  have HVa_17 := Lib.hid (HVa_16.out.keep hb); clear HVa_16
  have HVb_17 := Lib.hid (HVb_16.out.keep hb); clear HVb_16
  have HVs_17 := Lib.hid (HVs_16.out.keep hb); clear HVs_16
  have HVt_17 := Lib.hid (HVt_16.out.keep hb); clear HVt_16
  have HVd_17 := Lib.hid (HVd_16.out.keep hb); clear HVd_16
  have HVe_17 := Lib.hid (HVe_16.out.keep hb); clear HVe_16
  have HVp_17 := Lib.hid (HVp_16.out.keep hb); clear HVp_16
  have HVr_17 := Lib.hid (HVr_16.out.keep hb); clear HVr_16
  clear hb
  obtain ⟨ca0, ca1, ca2⟩ := BXa_17.out
  obtain ⟨cb0, cb1, cb2⟩ := BXb_17.out
  obtain ⟨cs0, cs1, cs2⟩ := BXs_17.out
  obtain ⟨ct0, ct1, ct2⟩ := BXt_17.out
  obtain ⟨cd0, cd1, cd2⟩ := BXd_17.out
  obtain ⟨ce0, ce1, ce2⟩ := BXe_17.out
  obtain ⟨cp0, cp1, cp2⟩ := BXp_17.out
  obtain ⟨cr0, cr1, cr2⟩ := BXr_17.out
  go_wp2_with fail
  clear ca0 ca1 ca2
  clear cb0 cb1 cb2
  clear cs0 cs1 cs2
  clear ct0 ct1 ct2
  clear cd0 cd1 cd2
  clear ce0 ce1 ce2
  clear cp0 cp1 cp2
  clear cr0 cr1 cr2
  refine (pSame_yes _ _ P _ HVp_17.out HVr_17.out).mono ?_
  rintro e w18 ⟨rfl, hb⟩
  have HB18 := Lib.hid (bel_trans hb HB17.out); clear HB17
  have HM18 := Lib.hid (isRow_keepDb HM17.out hb); clear HM17
  have BXa_18 := Lib.hid (BXa_17.out.keep hb); clear BXa_17
  have BXb_18 := Lib.hid (BXb_17.out.keep hb); clear BXb_17
  have BXs_18 := Lib.hid (BXs_17.out.keep hb); clear BXs_17
  have BXt_18 := Lib.hid (BXt_17.out.keep hb); clear BXt_17
  have BXd_18 := Lib.hid (BXd_17.out.keep hb); clear BXd_17
  have BXe_18 := Lib.hid (BXe_17.out.keep hb); clear BXe_17
  have BXp_18 := Lib.hid (BXp_17.out.keep hb); clear BXp_17
  have BXr_18 := Lib.hid (BXr_17.out.keep hb); clear BXr_17
  have HVa_18 := Lib.hid (HVa_17.out.keep hb); clear HVa_17
  have HVb_18 := Lib.hid (HVb_17.out.keep hb); clear HVb_17
  have HVs_18 := Lib.hid (HVs_17.out.keep hb); clear HVs_17
  have HVt_18 := Lib.hid (HVt_17.out.keep hb); clear HVt_17
  have HVd_18 := Lib.hid (HVd_17.out.keep hb); clear HVd_17
  have HVe_18 := Lib.hid (HVe_17.out.keep hb); clear HVe_17
  have HVp_18 := Lib.hid (HVp_17.out.keep hb); clear HVp_17
  have HVr_18 := Lib.hid (HVr_17.out.keep hb); clear HVr_17
  clear hb
  clear BXd_18
  clear HVd_18
  clear BXe_18
  clear HVe_18
  obtain ⟨ca0, ca1, ca2⟩ := BXa_18.out
  obtain ⟨cb0, cb1, cb2⟩ := BXb_18.out
  obtain ⟨cs0, cs1, cs2⟩ := BXs_18.out
  obtain ⟨ct0, ct1, ct2⟩ := BXt_18.out
  obtain ⟨cp0, cp1, cp2⟩ := BXp_18.out
  obtain ⟨cr0, cr1, cr2⟩ := BXr_18.out
  go_upto_if 122 with fail
  clear ca0 ca1 ca2
  clear cb0 cb1 cb2
  clear cs0 cs1 cs2
  clear ct0 ct1 ct2
  clear cp0 cp1 cp2
  clear cr0 cr1 cr2
  go_cut [19, 20, 21, 22, 23, 24, 25, 26, 27, 28] from 123 to 188 (fun _ _ _ _ _ _ _ _ _ _ wx => Below w18.heap.size w18 wx)
  case first =>
    as_aux_lemma =>
    have HBW := Lib.hid (Below.refl w18.heap.size w18)
    clear hok1 hok2 hok3 AO
    cases ok1
    · clear AY
      clear BXa_18
      clear HVa_18
      clear BXb_18
      clear HVb_18
      clear BXs_18
      clear HVs_18
      clear BXt_18
      clear HVt_18
      clear BXp_18
      clear HVp_18
      clear BXr_18
      clear HVr_18
      go_wp2_with fail
      go_meet
      exact HBW.out
    · skip
      obtain ⟨Z, R⟩ := AY.out rfl
      clear AY
      have F0 := Lib.hid R.back; have F1 := Lib.hid R.wa; have F2 := Lib.hid R.isW; have F3 := Lib.hid R.mul
      clear R
      obtain ⟨ca0, ca1, ca2⟩ := BXa_18.out
      obtain ⟨cb0, cb1, cb2⟩ := BXb_18.out
      obtain ⟨cs0, cs1, cs2⟩ := BXs_18.out
      obtain ⟨ct0, ct1, ct2⟩ := BXt_18.out
      obtain ⟨cp0, cp1, cp2⟩ := BXp_18.out
      obtain ⟨cr0, cr1, cr2⟩ := BXr_18.out
      go_wp2_with fail
      clear ca0 ca1 ca2
      clear cb0 cb1 cb2
      clear cs0 cs1 cs2
      clear ct0 ct1 ct2
      clear cp0 cp1 cp2
      clear cr0 cr1 cr2
      refine (F0.out _ _ _ HVs_18.out HVb_18.out).mono ?_
      rintro e w19 ⟨v9, rfl, hb, hv⟩
      have HBW' := Lib.hid (bel_trans hb HBW.out); clear HBW; have HBW := Lib.hid HBW'.out; clear HBW'
      have HB19 := Lib.hid (bel_trans hb HB18.out); clear HB18
      have HM19 := Lib.hid (isRow_keepDb HM18.out hb); clear HM18
      have BXa_19 := Lib.hid (BXa_18.out.keep hb); clear BXa_18
      have BXb_19 := Lib.hid (BXb_18.out.keep hb); clear BXb_18
      have BXs_19 := Lib.hid (BXs_18.out.keep hb); clear BXs_18
      have BXt_19 := Lib.hid (BXt_18.out.keep hb); clear BXt_18
      have BXp_19 := Lib.hid (BXp_18.out.keep hb); clear BXp_18
      have BXr_19 := Lib.hid (BXr_18.out.keep hb); clear BXr_18
      have HVa_19 := Lib.hid (HVa_18.out.keep hb); clear HVa_18
      have HVb_19 := Lib.hid (HVb_18.out.keep hb); clear HVb_18
      have HVs_19 := Lib.hid (HVs_18.out.keep hb); clear HVs_18
      have HVt_19 := Lib.hid (HVt_18.out.keep hb); clear HVt_18
      have HVp_19 := Lib.hid (HVp_18.out.keep hb); clear HVp_18
      have HVr_19 := Lib.hid (HVr_18.out.keep hb); clear HVr_18
      clear hb
      obtain ⟨adf, ccf, hq, -⟩ := id hv
      generalize decide (Z < 0) = bf at hq
      generalize (digs (Z).natAbs).length = lf at hq
      subst hq
      have HVf_19 := Lib.hid hv; clear hv
      obtain ⟨ca0, ca1, ca2⟩ := BXa_19.out
      obtain ⟨cb0, cb1, cb2⟩ := BXb_19.out
      obtain ⟨cs0, cs1, cs2⟩ := BXs_19.out
      obtain ⟨ct0, ct1, ct2⟩ := BXt_19.out
      obtain ⟨cp0, cp1, cp2⟩ := BXp_19.out
      obtain ⟨cr0, cr1, cr2⟩ := BXr_19.out
      go_wp2_with fail
      clear ca0 ca1 ca2
      clear cb0 cb1 cb2
      clear cs0 cs1 cs2
      clear ct0 ct1 ct2
      clear cp0 cp1 cp2
      clear cr0 cr1 cr2
      have hb : Below w19.heap.size w19 (w19.alloc (.cells #[.bool bf, .slice adf lf ccf] 26)) := below_allocD _ _
      have hx0 := (Bv.new (.bool bf) (.slice adf lf ccf) w19 26)
      generalize w19.alloc (.cells #[.bool bf, .slice adf lf ccf] 26) = w20 at hb hx0 ⊢
      generalize hn : w19.heap.size = nf at hx0 ⊢
      have BXf_20 := Lib.hid hx0; clear hx0
      clear hn
      have HBW' := Lib.hid (bel_trans hb HBW.out); clear HBW; have HBW := Lib.hid HBW'.out; clear HBW'
      have HB20 := Lib.hid (bel_trans hb HB19.out); clear HB19
      have HM20 := Lib.hid (isRow_keepDb HM19.out hb); clear HM19
      have BXa_20 := Lib.hid (BXa_19.out.keep hb); clear BXa_19
      have BXb_20 := Lib.hid (BXb_19.out.keep hb); clear BXb_19
      have BXs_20 := Lib.hid (BXs_19.out.keep hb); clear BXs_19
      have BXt_20 := Lib.hid (BXt_19.out.keep hb); clear BXt_19
      have BXp_20 := Lib.hid (BXp_19.out.keep hb); clear BXp_19
      have BXr_20 := Lib.hid (BXr_19.out.keep hb); clear BXr_19
      have HVa_20 := Lib.hid (HVa_19.out.keep hb); clear HVa_19
      have HVb_20 := Lib.hid (HVb_19.out.keep hb); clear HVb_19
      have HVs_20 := Lib.hid (HVs_19.out.keep hb); clear HVs_19
      have HVt_20 := Lib.hid (HVt_19.out.keep hb); clear HVt_19
      have HVp_20 := Lib.hid (HVp_19.out.keep hb); clear HVp_19
      have HVr_20 := Lib.hid (HVr_19.out.keep hb); clear HVr_19
      have HVf_20 := Lib.hid (HVf_19.out.keep hb); clear HVf_19
      clear hb
      refine (pSame_yes _ _ Z _ HVf_20.out (F1.out _ _ HVa_20.out)).mono ?_
      rintro e w21 ⟨rfl, hb⟩
      have HBW' := Lib.hid (bel_trans hb HBW.out); clear HBW; have HBW := Lib.hid HBW'.out; clear HBW'
      have HB21 := Lib.hid (bel_trans hb HB20.out); clear HB20
      have HM21 := Lib.hid (isRow_keepDb HM20.out hb); clear HM20
      have BXa_21 := Lib.hid (BXa_20.out.keep hb); clear BXa_20
      have BXb_21 := Lib.hid (BXb_20.out.keep hb); clear BXb_20
      have BXs_21 := Lib.hid (BXs_20.out.keep hb); clear BXs_20
      have BXt_21 := Lib.hid (BXt_20.out.keep hb); clear BXt_20
      have BXp_21 := Lib.hid (BXp_20.out.keep hb); clear BXp_20
      have BXr_21 := Lib.hid (BXr_20.out.keep hb); clear BXr_20
      have BXf_21 := Lib.hid (BXf_20.out.keep hb); clear BXf_20
      have HVa_21 := Lib.hid (HVa_20.out.keep hb); clear HVa_20
      have HVb_21 := Lib.hid (HVb_20.out.keep hb); clear HVb_20
      have HVs_21 := Lib.hid (HVs_20.out.keep hb); clear HVs_20
      have HVt_21 := Lib.hid (HVt_20.out.keep hb); clear HVt_20
      have HVp_21 := Lib.hid (HVp_20.out.keep hb); clear HVp_20
      have HVr_21 := Lib.hid (HVr_20.out.keep hb); clear HVr_20
      have HVf_21 := Lib.hid (HVf_20.out.keep hb); clear HVf_20
      clear hb
      obtain ⟨ca0, ca1, ca2⟩ := BXa_21.out
      obtain ⟨cb0, cb1, cb2⟩ := BXb_21.out
      obtain ⟨cs0, cs1, cs2⟩ := BXs_21.out
      obtain ⟨ct0, ct1, ct2⟩ := BXt_21.out
      obtain ⟨cp0, cp1, cp2⟩ := BXp_21.out
      obtain ⟨cr0, cr1, cr2⟩ := BXr_21.out
      obtain ⟨cf0, cf1, cf2⟩ := BXf_21.out
      go_wp2_with fail
      clear ca0 ca1 ca2
      clear cb0 cb1 cb2
      clear cs0 cs1 cs2
      clear ct0 ct1 ct2
      clear cp0 cp1 cp2
      clear cr0 cr1 cr2
      clear cf0 cf1 cf2
      refine (F2.out _ _ HVs_21.out).mono ?_
      rintro e w22 ⟨rfl, hb⟩
      have HBW' := Lib.hid (bel_trans hb HBW.out); clear HBW; have HBW := Lib.hid HBW'.out; clear HBW'
      have HB22 := Lib.hid (bel_trans hb HB21.out); clear HB21
      have HM22 := Lib.hid (isRow_keepDb HM21.out hb); clear HM21
      have BXa_22 := Lib.hid (BXa_21.out.keep hb); clear BXa_21
      have BXb_22 := Lib.hid (BXb_21.out.keep hb); clear BXb_21
      have BXs_22 := Lib.hid (BXs_21.out.keep hb); clear BXs_21
      have BXt_22 := Lib.hid (BXt_21.out.keep hb); clear BXt_21
      have BXp_22 := Lib.hid (BXp_21.out.keep hb); clear BXp_21
      have BXr_22 := Lib.hid (BXr_21.out.keep hb); clear BXr_21
      have BXf_22 := Lib.hid (BXf_21.out.keep hb); clear BXf_21
      have HVa_22 := Lib.hid (HVa_21.out.keep hb); clear HVa_21
      have HVb_22 := Lib.hid (HVb_21.out.keep hb); clear HVb_21
      have HVs_22 := Lib.hid (HVs_21.out.keep hb); clear HVs_21
      have HVt_22 := Lib.hid (HVt_21.out.keep hb); clear HVt_21
      have HVp_22 := Lib.hid (HVp_21.out.keep hb); clear HVp_21
      have HVr_22 := Lib.hid (HVr_21.out.keep hb); clear HVr_21
      have HVf_22 := Lib.hid (HVf_21.out.keep hb); clear HVf_21
      clear hb
      clear F0 F1 F2
      clear BXb_22
      clear HVb_22
      clear BXs_22
      clear HVs_22
      clear BXf_22
      clear HVf_22
      cases ok3
      · clear F3
        clear BXa_22
        clear HVa_22
        clear BXt_22
        clear HVt_22
        clear BXp_22
        clear HVp_22
        clear BXr_22
        clear HVr_22
        go_wp2_with fail
        go_meet
        exact HBW.out
      · skip
        obtain ⟨Q, A, ok6, ok7, R⟩ := F3.out rfl
        clear F3
        have G0 := Lib.hid R.q; have G1 := Lib.hid R.al; have G2 := Lib.hid R.add
        clear R
        obtain ⟨ca0, ca1, ca2⟩ := BXa_22.out
        obtain ⟨ct0, ct1, ct2⟩ := BXt_22.out
        obtain ⟨cp0, cp1, cp2⟩ := BXp_22.out
        obtain ⟨cr0, cr1, cr2⟩ := BXr_22.out
        go_wp2_with fail
        clear ca0 ca1 ca2
        clear ct0 ct1 ct2
        clear cp0 cp1 cp2
        clear cr0 cr1 cr2
        refine (G0.out _ _ _ HVa_22.out HVa_22.out).mono ?_
        rintro e w23 ⟨v9, rfl, hb, hv⟩
        have HBW' := Lib.hid (bel_trans hb HBW.out); clear HBW; have HBW := Lib.hid HBW'.out; clear HBW'
        have HB23 := Lib.hid (bel_trans hb HB22.out); clear HB22
        have HM23 := Lib.hid (isRow_keepDb HM22.out hb); clear HM22
        have BXa_23 := Lib.hid (BXa_22.out.keep hb); clear BXa_22
        have BXt_23 := Lib.hid (BXt_22.out.keep hb); clear BXt_22
        have BXp_23 := Lib.hid (BXp_22.out.keep hb); clear BXp_22
        have BXr_23 := Lib.hid (BXr_22.out.keep hb); clear BXr_22
        have HVa_23 := Lib.hid (HVa_22.out.keep hb); clear HVa_22
        have HVt_23 := Lib.hid (HVt_22.out.keep hb); clear HVt_22
        have HVp_23 := Lib.hid (HVp_22.out.keep hb); clear HVp_22
        have HVr_23 := Lib.hid (HVr_22.out.keep hb); clear HVr_22
        clear hb
        obtain ⟨adg, ccg, hq, -⟩ := id hv
        generalize decide (Q < 0) = bg at hq
        generalize (digs (Q).natAbs).length = lg at hq
        subst hq
        have HVg_23 := Lib.hid hv; clear hv
        obtain ⟨ca0, ca1, ca2⟩ := BXa_23.out
        obtain ⟨ct0, ct1, ct2⟩ := BXt_23.out
        obtain ⟨cp0, cp1, cp2⟩ := BXp_23.out
        obtain ⟨cr0, cr1, cr2⟩ := BXr_23.out
        go_wp2_with fail
        clear ca0 ca1 ca2
        clear ct0 ct1 ct2
        clear cp0 cp1 cp2
        clear cr0 cr1 cr2
        have hb : Below w23.heap.size w23 (w23.alloc (.cells #[.bool bg, .slice adg lg ccg] 26)) := below_allocD _ _
        have hx0 := (Bv.new (.bool bg) (.slice adg lg ccg) w23 26)
        generalize w23.alloc (.cells #[.bool bg, .slice adg lg ccg] 26) = w24 at hb hx0 ⊢
        generalize hn : w23.heap.size = ng at hx0 ⊢
        have BXg_24 := Lib.hid hx0; clear hx0
        clear hn
        have HBW' := Lib.hid (bel_trans hb HBW.out); clear HBW; have HBW := Lib.hid HBW'.out; clear HBW'
        have HB24 := Lib.hid (bel_trans hb HB23.out); clear HB23
        have HM24 := Lib.hid (isRow_keepDb HM23.out hb); clear HM23
        have BXa_24 := Lib.hid (BXa_23.out.keep hb); clear BXa_23
        have BXt_24 := Lib.hid (BXt_23.out.keep hb); clear BXt_23
        have BXp_24 := Lib.hid (BXp_23.out.keep hb); clear BXp_23
        have BXr_24 := Lib.hid (BXr_23.out.keep hb); clear BXr_23
        have HVa_24 := Lib.hid (HVa_23.out.keep hb); clear HVa_23
        have HVt_24 := Lib.hid (HVt_23.out.keep hb); clear HVt_23
        have HVp_24 := Lib.hid (HVp_23.out.keep hb); clear HVp_23
        have HVr_24 := Lib.hid (HVr_23.out.keep hb); clear HVr_23
        have HVg_24 := Lib.hid (HVg_23.out.keep hb); clear HVg_23
        clear hb
        refine (G1.out _ _ _ HVa_24.out HVt_24.out).mono ?_
        rintro e w25 ⟨v9, rfl, hb, hv⟩
        have HBW' := Lib.hid (bel_trans hb HBW.out); clear HBW; have HBW := Lib.hid HBW'.out; clear HBW'
        have HB25 := Lib.hid (bel_trans hb HB24.out); clear HB24
        have HM25 := Lib.hid (isRow_keepDb HM24.out hb); clear HM24
        have BXa_25 := Lib.hid (BXa_24.out.keep hb); clear BXa_24
        have BXt_25 := Lib.hid (BXt_24.out.keep hb); clear BXt_24
        have BXp_25 := Lib.hid (BXp_24.out.keep hb); clear BXp_24
        have BXr_25 := Lib.hid (BXr_24.out.keep hb); clear BXr_24
        have BXg_25 := Lib.hid (BXg_24.out.keep hb); clear BXg_24
        have HVa_25 := Lib.hid (HVa_24.out.keep hb); clear HVa_24
        have HVt_25 := Lib.hid (HVt_24.out.keep hb); clear HVt_24
        have HVp_25 := Lib.hid (HVp_24.out.keep hb); clear HVp_24
        have HVr_25 := Lib.hid (HVr_24.out.keep hb); clear HVr_24
        have HVg_25 := Lib.hid (HVg_24.out.keep hb); clear HVg_24
        clear hb
        obtain ⟨adh, cch, hq, -⟩ := id hv
        generalize decide (A < 0) = bh at hq
        generalize (digs (A).natAbs).length = lh at hq
        subst hq
        have HVh_25 := Lib.hid hv; clear hv
        clear G0 G1
        cases ok6
        · clear G2
          clear BXa_25
          clear HVa_25
          clear BXt_25
          clear HVt_25
          clear BXp_25
          clear HVp_25
          clear BXr_25
          clear HVr_25
          clear BXg_25
          clear HVg_25
          clear HVh_25
          go_wp2_with fail
          go_meet
          exact bel_alloc (HBW.out) _
        · cases ok7
          · clear G2
            clear BXa_25
            clear HVa_25
            clear BXt_25
            clear HVt_25
            clear BXp_25
            clear HVp_25
            clear BXr_25
            clear HVr_25
            clear BXg_25
            clear HVg_25
            clear HVh_25
            go_wp2_with fail
            go_meet
            exact bel_alloc (HBW.out) _
          · skip
            obtain ⟨ok8, E, hi8, hs8, he8⟩ := G2.out rfl rfl
            clear G2
            have G3 := Lib.hid hi8; have G4 := Lib.hid hs8; have G5 := Lib.hid he8; clear hi8 hs8 he8
            obtain ⟨ca0, ca1, ca2⟩ := BXa_25.out
            obtain ⟨ct0, ct1, ct2⟩ := BXt_25.out
            obtain ⟨cp0, cp1, cp2⟩ := BXp_25.out
            obtain ⟨cr0, cr1, cr2⟩ := BXr_25.out
            obtain ⟨cg0, cg1, cg2⟩ := BXg_25.out
            go_wp2_with fail
            clear ca0 ca1 ca2
            clear ct0 ct1 ct2
            clear cp0 cp1 cp2
            clear cr0 cr1 cr2
            clear cg0 cg1 cg2
            have hb : Below w25.heap.size w25 (w25.alloc (.cells #[.bool bh, .slice adh lh cch] 26)) := below_allocD _ _
            have hx0 := (Bv.new (.bool bh) (.slice adh lh cch) w25 26)
            generalize w25.alloc (.cells #[.bool bh, .slice adh lh cch] 26) = w26 at hb hx0 ⊢
            generalize hn : w25.heap.size = nh at hx0 ⊢
            have BXh_26 := Lib.hid hx0; clear hx0
            clear hn
            have HBW' := Lib.hid (bel_trans hb HBW.out); clear HBW; have HBW := Lib.hid HBW'.out; clear HBW'
            have HB26 := Lib.hid (bel_trans hb HB25.out); clear HB25
            have HM26 := Lib.hid (isRow_keepDb HM25.out hb); clear HM25
            have BXa_26 := Lib.hid (BXa_25.out.keep hb); clear BXa_25
            have BXt_26 := Lib.hid (BXt_25.out.keep hb); clear BXt_25
            have BXp_26 := Lib.hid (BXp_25.out.keep hb); clear BXp_25
            have BXr_26 := Lib.hid (BXr_25.out.keep hb); clear BXr_25
            have BXg_26 := Lib.hid (BXg_25.out.keep hb); clear BXg_25
            have HVa_26 := Lib.hid (HVa_25.out.keep hb); clear HVa_25
            have HVt_26 := Lib.hid (HVt_25.out.keep hb); clear HVt_25
            have HVp_26 := Lib.hid (HVp_25.out.keep hb); clear HVp_25
            have HVr_26 := Lib.hid (HVr_25.out.keep hb); clear HVr_25
            have HVg_26 := Lib.hid (HVg_25.out.keep hb); clear HVg_25
            have HVh_26 := Lib.hid (HVh_25.out.keep hb); clear HVh_25
            clear hb
            refine (G3.out _ _ _ HVg_26.out HVp_26.out).mono ?_
            rintro e w27 ⟨v9, rfl, hb, hv⟩
            have HBW' := Lib.hid (bel_trans hb HBW.out); clear HBW; have HBW := Lib.hid HBW'.out; clear HBW'
            have HB27 := Lib.hid (bel_trans hb HB26.out); clear HB26
            have HM27 := Lib.hid (isRow_keepDb HM26.out hb); clear HM26
            have BXa_27 := Lib.hid (BXa_26.out.keep hb); clear BXa_26
            have BXt_27 := Lib.hid (BXt_26.out.keep hb); clear BXt_26
            have BXp_27 := Lib.hid (BXp_26.out.keep hb); clear BXp_26
            have BXr_27 := Lib.hid (BXr_26.out.keep hb); clear BXr_26
            have BXg_27 := Lib.hid (BXg_26.out.keep hb); clear BXg_26
            have BXh_27 := Lib.hid (BXh_26.out.keep hb); clear BXh_26
            have HVa_27 := Lib.hid (HVa_26.out.keep hb); clear HVa_26
            have HVt_27 := Lib.hid (HVt_26.out.keep hb); clear HVt_26
            have HVp_27 := Lib.hid (HVp_26.out.keep hb); clear HVp_26
            have HVr_27 := Lib.hid (HVr_26.out.keep hb); clear HVr_26
            have HVg_27 := Lib.hid (HVg_26.out.keep hb); clear HVg_26
            have HVh_27 := Lib.hid (HVh_26.out.keep hb); clear HVh_26
            clear hb
            obtain ⟨adi, cci, hq, -⟩ := id hv
            generalize decide (E < 0) = bi at hq
            generalize (digs (E).natAbs).length = li at hq
            subst hq
            have HVi_27 := Lib.hid hv; clear hv
            obtain ⟨ca0, ca1, ca2⟩ := BXa_27.out
            obtain ⟨ct0, ct1, ct2⟩ := BXt_27.out
            obtain ⟨cp0, cp1, cp2⟩ := BXp_27.out
            obtain ⟨cr0, cr1, cr2⟩ := BXr_27.out
            obtain ⟨cg0, cg1, cg2⟩ := BXg_27.out
            obtain ⟨ch0, ch1, ch2⟩ := BXh_27.out
            go_wp2_with fail
            clear ca0 ca1 ca2
            clear ct0 ct1 ct2
            clear cp0 cp1 cp2
            clear cr0 cr1 cr2
            clear cg0 cg1 cg2
            clear ch0 ch1 ch2
            have hb : Below w27.heap.size w27 (w27.alloc (.cells #[.bool bi, .slice adi li cci] 26)) := below_allocD _ _
            have hx0 := (Bv.new (.bool bi) (.slice adi li cci) w27 26)
            generalize w27.alloc (.cells #[.bool bi, .slice adi li cci] 26) = w28 at hb hx0 ⊢
            generalize hn : w27.heap.size = ni at hx0 ⊢
            have BXi_28 := Lib.hid hx0; clear hx0
            clear hn
            have HBW' := Lib.hid (bel_trans hb HBW.out); clear HBW; have HBW := Lib.hid HBW'.out; clear HBW'
            have HB28 := Lib.hid (bel_trans hb HB27.out); clear HB27
            have HM28 := Lib.hid (isRow_keepDb HM27.out hb); clear HM27
            have BXa_28 := Lib.hid (BXa_27.out.keep hb); clear BXa_27
            have BXt_28 := Lib.hid (BXt_27.out.keep hb); clear BXt_27
            have BXp_28 := Lib.hid (BXp_27.out.keep hb); clear BXp_27
            have BXr_28 := Lib.hid (BXr_27.out.keep hb); clear BXr_27
            have BXg_28 := Lib.hid (BXg_27.out.keep hb); clear BXg_27
            have BXh_28 := Lib.hid (BXh_27.out.keep hb); clear BXh_27
            have HVa_28 := Lib.hid (HVa_27.out.keep hb); clear HVa_27
            have HVt_28 := Lib.hid (HVt_27.out.keep hb); clear HVt_27
            have HVp_28 := Lib.hid (HVp_27.out.keep hb); clear HVp_27
            have HVr_28 := Lib.hid (HVr_27.out.keep hb); clear HVr_27
            have HVg_28 := Lib.hid (HVg_27.out.keep hb); clear HVg_27
            have HVh_28 := Lib.hid (HVh_27.out.keep hb); clear HVh_27
            have HVi_28 := Lib.hid (HVi_27.out.keep hb); clear HVi_27
            clear hb
            refine (G4.out _ _ _ HVg_28.out HVr_28.out).mono ?_
            rintro e w29 ⟨v9, rfl, hb, hv⟩
            have HBW' := Lib.hid (bel_trans hb HBW.out); clear HBW; have HBW := Lib.hid HBW'.out; clear HBW'
            have HB29 := Lib.hid (bel_trans hb HB28.out); clear HB28
            have HM29 := Lib.hid (isRow_keepDb HM28.out hb); clear HM28
            have BXa_29 := Lib.hid (BXa_28.out.keep hb); clear BXa_28
            have BXt_29 := Lib.hid (BXt_28.out.keep hb); clear BXt_28
            have BXp_29 := Lib.hid (BXp_28.out.keep hb); clear BXp_28
            have BXr_29 := Lib.hid (BXr_28.out.keep hb); clear BXr_28
            have BXg_29 := Lib.hid (BXg_28.out.keep hb); clear BXg_28
            have BXh_29 := Lib.hid (BXh_28.out.keep hb); clear BXh_28
            have BXi_29 := Lib.hid (BXi_28.out.keep hb); clear BXi_28
            have HVa_29 := Lib.hid (HVa_28.out.keep hb); clear HVa_28
            have HVt_29 := Lib.hid (HVt_28.out.keep hb); clear HVt_28
            have HVp_29 := Lib.hid (HVp_28.out.keep hb); clear HVp_28
            have HVr_29 := Lib.hid (HVr_28.out.keep hb); clear HVr_28
            have HVg_29 := Lib.hid (HVg_28.out.keep hb); clear HVg_28
            have HVh_29 := Lib.hid (HVh_28.out.keep hb); clear HVh_28
            have HVi_29 := Lib.hid (HVi_28.out.keep hb); clear HVi_28
            clear hb
            obtain ⟨adj, ccj, hq, -⟩ := id hv
            generalize decide (E < 0) = bj at hq
            generalize (digs (E).natAbs).length = lj at hq
            subst hq
            have HVj_29 := Lib.hid hv; clear hv
            clear G3 G4
            have hok8 : (ok8 != ok8) = false := by cases ok8 <;> rfl
            clear BXa_29
            clear HVa_29
            clear BXt_29
            clear HVt_29
            clear BXp_29
            clear HVp_29
            clear BXr_29
            clear HVr_29
            clear BXg_29
            clear HVg_29
            obtain ⟨ch0, ch1, ch2⟩ := BXh_29.out
            obtain ⟨ci0, ci1, ci2⟩ := BXi_29.out
            go_wp2_with fail
            clear ch0 ch1 ch2
            clear ci0 ci1 ci2
            have hb : Below w29.heap.size w29 (w29.alloc (.cells #[.bool bj, .slice adj lj ccj] 26)) := below_allocD _ _
            have hx0 := (Bv.new (.bool bj) (.slice adj lj ccj) w29 26)
            generalize w29.alloc (.cells #[.bool bj, .slice adj lj ccj] 26) = w30 at hb hx0 ⊢
            generalize hn : w29.heap.size = nj at hx0 ⊢
            have BXj_30 := Lib.hid hx0; clear hx0
            clear hn
            have HBW' := Lib.hid (bel_trans hb HBW.out); clear HBW; have HBW := Lib.hid HBW'.out; clear HBW'
            have HB30 := Lib.hid (bel_trans hb HB29.out); clear HB29
            have HM30 := Lib.hid (isRow_keepDb HM29.out hb); clear HM29
            have BXh_30 := Lib.hid (BXh_29.out.keep hb); clear BXh_29
            have BXi_30 := Lib.hid (BXi_29.out.keep hb); clear BXi_29
            have HVh_30 := Lib.hid (HVh_29.out.keep hb); clear HVh_29
            have HVi_30 := Lib.hid (HVi_29.out.keep hb); clear HVi_29
            have HVj_30 := Lib.hid (HVj_29.out.keep hb); clear HVj_29
            clear hb
            refine (pSame_yes _ _ E _ HVi_30.out HVj_30.out).mono ?_
            rintro e w31 ⟨rfl, hb⟩
            have HBW' := Lib.hid (bel_trans hb HBW.out); clear HBW; have HBW := Lib.hid HBW'.out; clear HBW'
            have HB31 := Lib.hid (bel_trans hb HB30.out); clear HB30
            have HM31 := Lib.hid (isRow_keepDb HM30.out hb); clear HM30
            have BXh_31 := Lib.hid (BXh_30.out.keep hb); clear BXh_30
            have BXi_31 := Lib.hid (BXi_30.out.keep hb); clear BXi_30
            have BXj_31 := Lib.hid (BXj_30.out.keep hb); clear BXj_30
            have HVh_31 := Lib.hid (HVh_30.out.keep hb); clear HVh_30
            have HVi_31 := Lib.hid (HVi_30.out.keep hb); clear HVi_30
            have HVj_31 := Lib.hid (HVj_30.out.keep hb); clear HVj_30
            clear hb
            clear hok8
            cases ok8
            · clear G5
              clear BXh_31
              clear HVh_31
              clear BXi_31
              clear HVi_31
              clear BXj_31
              clear HVj_31
              go_wp2_with fail
              go_meet
              exact HBW.out
            · have h9 := G5.out rfl
              subst h9
              clear G5
              obtain ⟨ch0, ch1, ch2⟩ := BXh_31.out
              obtain ⟨ci0, ci1, ci2⟩ := BXi_31.out
              obtain ⟨cj0, cj1, cj2⟩ := BXj_31.out
              go_wp2_with fail
              clear ch0 ch1 ch2
              clear ci0 ci1 ci2
              clear cj0 cj1 cj2
              refine (pSame_yes _ _ E _ HVj_31.out HVh_31.out).mono ?_
              rintro e w32 ⟨rfl, hb⟩
              have HBW' := Lib.hid (bel_trans hb HBW.out); clear HBW; have HBW := Lib.hid HBW'.out; clear HBW'
              have HB32 := Lib.hid (bel_trans hb HB31.out); clear HB31
              have HM32 := Lib.hid (isRow_keepDb HM31.out hb); clear HM31
              have BXh_32 := Lib.hid (BXh_31.out.keep hb); clear BXh_31
              have BXi_32 := Lib.hid (BXi_31.out.keep hb); clear BXi_31
              have BXj_32 := Lib.hid (BXj_31.out.keep hb); clear BXj_31
              have HVh_32 := Lib.hid (HVh_31.out.keep hb); clear HVh_31
              have HVi_32 := Lib.hid (HVi_31.out.keep hb); clear HVi_31
              have HVj_32 := Lib.hid (HVj_31.out.keep hb); clear HVj_31
              clear hb
              clear BXh_32
              clear HVh_32
              clear BXi_32
              clear HVi_32
              clear BXj_32
              clear HVj_32
              go_wp2_with fail
              go_meet
              exact HBW.out
  case rest =>
    as_aux_lemma =>
    have hb := hcut; clear hcut
    generalize wc = w19 at hb ⊢
    have HB19 := Lib.hid (bel_trans hb HB18.out); clear HB18
    have HM19 := Lib.hid (isRow_keepDb HM18.out hb); clear HM18
    have BXa_19 := Lib.hid (BXa_18.out.keep hb); clear BXa_18
    have BXb_19 := Lib.hid (BXb_18.out.keep hb); clear BXb_18
    have BXs_19 := Lib.hid (BXs_18.out.keep hb); clear BXs_18
    have BXt_19 := Lib.hid (BXt_18.out.keep hb); clear BXt_18
    have BXp_19 := Lib.hid (BXp_18.out.keep hb); clear BXp_18
    have BXr_19 := Lib.hid (BXr_18.out.keep hb); clear BXr_18
    have HVa_19 := Lib.hid (HVa_18.out.keep hb); clear HVa_18
    have HVb_19 := Lib.hid (HVb_18.out.keep hb); clear HVb_18
    have HVs_19 := Lib.hid (HVs_18.out.keep hb); clear HVs_18
    have HVt_19 := Lib.hid (HVt_18.out.keep hb); clear HVt_18
    have HVp_19 := Lib.hid (HVp_18.out.keep hb); clear HVp_18
    have HVr_19 := Lib.hid (HVr_18.out.keep hb); clear HVr_18
    clear hb
    clear AY hok1 hok2 hok3
    clear BXs_19
    clear HVs_19
    clear BXt_19
    clear HVt_19
    clear BXp_19
    clear HVp_19
    obtain ⟨ca0, ca1, ca2⟩ := BXa_19.out
    obtain ⟨cb0, cb1, cb2⟩ := BXb_19.out
    obtain ⟨cr0, cr1, cr2⟩ := BXr_19.out
    go_upto_if 189 with fail
    clear ca0 ca1 ca2
    clear cb0 cb1 cb2
    clear cr0 cr1 cr2
    go_cut [29, 30] from 190 to 203 (fun _ _ wx => Below w19.heap.size w19 wx)
    case first =>
      as_aux_lemma =>
      have HBW := Lib.hid (Below.refl w19.heap.size w19)
      cases ok3
      · clear AO
        clear BXa_19
        clear HVa_19
        clear BXb_19
        clear HVb_19
        clear BXr_19
        clear HVr_19
        go_wp2_with fail
        go_meet
        exact HBW.out
      · skip
        have F0 := Lib.hid (AO.out rfl); clear AO
        obtain ⟨ca0, ca1, ca2⟩ := BXa_19.out
        obtain ⟨cb0, cb1, cb2⟩ := BXb_19.out
        obtain ⟨cr0, cr1, cr2⟩ := BXr_19.out
        go_wp2_with fail
        clear ca0 ca1 ca2
        clear cb0 cb1 cb2
        clear cr0 cr1 cr2
        refine (F0.out _ _ _ HVb_19.out HVa_19.out).mono ?_
        rintro e w20 ⟨v9, rfl, hb, hv⟩
        have HBW' := Lib.hid (bel_trans hb HBW.out); clear HBW; have HBW := Lib.hid HBW'.out; clear HBW'
        have HB20 := Lib.hid (bel_trans hb HB19.out); clear HB19
        have HM20 := Lib.hid (isRow_keepDb HM19.out hb); clear HM19
        have BXa_20 := Lib.hid (BXa_19.out.keep hb); clear BXa_19
        have BXb_20 := Lib.hid (BXb_19.out.keep hb); clear BXb_19
        have BXr_20 := Lib.hid (BXr_19.out.keep hb); clear BXr_19
        have HVa_20 := Lib.hid (HVa_19.out.keep hb); clear HVa_19
        have HVb_20 := Lib.hid (HVb_19.out.keep hb); clear HVb_19
        have HVr_20 := Lib.hid (HVr_19.out.keep hb); clear HVr_19
        clear hb
        obtain ⟨adf, ccf, hq, -⟩ := id hv
        generalize decide (P < 0) = bf at hq
        generalize (digs (P).natAbs).length = lf at hq
        subst hq
        have HVf_20 := Lib.hid hv; clear hv
        obtain ⟨ca0, ca1, ca2⟩ := BXa_20.out
        obtain ⟨cb0, cb1, cb2⟩ := BXb_20.out
        obtain ⟨cr0, cr1, cr2⟩ := BXr_20.out
        go_wp2_with fail
        clear ca0 ca1 ca2
        clear cb0 cb1 cb2
        clear cr0 cr1 cr2
        have hb : Below w20.heap.size w20 (w20.alloc (.cells #[.bool bf, .slice adf lf ccf] 26)) := below_allocD _ _
        have hx0 := (Bv.new (.bool bf) (.slice adf lf ccf) w20 26)
        generalize w20.alloc (.cells #[.bool bf, .slice adf lf ccf] 26) = w21 at hb hx0 ⊢
        generalize hn : w20.heap.size = nf at hx0 ⊢
        have BXf_21 := Lib.hid hx0; clear hx0
        clear hn
        have HBW' := Lib.hid (bel_trans hb HBW.out); clear HBW; have HBW := Lib.hid HBW'.out; clear HBW'
        have HB21 := Lib.hid (bel_trans hb HB20.out); clear HB20
        have HM21 := Lib.hid (isRow_keepDb HM20.out hb); clear HM20
        have BXa_21 := Lib.hid (BXa_20.out.keep hb); clear BXa_20
        have BXb_21 := Lib.hid (BXb_20.out.keep hb); clear BXb_20
        have BXr_21 := Lib.hid (BXr_20.out.keep hb); clear BXr_20
        have HVa_21 := Lib.hid (HVa_20.out.keep hb); clear HVa_20
        have HVb_21 := Lib.hid (HVb_20.out.keep hb); clear HVb_20
        have HVr_21 := Lib.hid (HVr_20.out.keep hb); clear HVr_20
        have HVf_21 := Lib.hid (HVf_20.out.keep hb); clear HVf_20
        clear hb
        refine (pSame_yes _ _ P _ HVf_21.out HVr_21.out).mono ?_
        rintro e w22 ⟨rfl, hb⟩
        have HBW' := Lib.hid (bel_trans hb HBW.out); clear HBW; have HBW := Lib.hid HBW'.out; clear HBW'
        have HB22 := Lib.hid (bel_trans hb HB21.out); clear HB21
        have HM22 := Lib.hid (isRow_keepDb HM21.out hb); clear HM21
        have BXa_22 := Lib.hid (BXa_21.out.keep hb); clear BXa_21
        have BXb_22 := Lib.hid (BXb_21.out.keep hb); clear BXb_21
        have BXr_22 := Lib.hid (BXr_21.out.keep hb); clear BXr_21
        have BXf_22 := Lib.hid (BXf_21.out.keep hb); clear BXf_21
        have HVa_22 := Lib.hid (HVa_21.out.keep hb); clear HVa_21
        have HVb_22 := Lib.hid (HVb_21.out.keep hb); clear HVb_21
        have HVr_22 := Lib.hid (HVr_21.out.keep hb); clear HVr_21
        have HVf_22 := Lib.hid (HVf_21.out.keep hb); clear HVf_21
        clear hb
        clear F0
        clear BXa_22
        clear HVa_22
        clear BXb_22
        clear HVb_22
        clear BXr_22
        clear HVr_22
        clear BXf_22
        clear HVf_22
        go_wp2_with fail
        go_meet
        exact HBW.out
    case rest =>
      as_aux_lemma =>
      have hb := hcut; clear hcut
      generalize wc = w20 at hb ⊢
      have HB20 := Lib.hid (bel_trans hb HB19.out); clear HB19
      have HM20 := Lib.hid (isRow_keepDb HM19.out hb); clear HM19
      have BXa_20 := Lib.hid (BXa_19.out.keep hb); clear BXa_19
      have BXb_20 := Lib.hid (BXb_19.out.keep hb); clear BXb_19
      have BXr_20 := Lib.hid (BXr_19.out.keep hb); clear BXr_19
      have HVa_20 := Lib.hid (HVa_19.out.keep hb); clear HVa_19
      have HVb_20 := Lib.hid (HVb_19.out.keep hb); clear HVb_19
      have HVr_20 := Lib.hid (HVr_19.out.keep hb); clear HVr_19
      clear hb
      clear AO
      clear BXa_20
      clear HVa_20
      clear BXb_20
      clear HVb_20
      clear BXr_20
      clear HVr_20
      go_wp2_with fail
      refine (drawDivideWhole_any _ _ _ _ _ HM20.out HL1.out).mono ?_
      rintro e w21 ⟨v8, bc, us, q, rfl, hrc, hul, -, hb⟩
      clear HL1 HM20
      have HB21 := Lib.hid (bel_trans hb HB20.out); clear HB20
      clear hb
      obtain ⟨Q, R, five, rf⟩ := dfacts (n := bc) q hul
      have D0 := Lib.hid rf.d0; have D1 := Lib.hid rf.d1; have DY := Lib.hid rf.yes
      clear rf hul
      obtain ⟨adc, ccc, hq, -⟩ := id hrc
      generalize us.length = lc at hq
      subst hq
      have HVc_21 := Lib.hid hrc; clear hrc
      go_wp2_with fail
      have hb : Below w21.heap.size w21 (w21.alloc (.cells #[.bool bc, .slice adc lc ccc] 26)) := below_allocD _ _
      have hx0 := (Bv.new (.bool bc) (.slice adc lc ccc) w21 26)
      generalize w21.alloc (.cells #[.bool bc, .slice adc lc ccc] 26) = w22 at hb hx0 ⊢
      generalize hn : w21.heap.size = nc at hx0 ⊢
      have BXc_22 := Lib.hid hx0; clear hx0
      clear hn
      have HB22 := Lib.hid (bel_trans hb HB21.out); clear HB21
      have HVc_22 := Lib.hid (HVc_21.out.keep hb); clear HVc_21
      clear hb
      refine (D0.out _ _ HVc_22.out).mono ?_
      rintro e w23 ⟨v9, rfl, hb, hv⟩
      have HB23 := Lib.hid (bel_trans hb HB22.out); clear HB22
      have BXc_23 := Lib.hid (BXc_22.out.keep hb); clear BXc_22
      have HVc_23 := Lib.hid (HVc_22.out.keep hb); clear HVc_22
      clear hb
      obtain ⟨adm, ccm, hq, -⟩ := id hv
      generalize decide (Q < 0) = bm at hq
      generalize (digs (Q).natAbs).length = lm at hq
      subst hq
      have HVm_23 := Lib.hid hv; clear hv
      obtain ⟨cc0, cc1, cc2⟩ := BXc_23.out
      go_wp2_with fail
      clear cc0 cc1 cc2
      have hb : Below w23.heap.size w23 (w23.alloc (.cells #[.bool bm, .slice adm lm ccm] 26)) := below_allocD _ _
      have hx0 := (Bv.new (.bool bm) (.slice adm lm ccm) w23 26)
      generalize w23.alloc (.cells #[.bool bm, .slice adm lm ccm] 26) = w24 at hb hx0 ⊢
      generalize hn : w23.heap.size = nm at hx0 ⊢
      have BXm_24 := Lib.hid hx0; clear hx0
      clear hn
      have HB24 := Lib.hid (bel_trans hb HB23.out); clear HB23
      have BXc_24 := Lib.hid (BXc_23.out.keep hb); clear BXc_23
      have HVc_24 := Lib.hid (HVc_23.out.keep hb); clear HVc_23
      have HVm_24 := Lib.hid (HVm_23.out.keep hb); clear HVm_23
      clear hb
      refine (D1.out _ _ HVc_24.out).mono ?_
      rintro e w25 ⟨v9, rfl, hb, hv⟩
      have HB25 := Lib.hid (bel_trans hb HB24.out); clear HB24
      have BXc_25 := Lib.hid (BXc_24.out.keep hb); clear BXc_24
      have BXm_25 := Lib.hid (BXm_24.out.keep hb); clear BXm_24
      have HVc_25 := Lib.hid (HVc_24.out.keep hb); clear HVc_24
      have HVm_25 := Lib.hid (HVm_24.out.keep hb); clear HVm_24
      clear hb
      obtain ⟨adn, ccn, hq, -⟩ := id hv
      generalize decide (Q < 0) = bn at hq
      generalize (digs (Q).natAbs).length = ln at hq
      subst hq
      have HVn_25 := Lib.hid hv; clear hv
      clear D0 D1
      have hfive : (five != five) = false := by cases five <;> rfl
      have hRR : (R != R) = false := by simp
      obtain ⟨cc0, cc1, cc2⟩ := BXc_25.out
      obtain ⟨cm0, cm1, cm2⟩ := BXm_25.out
      go_wp2_with fail
      clear cc0 cc1 cc2
      clear cm0 cm1 cm2
      have hb : Below w25.heap.size w25 (w25.alloc (.cells #[.bool bn, .slice adn ln ccn] 26)) := below_allocD _ _
      have hx0 := (Bv.new (.bool bn) (.slice adn ln ccn) w25 26)
      generalize w25.alloc (.cells #[.bool bn, .slice adn ln ccn] 26) = w26 at hb hx0 ⊢
      generalize hn : w25.heap.size = nn at hx0 ⊢
      have BXn_26 := Lib.hid hx0; clear hx0
      clear hn
      have HB26 := Lib.hid (bel_trans hb HB25.out); clear HB25
      have BXc_26 := Lib.hid (BXc_25.out.keep hb); clear BXc_25
      have BXm_26 := Lib.hid (BXm_25.out.keep hb); clear BXm_25
      have HVc_26 := Lib.hid (HVc_25.out.keep hb); clear HVc_25
      have HVm_26 := Lib.hid (HVm_25.out.keep hb); clear HVm_25
      have HVn_26 := Lib.hid (HVn_25.out.keep hb); clear HVn_25
      clear hb
      refine (pSame_yes _ _ Q _ HVm_26.out HVn_26.out).mono ?_
      rintro e w27 ⟨rfl, hb⟩
      have HB27 := Lib.hid (bel_trans hb HB26.out); clear HB26
      have BXc_27 := Lib.hid (BXc_26.out.keep hb); clear BXc_26
      have BXm_27 := Lib.hid (BXm_26.out.keep hb); clear BXm_26
      have BXn_27 := Lib.hid (BXn_26.out.keep hb); clear BXn_26
      have HVc_27 := Lib.hid (HVc_26.out.keep hb); clear HVc_26
      have HVm_27 := Lib.hid (HVm_26.out.keep hb); clear HVm_26
      have HVn_27 := Lib.hid (HVn_26.out.keep hb); clear HVn_26
      clear hb
      as_aux_lemma =>
      clear hfive
      cases five
      · clear DY
        clear BXc_27
        clear HVc_27
        clear BXm_27
        clear HVm_27
        clear BXn_27
        clear HVn_27
        go_wp2_with fail
        go_ret
        exact ret_eq (by rfl) HB27.out
      · skip
        obtain ⟨M, U, Lw, Bk, Z, ok8, ok10, rf⟩ := DY.out rfl
        clear DY
        have E0 := Lib.hid rf.w7; have E1 := Lib.hid rf.u8; have E2 := Lib.hid rf.w9; have E3 := Lib.hid rf.b10; have E4 := Lib.hid rf.same; have E5 := Lib.hid rf.wa
        have hR0 := rf.r0; have hR1 := rf.r1
        clear rf
        have hRn : ¬ R < 0 := by omega
        have hRq : ¬ q ≤ R := by omega
        clear BXm_27
        clear HVm_27
        obtain ⟨cc0, cc1, cc2⟩ := BXc_27.out
        obtain ⟨cn0, cn1, cn2⟩ := BXn_27.out
        go_wp2_with fail
        clear cc0 cc1 cc2
        clear cn0 cn1 cn2
        refine (E0.out _).mono ?_
        rintro e w28 ⟨v9, rfl, hb, hv⟩
        have HB28 := Lib.hid (bel_trans hb HB27.out); clear HB27
        have BXc_28 := Lib.hid (BXc_27.out.keep hb); clear BXc_27
        have BXn_28 := Lib.hid (BXn_27.out.keep hb); clear BXn_27
        have HVc_28 := Lib.hid (HVc_27.out.keep hb); clear HVc_27
        have HVn_28 := Lib.hid (HVn_27.out.keep hb); clear HVn_27
        clear hb
        obtain ⟨adf, ccf, hq, -⟩ := id hv
        generalize decide (M < 0) = bf at hq
        generalize (digs (M).natAbs).length = lf at hq
        subst hq
        have HVf_28 := Lib.hid hv; clear hv
        obtain ⟨cc0, cc1, cc2⟩ := BXc_28.out
        obtain ⟨cn0, cn1, cn2⟩ := BXn_28.out
        go_wp2_with fail
        clear cc0 cc1 cc2
        clear cn0 cn1 cn2
        have hb : Below w28.heap.size w28 (w28.alloc (.cells #[.bool bf, .slice adf lf ccf] 26)) := below_allocD _ _
        have hx0 := (Bv.new (.bool bf) (.slice adf lf ccf) w28 26)
        generalize w28.alloc (.cells #[.bool bf, .slice adf lf ccf] 26) = w29 at hb hx0 ⊢
        generalize hn : w28.heap.size = nf at hx0 ⊢
        have BXf_29 := Lib.hid hx0; clear hx0
        clear hn
        have HB29 := Lib.hid (bel_trans hb HB28.out); clear HB28
        have BXc_29 := Lib.hid (BXc_28.out.keep hb); clear BXc_28
        have BXn_29 := Lib.hid (BXn_28.out.keep hb); clear BXn_28
        have HVc_29 := Lib.hid (HVc_28.out.keep hb); clear HVc_28
        have HVn_29 := Lib.hid (HVn_28.out.keep hb); clear HVn_28
        have HVf_29 := Lib.hid (HVf_28.out.keep hb); clear HVf_28
        clear hb
        refine (E1.out _ _ _ HVn_29.out HVf_29.out).mono ?_
        rintro e w30 ⟨v9, rfl, hb, hv⟩
        have HB30 := Lib.hid (bel_trans hb HB29.out); clear HB29
        have BXc_30 := Lib.hid (BXc_29.out.keep hb); clear BXc_29
        have BXn_30 := Lib.hid (BXn_29.out.keep hb); clear BXn_29
        have BXf_30 := Lib.hid (BXf_29.out.keep hb); clear BXf_29
        have HVc_30 := Lib.hid (HVc_29.out.keep hb); clear HVc_29
        have HVn_30 := Lib.hid (HVn_29.out.keep hb); clear HVn_29
        have HVf_30 := Lib.hid (HVf_29.out.keep hb); clear HVf_29
        clear hb
        obtain ⟨adg, ccg, hq, -⟩ := id hv
        generalize decide (U < 0) = bg at hq
        generalize (digs (U).natAbs).length = lg at hq
        subst hq
        have HVg_30 := Lib.hid hv; clear hv
        obtain ⟨cc0, cc1, cc2⟩ := BXc_30.out
        obtain ⟨cn0, cn1, cn2⟩ := BXn_30.out
        obtain ⟨cf0, cf1, cf2⟩ := BXf_30.out
        go_wp2_with fail
        clear cc0 cc1 cc2
        clear cn0 cn1 cn2
        clear cf0 cf1 cf2
        have hb : Below w30.heap.size w30 (w30.alloc (.cells #[.bool bg, .slice adg lg ccg] 26)) := below_allocD _ _
        have hx0 := (Bv.new (.bool bg) (.slice adg lg ccg) w30 26)
        generalize w30.alloc (.cells #[.bool bg, .slice adg lg ccg] 26) = w31 at hb hx0 ⊢
        generalize hn : w30.heap.size = ng at hx0 ⊢
        have BXg_31 := Lib.hid hx0; clear hx0
        clear hn
        have HB31 := Lib.hid (bel_trans hb HB30.out); clear HB30
        have BXc_31 := Lib.hid (BXc_30.out.keep hb); clear BXc_30
        have BXn_31 := Lib.hid (BXn_30.out.keep hb); clear BXn_30
        have BXf_31 := Lib.hid (BXf_30.out.keep hb); clear BXf_30
        have HVc_31 := Lib.hid (HVc_30.out.keep hb); clear HVc_30
        have HVn_31 := Lib.hid (HVn_30.out.keep hb); clear HVn_30
        have HVf_31 := Lib.hid (HVf_30.out.keep hb); clear HVf_30
        have HVg_31 := Lib.hid (HVg_30.out.keep hb); clear HVg_30
        clear hb
        refine (E2.out _).mono ?_
        rintro e w32 ⟨v9, rfl, hb, hv⟩
        have HB32 := Lib.hid (bel_trans hb HB31.out); clear HB31
        have BXc_32 := Lib.hid (BXc_31.out.keep hb); clear BXc_31
        have BXn_32 := Lib.hid (BXn_31.out.keep hb); clear BXn_31
        have BXf_32 := Lib.hid (BXf_31.out.keep hb); clear BXf_31
        have BXg_32 := Lib.hid (BXg_31.out.keep hb); clear BXg_31
        have HVc_32 := Lib.hid (HVc_31.out.keep hb); clear HVc_31
        have HVn_32 := Lib.hid (HVn_31.out.keep hb); clear HVn_31
        have HVf_32 := Lib.hid (HVf_31.out.keep hb); clear HVf_31
        have HVg_32 := Lib.hid (HVg_31.out.keep hb); clear HVg_31
        clear hb
        obtain ⟨adh, cch, hq, -⟩ := id hv
        generalize decide (Lw < 0) = bh at hq
        generalize (digs (Lw).natAbs).length = lh at hq
        subst hq
        have HVh_32 := Lib.hid hv; clear hv
        obtain ⟨cc0, cc1, cc2⟩ := BXc_32.out
        obtain ⟨cn0, cn1, cn2⟩ := BXn_32.out
        obtain ⟨cf0, cf1, cf2⟩ := BXf_32.out
        obtain ⟨cg0, cg1, cg2⟩ := BXg_32.out
        go_wp2_with fail
        clear cc0 cc1 cc2
        clear cn0 cn1 cn2
        clear cf0 cf1 cf2
        clear cg0 cg1 cg2
        have hb : Below w32.heap.size w32 (w32.alloc (.cells #[.bool bh, .slice adh lh cch] 26)) := below_allocD _ _
        have hx0 := (Bv.new (.bool bh) (.slice adh lh cch) w32 26)
        generalize w32.alloc (.cells #[.bool bh, .slice adh lh cch] 26) = w33 at hb hx0 ⊢
        generalize hn : w32.heap.size = nh at hx0 ⊢
        have BXh_33 := Lib.hid hx0; clear hx0
        clear hn
        have HB33 := Lib.hid (bel_trans hb HB32.out); clear HB32
        have BXc_33 := Lib.hid (BXc_32.out.keep hb); clear BXc_32
        have BXn_33 := Lib.hid (BXn_32.out.keep hb); clear BXn_32
        have BXf_33 := Lib.hid (BXf_32.out.keep hb); clear BXf_32
        have BXg_33 := Lib.hid (BXg_32.out.keep hb); clear BXg_32
        have HVc_33 := Lib.hid (HVc_32.out.keep hb); clear HVc_32
        have HVn_33 := Lib.hid (HVn_32.out.keep hb); clear HVn_32
        have HVf_33 := Lib.hid (HVf_32.out.keep hb); clear HVf_32
        have HVg_33 := Lib.hid (HVg_32.out.keep hb); clear HVg_32
        have HVh_33 := Lib.hid (HVh_32.out.keep hb); clear HVh_32
        clear hb
        refine (E3.out _ _ _ HVg_33.out HVh_33.out).mono ?_
        rintro e w34 ⟨v9, rfl, hb, hv⟩
        have HB34 := Lib.hid (bel_trans hb HB33.out); clear HB33
        have BXc_34 := Lib.hid (BXc_33.out.keep hb); clear BXc_33
        have BXn_34 := Lib.hid (BXn_33.out.keep hb); clear BXn_33
        have BXf_34 := Lib.hid (BXf_33.out.keep hb); clear BXf_33
        have BXg_34 := Lib.hid (BXg_33.out.keep hb); clear BXg_33
        have BXh_34 := Lib.hid (BXh_33.out.keep hb); clear BXh_33
        have HVc_34 := Lib.hid (HVc_33.out.keep hb); clear HVc_33
        have HVn_34 := Lib.hid (HVn_33.out.keep hb); clear HVn_33
        have HVf_34 := Lib.hid (HVf_33.out.keep hb); clear HVf_33
        have HVg_34 := Lib.hid (HVg_33.out.keep hb); clear HVg_33
        have HVh_34 := Lib.hid (HVh_33.out.keep hb); clear HVh_33
        clear hb
        obtain ⟨adi, cci, hq, -⟩ := id hv
        generalize decide (Bk < 0) = bi at hq
        generalize (digs (Bk).natAbs).length = li at hq
        subst hq
        have HVi_34 := Lib.hid hv; clear hv
        clear E0 E1 E2 E3
        clear BXn_34
        clear HVn_34
        clear BXf_34
        clear HVf_34
        clear BXg_34
        clear HVg_34
        clear BXh_34
        clear HVh_34
        cases ok8
        · clear E4 E5
          clear BXc_34
          clear HVc_34
          clear HVi_34
          go_wp2_with fail
          go_ret
          exact ret_eq (by rfl) (bel_alloc HB34.out _)
        · cases ok10
          · clear E4 E5
            clear BXc_34
            clear HVc_34
            clear HVi_34
            go_wp2_with fail
            go_ret
            exact ret_eq (by rfl) (bel_alloc HB34.out _)
          · have h9 := E4.out rfl rfl
            subst h9
            clear E4
            obtain ⟨cc0, cc1, cc2⟩ := BXc_34.out
            go_wp2_with fail
            clear cc0 cc1 cc2
            have hb : Below w34.heap.size w34 (w34.alloc (.cells #[.bool bi, .slice adi li cci] 26)) := below_allocD _ _
            have hx0 := (Bv.new (.bool bi) (.slice adi li cci) w34 26)
            generalize w34.alloc (.cells #[.bool bi, .slice adi li cci] 26) = w35 at hb hx0 ⊢
            generalize hn : w34.heap.size = ni at hx0 ⊢
            have BXi_35 := Lib.hid hx0; clear hx0
            clear hn
            have HB35 := Lib.hid (bel_trans hb HB34.out); clear HB34
            have BXc_35 := Lib.hid (BXc_34.out.keep hb); clear BXc_34
            have HVc_35 := Lib.hid (HVc_34.out.keep hb); clear HVc_34
            have HVi_35 := Lib.hid (HVi_34.out.keep hb); clear HVi_34
            clear hb
            refine (pSame_yes _ _ Bk _ HVi_35.out (E5.out _ _ HVc_35.out)).mono ?_
            rintro e w36 ⟨rfl, hb⟩
            have HB36 := Lib.hid (bel_trans hb HB35.out); clear HB35
            have BXc_36 := Lib.hid (BXc_35.out.keep hb); clear BXc_35
            have BXi_36 := Lib.hid (BXi_35.out.keep hb); clear BXi_35
            have HVc_36 := Lib.hid (HVc_35.out.keep hb); clear HVc_35
            have HVi_36 := Lib.hid (HVi_35.out.keep hb); clear HVi_35
            clear hb
            clear BXc_36
            clear HVc_36
            clear BXi_36
            clear HVi_36
            go_wp2_with fail
            go_ret
            exact ret_eq (by rfl) HB36.out
end Go.Proofs.Ytnhlcgbknkdbiaa.fnWholes
