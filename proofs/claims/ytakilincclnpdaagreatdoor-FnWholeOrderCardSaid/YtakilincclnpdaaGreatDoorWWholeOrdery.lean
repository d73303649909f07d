/- The walk of FnWholeOrder. No conditions. -/
import Derived.Test.YtakilincclnpdaaGreatDoorZky
import Derived.Test.YtakilincclnpdaaGreatDoorZhy
import Derived.Deep.Cut
import Derived.Deep.CutRange
namespace Go.Proofs.YtakilincclnpdaaGreatDoor
open Go.RowKit
/-- a box of two values. -/
def Bv (n : Nat) (u0 u1 : Value) (w : World) : Prop := n < w.heap.size ∧ w.cell? ⟨n, 0, none⟩ = some u0 ∧ w.cell? ⟨n, 1, none⟩ = some u1
theorem Bv.new (u0 u1 : Value) (w : World) (t : TypeId) : Bv w.heap.size u0 u1 (w.alloc (.cells #[u0, u1] t)) := ⟨by simp, by simp [go_sem], by simp [go_sem]⟩
theorem Bv.keep {n : Nat} {u0 u1 : Value} {w w' : World} (h : Bv n u0 u1 w) (hb : Below w.heap.size w w') : Bv n u0 u1 w' :=
  ⟨Nat.lt_of_lt_of_le h.1 hb.size, (hb.cell (p := ⟨n, 0, none⟩) h.1).trans h.2.1, (hb.cell (p := ⟨n, 1, none⟩) h.1).trans h.2.2⟩
end Go.Proofs.YtakilincclnpdaaGreatDoor
namespace Go.Proofs.YtakilincclnpdaaGreatDoor.fnWholeOrder
open Go.RowKit
set_option maxHeartbeats 16000000 in
set_option maxRecDepth 100000 in
theorem walk (ad0 : Option Addr) (len0 cap0 : Nat) (z0 : List Int) (ad1 : Option Addr) (len1 cap1 : Nat) (z1 : List Int) (w : World) (h0 : IsRow .u8 w ad0 len0 cap0 z0) (h1 : IsRow .u8 w ad1 len1 cap1 z1) (ht : PowT w) :
    Calls Tryz.prog 3 #[.slice ad0 len0 cap0, .slice ad1 len1 cap1] w (Ret (.bool true) w) := by
  have HRow := Lib.hid h0; have HMore := Lib.hid h1; have HTab := Lib.hid ht; clear h0 h1 ht
  by_cases hbig : 1048576 < len0 + len1
  · go_enter Tryz.func3, Tryz.ntmps3
    go_wp2_with fail
    have hb := big_any ad0 ad1 len0 len1 cap0 cap1 w
    rw [decide_eq_true hbig] at hb
    refine hb.mono ?_
    rintro e w1 ⟨rfl, hb1⟩
    go_wp2_with fail
    go_ret
    exact ret_eq (by rfl) hb1
  have hl0 : len0 ≤ 1048576 := by omega
  have hl1 : len1 ≤ 1048576 := by omega
  go_enter Tryz.func3, Tryz.ntmps3
  go_wp2_with fail
  have hb := big_any ad0 ad1 len0 len1 cap0 cap1 w
  rw [decide_eq_false hbig] at hb
  refine hb.mono ?_
  rintro e w1 ⟨rfl, hb1⟩
  clear hb hbig
  go_wp2_with fail
  refine (drawCompareWholes_any _ _ _ _ _ (isRow_keepDb HRow.out hb1) hl0).mono ?_
  rintro e w2 ⟨v8, v9, ba, bb, xs, ys, rfl, hra, hrb, hxl, hyl, hb2⟩
  have HB2 := Lib.hid (bel_trans hb2 hb1); have HM2 := Lib.hid (isRow_keepDb (isRow_keepDb HMore.out hb1) hb2); have HL1 := Lib.hid hl1; have HT2 := Lib.hid ((HTab.out.keep hb1).keep hb2)
  clear hb1 hb2 HRow HMore HTab hl0 hl1
  obtain ⟨c, ok, rf⟩ := ofacts (n := ba) (m := bb) hxl hyl
  have A0 := Lib.hid rf.c0; have A1 := Lib.hid rf.c1; have AY := Lib.hid rf.yes
  clear rf hxl hyl
  obtain ⟨ada, cca, hq, -⟩ := id hra
  generalize xs.length = la at hq
  subst hq
  obtain ⟨adb, ccb, hq, -⟩ := id hrb
  generalize ys.length = lb at hq
  subst hq
  have HVa_2 := Lib.hid hra; have HVb_2 := Lib.hid hrb; clear hra hrb
  go_wp2_with fail
  have hb : Below w2.heap.size w2 ((w2.alloc (.cells #[.bool ba, .slice ada la cca] 26)).alloc (.cells #[.bool bb, .slice adb lb ccb] 26)) := bel_alloc (below_allocD _ _) _
  have hx0 := ((Bv.new (.bool ba) (.slice ada la cca) w2 26).keep (below_allocD _ (.cells #[.bool bb, .slice adb lb ccb] 26)))
  have hx1 : Bv (w2.heap.size + 1) (.bool bb) (.slice adb lb ccb) ((w2.alloc (.cells #[.bool ba, .slice ada la cca] 26)).alloc (.cells #[.bool bb, .slice adb lb ccb] 26)) := by
    have := Bv.new (.bool bb) (.slice adb lb ccb) (w2.alloc (.cells #[.bool ba, .slice ada la cca] 26)) 26
    rw [show (w2.alloc (.cells #[.bool ba, .slice ada la cca] 26)).heap.size = w2.heap.size + 1 by simp] at this
    exact this
  generalize (w2.alloc (.cells #[.bool ba, .slice ada la cca] 26)).alloc (.cells #[.bool bb, .slice adb lb ccb] 26) = w3 at hb hx0 hx1 ⊢
  generalize hn : w2.heap.size = na at hx0 hx1 ⊢
  have BXa_3 := Lib.hid hx0; clear hx0
  have BXb_3 := Lib.hid hx1; clear hx1
  clear hn
  have HB3 := Lib.hid (bel_trans hb HB2.out); clear HB2
  have HM3 := Lib.hid (isRow_keepDb HM2.out hb); clear HM2
  have HT3 := Lib.hid (HT2.out.keep hb); clear HT2
  have HVa_3 := Lib.hid (HVa_2.out.keep hb); clear HVa_2
  have HVb_3 := Lib.hid (HVb_2.out.keep hb); clear HVb_2
  clear hb
  refine (A0.out _ _ _ HVa_3.out HVb_3.out).mono ?_
  rintro e w4 ⟨rfl, hb⟩
  have HB4 := Lib.hid (bel_trans hb HB3.out); clear HB3
  have HM4 := Lib.hid (isRow_keepDb HM3.out hb); clear HM3
  have HT4 := Lib.hid (HT3.out.keep hb); clear HT3
  have BXa_4 := Lib.hid (BXa_3.out.keep hb); clear BXa_3
  have BXb_4 := Lib.hid (BXb_3.out.keep hb); clear BXb_3
  have HVa_4 := Lib.hid (HVa_3.out.keep hb); clear HVa_3
  have HVb_4 := Lib.hid (HVb_3.out.keep hb); clear HVb_3
  clear hb
  obtain ⟨ca0, ca1, ca2⟩ := BXa_4.out
  obtain ⟨cb0, cb1, cb2⟩ := BXb_4.out
  go_wp2_with fail
  clear ca0 ca1 ca2
  clear cb0 cb1 cb2
  refine (A1.out _ _ _ HVa_4.out HVb_4.out).mono ?_
  rintro e w5 ⟨rfl, hb⟩
  have HB5 := Lib.hid (bel_trans hb HB4.out); clear HB4
  have HM5 := Lib.hid (isRow_keepDb HM4.out hb); clear HM4
  have HT5 := Lib.hid (HT4.out.keep hb); clear HT4
  have BXa_5 := Lib.hid (BXa_4.out.keep hb); clear BXa_4
  have BXb_5 := Lib.hid (BXb_4.out.keep hb); clear BXb_4
  have HVa_5 := Lib.hid (HVa_4.out.keep hb); clear HVa_4
  have HVb_5 := Lib.hid (HVb_4.out.keep hb); clear HVb_4
  clear hb
  clear A0 A1
  have hok : (ok != ok) = false := by cases ok <;> rfl
  have hcc : (c != c) = false := by simp
  obtain ⟨ca0, ca1, ca2⟩ := BXa_5.out
  obtain ⟨cb0, cb1, cb2⟩ := BXb_5.out
  go_upto_if 87 with fail
  clear ca0 ca1 ca2
  clear cb0 cb1 cb2
  go_cut [11, 12, 13, 14, 15, 16] from 88 to 146 (fun _ _ _ _ _ _ wx => Below w5.heap.size w5 wx)
  case first =>
    as_aux_lemma =>
    have HBW := Lib.hid (Below.refl w5.heap.size w5)
    clear hok hcc
    cases ok
    · clear AY
      clear BXa_5
      clear HVa_5
      clear BXb_5
      clear HVb_5
      go_wp2_with fail
      go_meet
      exact HBW.out
    · skip
      obtain ⟨D, ok3, R⟩ := AY.out rfl
      clear AY
      have F0 := Lib.hid R.back; have F1 := Lib.hid R.s0; have F2 := Lib.hid R.s1; have FZ := Lib.hid R.zer; have FSG := Lib.hid R.sgn; have hc0 := R.c0; have hc1 := R.c1
      clear R
      have hng : IntKind.i64.wrap (-c) = -c := wrapi (by omega) (by omega)
      have hng2 : wrap64 (-c) = -c := by unfold wrap64; omega
      have hcn : (-c != -c) = false := by simp
      obtain ⟨ca0, ca1, ca2⟩ := BXa_5.out
      obtain ⟨cb0, cb1, cb2⟩ := BXb_5.out
      go_wp2_with fail
      clear ca0 ca1 ca2
      clear cb0 cb1 cb2
      refine (F0.out _ _ _ HVa_5.out HVb_5.out).mono ?_
      rintro e w6 ⟨rfl, hb⟩
      have HBW' := Lib.hid (bel_trans hb HBW.out); clear HBW; have HBW := Lib.hid HBW'.out; clear HBW'
      have HB6 := Lib.hid (bel_trans hb HB5.out); clear HB5
      have HM6 := Lib.hid (isRow_keepDb HM5.out hb); clear HM5
      have HT6 := Lib.hid (HT5.out.keep hb); clear HT5
      have BXa_6 := Lib.hid (BXa_5.out.keep hb); clear BXa_5
      have BXb_6 := Lib.hid (BXb_5.out.keep hb); clear BXb_5
      have HVa_6 := Lib.hid (HVa_5.out.keep hb); clear HVa_5
      have HVb_6 := Lib.hid (HVb_5.out.keep hb); clear HVb_5
      clear hb
      obtain ⟨ca0, ca1, ca2⟩ := BXa_6.out
      obtain ⟨cb0, cb1, cb2⟩ := BXb_6.out
      go_wp2_with fail
      clear ca0 ca1 ca2
      clear cb0 cb1 cb2
      refine (F1.out _ _ _ HVa_6.out HVb_6.out).mono ?_
      rintro e w7 ⟨v9, rfl, hb, hv⟩
      have HBW' := Lib.hid (bel_trans hb HBW.out); clear HBW; have HBW := Lib.hid HBW'.out; clear HBW'
      have HB7 := Lib.hid (bel_trans hb HB6.out); clear HB6
      have HM7 := Lib.hid (isRow_keepDb HM6.out hb); clear HM6
      have HT7 := Lib.hid (HT6.out.keep hb); clear HT6
      have BXa_7 := Lib.hid (BXa_6.out.keep hb); clear BXa_6
      have BXb_7 := Lib.hid (BXb_6.out.keep hb); clear BXb_6
      have HVa_7 := Lib.hid (HVa_6.out.keep hb); clear HVa_6
      have HVb_7 := Lib.hid (HVb_6.out.keep hb); clear HVb_6
      clear hb
      obtain ⟨add, ccd, hq, -⟩ := id hv
      generalize decide (D < 0) = bd at hq
      generalize (digs (D).natAbs).length = ld at hq
      subst hq
      have HVd_7 := Lib.hid hv; clear hv
      obtain ⟨ca0, ca1, ca2⟩ := BXa_7.out
      obtain ⟨cb0, cb1, cb2⟩ := BXb_7.out
      go_wp2_with fail
      clear ca0 ca1 ca2
      clear cb0 cb1 cb2
      have hb : Below w7.heap.size w7 (w7.alloc (.cells #[.bool bd, .slice add ld ccd] 26)) := below_allocD _ _
      have hx0 := (Bv.new (.bool bd) (.slice add ld ccd) w7 26)
      generalize w7.alloc (.cells #[.bool bd, .slice add ld ccd] 26) = w8 at hb hx0 ⊢
      generalize hn : w7.heap.size = nd at hx0 ⊢
      have BXd_8 := Lib.hid hx0; clear hx0
      clear hn
      have HBW' := Lib.hid (bel_trans hb HBW.out); clear HBW; have HBW := Lib.hid HBW'.out; clear HBW'
      have HB8 := Lib.hid (bel_trans hb HB7.out); clear HB7
      have HM8 := Lib.hid (isRow_keepDb HM7.out hb); clear HM7
      have HT8 := Lib.hid (HT7.out.keep hb); clear HT7
      have BXa_8 := Lib.hid (BXa_7.out.keep hb); clear BXa_7
      have BXb_8 := Lib.hid (BXb_7.out.keep hb); clear BXb_7
      have HVa_8 := Lib.hid (HVa_7.out.keep hb); clear HVa_7
      have HVb_8 := Lib.hid (HVb_7.out.keep hb); clear HVb_7
      have HVd_8 := Lib.hid (HVd_7.out.keep hb); clear HVd_7
      clear hb
      refine (F2.out _ _ _ HVa_8.out HVb_8.out).mono ?_
      rintro e w9 ⟨v9, rfl, hb, hv⟩
      have HBW' := Lib.hid (bel_trans hb HBW.out); clear HBW; have HBW := Lib.hid HBW'.out; clear HBW'
      have HB9 := Lib.hid (bel_trans hb HB8.out); clear HB8
      have HM9 := Lib.hid (isRow_keepDb HM8.out hb); clear HM8
      have HT9 := Lib.hid (HT8.out.keep hb); clear HT8
      have BXa_9 := Lib.hid (BXa_8.out.keep hb); clear BXa_8
      have BXb_9 := Lib.hid (BXb_8.out.keep hb); clear BXb_8
      have BXd_9 := Lib.hid (BXd_8.out.keep hb); clear BXd_8
      have HVa_9 := Lib.hid (HVa_8.out.keep hb); clear HVa_8
      have HVb_9 := Lib.hid (HVb_8.out.keep hb); clear HVb_8
      have HVd_9 := Lib.hid (HVd_8.out.keep hb); clear HVd_8
      clear hb
      have hfz := FZ.out; have hfs := FSG.out
      clear F0 F1 F2 FZ FSG
      obtain ⟨ade, cce, hq, -⟩ := id hv
      generalize decide (D < 0) = be at hq hfs
      generalize (digs D.natAbs).length = le at hq hfz
      subst hq
      have HVe_9 := Lib.hid hv; clear hv
      have HFZ := Lib.hid hfz; have HFG := Lib.hid hfs; clear hfz hfs
      have hok3 : (ok3 != ok3) = false := by cases ok3 <;> rfl
      clear BXa_9
      clear HVa_9
      clear BXb_9
      clear HVb_9
      obtain ⟨cd0, cd1, cd2⟩ := BXd_9.out
      go_wp2_with fail
      clear cd0 cd1 cd2
      have hb : Below w9.heap.size w9 (w9.alloc (.cells #[.bool be, .slice ade le cce] 26)) := below_allocD _ _
      have hx0 := (Bv.new (.bool be) (.slice ade le cce) w9 26)
      generalize w9.alloc (.cells #[.bool be, .slice ade le cce] 26) = w10 at hb hx0 ⊢
      generalize hn : w9.heap.size = ne at hx0 ⊢
      have BXe_10 := Lib.hid hx0; clear hx0
      clear hn
      have HBW' := Lib.hid (bel_trans hb HBW.out); clear HBW; have HBW := Lib.hid HBW'.out; clear HBW'
      have HB10 := Lib.hid (bel_trans hb HB9.out); clear HB9
      have HM10 := Lib.hid (isRow_keepDb HM9.out hb); clear HM9
      have HT10 := Lib.hid (HT9.out.keep hb); clear HT9
      have BXd_10 := Lib.hid (BXd_9.out.keep hb); clear BXd_9
      have HVd_10 := Lib.hid (HVd_9.out.keep hb); clear HVd_9
      have HVe_10 := Lib.hid (HVe_9.out.keep hb); clear HVe_9
      clear hb
      refine (pSame_yes _ _ D _ HVd_10.out HVe_10.out).mono ?_
      rintro e w11 ⟨rfl, hb⟩
      have HBW' := Lib.hid (bel_trans hb HBW.out); clear HBW; have HBW := Lib.hid HBW'.out; clear HBW'
      have HB11 := Lib.hid (bel_trans hb HB10.out); clear HB10
      have HM11 := Lib.hid (isRow_keepDb HM10.out hb); clear HM10
      have HT11 := Lib.hid (HT10.out.keep hb); clear HT10
      have BXd_11 := Lib.hid (BXd_10.out.keep hb); clear BXd_10
      have BXe_11 := Lib.hid (BXe_10.out.keep hb); clear BXe_10
      have HVd_11 := Lib.hid (HVd_10.out.keep hb); clear HVd_10
      have HVe_11 := Lib.hid (HVe_10.out.keep hb); clear HVe_10
      clear hb
      clear BXd_11
      clear HVd_11
      clear hok3
      cases ok3
      · clear HFZ HFG
        obtain ⟨ce0, ce1, ce2⟩ := BXe_11.out
        go_wp2_with fail
        clear ce0 ce1 ce2
        go_meet
        exact HBW.out
      · have hfs := HFG.out rfl
        subst hfs
        have hfz := HFZ.out rfl
        clear HFZ HFG
        rcases (by omega : c = -1 ∨ c = 0 ∨ c = 1) with rfl | rfl | rfl
        · have hlz : ((le : Int) == 0) = false := by simp; omega
          clear hfz hng hng2 hcn hc0 hc1
          obtain ⟨ce0, ce1, ce2⟩ := BXe_11.out
          go_wp2_with fail
          clear ce0 ce1 ce2
          clear BXe_11
          clear HVe_11
          go_meet
          exact HBW.out
        · have hlz : ((le : Int) == 0) = true := by simp; omega
          clear hfz hng hng2 hcn hc0 hc1
          obtain ⟨ce0, ce1, ce2⟩ := BXe_11.out
          go_wp2_with fail
          clear ce0 ce1 ce2
          clear BXe_11
          clear HVe_11
          go_meet
          exact HBW.out
        · have hlz : ((le : Int) == 0) = false := by simp; omega
          clear hfz hng hng2 hcn hc0 hc1
          obtain ⟨ce0, ce1, ce2⟩ := BXe_11.out
          go_wp2_with fail
          clear ce0 ce1 ce2
          clear BXe_11
          clear HVe_11
          go_meet
          exact HBW.out
  case rest =>
    as_aux_lemma =>
    have hb := hcut; clear hcut
    generalize wc = w6 at hb ⊢
    have HB6 := Lib.hid (bel_trans hb HB5.out); clear HB5
    have HM6 := Lib.hid (isRow_keepDb HM5.out hb); clear HM5
    have HT6 := Lib.hid (HT5.out.keep hb); clear HT5
    have BXa_6 := Lib.hid (BXa_5.out.keep hb); clear BXa_5
    have BXb_6 := Lib.hid (BXb_5.out.keep hb); clear BXb_5
    have HVa_6 := Lib.hid (HVa_5.out.keep hb); clear HVa_5
    have HVb_6 := Lib.hid (HVb_5.out.keep hb); clear HVb_5
    clear hb
    clear AY hok hcc
    clear BXa_6
    clear HVa_6
    clear BXb_6
    clear HVb_6
    go_wp2_with fail
    refine (drawWholeText_any _ _ _ _ _ HM6.out HL1.out).mono ?_
    rintro e w7 ⟨v8, bu, us, rfl, hrv, hlv, hb⟩
    have HB7 := Lib.hid (bel_trans hb HB6.out); clear HB6
    have HM7 := Lib.hid (isRow_keepDb HM6.out hb); clear HM6
    have HT7 := Lib.hid (HT6.out.keep hb); clear HT6
    clear hb
    obtain ⟨t, k, one, rf⟩ := tfacts (n := bu) hlv
    have T0 := Lib.hid rf.t0; have T1 := Lib.hid rf.t1; have T2 := Lib.hid rf.b0; have T3 := Lib.hid rf.b1; have T4 := Lib.hid rf.isW; have hty := rf.yes
    clear rf hlv
    obtain ⟨adu, ccu, hq, -⟩ := id hrv
    generalize us.length = lu at hq hty
    subst hq
    have HVu_7 := Lib.hid hrv; clear hrv
    have TY := Lib.hid hty; clear hty
    go_wp2_with fail
    have hb : Below w7.heap.size w7 (w7.alloc (.cells #[.bool bu, .slice adu lu ccu] 26)) := below_allocD _ _
    have hx0 := (Bv.new (.bool bu) (.slice adu lu ccu) w7 26)
    generalize w7.alloc (.cells #[.bool bu, .slice adu lu ccu] 26) = w8 at hb hx0 ⊢
    generalize hn : w7.heap.size = nu at hx0 ⊢
    have BXu_8 := Lib.hid hx0; clear hx0
    clear hn
    have HB8 := Lib.hid (bel_trans hb HB7.out); clear HB7
    have HM8 := Lib.hid (isRow_keepDb HM7.out hb); clear HM7
    have HT8 := Lib.hid (HT7.out.keep hb); clear HT7
    have HVu_8 := Lib.hid (HVu_7.out.keep hb); clear HVu_7
    clear hb
    refine (T0.out _ _ HVu_8.out HT8.out).mono ?_
    rintro e w9 ⟨rfl, hb⟩
    have HB9 := Lib.hid (bel_trans hb HB8.out); clear HB8
    have HM9 := Lib.hid (isRow_keepDb HM8.out hb); clear HM8
    have HT9 := Lib.hid (HT8.out.keep hb); clear HT8
    have BXu_9 := Lib.hid (BXu_8.out.keep hb); clear BXu_8
    have HVu_9 := Lib.hid (HVu_8.out.keep hb); clear HVu_8
    clear hb
    obtain ⟨cu0, cu1, cu2⟩ := BXu_9.out
    go_wp2_with fail
    clear cu0 cu1 cu2
    refine (T1.out _ _ HVu_9.out).mono ?_
    rintro e w10 ⟨rfl, hb⟩
    have HB10 := Lib.hid (bel_trans hb HB9.out); clear HB9
    have HM10 := Lib.hid (isRow_keepDb HM9.out hb); clear HM9
    have HT10 := Lib.hid (HT9.out.keep hb); clear HT9
    have BXu_10 := Lib.hid (BXu_9.out.keep hb); clear BXu_9
    have HVu_10 := Lib.hid (HVu_9.out.keep hb); clear HVu_9
    clear hb
    obtain ⟨cu0, cu1, cu2⟩ := BXu_10.out
    go_wp2_with fail
    clear cu0 cu1 cu2
    refine (T2.out _ _ HVu_10.out).mono ?_
    rintro e w11 ⟨rfl, hb⟩
    have HB11 := Lib.hid (bel_trans hb HB10.out); clear HB10
    have HM11 := Lib.hid (isRow_keepDb HM10.out hb); clear HM10
    have HT11 := Lib.hid (HT10.out.keep hb); clear HT10
    have BXu_11 := Lib.hid (BXu_10.out.keep hb); clear BXu_10
    have HVu_11 := Lib.hid (HVu_10.out.keep hb); clear HVu_10
    clear hb
    obtain ⟨cu0, cu1, cu2⟩ := BXu_11.out
    go_wp2_with fail
    clear cu0 cu1 cu2
    refine (T3.out _ _ HVu_11.out).mono ?_
    rintro e w12 ⟨rfl, hb⟩
    have HB12 := Lib.hid (bel_trans hb HB11.out); clear HB11
    have HM12 := Lib.hid (isRow_keepDb HM11.out hb); clear HM11
    have HT12 := Lib.hid (HT11.out.keep hb); clear HT11
    have BXu_12 := Lib.hid (BXu_11.out.keep hb); clear BXu_11
    have HVu_12 := Lib.hid (HVu_11.out.keep hb); clear HVu_11
    clear hb
    have hone : (one != one) = false := by cases one <;> rfl
    have hkk : (k != k) = false := by simp
    obtain ⟨cu0, cu1, cu2⟩ := BXu_12.out
    go_wp2_with fail
    clear cu0 cu1 cu2
    refine (T4.out _ _ HVu_12.out).mono ?_
    rintro e w13 ⟨rfl, hb⟩
    have HB13 := Lib.hid (bel_trans hb HB12.out); clear HB12
    have HM13 := Lib.hid (isRow_keepDb HM12.out hb); clear HM12
    have HT13 := Lib.hid (HT12.out.keep hb); clear HT12
    have BXu_13 := Lib.hid (BXu_12.out.keep hb); clear BXu_12
    have HVu_13 := Lib.hid (HVu_12.out.keep hb); clear HVu_12
    clear hb
    clear T0 T1 T2 T3 T4
    obtain ⟨cu0, cu1, cu2⟩ := BXu_13.out
    go_upto_if 198 with fail
    clear cu0 cu1 cu2
    go_cut [26, 27] from 199 to 224 (fun _ _ wx => Below w13.heap.size w13 wx)
    case first =>
      as_aux_lemma =>
      have HBW := Lib.hid (Below.refl w13.heap.size w13)
      clear hone hkk
      cases one
      · clear TY
        clear BXu_13
        clear HVu_13
        go_wp2_with fail
        go_meet
        exact HBW.out
      · skip
        obtain ⟨Z, y0, y1, hk0, hk1⟩ := TY.out rfl
        clear TY
        have Y0 := Lib.hid y0; have Y1 := Lib.hid y1; have HK1 := Lib.hid hk1; clear y0 y1 hk1
        have hkn : ¬ k < 0 := by omega
        obtain ⟨cu0, cu1, cu2⟩ := BXu_13.out
        go_wp2_with fail
        clear cu0 cu1 cu2
        refine (Y0.out _ HT13.out).mono ?_
        rintro e w14 ⟨v9, rfl, hb, hv⟩
        have HBW' := Lib.hid (bel_trans hb HBW.out); clear HBW; have HBW := Lib.hid HBW'.out; clear HBW'
        have HB14 := Lib.hid (bel_trans hb HB13.out); clear HB13
        have HM14 := Lib.hid (isRow_keepDb HM13.out hb); clear HM13
        have HT14 := Lib.hid (HT13.out.keep hb); clear HT13
        have BXu_14 := Lib.hid (BXu_13.out.keep hb); clear BXu_13
        have HVu_14 := Lib.hid (HVu_13.out.keep hb); clear HVu_13
        clear hb
        obtain ⟨adf, ccf, hq, -⟩ := id hv
        generalize decide (Z < 0) = bf at hq
        generalize (digs (Z).natAbs).length = lf at hq
        subst hq
        have HVf_14 := Lib.hid hv; clear hv
        obtain ⟨cu0, cu1, cu2⟩ := BXu_14.out
        go_wp2_with fail
        clear cu0 cu1 cu2
        have hb : Below w14.heap.size w14 (w14.alloc (.cells #[.bool bf, .slice adf lf ccf] 26)) := below_allocD _ _
        have hx0 := (Bv.new (.bool bf) (.slice adf lf ccf) w14 26)
        generalize w14.alloc (.cells #[.bool bf, .slice adf lf ccf] 26) = w15 at hb hx0 ⊢
        generalize hn : w14.heap.size = nf at hx0 ⊢
        have BXf_15 := Lib.hid hx0; clear hx0
        clear hn
        have HBW' := Lib.hid (bel_trans hb HBW.out); clear HBW; have HBW := Lib.hid HBW'.out; clear HBW'
        have HB15 := Lib.hid (bel_trans hb HB14.out); clear HB14
        have HM15 := Lib.hid (isRow_keepDb HM14.out hb); clear HM14
        have HT15 := Lib.hid (HT14.out.keep hb); clear HT14
        have BXu_15 := Lib.hid (BXu_14.out.keep hb); clear BXu_14
        have HVu_15 := Lib.hid (HVu_14.out.keep hb); clear HVu_14
        have HVf_15 := Lib.hid (HVf_14.out.keep hb); clear HVf_14
        clear hb
        refine (pSame_yes _ _ Z _ HVf_15.out (Y1.out _ _ HVu_15.out)).mono ?_
        rintro e w16 ⟨rfl, hb⟩
        have HBW' := Lib.hid (bel_trans hb HBW.out); clear HBW; have HBW := Lib.hid HBW'.out; clear HBW'
        have HB16 := Lib.hid (bel_trans hb HB15.out); clear HB15
        have HM16 := Lib.hid (isRow_keepDb HM15.out hb); clear HM15
        have HT16 := Lib.hid (HT15.out.keep hb); clear HT15
        have BXu_16 := Lib.hid (BXu_15.out.keep hb); clear BXu_15
        have BXf_16 := Lib.hid (BXf_15.out.keep hb); clear BXf_15
        have HVu_16 := Lib.hid (HVu_15.out.keep hb); clear HVu_15
        have HVf_16 := Lib.hid (HVf_15.out.keep hb); clear HVf_15
        clear hb
        clear Y0 Y1
        by_cases hkz : k = 0
        · have hl0 : lu = 0 := HK1.out.1 hkz
          subst hl0
          subst hkz
          clear HK1
          clear BXf_16
          clear HVf_16
          obtain ⟨cu0, cu1, cu2⟩ := BXu_16.out
          go_wp2_with fail
          clear cu0 cu1 cu2
          clear BXu_16
          clear HVu_16
          go_meet
          exact HBW.out
        · have hl0 : ((lu : Int) == 0) = false := by have := HK1.out; simp; omega
          have hkz2 : (k == 0) = false := by simp [hkz]
          clear HK1 hkz
          clear BXf_16
          clear HVf_16
          obtain ⟨cu0, cu1, cu2⟩ := BXu_16.out
          go_wp2_with fail
          clear cu0 cu1 cu2
          clear BXu_16
          clear HVu_16
          go_meet
          exact HBW.out
    case rest =>
      as_aux_lemma =>
      have hb := hcut; clear hcut
      generalize wc = w14 at hb ⊢
      have HB14 := Lib.hid (bel_trans hb HB13.out); clear HB13
      have HM14 := Lib.hid (isRow_keepDb HM13.out hb); clear HM13
      have HT14 := Lib.hid (HT13.out.keep hb); clear HT13
      have BXu_14 := Lib.hid (BXu_13.out.keep hb); clear BXu_13
      have HVu_14 := Lib.hid (HVu_13.out.keep hb); clear HVu_13
      clear hb
      clear TY hone hkk
      clear BXu_14
      clear HVu_14
      go_wp2_with fail
      refine (drawPowerOfWhole_any _ _ _ _ _ HM14.out HL1.out).mono ?_
      rintro e w15 ⟨v8, bv, vs, q, rfl, hrv, hlv, -, hb⟩
      have HB15 := Lib.hid (bel_trans hb HB14.out); clear HB14
      have HM15 := Lib.hid (isRow_keepDb HM14.out hb); clear HM14
      have HT15 := Lib.hid (HT14.out.keep hb); clear HT14
      clear hb
      obtain ⟨P, five, rf⟩ := pwfacts (n := bv) q hlv
      have P0 := Lib.hid rf.p0; have P1 := Lib.hid rf.p1; have PY := Lib.hid rf.yes
      clear rf hlv
      obtain ⟨adv, ccv, hq, -⟩ := id hrv
      generalize vs.length = lv at hq
      subst hq
      have HVv_15 := Lib.hid hrv; clear hrv
      go_wp2_with fail
      have hb : Below w15.heap.size w15 (w15.alloc (.cells #[.bool bv, .slice adv lv ccv] 26)) := below_allocD _ _
      have hx0 := (Bv.new (.bool bv) (.slice adv lv ccv) w15 26)
      generalize w15.alloc (.cells #[.bool bv, .slice adv lv ccv] 26) = w16 at hb hx0 ⊢
      generalize hn : w15.heap.size = nv at hx0 ⊢
      have BXv_16 := Lib.hid hx0; clear hx0
      clear hn
      have HB16 := Lib.hid (bel_trans hb HB15.out); clear HB15
      have HM16 := Lib.hid (isRow_keepDb HM15.out hb); clear HM15
      have HT16 := Lib.hid (HT15.out.keep hb); clear HT15
      have HVv_16 := Lib.hid (HVv_15.out.keep hb); clear HVv_15
      clear hb
      refine (P0.out _ _ HVv_16.out).mono ?_
      rintro e w17 ⟨v9, rfl, hb, hv⟩
      have HB17 := Lib.hid (bel_trans hb HB16.out); clear HB16
      have HM17 := Lib.hid (isRow_keepDb HM16.out hb); clear HM16
      have HT17 := Lib.hid (HT16.out.keep hb); clear HT16
      have BXv_17 := Lib.hid (BXv_16.out.keep hb); clear BXv_16
      have HVv_17 := Lib.hid (HVv_16.out.keep hb); clear HVv_16
      clear hb
      obtain ⟨adp, ccp, hq, -⟩ := id hv
      generalize decide (P < 0) = bp at hq
      generalize (digs (P).natAbs).length = lp at hq
      subst hq
      have HVp_17 := Lib.hid hv; clear hv
      obtain ⟨cv0, cv1, cv2⟩ := BXv_17.out
      go_wp2_with fail
      clear cv0 cv1 cv2
      have hb : Below w17.heap.size w17 (w17.alloc (.cells #[.bool bp, .slice adp lp ccp] 26)) := below_allocD _ _
      have hx0 := (Bv.new (.bool bp) (.slice adp lp ccp) w17 26)
      generalize w17.alloc (.cells #[.bool bp, .slice adp lp ccp] 26) = w18 at hb hx0 ⊢
      generalize hn : w17.heap.size = np at hx0 ⊢
      have BXp_18 := Lib.hid hx0; clear hx0
      clear hn
      have HB18 := Lib.hid (bel_trans hb HB17.out); clear HB17
      have HM18 := Lib.hid (isRow_keepDb HM17.out hb); clear HM17
      have HT18 := Lib.hid (HT17.out.keep hb); clear HT17
      have BXv_18 := Lib.hid (BXv_17.out.keep hb); clear BXv_17
      have HVv_18 := Lib.hid (HVv_17.out.keep hb); clear HVv_17
      have HVp_18 := Lib.hid (HVp_17.out.keep hb); clear HVp_17
      clear hb
      refine (P1.out _ _ HVv_18.out).mono ?_
      rintro e w19 ⟨v9, rfl, hb, hv⟩
      have HB19 := Lib.hid (bel_trans hb HB18.out); clear HB18
      have HM19 := Lib.hid (isRow_keepDb HM18.out hb); clear HM18
      have HT19 := Lib.hid (HT18.out.keep hb); clear HT18
      have BXv_19 := Lib.hid (BXv_18.out.keep hb); clear BXv_18
      have BXp_19 := Lib.hid (BXp_18.out.keep hb); clear BXp_18
      have HVv_19 := Lib.hid (HVv_18.out.keep hb); clear HVv_18
      have HVp_19 := Lib.hid (HVp_18.out.keep hb); clear HVp_18
      clear hb
      obtain ⟨adr, ccr, hq, -⟩ := id hv
      generalize decide (P < 0) = br at hq
      generalize (digs (P).natAbs).length = lr at hq
      subst hq
      have HVr_19 := Lib.hid hv; clear hv
      clear P0 P1
      have hfive : (five != five) = false := by cases five <;> rfl
      obtain ⟨cv0, cv1, cv2⟩ := BXv_19.out
      obtain ⟨cp0, cp1, cp2⟩ := BXp_19.out
      go_wp2_with fail
      clear cv0 cv1 cv2
      clear cp0 cp1 cp2
      have hb : Below w19.heap.size w19 (w19.alloc (.cells #[.bool br, .slice adr lr ccr] 26)) := below_allocD _ _
      have hx0 := (Bv.new (.bool br) (.slice adr lr ccr) w19 26)
      generalize w19.alloc (.cells #[.bool br, .slice adr lr ccr] 26) = w20 at hb hx0 ⊢
      generalize hn : w19.heap.size = nr at hx0 ⊢
      have BXr_20 := Lib.hid hx0; clear hx0
      clear hn
      have HB20 := Lib.hid (bel_trans hb HB19.out); clear HB19
      have HM20 := Lib.hid (isRow_keepDb HM19.out hb); clear HM19
      have HT20 := Lib.hid (HT19.out.keep hb); clear HT19
      have BXv_20 := Lib.hid (BXv_19.out.keep hb); clear BXv_19
      have BXp_20 := Lib.hid (BXp_19.out.keep hb); clear BXp_19
      have HVv_20 := Lib.hid (HVv_19.out.keep hb); clear HVv_19
      have HVp_20 := Lib.hid (HVp_19.out.keep hb); clear HVp_19
      have HVr_20 := Lib.hid (HVr_19.out.keep hb); clear HVr_19
      clear hb
      refine (pSame_yes _ _ P _ HVp_20.out HVr_20.out).mono ?_
      rintro e w21 ⟨rfl, hb⟩
      have HB21 := Lib.hid (bel_trans hb HB20.out); clear HB20
      have HM21 := Lib.hid (isRow_keepDb HM20.out hb); clear HM20
      have HT21 := Lib.hid (HT20.out.keep hb); clear HT20
      have BXv_21 := Lib.hid (BXv_20.out.keep hb); clear BXv_20
      have BXp_21 := Lib.hid (BXp_20.out.keep hb); clear BXp_20
      have BXr_21 := Lib.hid (BXr_20.out.keep hb); clear BXr_20
      have HVv_21 := Lib.hid (HVv_20.out.keep hb); clear HVv_20
      have HVp_21 := Lib.hid (HVp_20.out.keep hb); clear HVp_20
      have HVr_21 := Lib.hid (HVr_20.out.keep hb); clear HVr_20
      clear hb
      clear BXp_21
      clear HVp_21
      clear hfive
      obtain ⟨cv0, cv1, cv2⟩ := BXv_21.out
      obtain ⟨cr0, cr1, cr2⟩ := BXr_21.out
      go_upto_region 30 with fail
      clear cv0 cv1 cv2
      clear cr0 cr1 cr2
      obtain ⟨g5, hg5⟩ : ∃ g5, (five && decide (0 < q)) = g5 := ⟨_, rfl⟩
      have HG5 := Lib.hid hg5; clear hg5
      go_cut [255] from 251 to 255 (fun v wx => v = .bool g5 ∧ w21 = wx)
      case first =>
        cases five
        · by_cases hq0 : 0 < q
          · have hg : g5 = false := by rw [← HG5.out]; rfl
            subst hg
            go_wp2_with fail
            go_meet
            exact ⟨rfl, rfl⟩
          · have hg : g5 = false := by rw [← HG5.out]; rfl
            subst hg
            go_wp2_with fail
            go_meet
            exact ⟨rfl, rfl⟩
        · by_cases hq0 : 0 < q
          · have hg : g5 = true := by rw [← HG5.out]; simp [hq0]
            subst hg
            go_wp2_with fail
            go_meet
            exact ⟨rfl, rfl⟩
          · have hg : g5 = false := by rw [← HG5.out]; simp [hq0]
            subst hg
            go_wp2_with fail
            go_meet
            exact ⟨rfl, rfl⟩
      case rest =>
      obtain ⟨rfl, rfl⟩ := hcut
      obtain ⟨cv0, cv1, cv2⟩ := BXv_21.out
      obtain ⟨cr0, cr1, cr2⟩ := BXr_21.out
      go_upto_if 255 with fail
      clear cv0 cv1 cv2
      clear cr0 cr1 cr2
      go_cut [34, 35, 36, 37, 38, 39] from 256 to 297 (fun _ _ _ _ _ _ wx => Below w21.heap.size w21 wx)
      case first =>
        as_aux_lemma =>
        have HBW := Lib.hid (Below.refl w21.heap.size w21)
        cases g5
        · clear PY HG5
          clear BXv_21
          clear HVv_21
          clear BXr_21
          clear HVr_21
          go_wp2_with fail
          go_meet
          exact HBW.out
        · have hg := HG5.out
          rw [Bool.and_eq_true, decide_eq_true_eq] at hg
          obtain ⟨hg1, hq0⟩ := hg
          subst hg1
          clear HG5
          obtain ⟨Lw, y0, y1, y2, hq64⟩ := PY.out rfl hq0
          clear PY
          have Y0 := Lib.hid y0; have Y1 := Lib.hid y1; have Y2 := Lib.hid y2; clear y0 y1 y2
          have hw1 : IntKind.i64.wrap (q - 1) = q - 1 := wrapi (by omega) (by omega)
          have hw2 : wrap64 (q - 1) = q - 1 := by unfold wrap64; omega
          obtain ⟨cv0, cv1, cv2⟩ := BXv_21.out
          obtain ⟨cr0, cr1, cr2⟩ := BXr_21.out
          go_wp2_with fail
          clear cv0 cv1 cv2
          clear cr0 cr1 cr2
          refine (Y0.out _ _ HVv_21.out).mono ?_
          rintro e w22 ⟨v9, rfl, hb, hv⟩
          have HBW' := Lib.hid (bel_trans hb HBW.out); clear HBW; have HBW := Lib.hid HBW'.out; clear HBW'
          have HB22 := Lib.hid (bel_trans hb HB21.out); clear HB21
          have HM22 := Lib.hid (isRow_keepDb HM21.out hb); clear HM21
          have HT22 := Lib.hid (HT21.out.keep hb); clear HT21
          have BXv_22 := Lib.hid (BXv_21.out.keep hb); clear BXv_21
          have BXr_22 := Lib.hid (BXr_21.out.keep hb); clear BXr_21
          have HVv_22 := Lib.hid (HVv_21.out.keep hb); clear HVv_21
          have HVr_22 := Lib.hid (HVr_21.out.keep hb); clear HVr_21
          clear hb
          obtain ⟨adf, ccf, hq, -⟩ := id hv
          generalize decide (Lw < 0) = bf at hq
          generalize (digs (Lw).natAbs).length = lf at hq
          subst hq
          have HVf_22 := Lib.hid hv; clear hv
          obtain ⟨cv0, cv1, cv2⟩ := BXv_22.out
          obtain ⟨cr0, cr1, cr2⟩ := BXr_22.out
          go_wp2_with fail
          clear cv0 cv1 cv2
          clear cr0 cr1 cr2
          have hb : Below w22.heap.size w22 (w22.alloc (.cells #[.bool bf, .slice adf lf ccf] 26)) := below_allocD _ _
          have hx0 := (Bv.new (.bool bf) (.slice adf lf ccf) w22 26)
          generalize w22.alloc (.cells #[.bool bf, .slice adf lf ccf] 26) = w23 at hb hx0 ⊢
          generalize hn : w22.heap.size = nf at hx0 ⊢
          have BXf_23 := Lib.hid hx0; clear hx0
          clear hn
          have HBW' := Lib.hid (bel_trans hb HBW.out); clear HBW; have HBW := Lib.hid HBW'.out; clear HBW'
          have HB23 := Lib.hid (bel_trans hb HB22.out); clear HB22
          have HM23 := Lib.hid (isRow_keepDb HM22.out hb); clear HM22
          have HT23 := Lib.hid (HT22.out.keep hb); clear HT22
          have BXv_23 := Lib.hid (BXv_22.out.keep hb); clear BXv_22
          have BXr_23 := Lib.hid (BXr_22.out.keep hb); clear BXr_22
          have HVv_23 := Lib.hid (HVv_22.out.keep hb); clear HVv_22
          have HVr_23 := Lib.hid (HVr_22.out.keep hb); clear HVr_22
          have HVf_23 := Lib.hid (HVf_22.out.keep hb); clear HVf_22
          clear hb
          refine (Y1.out _ _ HVv_23.out).mono ?_
          rintro e w24 ⟨v9, rfl, hb, hv⟩
          have HBW' := Lib.hid (bel_trans hb HBW.out); clear HBW; have HBW := Lib.hid HBW'.out; clear HBW'
          have HB24 := Lib.hid (bel_trans hb HB23.out); clear HB23
          have HM24 := Lib.hid (isRow_keepDb HM23.out hb); clear HM23
          have HT24 := Lib.hid (HT23.out.keep hb); clear HT23
          have BXv_24 := Lib.hid (BXv_23.out.keep hb); clear BXv_23
          have BXr_24 := Lib.hid (BXr_23.out.keep hb); clear BXr_23
          have BXf_24 := Lib.hid (BXf_23.out.keep hb); clear BXf_23
          have HVv_24 := Lib.hid (HVv_23.out.keep hb); clear HVv_23
          have HVr_24 := Lib.hid (HVr_23.out.keep hb); clear HVr_23
          have HVf_24 := Lib.hid (HVf_23.out.keep hb); clear HVf_23
          clear hb
          obtain ⟨adg, ccg, hq, -⟩ := id hv
          generalize decide (Lw < 0) = bg at hq
          generalize (digs (Lw).natAbs).length = lg at hq
          subst hq
          have HVg_24 := Lib.hid hv; clear hv
          obtain ⟨cv0, cv1, cv2⟩ := BXv_24.out
          obtain ⟨cr0, cr1, cr2⟩ := BXr_24.out
          obtain ⟨cf0, cf1, cf2⟩ := BXf_24.out
          go_wp2_with fail
          clear cv0 cv1 cv2
          clear cr0 cr1 cr2
          clear cf0 cf1 cf2
          have hb : Below w24.heap.size w24 (w24.alloc (.cells #[.bool bg, .slice adg lg ccg] 26)) := below_allocD _ _
          have hx0 := (Bv.new (.bool bg) (.slice adg lg ccg) w24 26)
          generalize w24.alloc (.cells #[.bool bg, .slice adg lg ccg] 26) = w25 at hb hx0 ⊢
          generalize hn : w24.heap.size = ng at hx0 ⊢
          have BXg_25 := Lib.hid hx0; clear hx0
          clear hn
          have HBW' := Lib.hid (bel_trans hb HBW.out); clear HBW; have HBW := Lib.hid HBW'.out; clear HBW'
          have HB25 := Lib.hid (bel_trans hb HB24.out); clear HB24
          have HM25 := Lib.hid (isRow_keepDb HM24.out hb); clear HM24
          have HT25 := Lib.hid (HT24.out.keep hb); clear HT24
          have BXv_25 := Lib.hid (BXv_24.out.keep hb); clear BXv_24
          have BXr_25 := Lib.hid (BXr_24.out.keep hb); clear BXr_24
          have BXf_25 := Lib.hid (BXf_24.out.keep hb); clear BXf_24
          have HVv_25 := Lib.hid (HVv_24.out.keep hb); clear HVv_24
          have HVr_25 := Lib.hid (HVr_24.out.keep hb); clear HVr_24
          have HVf_25 := Lib.hid (HVf_24.out.keep hb); clear HVf_24
          have HVg_25 := Lib.hid (HVg_24.out.keep hb); clear HVg_24
          clear hb
          refine (Y2.out _ _ _ HVf_25.out HVv_25.out).mono ?_
          rintro e w26 ⟨v9, rfl, hb, hv⟩
          have HBW' := Lib.hid (bel_trans hb HBW.out); clear HBW; have HBW := Lib.hid HBW'.out; clear HBW'
          have HB26 := Lib.hid (bel_trans hb HB25.out); clear HB25
          have HM26 := Lib.hid (isRow_keepDb HM25.out hb); clear HM25
          have HT26 := Lib.hid (HT25.out.keep hb); clear HT25
          have BXv_26 := Lib.hid (BXv_25.out.keep hb); clear BXv_25
          have BXr_26 := Lib.hid (BXr_25.out.keep hb); clear BXr_25
          have BXf_26 := Lib.hid (BXf_25.out.keep hb); clear BXf_25
          have BXg_26 := Lib.hid (BXg_25.out.keep hb); clear BXg_25
          have HVv_26 := Lib.hid (HVv_25.out.keep hb); clear HVv_25
          have HVr_26 := Lib.hid (HVr_25.out.keep hb); clear HVr_25
          have HVf_26 := Lib.hid (HVf_25.out.keep hb); clear HVf_25
          have HVg_26 := Lib.hid (HVg_25.out.keep hb); clear HVg_25
          clear hb
          obtain ⟨adh, cch, hq, -⟩ := id hv
          generalize decide (P < 0) = bh at hq
          generalize (digs (P).natAbs).length = lh at hq
          subst hq
          have HVh_26 := Lib.hid hv; clear hv
          obtain ⟨cv0, cv1, cv2⟩ := BXv_26.out
          obtain ⟨cr0, cr1, cr2⟩ := BXr_26.out
          obtain ⟨cf0, cf1, cf2⟩ := BXf_26.out
          obtain ⟨cg0, cg1, cg2⟩ := BXg_26.out
          go_wp2_with fail
          clear cv0 cv1 cv2
          clear cr0 cr1 cr2
          clear cf0 cf1 cf2
          clear cg0 cg1 cg2
          have hb : Below w26.heap.size w26 (w26.alloc (.cells #[.bool bh, .slice adh lh cch] 26)) := below_allocD _ _
          have hx0 := (Bv.new (.bool bh) (.slice adh lh cch) w26 26)
          generalize w26.alloc (.cells #[.bool bh, .slice adh lh cch] 26) = w27 at hb hx0 ⊢
          generalize hn : w26.heap.size = nh at hx0 ⊢
          have BXh_27 := Lib.hid hx0; clear hx0
          clear hn
          have HBW' := Lib.hid (bel_trans hb HBW.out); clear HBW; have HBW := Lib.hid HBW'.out; clear HBW'
          have HB27 := Lib.hid (bel_trans hb HB26.out); clear HB26
          have HM27 := Lib.hid (isRow_keepDb HM26.out hb); clear HM26
          have HT27 := Lib.hid (HT26.out.keep hb); clear HT26
          have BXv_27 := Lib.hid (BXv_26.out.keep hb); clear BXv_26
          have BXr_27 := Lib.hid (BXr_26.out.keep hb); clear BXr_26
          have BXf_27 := Lib.hid (BXf_26.out.keep hb); clear BXf_26
          have BXg_27 := Lib.hid (BXg_26.out.keep hb); clear BXg_26
          have HVv_27 := Lib.hid (HVv_26.out.keep hb); clear HVv_26
          have HVr_27 := Lib.hid (HVr_26.out.keep hb); clear HVr_26
          have HVf_27 := Lib.hid (HVf_26.out.keep hb); clear HVf_26
          have HVg_27 := Lib.hid (HVg_26.out.keep hb); clear HVg_26
          have HVh_27 := Lib.hid (HVh_26.out.keep hb); clear HVh_26
          clear hb
          clear Y0 Y1 Y2
          refine (pSame_yes _ _ Lw _ HVf_27.out HVg_27.out).mono ?_
          rintro e w28 ⟨rfl, hb⟩
          have HBW' := Lib.hid (bel_trans hb HBW.out); clear HBW; have HBW := Lib.hid HBW'.out; clear HBW'
          have HB28 := Lib.hid (bel_trans hb HB27.out); clear HB27
          have HM28 := Lib.hid (isRow_keepDb HM27.out hb); clear HM27
          have HT28 := Lib.hid (HT27.out.keep hb); clear HT27
          have BXv_28 := Lib.hid (BXv_27.out.keep hb); clear BXv_27
          have BXr_28 := Lib.hid (BXr_27.out.keep hb); clear BXr_27
          have BXf_28 := Lib.hid (BXf_27.out.keep hb); clear BXf_27
          have BXg_28 := Lib.hid (BXg_27.out.keep hb); clear BXg_27
          have BXh_28 := Lib.hid (BXh_27.out.keep hb); clear BXh_27
          have HVv_28 := Lib.hid (HVv_27.out.keep hb); clear HVv_27
          have HVr_28 := Lib.hid (HVr_27.out.keep hb); clear HVr_27
          have HVf_28 := Lib.hid (HVf_27.out.keep hb); clear HVf_27
          have HVg_28 := Lib.hid (HVg_27.out.keep hb); clear HVg_27
          have HVh_28 := Lib.hid (HVh_27.out.keep hb); clear HVh_27
          clear hb
          obtain ⟨cv0, cv1, cv2⟩ := BXv_28.out
          obtain ⟨cr0, cr1, cr2⟩ := BXr_28.out
          obtain ⟨cf0, cf1, cf2⟩ := BXf_28.out
          obtain ⟨cg0, cg1, cg2⟩ := BXg_28.out
          obtain ⟨ch0, ch1, ch2⟩ := BXh_28.out
          go_wp2_with fail
          clear cv0 cv1 cv2
          clear cr0 cr1 cr2
          clear cf0 cf1 cf2
          clear cg0 cg1 cg2
          clear ch0 ch1 ch2
          refine (pSame_yes _ _ P _ HVh_28.out HVr_28.out).mono ?_
          rintro e w29 ⟨rfl, hb⟩
          have HBW' := Lib.hid (bel_trans hb HBW.out); clear HBW; have HBW := Lib.hid HBW'.out; clear HBW'
          have HB29 := Lib.hid (bel_trans hb HB28.out); clear HB28
          have HM29 := Lib.hid (isRow_keepDb HM28.out hb); clear HM28
          have HT29 := Lib.hid (HT28.out.keep hb); clear HT28
          have BXv_29 := Lib.hid (BXv_28.out.keep hb); clear BXv_28
          have BXr_29 := Lib.hid (BXr_28.out.keep hb); clear BXr_28
          have BXf_29 := Lib.hid (BXf_28.out.keep hb); clear BXf_28
          have BXg_29 := Lib.hid (BXg_28.out.keep hb); clear BXg_28
          have BXh_29 := Lib.hid (BXh_28.out.keep hb); clear BXh_28
          have HVv_29 := Lib.hid (HVv_28.out.keep hb); clear HVv_28
          have HVr_29 := Lib.hid (HVr_28.out.keep hb); clear HVr_28
          have HVf_29 := Lib.hid (HVf_28.out.keep hb); clear HVf_28
          have HVg_29 := Lib.hid (HVg_28.out.keep hb); clear HVg_28
          have HVh_29 := Lib.hid (HVh_28.out.keep hb); clear HVh_28
          clear hb
          clear BXv_29
          clear HVv_29
          clear BXr_29
          clear HVr_29
          clear BXf_29
          clear HVf_29
          clear BXg_29
          clear HVg_29
          clear BXh_29
          clear HVh_29
          go_wp2_with fail
          go_meet
          exact HBW.out
      case rest =>
        as_aux_lemma =>
        have hb := hcut; clear hcut
        generalize wc = w22 at hb ⊢
        have HB22 := Lib.hid (bel_trans hb HB21.out); clear HB21
        have HM22 := Lib.hid (isRow_keepDb HM21.out hb); clear HM21
        have HT22 := Lib.hid (HT21.out.keep hb); clear HT21
        have BXv_22 := Lib.hid (BXv_21.out.keep hb); clear BXv_21
        have BXr_22 := Lib.hid (BXr_21.out.keep hb); clear BXr_21
        have HVv_22 := Lib.hid (HVv_21.out.keep hb); clear HVv_21
        have HVr_22 := Lib.hid (HVr_21.out.keep hb); clear HVr_21
        clear hb
        clear PY HG5
        clear BXv_22
        clear HVv_22
        clear BXr_22
        clear HVr_22
        go_wp2_with fail
        refine (drawDivisorWith_any _ _ _ _ _ HM22.out HL1.out).mono ?_
        rintro e w23 ⟨v8, bx, ws, q2, rfl, hrv, hlv, -, hb⟩
        have HB23 := Lib.hid (bel_trans hb HB22.out); clear HB22
        have HM23 := Lib.hid (isRow_keepDb HM22.out hb); clear HM22
        have HT23 := Lib.hid (HT22.out.keep hb); clear HT22
        clear hb
        obtain ⟨G, seven, rf⟩ := dvfacts (n := bx) q2 hlv
        have D0 := Lib.hid rf.d0; have D1 := Lib.hid rf.d1; have DY := Lib.hid rf.yes
        clear rf hlv
        obtain ⟨adx, ccx, hq, -⟩ := id hrv
        generalize ws.length = lx at hq
        subst hq
        have HVx_23 := Lib.hid hrv; clear hrv
        go_wp2_with fail
        have hb : Below w23.heap.size w23 (w23.alloc (.cells #[.bool bx, .slice adx lx ccx] 26)) := below_allocD _ _
        have hx0 := (Bv.new (.bool bx) (.slice adx lx ccx) w23 26)
        generalize w23.alloc (.cells #[.bool bx, .slice adx lx ccx] 26) = w24 at hb hx0 ⊢
        generalize hn : w23.heap.size = nx at hx0 ⊢
        have BXx_24 := Lib.hid hx0; clear hx0
        clear hn
        have HB24 := Lib.hid (bel_trans hb HB23.out); clear HB23
        have HM24 := Lib.hid (isRow_keepDb HM23.out hb); clear HM23
        have HT24 := Lib.hid (HT23.out.keep hb); clear HT23
        have HVx_24 := Lib.hid (HVx_23.out.keep hb); clear HVx_23
        clear hb
        refine (D0.out _ _ HVx_24.out).mono ?_
        rintro e w25 ⟨rfl, hb⟩
        have HB25 := Lib.hid (bel_trans hb HB24.out); clear HB24
        have HM25 := Lib.hid (isRow_keepDb HM24.out hb); clear HM24
        have HT25 := Lib.hid (HT24.out.keep hb); clear HT24
        have BXx_25 := Lib.hid (BXx_24.out.keep hb); clear BXx_24
        have HVx_25 := Lib.hid (HVx_24.out.keep hb); clear HVx_24
        clear hb
        obtain ⟨cx0, cx1, cx2⟩ := BXx_25.out
        go_wp2_with fail
        clear cx0 cx1 cx2
        refine (D1.out _ _ HVx_25.out).mono ?_
        rintro e w26 ⟨rfl, hb⟩
        have HB26 := Lib.hid (bel_trans hb HB25.out); clear HB25
        have HM26 := Lib.hid (isRow_keepDb HM25.out hb); clear HM25
        have HT26 := Lib.hid (HT25.out.keep hb); clear HT25
        have BXx_26 := Lib.hid (BXx_25.out.keep hb); clear BXx_25
        have HVx_26 := Lib.hid (HVx_25.out.keep hb); clear HVx_25
        clear hb
        clear D0 D1
        have hsev : (seven != seven) = false := by cases seven <;> rfl
        have hGG : (G != G) = false := by simp
        obtain ⟨cx0, cx1, cx2⟩ := BXx_26.out
        go_upto_if 323 with fail
        clear cx0 cx1 cx2
        go_cut [46, 47, 48] from 324 to 342 (fun _ _ _ wx => Below w26.heap.size w26 wx)
        case first =>
          as_aux_lemma =>
          have HBW := Lib.hid (Below.refl w26.heap.size w26)
          clear hsev hGG
          cases seven
          · clear DY
            clear BXx_26
            clear HVx_26
            go_wp2_with fail
            go_meet
            exact HBW.out
          · skip
            obtain ⟨Q, y0, hr1, hr2, hG1⟩ := DY.out rfl
            clear DY
            have Y0 := Lib.hid y0; clear y0
            have hG0 : (G == 0) = false := by simp; omega
            have hG2 : ¬ G = 0 := by omega
            obtain ⟨cx0, cx1, cx2⟩ := BXx_26.out
            go_wp2_with fail
            clear cx0 cx1 cx2
            refine (Y0.out _ _ HVx_26.out).mono ?_
            rintro e w27 ⟨v9, rfl, hb, hv⟩
            have HBW' := Lib.hid (bel_trans hb HBW.out); clear HBW; have HBW := Lib.hid HBW'.out; clear HBW'
            have HB27 := Lib.hid (bel_trans hb HB26.out); clear HB26
            have HM27 := Lib.hid (isRow_keepDb HM26.out hb); clear HM26
            have HT27 := Lib.hid (HT26.out.keep hb); clear HT26
            have BXx_27 := Lib.hid (BXx_26.out.keep hb); clear BXx_26
            have HVx_27 := Lib.hid (HVx_26.out.keep hb); clear HVx_26
            clear hb
            obtain ⟨adf, ccf, hq, -⟩ := id hv
            generalize decide (Q < 0) = bf at hq
            generalize (digs (Q).natAbs).length = lf at hq
            subst hq
            have HVf_27 := Lib.hid hv; clear hv
            clear Y0
            clear BXx_27
            clear HVx_27
            clear HVf_27
            go_wp2_with fail
            go_meet
            exact bel_alloc (HBW.out) _
        case rest =>
          as_aux_lemma =>
          have hb := hcut; clear hcut
          generalize wc = w27 at hb ⊢
          have HB27 := Lib.hid (bel_trans hb HB26.out); clear HB26
          have HM27 := Lib.hid (isRow_keepDb HM26.out hb); clear HM26
          have HT27 := Lib.hid (HT26.out.keep hb); clear HT26
          have BXx_27 := Lib.hid (BXx_26.out.keep hb); clear BXx_26
          have HVx_27 := Lib.hid (HVx_26.out.keep hb); clear HVx_26
          clear hb
          clear DY hsev hGG
          clear BXx_27
          clear HVx_27
          go_wp2_with fail
          refine (drawParseWhole_any _ _ _ _ _ HM27.out HL1.out).mono ?_
          rintro e w28 ⟨sx, rfl, hsx, hb⟩
          have HB28 := Lib.hid (bel_trans hb HB27.out); clear HB27
          have HM28 := Lib.hid (isRow_keepDb HM27.out hb); clear HM27
          have HT28 := Lib.hid (HT27.out.keep hb); clear HT27
          clear hb
          obtain ⟨Y, nine, rf⟩ := yfacts sx hsx
          have Y0 := Lib.hid rf.y0; have Y1 := Lib.hid rf.y1
          clear rf hsx
          go_wp2_with fail
          refine (Y0.out _ HT28.out).mono ?_
          rintro e w29 ⟨v9, rfl, hb, hv⟩
          have HB29 := Lib.hid (bel_trans hb HB28.out); clear HB28
          have HM29 := Lib.hid (isRow_keepDb HM28.out hb); clear HM28
          have HT29 := Lib.hid (HT28.out.keep hb); clear HT28
          clear hb
          obtain ⟨adf, ccf, hq, -⟩ := id hv
          generalize decide (Y < 0) = bf at hq
          generalize (digs (Y).natAbs).length = lf at hq
          subst hq
          have HVf_29 := Lib.hid hv; clear hv
          go_wp2_with fail
          have hb : Below w29.heap.size w29 (w29.alloc (.cells #[.bool bf, .slice adf lf ccf] 26)) := below_allocD _ _
          have hx0 := (Bv.new (.bool bf) (.slice adf lf ccf) w29 26)
          generalize w29.alloc (.cells #[.bool bf, .slice adf lf ccf] 26) = w30 at hb hx0 ⊢
          generalize hn : w29.heap.size = nf at hx0 ⊢
          have BXf_30 := Lib.hid hx0; clear hx0
          clear hn
          have HB30 := Lib.hid (bel_trans hb HB29.out); clear HB29
          have HM30 := Lib.hid (isRow_keepDb HM29.out hb); clear HM29
          have HT30 := Lib.hid (HT29.out.keep hb); clear HT29
          have HVf_30 := Lib.hid (HVf_29.out.keep hb); clear HVf_29
          clear hb
          refine (Y1.out _).mono ?_
          rintro e w31 ⟨v9, rfl, hb, hv⟩
          have HB31 := Lib.hid (bel_trans hb HB30.out); clear HB30
          have HM31 := Lib.hid (isRow_keepDb HM30.out hb); clear HM30
          have HT31 := Lib.hid (HT30.out.keep hb); clear HT30
          have BXf_31 := Lib.hid (BXf_30.out.keep hb); clear BXf_30
          have HVf_31 := Lib.hid (HVf_30.out.keep hb); clear HVf_30
          clear hb
          obtain ⟨adg, ccg, hq, -⟩ := id hv
          generalize decide (Y < 0) = bg at hq
          generalize (digs (Y).natAbs).length = lg at hq
          subst hq
          have HVg_31 := Lib.hid hv; clear hv
          obtain ⟨cf0, cf1, cf2⟩ := BXf_31.out
          go_wp2_with fail
          clear cf0 cf1 cf2
          have hb : Below w31.heap.size w31 (w31.alloc (.cells #[.bool bg, .slice adg lg ccg] 26)) := below_allocD _ _
          have hx0 := (Bv.new (.bool bg) (.slice adg lg ccg) w31 26)
          generalize w31.alloc (.cells #[.bool bg, .slice adg lg ccg] 26) = w32 at hb hx0 ⊢
          generalize hn : w31.heap.size = ng at hx0 ⊢
          have BXg_32 := Lib.hid hx0; clear hx0
          clear hn
          have HB32 := Lib.hid (bel_trans hb HB31.out); clear HB31
          have HM32 := Lib.hid (isRow_keepDb HM31.out hb); clear HM31
          have HT32 := Lib.hid (HT31.out.keep hb); clear HT31
          have BXf_32 := Lib.hid (BXf_31.out.keep hb); clear BXf_31
          have HVf_32 := Lib.hid (HVf_31.out.keep hb); clear HVf_31
          have HVg_32 := Lib.hid (HVg_31.out.keep hb); clear HVg_31
          clear hb
          clear Y0 Y1 HT32
          refine (drawWholeOf_any _ _ _ _ _ HM32.out HL1.out).mono ?_
          rintro e w33 ⟨zz, rfl, -, hb⟩
          clear HL1 HM32
          have HB33 := Lib.hid (bel_trans hb HB32.out); clear HB32
          have BXf_33 := Lib.hid (BXf_32.out.keep hb); clear BXf_32
          have BXg_33 := Lib.hid (BXg_32.out.keep hb); clear BXg_32
          have HVf_33 := Lib.hid (HVf_32.out.keep hb); clear HVf_32
          have HVg_33 := Lib.hid (HVg_32.out.keep hb); clear HVg_32
          clear hb
          obtain ⟨W9, elv, rf⟩ := zfacts zz
          have Z0 := Lib.hid rf.z0; have Z1 := Lib.hid rf.z1
          clear rf
          obtain ⟨cf0, cf1, cf2⟩ := BXf_33.out
          obtain ⟨cg0, cg1, cg2⟩ := BXg_33.out
          go_wp2_with fail
          clear cf0 cf1 cf2
          clear cg0 cg1 cg2
          refine (Z0.out _).mono ?_
          rintro e w34 ⟨v9, rfl, hb, hv⟩
          have HB34 := Lib.hid (bel_trans hb HB33.out); clear HB33
          have BXf_34 := Lib.hid (BXf_33.out.keep hb); clear BXf_33
          have BXg_34 := Lib.hid (BXg_33.out.keep hb); clear BXg_33
          have HVf_34 := Lib.hid (HVf_33.out.keep hb); clear HVf_33
          have HVg_34 := Lib.hid (HVg_33.out.keep hb); clear HVg_33
          clear hb
          obtain ⟨adh, cch, hq, -⟩ := id hv
          generalize decide (W9 < 0) = bh at hq
          generalize (digs (W9).natAbs).length = lh at hq
          subst hq
          have HVh_34 := Lib.hid hv; clear hv
          obtain ⟨cf0, cf1, cf2⟩ := BXf_34.out
          obtain ⟨cg0, cg1, cg2⟩ := BXg_34.out
          go_wp2_with fail
          clear cf0 cf1 cf2
          clear cg0 cg1 cg2
          have hb : Below w34.heap.size w34 (w34.alloc (.cells #[.bool bh, .slice adh lh cch] 26)) := below_allocD _ _
          have hx0 := (Bv.new (.bool bh) (.slice adh lh cch) w34 26)
          generalize w34.alloc (.cells #[.bool bh, .slice adh lh cch] 26) = w35 at hb hx0 ⊢
          generalize hn : w34.heap.size = nh at hx0 ⊢
          have BXh_35 := Lib.hid hx0; clear hx0
          clear hn
          have HB35 := Lib.hid (bel_trans hb HB34.out); clear HB34
          have BXf_35 := Lib.hid (BXf_34.out.keep hb); clear BXf_34
          have BXg_35 := Lib.hid (BXg_34.out.keep hb); clear BXg_34
          have HVf_35 := Lib.hid (HVf_34.out.keep hb); clear HVf_34
          have HVg_35 := Lib.hid (HVg_34.out.keep hb); clear HVg_34
          have HVh_35 := Lib.hid (HVh_34.out.keep hb); clear HVh_34
          clear hb
          refine (Z1.out _).mono ?_
          rintro e w36 ⟨v9, rfl, hb, hv⟩
          have HB36 := Lib.hid (bel_trans hb HB35.out); clear HB35
          have BXf_36 := Lib.hid (BXf_35.out.keep hb); clear BXf_35
          have BXg_36 := Lib.hid (BXg_35.out.keep hb); clear BXg_35
          have BXh_36 := Lib.hid (BXh_35.out.keep hb); clear BXh_35
          have HVf_36 := Lib.hid (HVf_35.out.keep hb); clear HVf_35
          have HVg_36 := Lib.hid (HVg_35.out.keep hb); clear HVg_35
          have HVh_36 := Lib.hid (HVh_35.out.keep hb); clear HVh_35
          clear hb
          obtain ⟨adi, cci, hq, -⟩ := id hv
          generalize decide (W9 < 0) = bi at hq
          generalize (digs (W9).natAbs).length = li at hq
          subst hq
          have HVi_36 := Lib.hid hv; clear hv
          clear Z0 Z1
          have hni : (nine == nine) = true := by cases nine <;> rfl
          have hel : (elv == elv) = true := by cases elv <;> rfl
          obtain ⟨cf0, cf1, cf2⟩ := BXf_36.out
          obtain ⟨cg0, cg1, cg2⟩ := BXg_36.out
          obtain ⟨ch0, ch1, ch2⟩ := BXh_36.out
          go_wp2_with fail
          clear cf0 cf1 cf2
          clear cg0 cg1 cg2
          clear ch0 ch1 ch2
          have hb : Below w36.heap.size w36 (w36.alloc (.cells #[.bool bi, .slice adi li cci] 26)) := below_allocD _ _
          have hx0 := (Bv.new (.bool bi) (.slice adi li cci) w36 26)
          generalize w36.alloc (.cells #[.bool bi, .slice adi li cci] 26) = w37 at hb hx0 ⊢
          generalize hn : w36.heap.size = ni at hx0 ⊢
          have BXi_37 := Lib.hid hx0; clear hx0
          clear hn
          have HB37 := Lib.hid (bel_trans hb HB36.out); clear HB36
          have BXf_37 := Lib.hid (BXf_36.out.keep hb); clear BXf_36
          have BXg_37 := Lib.hid (BXg_36.out.keep hb); clear BXg_36
          have BXh_37 := Lib.hid (BXh_36.out.keep hb); clear BXh_36
          have HVf_37 := Lib.hid (HVf_36.out.keep hb); clear HVf_36
          have HVg_37 := Lib.hid (HVg_36.out.keep hb); clear HVg_36
          have HVh_37 := Lib.hid (HVh_36.out.keep hb); clear HVh_36
          have HVi_37 := Lib.hid (HVi_36.out.keep hb); clear HVi_36
          clear hb
          refine (pSame_yes _ _ Y _ HVf_37.out HVg_37.out).mono ?_
          rintro e w38 ⟨rfl, hb⟩
          have HB38 := Lib.hid (bel_trans hb HB37.out); clear HB37
          have BXf_38 := Lib.hid (BXf_37.out.keep hb); clear BXf_37
          have BXg_38 := Lib.hid (BXg_37.out.keep hb); clear BXg_37
          have BXh_38 := Lib.hid (BXh_37.out.keep hb); clear BXh_37
          have BXi_38 := Lib.hid (BXi_37.out.keep hb); clear BXi_37
          have HVf_38 := Lib.hid (HVf_37.out.keep hb); clear HVf_37
          have HVg_38 := Lib.hid (HVg_37.out.keep hb); clear HVg_37
          have HVh_38 := Lib.hid (HVh_37.out.keep hb); clear HVh_37
          have HVi_38 := Lib.hid (HVi_37.out.keep hb); clear HVi_37
          clear hb
          obtain ⟨cf0, cf1, cf2⟩ := BXf_38.out
          obtain ⟨cg0, cg1, cg2⟩ := BXg_38.out
          obtain ⟨ch0, ch1, ch2⟩ := BXh_38.out
          obtain ⟨ci0, ci1, ci2⟩ := BXi_38.out
          go_wp2_with fail
          clear cf0 cf1 cf2
          clear cg0 cg1 cg2
          clear ch0 ch1 ch2
          clear ci0 ci1 ci2
          refine (pSame_yes _ _ W9 _ HVh_38.out HVi_38.out).mono ?_
          rintro e w39 ⟨rfl, hb⟩
          have HB39 := Lib.hid (bel_trans hb HB38.out); clear HB38
          have BXf_39 := Lib.hid (BXf_38.out.keep hb); clear BXf_38
          have BXg_39 := Lib.hid (BXg_38.out.keep hb); clear BXg_38
          have BXh_39 := Lib.hid (BXh_38.out.keep hb); clear BXh_38
          have BXi_39 := Lib.hid (BXi_38.out.keep hb); clear BXi_38
          have HVf_39 := Lib.hid (HVf_38.out.keep hb); clear HVf_38
          have HVg_39 := Lib.hid (HVg_38.out.keep hb); clear HVg_38
          have HVh_39 := Lib.hid (HVh_38.out.keep hb); clear HVh_38
          have HVi_39 := Lib.hid (HVi_38.out.keep hb); clear HVi_38
          clear hb
          clear BXf_39
          clear HVf_39
          clear BXg_39
          clear HVg_39
          clear BXh_39
          clear HVh_39
          clear BXi_39
          clear HVi_39
          go_wp2_with fail
          go_ret
          exact ret_eq (by rfl) HB39.out
end Go.Proofs.YtakilincclnpdaaGreatDoor.fnWholeOrder
