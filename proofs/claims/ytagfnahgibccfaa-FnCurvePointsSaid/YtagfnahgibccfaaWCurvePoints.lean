/- The walk of FnCurvePoints. No conditions. -/
import Derived.Test.YtagfnahgibccfaaCw
namespace Go.Proofs.Ytagfnahgibccfaa.fnCurvePoints
open Go.RowKit
set_option maxHeartbeats 8000000 in
set_option maxRecDepth 4000 in
theorem walk (ad0 : Option Addr) (len0 cap0 : Nat) (z0 : List Int) (ad1 : Option Addr) (len1 cap1 : Nat) (z1 : List Int) (w : World) (h0 : IsRow .u8 w ad0 len0 cap0 z0) (h1 : IsRow .u8 w ad1 len1 cap1 z1) :
    Calls Try.prog 3 #[.slice ad0 len0 cap0, .slice ad1 len1 cap1] w (Ret (.bool true) w) := by
  have HRow := Lib.hid h0; have HMore := Lib.hid h1; clear h0 h1
  by_cases hbig : 1048576 < len0 + len1
  · go_enter Try.func3, Try.ntmps3
    go_wp2_with fail
    have hb := big_any ad0 ad1 len0 len1 cap0 cap1 w
    rw [decide_eq_true hbig] at hb
    refine hb.mono ?_
    rintro e w1 ⟨rfl, hb1⟩
    go_wp2_with fail
    go_ret
    exact ret_eq (by rfl) hb1
  have hl0 : len0 ≤ 1048576 := by omega
  have hl1 : len1 ≤ 1048576 := by omega
  go_enter Try.func3, Try.ntmps3
  go_wp2_with fail
  have hb := big_any ad0 ad1 len0 len1 cap0 cap1 w
  rw [decide_eq_false hbig] at hb
  refine hb.mono ?_
  rintro e w1 ⟨rfl, hb1⟩
  clear hb hbig
  go_wp2_with fail
  refine (drawOrderTwoAt_any _ _ _ _ _ (isRow_keep HRow.out hb1) hl0).mono ?_
  rintro e w2 ⟨a, b, rfl, hb2⟩
  have HB2 := Lib.hid (bel_trans hb2 hb1)
  clear hb1 hb2 HRow
  go_wp2_with fail
  have hb : Below w2.heap.size w2 (w2.alloc (.cells #[.int .i64 a, .int .i64 b] 25)) := below_allocD _ _
  have hx := Bx.new a b w2 25
  generalize w2.alloc (.cells #[.int .i64 a, .int .i64 b] 25) = w3 at hb hx ⊢
  generalize hn : w2.heap.size = n5 at hx ⊢
  have BX3 := Lib.hid hx; clear hx hn
  have HB3 := Lib.hid (bel_trans hb HB2.out)
  clear HB2
  clear hb
  cases hq : curveB a b
  · skip
    refine (iOrderTwoAt_no a b _ hq).mono ?_
    rintro e w4 ⟨vl, rfl, hb, ho⟩
    have HB4 := Lib.hid (bel_trans hb HB3.out)
    have BX4 := Lib.hid (BX3.out.keep hb); clear BX3
    clear HB3
    have R_vl_4 := Lib.hid ho.rd; have N_vl := Lib.hid ho.nilz; clear ho
    clear hb
    obtain ⟨_, c5, c6⟩ := BX4.out
    go_wp2_with fail
    clear c5 c6
    refine (sOrd_no hq _).mono ?_
    rintro e w5 ⟨vm, rfl, hb, ho⟩
    have HB5 := Lib.hid (bel_trans hb HB4.out)
    have BX5 := Lib.hid (BX4.out.keep hb); clear BX4
    have R_vl_5 := Lib.hid (R_vl_4.out.keep hb); clear R_vl_4
    clear HB4
    have R_vm_5 := Lib.hid ho.rd; have N_vm := Lib.hid ho.nilz; clear ho
    clear hb
    obtain ⟨_, c5, c6⟩ := BX5.out
    go_wp2_with fail
    clear c5 c6
    refine (iReal_no hq _).mono ?_
    rintro e w6 ⟨rfl, hb⟩
    have HB6 := Lib.hid (bel_trans hb HB5.out)
    have BX6 := Lib.hid (BX5.out.keep hb); clear BX5
    have R_vl_6 := Lib.hid (R_vl_5.out.keep hb); clear R_vl_5
    have R_vm_6 := Lib.hid (R_vm_5.out.keep hb); clear R_vm_5
    clear HB5
    clear hb
    obtain ⟨_, c5, c6⟩ := BX6.out
    go_wp2_with fail
    clear c5 c6
    refine (sReal_no hq _).mono ?_
    rintro e w7 ⟨rfl, hb⟩
    have HB7 := Lib.hid (bel_trans hb HB6.out)
    have BX7 := Lib.hid (BX6.out.keep hb); clear BX6
    have R_vl_7 := Lib.hid (R_vl_6.out.keep hb); clear R_vl_6
    have R_vm_7 := Lib.hid (R_vm_6.out.keep hb); clear R_vm_6
    clear HB6
    clear hb
    obtain ⟨_, c5, c6⟩ := BX7.out
    go_wp2_with fail
    clear c5 c6
    refine (iBad_no hq _).mono ?_
    rintro e w8 ⟨vb, rfl, hb, ho⟩
    have HB8 := Lib.hid (bel_trans hb HB7.out)
    have BX8 := Lib.hid (BX7.out.keep hb); clear BX7
    have R_vl_8 := Lib.hid (R_vl_7.out.keep hb); clear R_vl_7
    have R_vm_8 := Lib.hid (R_vm_7.out.keep hb); clear R_vm_7
    clear HB7
    have R_vb_8 := Lib.hid ho.rd; have N_vb := Lib.hid ho.nilz; clear ho
    clear hb
    obtain ⟨_, c5, c6⟩ := BX8.out
    go_wp2_with fail
    clear c5 c6
    refine (sBad_no hq _).mono ?_
    rintro e w9 ⟨vc, rfl, hb, ho⟩
    have HB9 := Lib.hid (bel_trans hb HB8.out)
    have BX9 := Lib.hid (BX8.out.keep hb); clear BX8
    have R_vl_9 := Lib.hid (R_vl_8.out.keep hb); clear R_vl_8
    have R_vm_9 := Lib.hid (R_vm_8.out.keep hb); clear R_vm_8
    have R_vb_9 := Lib.hid (R_vb_8.out.keep hb); clear R_vb_8
    clear HB8
    have R_vc_9 := Lib.hid ho.rd; have N_vc := Lib.hid ho.nilz; clear ho
    clear hb
    obtain ⟨_, c5, c6⟩ := BX9.out
    go_wp2_with fail
    clear c5 c6
    refine (iDisc_no hq _).mono ?_
    rintro e w10 ⟨rfl, hb⟩
    have HB10 := Lib.hid (bel_trans hb HB9.out)
    have BX10 := Lib.hid (BX9.out.keep hb); clear BX9
    have R_vl_10 := Lib.hid (R_vl_9.out.keep hb); clear R_vl_9
    have R_vm_10 := Lib.hid (R_vm_9.out.keep hb); clear R_vm_9
    have R_vb_10 := Lib.hid (R_vb_9.out.keep hb); clear R_vb_9
    have R_vc_10 := Lib.hid (R_vc_9.out.keep hb); clear R_vc_9
    clear HB9
    clear hb
    obtain ⟨_, c5, c6⟩ := BX10.out
    go_wp2_with fail
    clear c5 c6
    refine (sDisc_no hq _).mono ?_
    rintro e w11 ⟨rfl, hb⟩
    have HB11 := Lib.hid (bel_trans hb HB10.out)
    have BX11 := Lib.hid (BX10.out.keep hb); clear BX10
    have R_vl_11 := Lib.hid (R_vl_10.out.keep hb); clear R_vl_10
    have R_vm_11 := Lib.hid (R_vm_10.out.keep hb); clear R_vm_10
    have R_vb_11 := Lib.hid (R_vb_10.out.keep hb); clear R_vb_10
    have R_vc_11 := Lib.hid (R_vc_10.out.keep hb); clear R_vc_10
    clear HB10
    clear hb
    obtain ⟨_, c5, c6⟩ := BX11.out
    go_wp2_with fail
    clear c5 c6
    refine (iInv_no hq _).mono ?_
    rintro e w12 ⟨rfl, hb⟩
    have HB12 := Lib.hid (bel_trans hb HB11.out)
    have BX12 := Lib.hid (BX11.out.keep hb); clear BX11
    have R_vl_12 := Lib.hid (R_vl_11.out.keep hb); clear R_vl_11
    have R_vm_12 := Lib.hid (R_vm_11.out.keep hb); clear R_vm_11
    have R_vb_12 := Lib.hid (R_vb_11.out.keep hb); clear R_vb_11
    have R_vc_12 := Lib.hid (R_vc_11.out.keep hb); clear R_vc_11
    clear HB11
    clear hb
    obtain ⟨_, c5, c6⟩ := BX12.out
    go_wp2_with fail
    clear c5 c6
    refine (sInv_no hq _).mono ?_
    rintro e w13 ⟨rfl, hb⟩
    have HB13 := Lib.hid (bel_trans hb HB12.out)
    have BX13 := Lib.hid (BX12.out.keep hb); clear BX12
    have R_vl_13 := Lib.hid (R_vl_12.out.keep hb); clear R_vl_12
    have R_vm_13 := Lib.hid (R_vm_12.out.keep hb); clear R_vm_12
    have R_vb_13 := Lib.hid (R_vb_12.out.keep hb); clear R_vb_12
    have R_vc_13 := Lib.hid (R_vc_12.out.keep hb); clear R_vc_12
    clear HB12
    clear hb
    obtain ⟨_, c5, c6⟩ := BX13.out
    go_wp2_with fail
    clear c5 c6
    refine (same_ok R_vl_13.out R_vm_13.out).mono ?_
    rintro e w14 ⟨rfl, hb⟩
    have HB14 := Lib.hid (bel_trans hb HB13.out)
    have BX14 := Lib.hid (BX13.out.keep hb); clear BX13
    have R_vl_14 := Lib.hid (R_vl_13.out.keep hb); clear R_vl_13
    have R_vm_14 := Lib.hid (R_vm_13.out.keep hb); clear R_vm_13
    have R_vb_14 := Lib.hid (R_vb_13.out.keep hb); clear R_vb_13
    have R_vc_14 := Lib.hid (R_vc_13.out.keep hb); clear R_vc_13
    clear HB13
    clear hb
    obtain ⟨_, c5, c6⟩ := BX14.out
    go_wp2_with fail
    clear c5 c6
    refine (same_ok R_vb_14.out R_vc_14.out).mono ?_
    rintro e w15 ⟨rfl, hb⟩
    have HB15 := Lib.hid (bel_trans hb HB14.out)
    have BX15 := Lib.hid (BX14.out.keep hb); clear BX14
    have R_vl_15 := Lib.hid (R_vl_14.out.keep hb); clear R_vl_14
    have R_vm_15 := Lib.hid (R_vm_14.out.keep hb); clear R_vm_14
    have R_vb_15 := Lib.hid (R_vb_14.out.keep hb); clear R_vb_14
    have R_vc_15 := Lib.hid (R_vc_14.out.keep hb); clear R_vc_14
    clear HB14
    clear hb
    obtain ⟨_, c5, c6⟩ := BX15.out
    go_wp2_with fail
    clear c5 c6
    clear R_vl_15 N_vl
    clear R_vm_15 N_vm
    clear R_vb_15 N_vb
    clear R_vc_15 N_vc
    clear BX15
    refine (drawIsIntegerPoint_any _ _ _ _ _ (isRow_keep HMore.out HB15.out) hl1).mono ?_
    rintro e w16 ⟨a2, b2, x2, y2, rfl, hb⟩
    have HB16 := Lib.hid (bel_trans hb HB15.out); clear hb HB15
    go_wp2_with fail
    have hb : Below w16.heap.size w16 (w16.alloc (.cells #[.int .i64 a2, .int .i64 b2] 25)) := below_allocD _ _
    have hx := Bx.new a2 b2 w16 25
    generalize w16.alloc (.cells #[.int .i64 a2, .int .i64 b2] 25) = w17 at hb hx ⊢
    generalize hn : w16.heap.size = n33 at hx ⊢
    have BX17 := Lib.hid hx; clear hx hn
    have HB17 := Lib.hid (bel_trans hb HB16.out)
    clear HB16
    clear hb
    have hng := ip_neg (a := a2) (b := b2) (x := x2) (y := y2)
    have HNG := Lib.hid hng; clear hng
    by_cases hok : curveB a2 b2 = true ∧ (-1000000 ≤ x2 ∧ x2 ≤ 1000000) ∧ (-1000000 ≤ y2 ∧ y2 ≤ 1000000)
    · have hv : ipV a2 b2 x2 y2 = .tuple #[.bool (decide (y2 * y2 = cubV a2 b2 x2)), .bool true] := by unfold ipV; rw [if_pos hok]
      have hwn : IntKind.i64.wrap (-y2) = -y2 := wrapf (by omega) (by omega)
      have HV := Lib.hid hv; clear hv hok
      generalize decide (y2 * y2 = cubV a2 b2 x2) = bv at HV
      refine (iIsIntegerPoint_any a2 b2 x2 y2 _).mono ?_
      rintro e w18 ⟨rfl, hb⟩
      have HB18 := Lib.hid (bel_trans hb HB17.out)
      have BX18 := Lib.hid (BX17.out.keep hb); clear BX17
      clear HB17
      clear hb
      rw [HV.out]
      obtain ⟨_, c5, c6⟩ := BX18.out
      go_wp2_with fail
      clear c5 c6
      refine (sIsIntegerPoint_any a2 b2 x2 y2 _).mono ?_
      rintro e w19 ⟨rfl, hb⟩
      have HB19 := Lib.hid (bel_trans hb HB18.out)
      have BX19 := Lib.hid (BX18.out.keep hb); clear BX18
      clear HB18
      clear hb
      rw [HV.out]
      obtain ⟨_, c5, c6⟩ := BX19.out
      go_wp2_with fail
      clear c5 c6
      refine (iIsIntegerPoint_any a2 b2 x2 (-y2) _).mono ?_
      rintro e w20 ⟨rfl, hb⟩
      have HB20 := Lib.hid (bel_trans hb HB19.out)
      have BX20 := Lib.hid (BX19.out.keep hb); clear BX19
      clear HB19
      clear hb
      rw [HNG.out, HV.out]
      obtain ⟨_, c5, c6⟩ := BX20.out
      go_wp2_with fail
      clear c5 c6
      go_ret
      exact ret_eq (by rfl) HB20.out
    · have hv : ipV a2 b2 x2 y2 = .tuple #[.bool false, .bool false] := by unfold ipV; rw [if_neg hok]
      have HV := Lib.hid hv; clear hv hok
      refine (iIsIntegerPoint_any a2 b2 x2 y2 _).mono ?_
      rintro e w18 ⟨rfl, hb⟩
      have HB18 := Lib.hid (bel_trans hb HB17.out)
      have BX18 := Lib.hid (BX17.out.keep hb); clear BX17
      clear HB17
      clear hb
      rw [HV.out]
      obtain ⟨_, c5, c6⟩ := BX18.out
      go_wp2_with fail
      clear c5 c6
      refine (sIsIntegerPoint_any a2 b2 x2 y2 _).mono ?_
      rintro e w19 ⟨rfl, hb⟩
      have HB19 := Lib.hid (bel_trans hb HB18.out)
      have BX19 := Lib.hid (BX18.out.keep hb); clear BX18
      clear HB18
      clear hb
      rw [HV.out]
      obtain ⟨_, c5, c6⟩ := BX19.out
      go_wp2_with fail
      clear c5 c6
      go_ret
      exact ret_eq (by rfl) HB19.out
  · skip
    have hL := rts_three a b (-100) 201
    have hbh := bad_head a b
    have HIP := Lib.hid fun x => ip_root (x := x) hq
    have HBR := Lib.hid fun q => bad_rem (q := q) hq
    have hb5 := bad_is hq pr_5 (by omega); have hb7 := bad_is hq pr_7 (by omega); have hb11 := bad_is hq pr_11 (by omega); have hb13 := bad_is hq pr_13 (by omega)
    have hden := lowD_pos (n := 6912 * a * a * a) (curveB_true.1 hq).2.2.2.2
    have hd0 : ¬ -16 * discI a b = 0 := by have := (curveB_true.1 hq).2.2.2.2; omega
    have hdb := disc_bd (curveB_true.1 hq).1 (curveB_true.1 hq).2.1 (curveB_true.1 hq).2.2.1 (curveB_true.1 hq).2.2.2.1
    obtain ⟨bp, g1, g2, g3⟩ : ∃ bp : Bool, decide (-16 * discI a b > 0) = bp ∧ ((if discI a b < 0 then 2 else 1 : Int) == 2) = bp ∧ (discI a b < 0 → bp = true) := by
      by_cases hs : discI a b < 0
      · exact ⟨true, by simp; omega, by rw [if_pos hs]; rfl, fun _ => rfl⟩
      · exact ⟨false, by simp; omega, by rw [if_neg hs]; rfl, fun h => absurd h hs⟩
    have hG3 : (rts a b (-100) 201).length = 3 → bp = true := fun h => g3 (hL.2 h).2
    have hsum : (rts a b (-100) 201).length = 3 → (rts a b (-100) 201).sum = 0 := fun h => (hL.2 h).1
    have hL3 := hL.1
    have hbd : ∀ n ∈ rts a b (-100) 201, -1000 ≤ n ∧ n ≤ 1000 := fun n hn => by have := (rts_mem.1 hn).1; omega
    clear hL g3
    obtain ⟨R, hR⟩ : ∃ R : Int, (if discI a b < 0 then 2 else 1) = R := ⟨_, rfl⟩
    obtain ⟨DD, hDD⟩ : ∃ DD, -16 * discI a b = DD := ⟨_, rfl⟩
    obtain ⟨num, hnum⟩ : ∃ num, lowN (6912 * a * a * a) (discI a b) = num := ⟨_, rfl⟩
    obtain ⟨den, hde⟩ : ∃ den, lowD (6912 * a * a * a) (discI a b) = den := ⟨_, rfl⟩
    have k1 := fun w => iOrd_ok hq w; have k2 := fun w => sOrd_ok hq w; have k3 := fun w => iReal_ok hq hR w; have k4 := fun w => sReal_ok hq hR w; have k5 := fun w => iBad_ok hq w; have k6 := fun w => sBad_ok hq w
    have k7 := fun w => iDisc_ok hq hDD w; have k8 := fun w => sDisc_ok hq hDD w; have k9 := fun w => iInv_ok hq hnum hde w; have k10 := fun w => sInv_ok hq hnum hde w
    rw [hR] at g2
    rw [hDD] at g1 hd0 hb5 hb7 hb11 hb13
    rw [hde] at hden
    have HBR2 : Hid (∀ q ∈ badL a b, ¬ q = 0 ∧ DD.tmod q = 0) := fun q hq' => by have := HBR.out q hq'; rwa [hDD] at this
    have HIP2 : Hid (∀ x ∈ rts a b (-100) 201, ipV a b x 0 = .tuple #[.bool true, .bool true]) := fun x hx => HIP.out x hx
    clear HBR HIP hR hnum hde hq
    generalize rts a b (-100) 201 = L at *
    generalize badL a b = bad at *
    have K1 := Lib.hid k1; have K2 := Lib.hid k2; have K3 := Lib.hid k3; have K4 := Lib.hid k4; have K5 := Lib.hid k5; have K6 := Lib.hid k6; have K7 := Lib.hid k7; have K8 := Lib.hid k8; have K9 := Lib.hid k9; have K10 := Lib.hid k10
    have HG1 := Lib.hid g1; have HG2 := Lib.hid g2; have HD0 := Lib.hid hd0; have HDEN := Lib.hid hden; have HB5 := Lib.hid hb5; have HB7 := Lib.hid hb7; have HB11 := Lib.hid hb11; have HB13 := Lib.hid hb13
    have HL3 := Lib.hid hL3; have HG3 := Lib.hid hG3; have HSUM := Lib.hid hsum; have HBH := Lib.hid hbh; have HBD := Lib.hid hbd
    clear k1 k2 k3 k4 k5 k6 k7 k8 k9 k10 g1 g2 hd0 hden hb5 hb7 hb11 hb13 hL3 hG3 hsum hbh hbd hDD hdb
    refine (K1.out _).mono ?_
    rintro e w4 ⟨vl, rfl, hb, ho⟩
    have HB4 := Lib.hid (bel_trans hb HB3.out)
    have BX4 := Lib.hid (BX3.out.keep hb); clear BX3
    clear HB3
    have R_vl_4 := Lib.hid ho.rd; have N_vl := Lib.hid ho.nilz; clear ho
    clear hb
    obtain ⟨_, c5, c6⟩ := BX4.out
    go_wp2_with fail
    clear c5 c6
    refine (K2.out _).mono ?_
    rintro e w5 ⟨vm, rfl, hb, ho⟩
    have HB5 := Lib.hid (bel_trans hb HB4.out)
    have BX5 := Lib.hid (BX4.out.keep hb); clear BX4
    have R_vl_5 := Lib.hid (R_vl_4.out.keep hb); clear R_vl_4
    clear HB4
    have R_vm_5 := Lib.hid ho.rd; have N_vm := Lib.hid ho.nilz; clear ho
    clear hb
    obtain ⟨_, c5, c6⟩ := BX5.out
    go_wp2_with fail
    clear c5 c6
    refine (K3.out _).mono ?_
    rintro e w6 ⟨rfl, hb⟩
    have HB6 := Lib.hid (bel_trans hb HB5.out)
    have BX6 := Lib.hid (BX5.out.keep hb); clear BX5
    have R_vl_6 := Lib.hid (R_vl_5.out.keep hb); clear R_vl_5
    have R_vm_6 := Lib.hid (R_vm_5.out.keep hb); clear R_vm_5
    clear HB5
    clear hb
    obtain ⟨_, c5, c6⟩ := BX6.out
    go_wp2_with fail
    clear c5 c6
    refine (K4.out _).mono ?_
    rintro e w7 ⟨rfl, hb⟩
    have HB7 := Lib.hid (bel_trans hb HB6.out)
    have BX7 := Lib.hid (BX6.out.keep hb); clear BX6
    have R_vl_7 := Lib.hid (R_vl_6.out.keep hb); clear R_vl_6
    have R_vm_7 := Lib.hid (R_vm_6.out.keep hb); clear R_vm_6
    clear HB6
    clear hb
    obtain ⟨_, c5, c6⟩ := BX7.out
    go_wp2_with fail
    clear c5 c6
    refine (K5.out _).mono ?_
    rintro e w8 ⟨vb, rfl, hb, ho⟩
    have HB8 := Lib.hid (bel_trans hb HB7.out)
    have BX8 := Lib.hid (BX7.out.keep hb); clear BX7
    have R_vl_8 := Lib.hid (R_vl_7.out.keep hb); clear R_vl_7
    have R_vm_8 := Lib.hid (R_vm_7.out.keep hb); clear R_vm_7
    clear HB7
    have R_vb_8 := Lib.hid ho.rd; have N_vb := Lib.hid ho.nilz; clear ho
    clear hb
    obtain ⟨_, c5, c6⟩ := BX8.out
    go_wp2_with fail
    clear c5 c6
    refine (K6.out _).mono ?_
    rintro e w9 ⟨vc, rfl, hb, ho⟩
    have HB9 := Lib.hid (bel_trans hb HB8.out)
    have BX9 := Lib.hid (BX8.out.keep hb); clear BX8
    have R_vl_9 := Lib.hid (R_vl_8.out.keep hb); clear R_vl_8
    have R_vm_9 := Lib.hid (R_vm_8.out.keep hb); clear R_vm_8
    have R_vb_9 := Lib.hid (R_vb_8.out.keep hb); clear R_vb_8
    clear HB8
    have R_vc_9 := Lib.hid ho.rd; have N_vc := Lib.hid ho.nilz; clear ho
    clear hb
    obtain ⟨_, c5, c6⟩ := BX9.out
    go_wp2_with fail
    clear c5 c6
    refine (K7.out _).mono ?_
    rintro e w10 ⟨rfl, hb⟩
    have HB10 := Lib.hid (bel_trans hb HB9.out)
    have BX10 := Lib.hid (BX9.out.keep hb); clear BX9
    have R_vl_10 := Lib.hid (R_vl_9.out.keep hb); clear R_vl_9
    have R_vm_10 := Lib.hid (R_vm_9.out.keep hb); clear R_vm_9
    have R_vb_10 := Lib.hid (R_vb_9.out.keep hb); clear R_vb_9
    have R_vc_10 := Lib.hid (R_vc_9.out.keep hb); clear R_vc_9
    clear HB9
    clear hb
    obtain ⟨_, c5, c6⟩ := BX10.out
    go_wp2_with fail
    clear c5 c6
    refine (K8.out _).mono ?_
    rintro e w11 ⟨rfl, hb⟩
    have HB11 := Lib.hid (bel_trans hb HB10.out)
    have BX11 := Lib.hid (BX10.out.keep hb); clear BX10
    have R_vl_11 := Lib.hid (R_vl_10.out.keep hb); clear R_vl_10
    have R_vm_11 := Lib.hid (R_vm_10.out.keep hb); clear R_vm_10
    have R_vb_11 := Lib.hid (R_vb_10.out.keep hb); clear R_vb_10
    have R_vc_11 := Lib.hid (R_vc_10.out.keep hb); clear R_vc_10
    clear HB10
    clear hb
    obtain ⟨_, c5, c6⟩ := BX11.out
    go_wp2_with fail
    clear c5 c6
    refine (K9.out _).mono ?_
    rintro e w12 ⟨rfl, hb⟩
    have HB12 := Lib.hid (bel_trans hb HB11.out)
    have BX12 := Lib.hid (BX11.out.keep hb); clear BX11
    have R_vl_12 := Lib.hid (R_vl_11.out.keep hb); clear R_vl_11
    have R_vm_12 := Lib.hid (R_vm_11.out.keep hb); clear R_vm_11
    have R_vb_12 := Lib.hid (R_vb_11.out.keep hb); clear R_vb_11
    have R_vc_12 := Lib.hid (R_vc_11.out.keep hb); clear R_vc_11
    clear HB11
    clear hb
    obtain ⟨_, c5, c6⟩ := BX12.out
    go_wp2_with fail
    clear c5 c6
    refine (K10.out _).mono ?_
    rintro e w13 ⟨rfl, hb⟩
    have HB13 := Lib.hid (bel_trans hb HB12.out)
    have BX13 := Lib.hid (BX12.out.keep hb); clear BX12
    have R_vl_13 := Lib.hid (R_vl_12.out.keep hb); clear R_vl_12
    have R_vm_13 := Lib.hid (R_vm_12.out.keep hb); clear R_vm_12
    have R_vb_13 := Lib.hid (R_vb_12.out.keep hb); clear R_vb_12
    have R_vc_13 := Lib.hid (R_vc_12.out.keep hb); clear R_vc_12
    clear HB12
    clear hb
    obtain ⟨_, c5, c6⟩ := BX13.out
    go_wp2_with fail
    clear c5 c6
    clear K1 K2 K3 K4 K5 K6 K7 K8 K9 K10
    refine (same_ok R_vl_13.out R_vm_13.out).mono ?_
    rintro e w14 ⟨rfl, hb⟩
    have HB14 := Lib.hid (bel_trans hb HB13.out)
    have BX14 := Lib.hid (BX13.out.keep hb); clear BX13
    have R_vl_14 := Lib.hid (R_vl_13.out.keep hb); clear R_vl_13
    have R_vm_14 := Lib.hid (R_vm_13.out.keep hb); clear R_vm_13
    have R_vb_14 := Lib.hid (R_vb_13.out.keep hb); clear R_vb_13
    have R_vc_14 := Lib.hid (R_vc_13.out.keep hb); clear R_vc_13
    clear HB13
    clear hb
    obtain ⟨_, c5, c6⟩ := BX14.out
    go_wp2_with fail
    clear c5 c6
    refine (same_ok R_vb_14.out R_vc_14.out).mono ?_
    rintro e w15 ⟨rfl, hb⟩
    have HB15 := Lib.hid (bel_trans hb HB14.out)
    have BX15 := Lib.hid (BX14.out.keep hb); clear BX14
    have R_vl_15 := Lib.hid (R_vl_14.out.keep hb); clear R_vl_14
    have R_vm_15 := Lib.hid (R_vm_14.out.keep hb); clear R_vm_14
    have R_vb_15 := Lib.hid (R_vb_14.out.keep hb); clear R_vb_14
    have R_vc_15 := Lib.hid (R_vc_14.out.keep hb); clear R_vc_14
    clear HB14
    clear hb
    clear R_vl_15 N_vl
    clear R_vb_15 N_vb
    obtain ⟨adm, cm, hvm, hlm, hcm⟩ := R_vm_15.out
    obtain ⟨adc, cc, hvc, hlc, hcc⟩ := R_vc_15.out
    subst hvm; subst hvc
    obtain ⟨bc, oc, hadc, hltc, hcellc⟩ := hcc HBH.out.1
    subst hadc
    have c0 : w15.cell? ⟨bc, oc, none⟩ = some (.int .i64 2) := by have := hcellc 0 HBH.out.1; rwa [HBH.out.2] at this
    have HCC := Lib.hid hcellc; have HCM := Lib.hid hcm; have HLC := Lib.hid hlc; clear hcellc hcm hlm hlc
    have g1 := HG1.out; have g2 := HG2.out; have hd0 := HD0.out
    have hden : ¬ den < 1 := by have := HDEN.out; omega
    generalize hnl : L.length = nl at *
    generalize hnb : bad.length = nb at *
    have HNL := Lib.hid hnl; have HNB := Lib.hid hnb; clear hnl hnb
    have hlb0 : ¬ (nb : Int) = 0 := by have := HBH.out.1; omega
    have hlb1 : (0 : Int) < (nb : Int) := by have := HBH.out.1; omega
    have hlbb : ((nb : Int) == 0) = false := by simp; have := HBH.out.1; omega
    have hl3 : (nl : Int) ≤ 3 := by have := HL3.out; omega
    have HD0b : (DD == 0) = false := by simp [hd0]
    have hbne : (bp != bp) = false := by cases bp <;> rfl
    by_cases h3 : nl = 3
    · have h3b : ((nl : Int) == 3) = true := by simp; omega
      have hbp := HG3.out h3
      subst hbp
      have hR2 : (R != 2) = false := by simp only [bne, g2]; rfl
      have H3 := Lib.hid h3; clear h3
      obtain ⟨_, c5, c6⟩ := BX15.out
      go_wp2_with fail
      clear c5 c6 g1 g2 hd0 hden hlb0 hlb1 hlbb HD0b h3b hbne hR2
      have RM := R_vm_15; have RC := R_vc_15; have BX := BX15
      clear R_vm_15 R_vc_15 BX15 HG1 HG2 HD0 HDEN c0 hcc
      have hnlle : nl ≤ 3 := HL3.out
      clear hl3
      go_loopw [218] (fun x wr => ∃ j : Nat, x = .int .i64 j ∧ j ≤ nl ∧ Below w15.heap.size w15 wr) (fun x _ => nl - (intOf x).toNat)
      case atStart => exact ⟨0, rfl, Nat.zero_le _, Below.refl _ _⟩
      case round =>
        obtain ⟨j, rfl, hj, hbel⟩ := hrel
        by_cases hlt : j < nl
        · have hj1 : (j : Int) < (nl : Int) := by omega
          have hj0 : (0 : Int) ≤ (j : Int) := Int.natCast_nonneg _
          obtain ⟨bl, ol, hadl, hltl, hcell⟩ := HCM.out (by omega)
          subst hadl
          have q0 := (hbel.cell (p := ⟨bl, ol + j, none⟩) hltl).trans (hcell j hlt)
          have hmem : L.getD j 0 ∈ L := by have := HNL.out; rw [List.getD_eq_getElem?_getD, List.getElem?_eq_getElem (by omega)]; exact List.getElem_mem (by omega)
          have hip := HIP2.out _ hmem
          have HIPq := Lib.hid hip; clear hip hmem hcell
          generalize L.getD j 0 = q at q0 HIPq
          obtain ⟨_, e5, e6⟩ := BX.out.keep hbel
          have hw : IntKind.i64.wrap ((j : Int) + 1) = (j : Int) + 1 := wrapf (by omega) (by omega)
          go_wp2_with fail
          refine (iIsIntegerPoint_any a b q 0 _).mono ?_; rintro e wz ⟨rfl, hbz⟩
          rw [HIPq.out]
          go_wp2_with fail
          exact ⟨⟨j + 1, rfl, hlt, bel_trans hbz hbel⟩, by simp only [intOf]; omega⟩
        · clear HIP2 HCM
          have HBL := Lib.hid hbel; clear hbel
          have hjl : j = nl := by omega
          subst hjl
          clear hj
          have h3b : ((j : Int) == 3) = true := by have := H3.out; simp; omega
          go_wp2_with fail
          refine (pSum_any _ L _ (RM.out.keep HBL.out) (by rw [HNL.out]; exact H3.out) HBD.out).mono ?_; rintro e wz ⟨rfl, hbz⟩
          rw [HSUM.out H3.out]
          have HBM := Lib.hid (bel_trans hbz HBL.out); clear hbz HBL
          go_wp2_with fail
          clear h3b
          go_loopw [245] (fun x wr => ∃ j : Nat, x = .int .i64 j ∧ j ≤ nb ∧ Below w15.heap.size w15 wr) (fun x _ => nb - (intOf x).toNat)
          case atStart => exact ⟨0, rfl, Nat.zero_le _, HBM.out⟩
          case round =>
            obtain ⟨j, rfl, hj, hbel⟩ := hrel
            by_cases hlt : j < nb
            · have hj1 : (j : Int) < (nb : Int) := by omega
              have hj0 : (0 : Int) ≤ (j : Int) := Int.natCast_nonneg _
              have q0 := (hbel.cell (p := ⟨bc, oc + j, none⟩) hltc).trans (HCC.out j hlt)
              have hmem : bad.getD j 0 ∈ bad := by have := HNB.out; rw [List.getD_eq_getElem?_getD, List.getElem?_eq_getElem (by omega)]; exact List.getElem_mem (by omega)
              obtain ⟨hq0, hqr⟩ := HBR2.out _ hmem
              clear hmem
              generalize bad.getD j 0 = q at q0 hq0 hqr
              have hqb : (q == 0) = false := by simp [hq0]
              go_wp2_with fail
              have hw : wrap64 ((j : Int) + 1) = ((j + 1 : Nat) : Int) := wrapLen HLC.out hlt
              rw [hw]
              exact ⟨⟨j + 1, rfl, hlt, hbel⟩, by simp only [intOf, Int.toNat_natCast]; exact Nat.sub_lt_sub_left hlt (Nat.lt_succ_self j)⟩
            · have HBN := Lib.hid hbel; clear hbel HBM HBR2
              have hjl : j = nb := Nat.le_antisymm hj (Nat.le_of_not_lt hlt)
              subst hjl
              clear hj
              go_wp2_with fail
              have hb3 : Below wr.heap.size wr (wr.alloc (.cells #[.int .i64 5, .int .i64 7, .int .i64 11, .int .i64 13] 3)) := below_allocD _ _
              have z3 : wr.heap.size < (wr.alloc (.cells #[.int .i64 5, .int .i64 7, .int .i64 11, .int .i64 13] 3)).heap.size := by simp
              have y0 : (wr.alloc (.cells #[.int .i64 5, .int .i64 7, .int .i64 11, .int .i64 13] 3)).cell? ⟨wr.heap.size, 0, none⟩ = some (.int .i64 5) := by simp [go_sem]
              have y1 : (wr.alloc (.cells #[.int .i64 5, .int .i64 7, .int .i64 11, .int .i64 13] 3)).cell? ⟨wr.heap.size, 1, none⟩ = some (.int .i64 7) := by simp [go_sem]
              have y2 : (wr.alloc (.cells #[.int .i64 5, .int .i64 7, .int .i64 11, .int .i64 13] 3)).cell? ⟨wr.heap.size, 2, none⟩ = some (.int .i64 11) := by simp [go_sem]
              have y3 : (wr.alloc (.cells #[.int .i64 5, .int .i64 7, .int .i64 11, .int .i64 13] 3)).cell? ⟨wr.heap.size, 3, none⟩ = some (.int .i64 13) := by simp [go_sem]
              generalize wr.alloc (.cells #[.int .i64 5, .int .i64 7, .int .i64 11, .int .i64 13] 3) = W3 at hb3 z3 y0 y1 y2 y3 ⊢
              have HB3 := Lib.hid (bel_trans hb3 HBN.out); clear hb3 HBN
              generalize wr.heap.size = n3 at z3 y0 y1 y2 y3 ⊢
              have hall : ∀ j : Nat, j < 4 → ∃ q bq, W3.cell? ⟨n3, j, none⟩ = some (.int .i64 q) ∧ ¬ q = 0 ∧ (DD.tmod q == 0) = bq ∧ decide (q ∈ bad) = bq := fun j hj => by
                rcases (by omega : j = 0 ∨ j = 1 ∨ j = 2 ∨ j = 3) with rfl | rfl | rfl | rfl
                · exact ⟨5, _, y0, by omega, HB5.out, rfl⟩
                · exact ⟨7, _, y1, by omega, HB7.out, rfl⟩
                · exact ⟨11, _, y2, by omega, HB11.out, rfl⟩
                · exact ⟨13, _, y3, by omega, HB13.out, rfl⟩
              have HALL := Lib.hid hall
              clear hall y0 y1 y2 y3 HB5 HB7 HB11 HB13
              have hjp : 0 < j := HBH.out.1
              have HJP := Lib.hid hjp; clear hjp hlt
              go_loopw [256] (fun x wr => ∃ j : Nat, x = .int .i64 j ∧ j ≤ 4 ∧ Below W3.heap.size W3 wr) (fun x _ => 4 - (intOf x).toNat)
              case atStart => exact ⟨0, rfl, Nat.zero_le _, Below.refl _ _⟩
              case round =>
                obtain ⟨i, rfl, hi, hbel⟩ := hrel
                by_cases hlt : i < 4
                · have hi0 : (0 : Int) ≤ (i : Int) := Int.natCast_nonneg _
                  have hi1 : (i : Int) < 4 := by omega
                  obtain ⟨q, bq, q0, q1, q2, q3⟩ := HALL.out i hlt
                  have q0 := (hbel.cell (p := ⟨n3, i, none⟩) z3).trans q0
                  have hqb : (q == 0) = false := by simp [q1]
                  have hpin : ∀ g : Grow wr, Calls Try.prog 19 #[.slice (some ⟨bc, oc, none⟩) j cc, .int .i64 q] g.wd (Ret (.bool bq) g.wd) := fun g => by
                    have := pIn_any _ bad q g.wd (RC.out.keep (bel_trans g.2 (bel_trans hbel HB3.out))) (by rw [HNB.out]; exact HJP.out)
                    rwa [q3] at this
                  have HPIN := Lib.hid hpin; clear hpin q3
                  have hbne : (bq != bq) = false := by cases bq <;> rfl
                  have hw : IntKind.i64.wrap ((i : Int) + 1) = (i : Int) + 1 := wrapf (by omega) (by omega)
                  go_wp2_with fail
                  refine wp_region_grow (by kernel_rfl) (by kernel_rfl) ?_
                  repeat (go_big_quiet_step (((go_at_call 19; exact grow_ret (HPIN.out _)))))
                  refine wpQuiet_nil ?_
                  rintro wg hbg
                  (try replace hbg := aft2 hbg (by assumption))
                  obtain ⟨hcg, hfg, hg1, hg2, hg3, hg4⟩ := aftz hbg
                  go_wp2_with fail
                  exact ⟨⟨i + 1, rfl, hlt, hbg⟩, by simp only [intOf]; omega⟩
                · obtain rfl : i = 4 := by omega
                  have HB16 := Lib.hid (bel_trans (bel_trans hbel HB3.out) HB15.out)
                  clear hbel HB3 HB15 HALL RM RC BX HCC HLC HNB HNL HSUM HBH HBD H3 HL3 HG3 hlt hi hnlle N_vm N_vc z3 hltc
                  go_wp2_with fail
                  refine (drawIsIntegerPoint_any _ _ _ _ _ (isRow_keep HMore.out HB16.out) hl1).mono ?_
                  rintro e w17 ⟨a2, b2, x2, y2, rfl, hb⟩
                  have HB17 := Lib.hid (bel_trans hb HB16.out); clear hb HB16
                  go_wp2_with fail
                  have hb : Below w17.heap.size w17 (w17.alloc (.cells #[.int .i64 a2, .int .i64 b2] 25)) := below_allocD _ _
                  have hx := Bx.new a2 b2 w17 25
                  generalize w17.alloc (.cells #[.int .i64 a2, .int .i64 b2] 25) = w18 at hb hx ⊢
                  generalize hn : w17.heap.size = n33 at hx ⊢
                  have BX18 := Lib.hid hx; clear hx hn
                  have HB18 := Lib.hid (bel_trans hb HB17.out)
                  clear HB17
                  clear hb
                  have hng := ip_neg (a := a2) (b := b2) (x := x2) (y := y2)
                  have HNG := Lib.hid hng; clear hng
                  by_cases hok : curveB a2 b2 = true ∧ (-1000000 ≤ x2 ∧ x2 ≤ 1000000) ∧ (-1000000 ≤ y2 ∧ y2 ≤ 1000000)
                  · have hv : ipV a2 b2 x2 y2 = .tuple #[.bool (decide (y2 * y2 = cubV a2 b2 x2)), .bool true] := by unfold ipV; rw [if_pos hok]
                    have hwn : IntKind.i64.wrap (-y2) = -y2 := wrapf (by omega) (by omega)
                    have HV := Lib.hid hv; clear hv hok
                    generalize decide (y2 * y2 = cubV a2 b2 x2) = bv at HV
                    refine (iIsIntegerPoint_any a2 b2 x2 y2 _).mono ?_
                    rintro e w19 ⟨rfl, hb⟩
                    have HB19 := Lib.hid (bel_trans hb HB18.out)
                    have BX19 := Lib.hid (BX18.out.keep hb); clear BX18
                    clear HB18
                    clear hb
                    rw [HV.out]
                    obtain ⟨_, c5, c6⟩ := BX19.out
                    go_wp2_with fail
                    clear c5 c6
                    refine (sIsIntegerPoint_any a2 b2 x2 y2 _).mono ?_
                    rintro e w20 ⟨rfl, hb⟩
                    have HB20 := Lib.hid (bel_trans hb HB19.out)
                    have BX20 := Lib.hid (BX19.out.keep hb); clear BX19
                    clear HB19
                    clear hb
                    rw [HV.out]
                    obtain ⟨_, c5, c6⟩ := BX20.out
                    go_wp2_with fail
                    clear c5 c6
                    refine (iIsIntegerPoint_any a2 b2 x2 (-y2) _).mono ?_
                    rintro e w21 ⟨rfl, hb⟩
                    have HB21 := Lib.hid (bel_trans hb HB20.out)
                    have BX21 := Lib.hid (BX20.out.keep hb); clear BX20
                    clear HB20
                    clear hb
                    rw [HNG.out, HV.out]
                    obtain ⟨_, c5, c6⟩ := BX21.out
                    go_wp2_with fail
                    clear c5 c6
                    go_ret
                    exact ret_eq (by rfl) HB21.out
                  · have hv : ipV a2 b2 x2 y2 = .tuple #[.bool false, .bool false] := by unfold ipV; rw [if_neg hok]
                    have HV := Lib.hid hv; clear hv hok
                    refine (iIsIntegerPoint_any a2 b2 x2 y2 _).mono ?_
                    rintro e w19 ⟨rfl, hb⟩
                    have HB19 := Lib.hid (bel_trans hb HB18.out)
                    have BX19 := Lib.hid (BX18.out.keep hb); clear BX18
                    clear HB18
                    clear hb
                    rw [HV.out]
                    obtain ⟨_, c5, c6⟩ := BX19.out
                    go_wp2_with fail
                    clear c5 c6
                    refine (sIsIntegerPoint_any a2 b2 x2 y2 _).mono ?_
                    rintro e w20 ⟨rfl, hb⟩
                    have HB20 := Lib.hid (bel_trans hb HB19.out)
                    have BX20 := Lib.hid (BX19.out.keep hb); clear BX19
                    clear HB19
                    clear hb
                    rw [HV.out]
                    obtain ⟨_, c5, c6⟩ := BX20.out
                    go_wp2_with fail
                    clear c5 c6
                    go_ret
                    exact ret_eq (by rfl) HB20.out
    · have h3b : ((nl : Int) == 3) = false := by simp; omega
      have H3 := Lib.hid h3; clear h3
      obtain ⟨_, c5, c6⟩ := BX15.out
      go_wp2_with fail
      clear c5 c6 g1 g2 hd0 hden hlb0 hlb1 hlbb HD0b h3b hbne
      have RM := R_vm_15; have RC := R_vc_15; have BX := BX15
      clear R_vm_15 R_vc_15 BX15 HG1 HG2 HD0 HDEN c0 hcc
      have hnlle : nl ≤ 3 := HL3.out
      clear hl3
      go_loopw [218] (fun x wr => ∃ j : Nat, x = .int .i64 j ∧ j ≤ nl ∧ Below w15.heap.size w15 wr) (fun x _ => nl - (intOf x).toNat)
      case atStart => exact ⟨0, rfl, Nat.zero_le _, Below.refl _ _⟩
      case round =>
        obtain ⟨j, rfl, hj, hbel⟩ := hrel
        by_cases hlt : j < nl
        · have hj1 : (j : Int) < (nl : Int) := by omega
          have hj0 : (0 : Int) ≤ (j : Int) := Int.natCast_nonneg _
          obtain ⟨bl, ol, hadl, hltl, hcell⟩ := HCM.out (by omega)
          subst hadl
          have q0 := (hbel.cell (p := ⟨bl, ol + j, none⟩) hltl).trans (hcell j hlt)
          have hmem : L.getD j 0 ∈ L := by have := HNL.out; rw [List.getD_eq_getElem?_getD, List.getElem?_eq_getElem (by omega)]; exact List.getElem_mem (by omega)
          have hip := HIP2.out _ hmem
          have HIPq := Lib.hid hip; clear hip hmem hcell
          generalize L.getD j 0 = q at q0 HIPq
          obtain ⟨_, e5, e6⟩ := BX.out.keep hbel
          have hw : IntKind.i64.wrap ((j : Int) + 1) = (j : Int) + 1 := wrapf (by omega) (by omega)
          go_wp2_with fail
          refine (iIsIntegerPoint_any a b q 0 _).mono ?_; rintro e wz ⟨rfl, hbz⟩
          rw [HIPq.out]
          go_wp2_with fail
          exact ⟨⟨j + 1, rfl, hlt, bel_trans hbz hbel⟩, by simp only [intOf]; omega⟩
        · clear HIP2 HCM
          have HBL := Lib.hid hbel; clear hbel
          have hjl : j = nl := by omega
          subst hjl
          clear hj
          have h3b : ((j : Int) == 3) = false := by have := H3.out; simp; omega
          have HBM := HBL; clear HBL
          go_wp2_with fail
          clear h3b
          go_loopw [245] (fun x wr => ∃ j : Nat, x = .int .i64 j ∧ j ≤ nb ∧ Below w15.heap.size w15 wr) (fun x _ => nb - (intOf x).toNat)
          case atStart => exact ⟨0, rfl, Nat.zero_le _, HBM.out⟩
          case round =>
            obtain ⟨j, rfl, hj, hbel⟩ := hrel
            by_cases hlt : j < nb
            · have hj1 : (j : Int) < (nb : Int) := by omega
              have hj0 : (0 : Int) ≤ (j : Int) := Int.natCast_nonneg _
              have q0 := (hbel.cell (p := ⟨bc, oc + j, none⟩) hltc).trans (HCC.out j hlt)
              have hmem : bad.getD j 0 ∈ bad := by have := HNB.out; rw [List.getD_eq_getElem?_getD, List.getElem?_eq_getElem (by omega)]; exact List.getElem_mem (by omega)
              obtain ⟨hq0, hqr⟩ := HBR2.out _ hmem
              clear hmem
              generalize bad.getD j 0 = q at q0 hq0 hqr
              have hqb : (q == 0) = false := by simp [hq0]
              go_wp2_with fail
              have hw : wrap64 ((j : Int) + 1) = ((j + 1 : Nat) : Int) := wrapLen HLC.out hlt
              rw [hw]
              exact ⟨⟨j + 1, rfl, hlt, hbel⟩, by simp only [intOf, Int.toNat_natCast]; exact Nat.sub_lt_sub_left hlt (Nat.lt_succ_self j)⟩
            · have HBN := Lib.hid hbel; clear hbel HBM HBR2
              have hjl : j = nb := Nat.le_antisymm hj (Nat.le_of_not_lt hlt)
              subst hjl
              clear hj
              go_wp2_with fail
              have hb3 : Below wr.heap.size wr (wr.alloc (.cells #[.int .i64 5, .int .i64 7, .int .i64 11, .int .i64 13] 3)) := below_allocD _ _
              have z3 : wr.heap.size < (wr.alloc (.cells #[.int .i64 5, .int .i64 7, .int .i64 11, .int .i64 13] 3)).heap.size := by simp
              have y0 : (wr.alloc (.cells #[.int .i64 5, .int .i64 7, .int .i64 11, .int .i64 13] 3)).cell? ⟨wr.heap.size, 0, none⟩ = some (.int .i64 5) := by simp [go_sem]
              have y1 : (wr.alloc (.cells #[.int .i64 5, .int .i64 7, .int .i64 11, .int .i64 13] 3)).cell? ⟨wr.heap.size, 1, none⟩ = some (.int .i64 7) := by simp [go_sem]
              have y2 : (wr.alloc (.cells #[.int .i64 5, .int .i64 7, .int .i64 11, .int .i64 13] 3)).cell? ⟨wr.heap.size, 2, none⟩ = some (.int .i64 11) := by simp [go_sem]
              have y3 : (wr.alloc (.cells #[.int .i64 5, .int .i64 7, .int .i64 11, .int .i64 13] 3)).cell? ⟨wr.heap.size, 3, none⟩ = some (.int .i64 13) := by simp [go_sem]
              generalize wr.alloc (.cells #[.int .i64 5, .int .i64 7, .int .i64 11, .int .i64 13] 3) = W3 at hb3 z3 y0 y1 y2 y3 ⊢
              have HB3 := Lib.hid (bel_trans hb3 HBN.out); clear hb3 HBN
              generalize wr.heap.size = n3 at z3 y0 y1 y2 y3 ⊢
              have hall : ∀ j : Nat, j < 4 → ∃ q bq, W3.cell? ⟨n3, j, none⟩ = some (.int .i64 q) ∧ ¬ q = 0 ∧ (DD.tmod q == 0) = bq ∧ decide (q ∈ bad) = bq := fun j hj => by
                rcases (by omega : j = 0 ∨ j = 1 ∨ j = 2 ∨ j = 3) with rfl | rfl | rfl | rfl
                · exact ⟨5, _, y0, by omega, HB5.out, rfl⟩
                · exact ⟨7, _, y1, by omega, HB7.out, rfl⟩
                · exact ⟨11, _, y2, by omega, HB11.out, rfl⟩
                · exact ⟨13, _, y3, by omega, HB13.out, rfl⟩
              have HALL := Lib.hid hall
              clear hall y0 y1 y2 y3 HB5 HB7 HB11 HB13
              have hjp : 0 < j := HBH.out.1
              have HJP := Lib.hid hjp; clear hjp hlt
              go_loopw [256] (fun x wr => ∃ j : Nat, x = .int .i64 j ∧ j ≤ 4 ∧ Below W3.heap.size W3 wr) (fun x _ => 4 - (intOf x).toNat)
              case atStart => exact ⟨0, rfl, Nat.zero_le _, Below.refl _ _⟩
              case round =>
                obtain ⟨i, rfl, hi, hbel⟩ := hrel
                by_cases hlt : i < 4
                · have hi0 : (0 : Int) ≤ (i : Int) := Int.natCast_nonneg _
                  have hi1 : (i : Int) < 4 := by omega
                  obtain ⟨q, bq, q0, q1, q2, q3⟩ := HALL.out i hlt
                  have q0 := (hbel.cell (p := ⟨n3, i, none⟩) z3).trans q0
                  have hqb : (q == 0) = false := by simp [q1]
                  have hpin : ∀ g : Grow wr, Calls Try.prog 19 #[.slice (some ⟨bc, oc, none⟩) j cc, .int .i64 q] g.wd (Ret (.bool bq) g.wd) := fun g => by
                    have := pIn_any _ bad q g.wd (RC.out.keep (bel_trans g.2 (bel_trans hbel HB3.out))) (by rw [HNB.out]; exact HJP.out)
                    rwa [q3] at this
                  have HPIN := Lib.hid hpin; clear hpin q3
                  have hbne : (bq != bq) = false := by cases bq <;> rfl
                  have hw : IntKind.i64.wrap ((i : Int) + 1) = (i : Int) + 1 := wrapf (by omega) (by omega)
                  go_wp2_with fail
                  refine wp_region_grow (by kernel_rfl) (by kernel_rfl) ?_
                  repeat (go_big_quiet_step (((go_at_call 19; exact grow_ret (HPIN.out _)))))
                  refine wpQuiet_nil ?_
                  rintro wg hbg
                  (try replace hbg := aft2 hbg (by assumption))
                  obtain ⟨hcg, hfg, hg1, hg2, hg3, hg4⟩ := aftz hbg
                  go_wp2_with fail
                  exact ⟨⟨i + 1, rfl, hlt, hbg⟩, by simp only [intOf]; omega⟩
                · obtain rfl : i = 4 := by omega
                  have HB16 := Lib.hid (bel_trans (bel_trans hbel HB3.out) HB15.out)
                  clear hbel HB3 HB15 HALL RM RC BX HCC HLC HNB HNL HSUM HBH HBD H3 HL3 HG3 hlt hi hnlle N_vm N_vc z3 hltc
                  go_wp2_with fail
                  refine (drawIsIntegerPoint_any _ _ _ _ _ (isRow_keep HMore.out HB16.out) hl1).mono ?_
                  rintro e w17 ⟨a2, b2, x2, y2, rfl, hb⟩
                  have HB17 := Lib.hid (bel_trans hb HB16.out); clear hb HB16
                  go_wp2_with fail
                  have hb : Below w17.heap.size w17 (w17.alloc (.cells #[.int .i64 a2, .int .i64 b2] 25)) := below_allocD _ _
                  have hx := Bx.new a2 b2 w17 25
                  generalize w17.alloc (.cells #[.int .i64 a2, .int .i64 b2] 25) = w18 at hb hx ⊢
                  generalize hn : w17.heap.size = n33 at hx ⊢
                  have BX18 := Lib.hid hx; clear hx hn
                  have HB18 := Lib.hid (bel_trans hb HB17.out)
                  clear HB17
                  clear hb
                  have hng := ip_neg (a := a2) (b := b2) (x := x2) (y := y2)
                  have HNG := Lib.hid hng; clear hng
                  by_cases hok : curveB a2 b2 = true ∧ (-1000000 ≤ x2 ∧ x2 ≤ 1000000) ∧ (-1000000 ≤ y2 ∧ y2 ≤ 1000000)
                  · have hv : ipV a2 b2 x2 y2 = .tuple #[.bool (decide (y2 * y2 = cubV a2 b2 x2)), .bool true] := by unfold ipV; rw [if_pos hok]
                    have hwn : IntKind.i64.wrap (-y2) = -y2 := wrapf (by omega) (by omega)
                    have HV := Lib.hid hv; clear hv hok
                    generalize decide (y2 * y2 = cubV a2 b2 x2) = bv at HV
                    refine (iIsIntegerPoint_any a2 b2 x2 y2 _).mono ?_
                    rintro e w19 ⟨rfl, hb⟩
                    have HB19 := Lib.hid (bel_trans hb HB18.out)
                    have BX19 := Lib.hid (BX18.out.keep hb); clear BX18
                    clear HB18
                    clear hb
                    rw [HV.out]
                    obtain ⟨_, c5, c6⟩ := BX19.out
                    go_wp2_with fail
                    clear c5 c6
                    refine (sIsIntegerPoint_any a2 b2 x2 y2 _).mono ?_
                    rintro e w20 ⟨rfl, hb⟩
                    have HB20 := Lib.hid (bel_trans hb HB19.out)
                    have BX20 := Lib.hid (BX19.out.keep hb); clear BX19
                    clear HB19
                    clear hb
                    rw [HV.out]
                    obtain ⟨_, c5, c6⟩ := BX20.out
                    go_wp2_with fail
                    clear c5 c6
                    refine (iIsIntegerPoint_any a2 b2 x2 (-y2) _).mono ?_
                    rintro e w21 ⟨rfl, hb⟩
                    have HB21 := Lib.hid (bel_trans hb HB20.out)
                    have BX21 := Lib.hid (BX20.out.keep hb); clear BX20
                    clear HB20
                    clear hb
                    rw [HNG.out, HV.out]
                    obtain ⟨_, c5, c6⟩ := BX21.out
                    go_wp2_with fail
                    clear c5 c6
                    go_ret
                    exact ret_eq (by rfl) HB21.out
                  · have hv : ipV a2 b2 x2 y2 = .tuple #[.bool false, .bool false] := by unfold ipV; rw [if_neg hok]
                    have HV := Lib.hid hv; clear hv hok
                    refine (iIsIntegerPoint_any a2 b2 x2 y2 _).mono ?_
                    rintro e w19 ⟨rfl, hb⟩
                    have HB19 := Lib.hid (bel_trans hb HB18.out)
                    have BX19 := Lib.hid (BX18.out.keep hb); clear BX18
                    clear HB18
                    clear hb
                    rw [HV.out]
                    obtain ⟨_, c5, c6⟩ := BX19.out
                    go_wp2_with fail
                    clear c5 c6
                    refine (sIsIntegerPoint_any a2 b2 x2 y2 _).mono ?_
                    rintro e w20 ⟨rfl, hb⟩
                    have HB20 := Lib.hid (bel_trans hb HB19.out)
                    have BX20 := Lib.hid (BX19.out.keep hb); clear BX19
                    clear HB19
                    clear hb
                    rw [HV.out]
                    obtain ⟨_, c5, c6⟩ := BX20.out
                    go_wp2_with fail
                    clear c5 c6
                    go_ret
                    exact ret_eq (by rfl) HB20.out
end Go.Proofs.Ytagfnahgibccfaa.fnCurvePoints
