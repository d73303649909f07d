/- The walk of FnCurves: where the library's variables lie as the text lays them. -/
import Derived.Test.YtpjcfnjagknocaaGreatDoorFk
import Derived.Deep.Cut
import Derived.Deep.CutRange
namespace Go.Proofs.YtpjcfnjagknocaaGreatDoor.fnCurves
open Go.RowKit
set_option maxHeartbeats 8000000 in
set_option maxRecDepth 100000 in
theorem walk (ad0 : Option Addr) (len0 cap0 : Nat) (z0 : List Int) (ad1 : Option Addr) (len1 cap1 : Nat) (z1 : List Int) (w : World) (h0 : IsRow .u8 w ad0 len0 cap0 z0) (h1 : IsRow .u8 w ad1 len1 cap1 z1) (ht : LibT w) :
    Calls Tryz.prog 3 #[.slice ad0 len0 cap0, .slice ad1 len1 cap1] w (Ret (.bool true) w) := by
  have HRow := Lib.hid h0; have HMore := Lib.hid h1; have HTa := Lib.hid ht; clear h0 h1 ht
  by_cases hbig : 1048576 < len0 + len1
  · go_enter Tryz.func3, Tryz.ntmps3
    go_wp2_with fail
    have hb := big_any ad0 ad1 len0 len1 cap0 cap1 w
    rw [decide_eq_true hbig] at hb
    refine hb.mono ?_
    rintro e w1 ⟨rfl, hb1⟩
    go_wp2_with fail
    go_ret
    exact ret_eq (by rfl) hb1
  have hl0 : len0 ≤ 1048576 := by omega
  have hl1 : len1 ≤ 1048576 := by omega
  go_enter Tryz.func3, Tryz.ntmps3
  go_wp2_with fail
  have hb := big_any ad0 ad1 len0 len1 cap0 cap1 w
  rw [decide_eq_false hbig] at hb
  refine hb.mono ?_
  rintro e w1 ⟨rfl, hb1⟩
  clear hb hbig
  go_wp2_with fail
  refine (drawScaleCurve_any _ _ _ _ _ (isRow_keepDb HRow.out hb1) hl0).mono ?_
  rintro e w2 ⟨a, b, u, rfl, hb2⟩
  have HB2 := Lib.hid (bel_trans hb2 hb1); have HM2 := Lib.hid (isRow_keepDb (isRow_keepDb HMore.out hb1) hb2); have HT2 := Lib.hid ((HTa.out.keep hb1).keep hb2); have HL1 := Lib.hid hl1
  clear hb1 hb2 HRow HMore HTa hl0 hl1
  go_wp2_with fail
  have hb : Below w2.heap.size w2 (w2.alloc (.cells #[.int .i64 a, .int .i64 b] 25)) := below_allocD _ _
  have hx := Bc.new (a) (b) w2 25
  generalize w2.alloc (.cells #[.int .i64 a, .int .i64 b] 25) = w3 at hb hx ⊢
  generalize hn : w2.heap.size = nc at hx ⊢
  have BXc_3 := Lib.hid hx; clear hx hn
  have HB3 := Lib.hid (bel_trans hb HB2.out); clear HB2
  have HM3 := Lib.hid (isRow_keepDb HM2.out hb); clear HM2
  have HT3 := Lib.hid (HT2.out.keep hb); clear HT2
  clear hb
  obtain ⟨a2, b2, ok, rf⟩ := scfacts a b u
  have K0 := Lib.hid rf.s0; have K1 := Lib.hid rf.s1; have HY := Lib.hid rf.yes
  clear rf
  have hok : (ok != ok) = false := by cases ok <;> rfl
  refine (K0.out _).mono ?_
  rintro e w4 ⟨rfl, hb⟩
  have HB4 := Lib.hid (bel_trans hb HB3.out); clear HB3
  have HM4 := Lib.hid (isRow_keepDb HM3.out hb); clear HM3
  have HT4 := Lib.hid (HT3.out.keep hb); clear HT3
  have BXc_4 := Lib.hid (BXc_3.out.keep hb); clear BXc_3
  clear hb
  obtain ⟨cc0, cc5, cc6⟩ := BXc_4.out
  go_wp2_with fail
  clear cc0 cc5 cc6
  have hb : Below w4.heap.size w4 (w4.alloc (.cells #[.int .i64 a2, .int .i64 b2] 25)) := below_allocD _ _
  have hx := Bc.new (a2) (b2) w4 25
  generalize w4.alloc (.cells #[.int .i64 a2, .int .i64 b2] 25) = w5 at hb hx ⊢
  generalize hn : w4.heap.size = ns at hx ⊢
  have BXs_5 := Lib.hid hx; clear hx hn
  have HB5 := Lib.hid (bel_trans hb HB4.out); clear HB4
  have HM5 := Lib.hid (isRow_keepDb HM4.out hb); clear HM4
  have HT5 := Lib.hid (HT4.out.keep hb); clear HT4
  have BXc_5 := Lib.hid (BXc_4.out.keep hb); clear BXc_4
  clear hb
  refine (K1.out _).mono ?_
  rintro e w6 ⟨rfl, hb⟩
  have HB6 := Lib.hid (bel_trans hb HB5.out); clear HB5
  have HM6 := Lib.hid (isRow_keepDb HM5.out hb); clear HM5
  have HT6 := Lib.hid (HT5.out.keep hb); clear HT5
  have BXc_6 := Lib.hid (BXc_5.out.keep hb); clear BXc_5
  have BXs_6 := Lib.hid (BXs_5.out.keep hb); clear BXs_5
  clear hb
  clear K0 K1
  as_aux_lemma =>
  obtain ⟨cc0, cc5, cc6⟩ := BXc_6.out
  obtain ⟨cs0, cs5, cs6⟩ := BXs_6.out
  go_upto_if 87 with fail
  clear cc0 cc5 cc6
  clear cs0 cs5 cs6
  have hb : Below w6.heap.size w6 (w6.alloc (.cells #[.int .i64 a2, .int .i64 b2] 25)) := below_allocD _ _
  have hx := Bc.new (a2) (b2) w6 25
  generalize w6.alloc (.cells #[.int .i64 a2, .int .i64 b2] 25) = w7 at hb hx ⊢
  generalize hn : w6.heap.size = nt at hx ⊢
  have BXt_7 := Lib.hid hx; clear hx hn
  have HB7 := Lib.hid (bel_trans hb HB6.out); clear HB6
  have HM7 := Lib.hid (isRow_keepDb HM6.out hb); clear HM6
  have HT7 := Lib.hid (HT6.out.keep hb); clear HT6
  have BXc_7 := Lib.hid (BXc_6.out.keep hb); clear BXc_6
  have BXs_7 := Lib.hid (BXs_6.out.keep hb); clear BXs_6
  clear hb
  go_cut [11, 12, 13, 14, 15, 16, 17, 18, 19, 20, 21, 22, 23, 24, 25, 26, 27, 28] from 88 to 204 (fun _ _ _ _ _ _ _ _ _ _ _ _ _ _ _ _ _ _ wx => Below w7.heap.size w7 wx)
  case first =>
    as_aux_lemma =>
    have HBW := Lib.hid (Below.refl w7.heap.size w7)
    clear hok
    cases ok
    · clear HY
      obtain ⟨cc0, cc5, cc6⟩ := BXc_7.out
      obtain ⟨cs0, cs5, cs6⟩ := BXs_7.out
      obtain ⟨ct0, ct5, ct6⟩ := BXt_7.out
      go_wp2_with fail
      clear cc0 cc5 cc6
      clear cs0 cs5 cs6
      clear ct0 ct5 ct6
      go_meet
      exact HBW.out
    · skip
      obtain ⟨num, den, D, E, p3, p6, p12, R⟩ := HY.out rfl
      clear HY
      have Fiso := Lib.hid R.iso
      have Fi0 := Lib.hid R.i0
      have Fi1 := Lib.hid R.i1
      have Fi2 := Lib.hid R.i2
      have Fd0 := Lib.hid R.d0
      have Fd1 := Lib.hid R.d1
      have Fd2 := Lib.hid R.d2
      have Fcur := Lib.hid R.cur
      have h1 := R.h1; have h2 := R.h2; have h3 := R.h3; have h4 := R.h4; have h5 := R.h5
      clear R
      clear BXt_7
      obtain ⟨cc0, cc5, cc6⟩ := BXc_7.out
      obtain ⟨cs0, cs5, cs6⟩ := BXs_7.out
      go_wp2_with fail
      clear cc0 cc5 cc6
      clear cs0 cs5 cs6
      refine (Fiso.out _).mono ?_
      rintro e w8 ⟨rfl, hb⟩
      have HBW' := Lib.hid (bel_trans hb HBW.out); clear HBW; have HBW := Lib.hid HBW'.out; clear HBW'
      have HB8 := Lib.hid (bel_trans hb HB7.out); clear HB7
      have HM8 := Lib.hid (isRow_keepDb HM7.out hb); clear HM7
      have HT8 := Lib.hid (HT7.out.keep hb); clear HT7
      have BXc_8 := Lib.hid (BXc_7.out.keep hb); clear BXc_7
      have BXs_8 := Lib.hid (BXs_7.out.keep hb); clear BXs_7
      clear hb
      obtain ⟨cc0, cc5, cc6⟩ := BXc_8.out
      obtain ⟨cs0, cs5, cs6⟩ := BXs_8.out
      go_wp2_with fail
      clear cc0 cc5 cc6
      clear cs0 cs5 cs6
      refine (Fi0.out _).mono ?_
      rintro e w9 ⟨rfl, hb⟩
      have HBW' := Lib.hid (bel_trans hb HBW.out); clear HBW; have HBW := Lib.hid HBW'.out; clear HBW'
      have HB9 := Lib.hid (bel_trans hb HB8.out); clear HB8
      have HM9 := Lib.hid (isRow_keepDb HM8.out hb); clear HM8
      have HT9 := Lib.hid (HT8.out.keep hb); clear HT8
      have BXc_9 := Lib.hid (BXc_8.out.keep hb); clear BXc_8
      have BXs_9 := Lib.hid (BXs_8.out.keep hb); clear BXs_8
      clear hb
      obtain ⟨cc0, cc5, cc6⟩ := BXc_9.out
      obtain ⟨cs0, cs5, cs6⟩ := BXs_9.out
      go_wp2_with fail
      clear cc0 cc5 cc6
      clear cs0 cs5 cs6
      refine (Fi1.out _).mono ?_
      rintro e w10 ⟨rfl, hb⟩
      have HBW' := Lib.hid (bel_trans hb HBW.out); clear HBW; have HBW := Lib.hid HBW'.out; clear HBW'
      have HB10 := Lib.hid (bel_trans hb HB9.out); clear HB9
      have HM10 := Lib.hid (isRow_keepDb HM9.out hb); clear HM9
      have HT10 := Lib.hid (HT9.out.keep hb); clear HT9
      have BXc_10 := Lib.hid (BXc_9.out.keep hb); clear BXc_9
      have BXs_10 := Lib.hid (BXs_9.out.keep hb); clear BXs_9
      clear hb
      obtain ⟨cc0, cc5, cc6⟩ := BXc_10.out
      obtain ⟨cs0, cs5, cs6⟩ := BXs_10.out
      go_wp2_with fail
      clear cc0 cc5 cc6
      clear cs0 cs5 cs6
      refine (Fi2.out _).mono ?_
      rintro e w11 ⟨rfl, hb⟩
      have HBW' := Lib.hid (bel_trans hb HBW.out); clear HBW; have HBW := Lib.hid HBW'.out; clear HBW'
      have HB11 := Lib.hid (bel_trans hb HB10.out); clear HB10
      have HM11 := Lib.hid (isRow_keepDb HM10.out hb); clear HM10
      have HT11 := Lib.hid (HT10.out.keep hb); clear HT10
      have BXc_11 := Lib.hid (BXc_10.out.keep hb); clear BXc_10
      have BXs_11 := Lib.hid (BXs_10.out.keep hb); clear BXs_10
      clear hb
      obtain ⟨cc0, cc5, cc6⟩ := BXc_11.out
      obtain ⟨cs0, cs5, cs6⟩ := BXs_11.out
      go_wp2_with fail
      clear cc0 cc5 cc6
      clear cs0 cs5 cs6
      refine (Fd0.out _).mono ?_
      rintro e w12 ⟨rfl, hb⟩
      have HBW' := Lib.hid (bel_trans hb HBW.out); clear HBW; have HBW := Lib.hid HBW'.out; clear HBW'
      have HB12 := Lib.hid (bel_trans hb HB11.out); clear HB11
      have HM12 := Lib.hid (isRow_keepDb HM11.out hb); clear HM11
      have HT12 := Lib.hid (HT11.out.keep hb); clear HT11
      have BXc_12 := Lib.hid (BXc_11.out.keep hb); clear BXc_11
      have BXs_12 := Lib.hid (BXs_11.out.keep hb); clear BXs_11
      clear hb
      obtain ⟨cc0, cc5, cc6⟩ := BXc_12.out
      obtain ⟨cs0, cs5, cs6⟩ := BXs_12.out
      go_wp2_with fail
      clear cc0 cc5 cc6
      clear cs0 cs5 cs6
      refine (Fd1.out _).mono ?_
      rintro e w13 ⟨rfl, hb⟩
      have HBW' := Lib.hid (bel_trans hb HBW.out); clear HBW; have HBW := Lib.hid HBW'.out; clear HBW'
      have HB13 := Lib.hid (bel_trans hb HB12.out); clear HB12
      have HM13 := Lib.hid (isRow_keepDb HM12.out hb); clear HM12
      have HT13 := Lib.hid (HT12.out.keep hb); clear HT12
      have BXc_13 := Lib.hid (BXc_12.out.keep hb); clear BXc_12
      have BXs_13 := Lib.hid (BXs_12.out.keep hb); clear BXs_12
      clear hb
      obtain ⟨cc0, cc5, cc6⟩ := BXc_13.out
      obtain ⟨cs0, cs5, cs6⟩ := BXs_13.out
      go_wp2_with fail
      clear cc0 cc5 cc6
      clear cs0 cs5 cs6
      refine (Fd2.out _).mono ?_
      rintro e w14 ⟨rfl, hb⟩
      have HBW' := Lib.hid (bel_trans hb HBW.out); clear HBW; have HBW := Lib.hid HBW'.out; clear HBW'
      have HB14 := Lib.hid (bel_trans hb HB13.out); clear HB13
      have HM14 := Lib.hid (isRow_keepDb HM13.out hb); clear HM13
      have HT14 := Lib.hid (HT13.out.keep hb); clear HT13
      have BXc_14 := Lib.hid (BXc_13.out.keep hb); clear BXc_13
      have BXs_14 := Lib.hid (BXs_13.out.keep hb); clear BXs_13
      clear hb
      clear Fiso Fi0 Fi1 Fi2 Fd0 Fd1 Fd2
      obtain ⟨cc0, cc5, cc6⟩ := BXc_14.out
      obtain ⟨cs0, cs5, cs6⟩ := BXs_14.out
      go_wp2_with fail
      clear cc0 cc5 cc6
      clear cs0 cs5 cs6
      refine (Fcur.out _).mono ?_
      rintro e w15 ⟨rfl, hb⟩
      have HBW' := Lib.hid (bel_trans hb HBW.out); clear HBW; have HBW := Lib.hid HBW'.out; clear HBW'
      have HB15 := Lib.hid (bel_trans hb HB14.out); clear HB14
      have HM15 := Lib.hid (isRow_keepDb HM14.out hb); clear HM14
      have HT15 := Lib.hid (HT14.out.keep hb); clear HT14
      have BXc_15 := Lib.hid (BXc_14.out.keep hb); clear BXc_14
      have BXs_15 := Lib.hid (BXs_14.out.keep hb); clear BXs_14
      clear hb
      obtain ⟨cc0, cc5, cc6⟩ := BXc_15.out
      obtain ⟨cs0, cs5, cs6⟩ := BXs_15.out
      go_wp2_with fail
      clear cc0 cc5 cc6
      clear cs0 cs5 cs6
      go_meet
      exact HBW.out
  case rest =>
    as_aux_lemma =>
    have hb := hcut; clear hcut
    generalize wc = w8 at hb ⊢
    have HB8 := Lib.hid (bel_trans hb HB7.out); clear HB7
    have HM8 := Lib.hid (isRow_keepDb HM7.out hb); clear HM7
    have HT8 := Lib.hid (HT7.out.keep hb); clear HT7
    have BXc_8 := Lib.hid (BXc_7.out.keep hb); clear BXc_7
    have BXs_8 := Lib.hid (BXs_7.out.keep hb); clear BXs_7
    have BXt_8 := Lib.hid (BXt_7.out.keep hb); clear BXt_7
    clear hb
    clear HY hok
    clear BXc_8
    clear BXs_8
    clear BXt_8
    go_wp2_with fail
    refine (drawSmallestModel_any _ _ _ _ _ HM8.out HL1.out).mono ?_
    rintro e w9 ⟨v1, v2, rfl, hb⟩
    have HB9 := Lib.hid (bel_trans hb HB8.out); clear HB8
    have HM9 := Lib.hid (isRow_keepDb HM8.out hb); clear HM8
    have HT9 := Lib.hid (HT8.out.keep hb); clear HT8
    clear hb
    go_wp2_with fail
    have hb : Below w9.heap.size w9 (w9.alloc (.cells #[.int .i64 v1, .int .i64 v2] 25)) := below_allocD _ _
    have hx := Bc.new (v1) (v2) w9 25
    generalize w9.alloc (.cells #[.int .i64 v1, .int .i64 v2] 25) = w10 at hb hx ⊢
    generalize hn : w9.heap.size = nv at hx ⊢
    have BXv_10 := Lib.hid hx; clear hx hn
    have HB10 := Lib.hid (bel_trans hb HB9.out); clear HB9
    have HM10 := Lib.hid (isRow_keepDb HM9.out hb); clear HM9
    have HT10 := Lib.hid (HT9.out.keep hb); clear HT9
    clear hb
    obtain ⟨m1, m2, by_, ok, rf⟩ := mfacts v1 v2
    have K0 := Lib.hid rf.m0; have K1 := Lib.hid rf.m1; have K2 := Lib.hid rf.k1; have K3 := Lib.hid rf.sc; have K4 := Lib.hid rf.m2
    clear rf
    have hok : (ok != ok) = false := by cases ok <;> rfl
    refine (K0.out _).mono ?_
    rintro e w11 ⟨rfl, hb⟩
    have HB11 := Lib.hid (bel_trans hb HB10.out); clear HB10
    have HM11 := Lib.hid (isRow_keepDb HM10.out hb); clear HM10
    have HT11 := Lib.hid (HT10.out.keep hb); clear HT10
    have BXv_11 := Lib.hid (BXv_10.out.keep hb); clear BXv_10
    clear hb
    obtain ⟨cv0, cv5, cv6⟩ := BXv_11.out
    go_wp2_with fail
    clear cv0 cv5 cv6
    have hb : Below w11.heap.size w11 (w11.alloc (.cells #[.int .i64 m1, .int .i64 m2] 25)) := below_allocD _ _
    have hx := Bc.new (m1) (m2) w11 25
    generalize w11.alloc (.cells #[.int .i64 m1, .int .i64 m2] 25) = w12 at hb hx ⊢
    generalize hn : w11.heap.size = nm at hx ⊢
    have BXm_12 := Lib.hid hx; clear hx hn
    have HB12 := Lib.hid (bel_trans hb HB11.out); clear HB11
    have HM12 := Lib.hid (isRow_keepDb HM11.out hb); clear HM11
    have HT12 := Lib.hid (HT11.out.keep hb); clear HT11
    have BXv_12 := Lib.hid (BXv_11.out.keep hb); clear BXv_11
    clear hb
    refine (K1.out _).mono ?_
    rintro e w13 ⟨rfl, hb⟩
    have HB13 := Lib.hid (bel_trans hb HB12.out); clear HB12
    have HM13 := Lib.hid (isRow_keepDb HM12.out hb); clear HM12
    have HT13 := Lib.hid (HT12.out.keep hb); clear HT12
    have BXv_13 := Lib.hid (BXv_12.out.keep hb); clear BXv_12
    have BXm_13 := Lib.hid (BXm_12.out.keep hb); clear BXm_12
    clear hb
    clear K0 K1
    as_aux_lemma =>
    obtain ⟨cv0, cv5, cv6⟩ := BXv_13.out
    obtain ⟨cm0, cm5, cm6⟩ := BXm_13.out
    go_upto_if 232 with fail
    clear cv0 cv5 cv6
    clear cm0 cm5 cm6
    have hb : Below w13.heap.size w13 (w13.alloc (.cells #[.int .i64 m1, .int .i64 m2] 25)) := below_allocD _ _
    have hx := Bc.new (m1) (m2) w13 25
    generalize w13.alloc (.cells #[.int .i64 m1, .int .i64 m2] 25) = w14 at hb hx ⊢
    generalize hn : w13.heap.size = nn at hx ⊢
    have BXn_14 := Lib.hid hx; clear hx hn
    have HB14 := Lib.hid (bel_trans hb HB13.out); clear HB13
    have HM14 := Lib.hid (isRow_keepDb HM13.out hb); clear HM13
    have HT14 := Lib.hid (HT13.out.keep hb); clear HT13
    have BXv_14 := Lib.hid (BXv_13.out.keep hb); clear BXv_13
    have BXm_14 := Lib.hid (BXm_13.out.keep hb); clear BXm_13
    clear hb
    go_cut [36, 37, 38, 39, 40] from 233 to 268 (fun _ _ _ _ _ wx => Below w14.heap.size w14 wx)
    case first =>
      as_aux_lemma =>
      have HBW := Lib.hid (Below.refl w14.heap.size w14)
      clear hok
      cases ok
      · clear K2 K3 K4
        obtain ⟨cv0, cv5, cv6⟩ := BXv_14.out
        obtain ⟨cm0, cm5, cm6⟩ := BXm_14.out
        obtain ⟨cn0, cn5, cn6⟩ := BXn_14.out
        go_wp2_with fail
        clear cv0 cv5 cv6
        clear cm0 cm5 cm6
        clear cn0 cn5 cn6
        go_meet
        exact HBW.out
      · skip
        have hk := K2.out rfl; have F3 := Lib.hid (K3.out rfl); have F4 := Lib.hid (K4.out rfl)
        clear K2 K3 K4
        have hk1 : ¬ by_ < 1 := by omega
        obtain ⟨cv0, cv5, cv6⟩ := BXv_14.out
        obtain ⟨cm0, cm5, cm6⟩ := BXm_14.out
        obtain ⟨cn0, cn5, cn6⟩ := BXn_14.out
        go_wp2_with fail
        clear cv0 cv5 cv6
        clear cm0 cm5 cm6
        clear cn0 cn5 cn6
        refine (F3.out _).mono ?_
        rintro e w15 ⟨rfl, hb⟩
        have HBW' := Lib.hid (bel_trans hb HBW.out); clear HBW; have HBW := Lib.hid HBW'.out; clear HBW'
        have HB15 := Lib.hid (bel_trans hb HB14.out); clear HB14
        have HM15 := Lib.hid (isRow_keepDb HM14.out hb); clear HM14
        have HT15 := Lib.hid (HT14.out.keep hb); clear HT14
        have BXv_15 := Lib.hid (BXv_14.out.keep hb); clear BXv_14
        have BXm_15 := Lib.hid (BXm_14.out.keep hb); clear BXm_14
        have BXn_15 := Lib.hid (BXn_14.out.keep hb); clear BXn_14
        clear hb
        obtain ⟨cv0, cv5, cv6⟩ := BXv_15.out
        obtain ⟨cm0, cm5, cm6⟩ := BXm_15.out
        obtain ⟨cn0, cn5, cn6⟩ := BXn_15.out
        go_wp2_with fail
        clear cv0 cv5 cv6
        clear cm0 cm5 cm6
        clear cn0 cn5 cn6
        have hb : Below w15.heap.size w15 (w15.alloc (.cells #[.int .i64 v1, .int .i64 v2] 25)) := below_allocD _ _
        have hx := Bc.new (v1) (v2) w15 25
        generalize w15.alloc (.cells #[.int .i64 v1, .int .i64 v2] 25) = w16 at hb hx ⊢
        generalize hn : w15.heap.size = np at hx ⊢
        have BXp_16 := Lib.hid hx; clear hx hn
        have HBW' := Lib.hid (bel_trans hb HBW.out); clear HBW; have HBW := Lib.hid HBW'.out; clear HBW'
        have HB16 := Lib.hid (bel_trans hb HB15.out); clear HB15
        have HM16 := Lib.hid (isRow_keepDb HM15.out hb); clear HM15
        have HT16 := Lib.hid (HT15.out.keep hb); clear HT15
        have BXv_16 := Lib.hid (BXv_15.out.keep hb); clear BXv_15
        have BXm_16 := Lib.hid (BXm_15.out.keep hb); clear BXm_15
        have BXn_16 := Lib.hid (BXn_15.out.keep hb); clear BXn_15
        clear hb
        refine (F4.out _).mono ?_
        rintro e w17 ⟨rfl, hb⟩
        have HBW' := Lib.hid (bel_trans hb HBW.out); clear HBW; have HBW := Lib.hid HBW'.out; clear HBW'
        have HB17 := Lib.hid (bel_trans hb HB16.out); clear HB16
        have HM17 := Lib.hid (isRow_keepDb HM16.out hb); clear HM16
        have HT17 := Lib.hid (HT16.out.keep hb); clear HT16
        have BXv_17 := Lib.hid (BXv_16.out.keep hb); clear BXv_16
        have BXm_17 := Lib.hid (BXm_16.out.keep hb); clear BXm_16
        have BXn_17 := Lib.hid (BXn_16.out.keep hb); clear BXn_16
        have BXp_17 := Lib.hid (BXp_16.out.keep hb); clear BXp_16
        clear hb
        clear F3 F4
        obtain ⟨cv0, cv5, cv6⟩ := BXv_17.out
        obtain ⟨cm0, cm5, cm6⟩ := BXm_17.out
        obtain ⟨cn0, cn5, cn6⟩ := BXn_17.out
        obtain ⟨cp0, cp5, cp6⟩ := BXp_17.out
        go_wp2_with fail
        clear cv0 cv5 cv6
        clear cm0 cm5 cm6
        clear cn0 cn5 cn6
        clear cp0 cp5 cp6
        go_meet
        exact bel_alloc HBW.out _
    case rest =>
      as_aux_lemma =>
      have hb := hcut; clear hcut
      generalize wc = w15 at hb ⊢
      have HB15 := Lib.hid (bel_trans hb HB14.out); clear HB14
      have HM15 := Lib.hid (isRow_keepDb HM14.out hb); clear HM14
      have HT15 := Lib.hid (HT14.out.keep hb); clear HT14
      have BXv_15 := Lib.hid (BXv_14.out.keep hb); clear BXv_14
      have BXm_15 := Lib.hid (BXm_14.out.keep hb); clear BXm_14
      have BXn_15 := Lib.hid (BXn_14.out.keep hb); clear BXn_14
      clear hb
      clear K2 K3 K4 hok
      clear BXv_15
      clear BXm_15
      clear BXn_15
      go_wp2_with fail
      refine (drawCurveText_any _ _ _ _ _ HM15.out HL1.out).mono ?_
      rintro e w16 ⟨x1, x2, rfl, hb⟩
      have HB16 := Lib.hid (bel_trans hb HB15.out); clear HB15
      have HM16 := Lib.hid (isRow_keepDb HM15.out hb); clear HM15
      have HT16 := Lib.hid (HT15.out.keep hb); clear HT15
      clear hb
      go_wp2_with fail
      have hb : Below w16.heap.size w16 (w16.alloc (.cells #[.int .i64 x1, .int .i64 x2] 25)) := below_allocD _ _
      have hx := Bc.new (x1) (x2) w16 25
      generalize w16.alloc (.cells #[.int .i64 x1, .int .i64 x2] 25) = w17 at hb hx ⊢
      generalize hn : w16.heap.size = nx at hx ⊢
      have BXx_17 := Lib.hid hx; clear hx hn
      have HB17 := Lib.hid (bel_trans hb HB16.out); clear HB16
      have HM17 := Lib.hid (isRow_keepDb HM16.out hb); clear HM16
      have HT17 := Lib.hid (HT16.out.keep hb); clear HT16
      clear hb
      obtain ⟨T, ok, rf⟩ := tfacts x1 x2
      have K0 := Lib.hid rf.t0; have K1 := Lib.hid rf.t1; have K2 := Lib.hid rf.c; have K3 := Lib.hid rf.p
      clear rf
      have hok : (ok != ok) = false := by cases ok <;> rfl
      refine (K0.out _ HT17.out.1).mono ?_
      rintro e w18 ⟨rfl, hb⟩
      have HB18 := Lib.hid (bel_trans hb HB17.out); clear HB17
      have HM18 := Lib.hid (isRow_keepDb HM17.out hb); clear HM17
      have HT18 := Lib.hid (HT17.out.keep hb); clear HT17
      have BXx_18 := Lib.hid (BXx_17.out.keep hb); clear BXx_17
      clear hb
      obtain ⟨cx0, cx5, cx6⟩ := BXx_18.out
      go_wp2_with fail
      clear cx0 cx5 cx6
      refine (K1.out _).mono ?_
      rintro e w19 ⟨rfl, hb⟩
      have HB19 := Lib.hid (bel_trans hb HB18.out); clear HB18
      have HM19 := Lib.hid (isRow_keepDb HM18.out hb); clear HM18
      have HT19 := Lib.hid (HT18.out.keep hb); clear HT18
      have BXx_19 := Lib.hid (BXx_18.out.keep hb); clear BXx_18
      clear hb
      obtain ⟨cx0, cx5, cx6⟩ := BXx_19.out
      go_wp2_with fail
      clear cx0 cx5 cx6
      refine (K2.out _).mono ?_
      rintro e w20 ⟨rfl, hb⟩
      have HB20 := Lib.hid (bel_trans hb HB19.out); clear HB19
      have HM20 := Lib.hid (isRow_keepDb HM19.out hb); clear HM19
      have HT20 := Lib.hid (HT19.out.keep hb); clear HT19
      have BXx_20 := Lib.hid (BXx_19.out.keep hb); clear BXx_19
      clear hb
      clear K0 K1 K2
      as_aux_lemma =>
      obtain ⟨cx0, cx5, cx6⟩ := BXx_20.out
      go_upto_if 295 with fail
      clear cx0 cx5 cx6
      go_cut [46, 47] from 296 to 307 (fun _ _ wx => Below w20.heap.size w20 wx)
      case first =>
        as_aux_lemma =>
        have HBW := Lib.hid (Below.refl w20.heap.size w20)
        clear hok
        cases ok
        · clear K3
          obtain ⟨cx0, cx5, cx6⟩ := BXx_20.out
          go_wp2_with fail
          clear cx0 cx5 cx6
          go_meet
          exact HBW.out
        · skip
          have F3 := Lib.hid (K3.out rfl)
          clear K3
          obtain ⟨cx0, cx5, cx6⟩ := BXx_20.out
          go_wp2_with fail
          clear cx0 cx5 cx6
          refine (F3.out _ HT20.out).mono ?_
          rintro e w21 ⟨rfl, hb⟩
          have HBW' := Lib.hid (bel_trans hb HBW.out); clear HBW; have HBW := Lib.hid HBW'.out; clear HBW'
          have HB21 := Lib.hid (bel_trans hb HB20.out); clear HB20
          have HM21 := Lib.hid (isRow_keepDb HM20.out hb); clear HM20
          have HT21 := Lib.hid (HT20.out.keep hb); clear HT20
          have BXx_21 := Lib.hid (BXx_20.out.keep hb); clear BXx_20
          clear hb
          clear F3
          obtain ⟨cx0, cx5, cx6⟩ := BXx_21.out
          go_wp2_with fail
          clear cx0 cx5 cx6
          go_meet
          exact bel_alloc HBW.out _
      case rest =>
        as_aux_lemma =>
        have hb := hcut; clear hcut
        generalize wc = w21 at hb ⊢
        have HB21 := Lib.hid (bel_trans hb HB20.out); clear HB20
        have HM21 := Lib.hid (isRow_keepDb HM20.out hb); clear HM20
        have HT21 := Lib.hid (HT20.out.keep hb); clear HT20
        have BXx_21 := Lib.hid (BXx_20.out.keep hb); clear BXx_20
        clear hb
        clear K3 hok
        clear BXx_21
        go_wp2_with fail
        refine (drawParseCurve_any _ _ _ _ _ HM21.out HL1.out).mono ?_
        rintro e w22 ⟨sy, rfl, hsy, hb⟩
        have HB22 := Lib.hid (bel_trans hb HB21.out); clear HB21
        have HM22 := Lib.hid (isRow_keepDb HM21.out hb); clear HM21
        have HT22 := Lib.hid (HT21.out.keep hb); clear HT21
        clear hb
        go_wp2_with fail
        obtain ⟨y1, y2, ok, rf⟩ := pkfacts sy (by omega)
        have K0 := Lib.hid rf.p0; have K1 := Lib.hid rf.p1
        clear rf
        refine (K0.out _ HT22.out).mono ?_
        rintro e w23 ⟨rfl, hb⟩
        have HB23 := Lib.hid (bel_trans hb HB22.out); clear HB22
        have HM23 := Lib.hid (isRow_keepDb HM22.out hb); clear HM22
        have HT23 := Lib.hid (HT22.out.keep hb); clear HT22
        clear hb
        go_wp2_with fail
        have hb : Below w23.heap.size w23 (w23.alloc (.cells #[.int .i64 y1, .int .i64 y2] 25)) := below_allocD _ _
        have hx := Bc.new (y1) (y2) w23 25
        generalize w23.alloc (.cells #[.int .i64 y1, .int .i64 y2] 25) = w24 at hb hx ⊢
        generalize hn : w23.heap.size = np at hx ⊢
        have BXp_24 := Lib.hid hx; clear hx hn
        have HB24 := Lib.hid (bel_trans hb HB23.out); clear HB23
        have HM24 := Lib.hid (isRow_keepDb HM23.out hb); clear HM23
        have HT24 := Lib.hid (HT23.out.keep hb); clear HT23
        clear hb
        refine (K1.out _).mono ?_
        rintro e w25 ⟨rfl, hb⟩
        have HB25 := Lib.hid (bel_trans hb HB24.out); clear HB24
        have HM25 := Lib.hid (isRow_keepDb HM24.out hb); clear HM24
        have HT25 := Lib.hid (HT24.out.keep hb); clear HT24
        have BXp_25 := Lib.hid (BXp_24.out.keep hb); clear BXp_24
        clear hb
        obtain ⟨cp0, cp5, cp6⟩ := BXp_25.out
        go_wp2_with fail
        clear cp0 cp5 cp6
        have hb : Below w25.heap.size w25 (w25.alloc (.cells #[.int .i64 y1, .int .i64 y2] 25)) := below_allocD _ _
        have hx := Bc.new (y1) (y2) w25 25
        generalize w25.alloc (.cells #[.int .i64 y1, .int .i64 y2] 25) = w26 at hb hx ⊢
        generalize hn : w25.heap.size = nq at hx ⊢
        have BXq_26 := Lib.hid hx; clear hx hn
        have HB26 := Lib.hid (bel_trans hb HB25.out); clear HB25
        have HM26 := Lib.hid (isRow_keepDb HM25.out hb); clear HM25
        have HT26 := Lib.hid (HT25.out.keep hb); clear HT25
        have BXp_26 := Lib.hid (BXp_25.out.keep hb); clear BXp_25
        clear hb
        clear K0 K1 hsy
        refine (drawAreIsomorphic_any _ _ _ _ _ HM26.out HL1.out).mono ?_
        rintro e w27 ⟨f1, f2, g1, g2, rfl, hb⟩
        have HB27 := Lib.hid (bel_trans hb HB26.out); clear HB26
        have HM27 := Lib.hid (isRow_keepDb HM26.out hb); clear HM26
        have HT27 := Lib.hid (HT26.out.keep hb); clear HT26
        have BXp_27 := Lib.hid (BXp_26.out.keep hb); clear BXp_26
        have BXq_27 := Lib.hid (BXq_26.out.keep hb); clear BXq_26
        clear hb
        obtain ⟨cp0, cp5, cp6⟩ := BXp_27.out
        obtain ⟨cq0, cq5, cq6⟩ := BXq_27.out
        go_wp2_with fail
        clear cp0 cp5 cp6
        clear cq0 cq5 cq6
        have hb : Below w27.heap.size w27 ((w27.alloc (.cells #[.int .i64 f1, .int .i64 f2] 25)).alloc (.cells #[.int .i64 g1, .int .i64 g2] 25)) := bel_alloc (below_allocD _ _) _
        have hx := (Bc.new f1 f2 w27 25).keep (below_allocD _ (.cells #[.int .i64 g1, .int .i64 g2] 25))
        have hy : Bc (w27.heap.size + 1) g1 g2 ((w27.alloc (.cells #[.int .i64 f1, .int .i64 f2] 25)).alloc (.cells #[.int .i64 g1, .int .i64 g2] 25)) := by
          have := Bc.new g1 g2 (w27.alloc (.cells #[.int .i64 f1, .int .i64 f2] 25)) 25
          rwa [show (w27.alloc (.cells #[.int .i64 f1, .int .i64 f2] 25)).heap.size = w27.heap.size + 1 by simp] at this
        generalize (w27.alloc (.cells #[.int .i64 f1, .int .i64 f2] 25)).alloc (.cells #[.int .i64 g1, .int .i64 g2] 25) = w28 at hb hx hy ⊢
        generalize hn : w27.heap.size = nf at hx hy ⊢
        have BXf_28 := Lib.hid hx; have BXg_28 := Lib.hid hy; clear hx hy hn
        have HB28 := Lib.hid (bel_trans hb HB27.out); clear HB27
        have HM28 := Lib.hid (isRow_keepDb HM27.out hb); clear HM27
        have HT28 := Lib.hid (HT27.out.keep hb); clear HT27
        have BXp_28 := Lib.hid (BXp_27.out.keep hb); clear BXp_27
        have BXq_28 := Lib.hid (BXq_27.out.keep hb); clear BXq_27
        clear hb
        obtain ⟨i, t, rf⟩ := ikfacts f1 f2 g1 g2
        have K0 := Lib.hid rf.i0; have K1 := Lib.hid rf.i1
        clear rf
        refine (K0.out _).mono ?_
        rintro e w29 ⟨rfl, hb⟩
        have HB29 := Lib.hid (bel_trans hb HB28.out); clear HB28
        have HM29 := Lib.hid (isRow_keepDb HM28.out hb); clear HM28
        have HT29 := Lib.hid (HT28.out.keep hb); clear HT28
        have BXp_29 := Lib.hid (BXp_28.out.keep hb); clear BXp_28
        have BXq_29 := Lib.hid (BXq_28.out.keep hb); clear BXq_28
        have BXf_29 := Lib.hid (BXf_28.out.keep hb); clear BXf_28
        have BXg_29 := Lib.hid (BXg_28.out.keep hb); clear BXg_28
        clear hb
        obtain ⟨cp0, cp5, cp6⟩ := BXp_29.out
        obtain ⟨cq0, cq5, cq6⟩ := BXq_29.out
        obtain ⟨cf0, cf5, cf6⟩ := BXf_29.out
        obtain ⟨cg0, cg5, cg6⟩ := BXg_29.out
        go_wp2_with fail
        clear cp0 cp5 cp6
        clear cq0 cq5 cq6
        clear cf0 cf5 cf6
        clear cg0 cg5 cg6
        refine (K1.out _).mono ?_
        rintro e w30 ⟨rfl, hb⟩
        have HB30 := Lib.hid (bel_trans hb HB29.out); clear HB29
        have HM30 := Lib.hid (isRow_keepDb HM29.out hb); clear HM29
        have HT30 := Lib.hid (HT29.out.keep hb); clear HT29
        have BXp_30 := Lib.hid (BXp_29.out.keep hb); clear BXp_29
        have BXq_30 := Lib.hid (BXq_29.out.keep hb); clear BXq_29
        have BXf_30 := Lib.hid (BXf_29.out.keep hb); clear BXf_29
        have BXg_30 := Lib.hid (BXg_29.out.keep hb); clear BXg_29
        clear hb
        clear K0 K1
        cases ok <;> cases i <;> cases t
        all_goals
          obtain ⟨cp0, cp5, cp6⟩ := BXp_30.out
          obtain ⟨cq0, cq5, cq6⟩ := BXq_30.out
          obtain ⟨cf0, cf5, cf6⟩ := BXf_30.out
          obtain ⟨cg0, cg5, cg6⟩ := BXg_30.out
          go_wp2_with fail
          go_ret
          exact ret_eq (by rfl) HB30.out
end Go.Proofs.YtpjcfnjagknocaaGreatDoor.fnCurves
