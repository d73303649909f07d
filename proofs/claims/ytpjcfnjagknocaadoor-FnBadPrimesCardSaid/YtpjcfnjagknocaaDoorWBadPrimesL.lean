/- The walk of FnBadPrimes: where the library's variables lie as the text lays them. -/
import Derived.Test.YtpjcfnjagknocaaDoorBl
import Derived.Deep.Cut
import Derived.Deep.DeepCutAuto
namespace Go.Proofs.YtpjcfnjagknocaaDoor.fnBadPrimes
open Go.RowKit
set_option maxHeartbeats 8000000 in
set_option maxRecDepth 100000 in
theorem walk (ad0 : Option Addr) (len0 cap0 : Nat) (z0 : List Int) (ad1 : Option Addr) (len1 cap1 : Nat) (z1 : List Int) (w : World) (h0 : IsRow .u8 w ad0 len0 cap0 z0) (h1 : IsRow .u8 w ad1 len1 cap1 z1) (hz0 : len0 ≤ 140737488355328) (hz1 : len1 ≤ 140737488355328) (ht : PowT w) :
    Calls Tryd.prog 3 #[.slice ad0 len0 cap0, .slice ad1 len1 cap1] w (Ret (.bool true) w) := by
  have hw1 : IntKind.i64.wrap ((len0 : Int) + (len1 : Int)) = (len0 : Int) + (len1 : Int) := len_wrap hz0 hz1
  have hw2 : wrap64 ((len0 : Int) + (len1 : Int)) = (len0 : Int) + (len1 : Int) := len_wrap' hz0 hz1
  have HRow := Lib.hid h0; have HMore := Lib.hid h1; have HT0 := Lib.hid ht; clear h0 h1 hz0 hz1 ht
  by_cases hbig : (1048576 : Int) < (len0 : Int) + (len1 : Int)
  · go_enter Tryd.func3, Tryd.ntmps3
    go_wp2_with fail
    go_ret
    exact ret_eq (by rfl) (by repeat (first | exact Below.refl _ _ | (with_reducible assumption) | refine bel_alloc ?_ _ | refine bel_drew ?_ | refine bel_drewN ?_ _ | refine Below.setCell ?_ (by dsimp only; omega) _ | refine bel_trans (by assumption) ?_))
  have hl0 : len0 ≤ 1048576 := by omega
  have hl1 : len1 ≤ 1048576 := by omega
  have hbig' : ¬ (1048576 : Int) < (len0 : Int) + (len1 : Int) := hbig
  go_enter Tryd.func3, Tryd.ntmps3
  go_wp2_with fail
  refine (drawBadFromFive_any _ _ _ _ _ HRow.out hl0).mono ?_
  rintro e w2 ⟨a, b, rfl, aI, bI, hb⟩
  have HMR_2 := Lib.hid (isRow_keepD HMore.out hb)
  have HT2 := Lib.hid (HT0.out.keep hb)
  have HB2 := Lib.hid hb
  clear hb HRow HMore hbig hbig' hl0 hw1 hw2 aI bI HT0
  go_wp2_with fail
  have hb : Below w2.heap.size w2 (w2.alloc (.cells #[.int .i64 a, .int .i64 b] 24)) := below_allocD _ _
  have hx := BxR.new a b w2 24
  generalize w2.alloc (.cells #[.int .i64 a, .int .i64 b] 24) = w3 at hb hx ⊢
  generalize hn : w2.heap.size = nc at hx ⊢
  have BXc_3 := Lib.hid hx; clear hx hn
  have HMR_3 := Lib.hid (isRow_keepD HMR_2.out hb); clear HMR_2
  have HB3 := Lib.hid (bel_trans hb HB2.out); clear HB2
  have HT3 := Lib.hid (HT2.out.keep hb); clear HT2
  clear hb
  obtain ⟨ok, XS, N, sm, T, rf⟩ := bfacts a b
  have K0 := Lib.hid rf.k0
  have K1 := Lib.hid rf.k1
  have K2 := Lib.hid rf.k2
  have K3 := Lib.hid rf.k3
  have K4 := Lib.hid rf.k4
  have K5 := Lib.hid rf.k5
  have K6 := Lib.hid rf.k6
  have K7 := Lib.hid rf.k7
  have HLEN := Lib.hid rf.len
  have HY := Lib.hid rf.yes
  clear rf
  as_aux_lemma =>
  refine (K0.out _).mono ?_
  rintro e w4 ⟨v0, rfl, hb, ho⟩
  have HMR_4 := Lib.hid (isRow_keepD HMR_3.out hb); clear HMR_3
  have HB4 := Lib.hid (bel_trans hb HB3.out); clear HB3
  have BXc_4 := Lib.hid (BXc_3.out.keep hb); clear BXc_3
  have HT4 := Lib.hid (HT3.out.keep hb); clear HT3
  clear hb
  have Rv0_4 := Lib.hid ho.rd; clear ho
  obtain ⟨cc0, cc5, cc6⟩ := BXc_4.out
  go_wp2_with fail
  clear cc0 cc5 cc6
  refine (K1.out _).mono ?_
  rintro e w5 ⟨v1, rfl, hb, ho⟩
  have HMR_5 := Lib.hid (isRow_keepD HMR_4.out hb); clear HMR_4
  have HB5 := Lib.hid (bel_trans hb HB4.out); clear HB4
  have BXc_5 := Lib.hid (BXc_4.out.keep hb); clear BXc_4
  have Rv0_5 := Lib.hid (Rv0_4.out.keep hb); clear Rv0_4
  have HT5 := Lib.hid (HT4.out.keep hb); clear HT4
  clear hb
  have Rv1_5 := Lib.hid ho.rd; clear ho
  obtain ⟨cc0, cc5, cc6⟩ := BXc_5.out
  go_wp2_with fail
  clear cc0 cc5 cc6
  refine (K2.out _).mono ?_
  rintro e w6 ⟨rfl, hb⟩
  have HMR_6 := Lib.hid (isRow_keepD HMR_5.out hb); clear HMR_5
  have HB6 := Lib.hid (bel_trans hb HB5.out); clear HB5
  have BXc_6 := Lib.hid (BXc_5.out.keep hb); clear BXc_5
  have Rv0_6 := Lib.hid (Rv0_5.out.keep hb); clear Rv0_5
  have Rv1_6 := Lib.hid (Rv1_5.out.keep hb); clear Rv1_5
  have HT6 := Lib.hid (HT5.out.keep hb); clear HT5
  clear hb
  obtain ⟨cc0, cc5, cc6⟩ := BXc_6.out
  go_wp2_with fail
  clear cc0 cc5 cc6
  refine (K3.out _).mono ?_
  rintro e w7 ⟨rfl, hb⟩
  have HMR_7 := Lib.hid (isRow_keepD HMR_6.out hb); clear HMR_6
  have HB7 := Lib.hid (bel_trans hb HB6.out); clear HB6
  have BXc_7 := Lib.hid (BXc_6.out.keep hb); clear BXc_6
  have Rv0_7 := Lib.hid (Rv0_6.out.keep hb); clear Rv0_6
  have Rv1_7 := Lib.hid (Rv1_6.out.keep hb); clear Rv1_6
  have HT7 := Lib.hid (HT6.out.keep hb); clear HT6
  clear hb
  obtain ⟨cc0, cc5, cc6⟩ := BXc_7.out
  go_wp2_with fail
  clear cc0 cc5 cc6
  refine (K4.out _).mono ?_
  rintro e w8 ⟨rfl, hb⟩
  have HMR_8 := Lib.hid (isRow_keepD HMR_7.out hb); clear HMR_7
  have HB8 := Lib.hid (bel_trans hb HB7.out); clear HB7
  have BXc_8 := Lib.hid (BXc_7.out.keep hb); clear BXc_7
  have Rv0_8 := Lib.hid (Rv0_7.out.keep hb); clear Rv0_7
  have Rv1_8 := Lib.hid (Rv1_7.out.keep hb); clear Rv1_7
  have HT8 := Lib.hid (HT7.out.keep hb); clear HT7
  clear hb
  obtain ⟨cc0, cc5, cc6⟩ := BXc_8.out
  go_wp2_with fail
  clear cc0 cc5 cc6
  refine (K5.out _).mono ?_
  rintro e w9 ⟨rfl, hb⟩
  have HMR_9 := Lib.hid (isRow_keepD HMR_8.out hb); clear HMR_8
  have HB9 := Lib.hid (bel_trans hb HB8.out); clear HB8
  have BXc_9 := Lib.hid (BXc_8.out.keep hb); clear BXc_8
  have Rv0_9 := Lib.hid (Rv0_8.out.keep hb); clear Rv0_8
  have Rv1_9 := Lib.hid (Rv1_8.out.keep hb); clear Rv1_8
  have HT9 := Lib.hid (HT8.out.keep hb); clear HT8
  clear hb
  obtain ⟨cc0, cc5, cc6⟩ := BXc_9.out
  go_wp2_with fail
  clear cc0 cc5 cc6
  refine (K6.out _ HT9.out).mono ?_
  rintro e w10 ⟨rfl, hb⟩
  have HMR_10 := Lib.hid (isRow_keepD HMR_9.out hb); clear HMR_9
  have HB10 := Lib.hid (bel_trans hb HB9.out); clear HB9
  have BXc_10 := Lib.hid (BXc_9.out.keep hb); clear BXc_9
  have Rv0_10 := Lib.hid (Rv0_9.out.keep hb); clear Rv0_9
  have Rv1_10 := Lib.hid (Rv1_9.out.keep hb); clear Rv1_9
  have HT10 := Lib.hid (HT9.out.keep hb); clear HT9
  clear hb
  obtain ⟨cc0, cc5, cc6⟩ := BXc_10.out
  go_wp2_with fail
  clear cc0 cc5 cc6
  refine (K7.out _).mono ?_
  rintro e w11 ⟨rfl, hb⟩
  have HMR_11 := Lib.hid (isRow_keepD HMR_10.out hb); clear HMR_10
  have HB11 := Lib.hid (bel_trans hb HB10.out); clear HB10
  have BXc_11 := Lib.hid (BXc_10.out.keep hb); clear BXc_10
  have Rv0_11 := Lib.hid (Rv0_10.out.keep hb); clear Rv0_10
  have Rv1_11 := Lib.hid (Rv1_10.out.keep hb); clear Rv1_10
  have HT11 := Lib.hid (HT10.out.keep hb); clear HT10
  clear hb
  obtain ⟨cc0, cc5, cc6⟩ := BXc_11.out
  go_wp2_with fail
  clear cc0 cc5 cc6
  as_aux_lemma =>
  refine (drawPrimesOfKind_any _ _ _ _ _ HMR_11.out hl1).mono ?_
  rintro e w12 ⟨a2, b2, s, rfl, aI, bI, hb⟩
  clear aI bI HMR_11
  have HB12 := Lib.hid (bel_trans hb HB11.out); clear HB11
  have BXc_12 := Lib.hid (BXc_11.out.keep hb); clear BXc_11
  have Rv0_12 := Lib.hid (Rv0_11.out.keep hb); clear Rv0_11
  have Rv1_12 := Lib.hid (Rv1_11.out.keep hb); clear Rv1_11
  have HT12 := Lib.hid (HT11.out.keep hb); clear HT11
  clear hb
  obtain ⟨cc0, cc5, cc6⟩ := BXc_12.out
  go_wp2_with fail
  clear cc0 cc5 cc6
  have hb : Below w12.heap.size w12 (w12.alloc (.cells #[.int .i64 a2, .int .i64 b2] 24)) := below_allocD _ _
  have hx := BxR.new a2 b2 w12 24
  generalize w12.alloc (.cells #[.int .i64 a2, .int .i64 b2] 24) = w13 at hb hx ⊢
  generalize hn : w12.heap.size = nd at hx ⊢
  have BXd_13 := Lib.hid hx; clear hx hn
  have HB13 := Lib.hid (bel_trans hb HB12.out); clear HB12
  have BXc_13 := Lib.hid (BXc_12.out.keep hb); clear BXc_12
  have Rv0_13 := Lib.hid (Rv0_12.out.keep hb); clear Rv0_12
  have Rv1_13 := Lib.hid (Rv1_12.out.keep hb); clear Rv1_12
  have HT13 := Lib.hid (HT12.out.keep hb); clear HT12
  clear hb
  obtain ⟨ok7, YS, rg⟩ := pfacts a2 b2 s
  have J0 := Lib.hid rg.k0
  have J1 := Lib.hid rg.k1
  have HLY := Lib.hid rg.len
  have JY := Lib.hid rg.yes
  clear rg
  refine (J0.out _).mono ?_
  rintro e w14 ⟨u0, rfl, hb, ho⟩
  have HB14 := Lib.hid (bel_trans hb HB13.out); clear HB13
  have BXc_14 := Lib.hid (BXc_13.out.keep hb); clear BXc_13
  have BXd_14 := Lib.hid (BXd_13.out.keep hb); clear BXd_13
  have Rv0_14 := Lib.hid (Rv0_13.out.keep hb); clear Rv0_13
  have Rv1_14 := Lib.hid (Rv1_13.out.keep hb); clear Rv1_13
  have HT14 := Lib.hid (HT13.out.keep hb); clear HT13
  clear hb
  have Ru0_14 := Lib.hid ho.rd; clear ho
  obtain ⟨cc0, cc5, cc6⟩ := BXc_14.out
  obtain ⟨cd0, cd5, cd6⟩ := BXd_14.out
  go_wp2_with fail
  clear cc0 cc5 cc6
  clear cd0 cd5 cd6
  refine (J1.out _).mono ?_
  rintro e w15 ⟨u1, rfl, hb, ho⟩
  have HB15 := Lib.hid (bel_trans hb HB14.out); clear HB14
  have BXc_15 := Lib.hid (BXc_14.out.keep hb); clear BXc_14
  have BXd_15 := Lib.hid (BXd_14.out.keep hb); clear BXd_14
  have Rv0_15 := Lib.hid (Rv0_14.out.keep hb); clear Rv0_14
  have Rv1_15 := Lib.hid (Rv1_14.out.keep hb); clear Rv1_14
  have Ru0_15 := Lib.hid (Ru0_14.out.keep hb); clear Ru0_14
  have HT15 := Lib.hid (HT14.out.keep hb); clear HT14
  clear hb
  have Ru1_15 := Lib.hid ho.rd; clear ho
  clear K0 K1 K2 K3 K4 K5 K6 K7 J0 J1
  as_aux_lemma =>
  have hsm : (sm != sm) = false := by cases sm <;> rfl
  have hok : (ok != ok) = false := by cases ok <;> rfl
  have hok7 : (ok7 != ok7) = false := by cases ok7 <;> rfl
  obtain ⟨cc0, cc5, cc6⟩ := BXc_15.out
  obtain ⟨cd0, cd5, cd6⟩ := BXd_15.out
  go_wp2_with fail
  clear cc0 cc5 cc6
  clear cd0 cd5 cd6
  refine (qsame Rv0_15.out Rv1_15.out).mono ?_
  rintro e w16 ⟨rfl, hb⟩
  have HB16 := Lib.hid (bel_trans hb HB15.out); clear HB15
  have BXc_16 := Lib.hid (BXc_15.out.keep hb); clear BXc_15
  have BXd_16 := Lib.hid (BXd_15.out.keep hb); clear BXd_15
  have Rv0_16 := Lib.hid (Rv0_15.out.keep hb); clear Rv0_15
  have Rv1_16 := Lib.hid (Rv1_15.out.keep hb); clear Rv1_15
  have Ru0_16 := Lib.hid (Ru0_15.out.keep hb); clear Ru0_15
  have Ru1_16 := Lib.hid (Ru1_15.out.keep hb); clear Ru1_15
  have HT16 := Lib.hid (HT15.out.keep hb); clear HT15
  clear hb
  obtain ⟨cc0, cc5, cc6⟩ := BXc_16.out
  obtain ⟨cd0, cd5, cd6⟩ := BXd_16.out
  go_wp2_with fail
  clear cc0 cc5 cc6
  clear cd0 cd5 cd6
  refine (qsame Ru0_16.out Ru1_16.out).mono ?_
  rintro e w17 ⟨rfl, hb⟩
  have HB17 := Lib.hid (bel_trans hb HB16.out); clear HB16
  have BXc_17 := Lib.hid (BXc_16.out.keep hb); clear BXc_16
  have BXd_17 := Lib.hid (BXd_16.out.keep hb); clear BXd_16
  have Rv0_17 := Lib.hid (Rv0_16.out.keep hb); clear Rv0_16
  have Rv1_17 := Lib.hid (Rv1_16.out.keep hb); clear Rv1_16
  have Ru0_17 := Lib.hid (Ru0_16.out.keep hb); clear Ru0_16
  have Ru1_17 := Lib.hid (Ru1_16.out.keep hb); clear Ru1_16
  have HT17 := Lib.hid (HT16.out.keep hb); clear HT16
  clear hb
  clear hsm hok hok7
  as_aux_lemma =>
  obtain ⟨cc0, cc5, cc6⟩ := BXc_17.out
  obtain ⟨cd0, cd5, cd6⟩ := BXd_17.out
  go_upto_if 174 with fail
  clear cc0 cc5 cc6
  clear cd0 cd5 cd6
  go_cut [] (fun wx => Below w17.heap.size w17 wx)
  case first =>
    as_aux_lemma =>
    clear HY
    cases ok7
    · clear JY
      go_wp2_with fail
      go_meet
      exact Below.refl _ _
    · skip
      obtain ⟨adu, capu, hu1e, hu1l, hu1c⟩ := Ru1_17.out
      subst hu1e
      clear hu1l hu1c
      obtain ⟨cc0, cc5, cc6⟩ := BXc_17.out
      obtain ⟨cd0, cd5, cd6⟩ := BXd_17.out
      go_wp2_with fail
      clear cc0 cc5 cc6
      clear cd0 cd5 cd6
      go_loopw [177] (fun y wr => ∃ i : Nat, y = .int .i64 i ∧ i ≤ YS.length ∧ Below w17.heap.size w17 wr) (fun y _ => YS.length - (intOf y).toNat)
      case atStart => exact ⟨0, rfl, Nat.zero_le _, Below.refl _ _⟩
      case round =>
        as_aux_lemma =>
        obtain ⟨i, rfl, hi, hbel⟩ := hrel
        by_cases hx : i < YS.length
        · skip
          obtain ⟨ad9, cap9, hu9, hl9, hc9⟩ := (Ru1_17.out.keep hbel)
          clear hl9
          cases hu9
          obtain ⟨bq, oq, rfl, _, hcell⟩ := hc9 (Nat.lt_of_le_of_lt (Nat.zero_le _) hx)
          have hck := hcell i hx
          have JP := Lib.hid (JY.out (YS.getD i 0) (getD_mem hx))
          clear hcell hc9
          obtain ⟨q, hq⟩ : ∃ q, YS.getD i 0 = q := ⟨_, rfl⟩
          rw [hq] at hck JP
          clear hq
          obtain ⟨cd0, cd5, cd6⟩ := (BXd_17.out.keep hbel)
          have hi0 : (0 : Int) ≤ (i : Int) := Int.natCast_nonneg _
          have hi1 : (i : Int) < (YS.length : Int) := Int.ofNat_lt.2 hx
          go_wp2_with fail
          refine (JP.out _).mono ?_
          rintro e wq ⟨rfl, hbq⟩
          replace hbq := bel_trans hbq hbel
          clear hbel cd0 cd5 cd6 hck JP
          go_wp2_with fail
          have hw : wrap64 ((i : Int) + 1) = ((i + 1 : Nat) : Int) := wrapN (ile hx HLY.out)
          (try rw [hw])
          go_roundw
          case rel => exact ⟨i + 1, by first | rfl | go_num, hx, hbq⟩
          case measure => simp [intOf]; omega
        · skip
          go_wp2_with fail
          go_meet
          exact hbel
  case rest =>
    as_aux_lemma =>
    clear JY
    have hb := hcut; clear hcut
    try rename_i wx
    clear Ru0_17 Ru1_17 BXd_17
    generalize wx = w18 at hb ⊢
    have HB18 := Lib.hid (bel_trans hb HB17.out); clear HB17
    have BXc_18 := Lib.hid (BXc_17.out.keep hb); clear BXc_17
    have Rv0_18 := Lib.hid (Rv0_17.out.keep hb); clear Rv0_17
    have Rv1_18 := Lib.hid (Rv1_17.out.keep hb); clear Rv1_17
    have HT18 := Lib.hid (HT17.out.keep hb); clear HT17
    clear hb
    cases ok
    · clear HY
      obtain ⟨cc0, cc5, cc6⟩ := BXc_18.out
      go_wp2_with fail
      clear cc0 cc5 cc6
      go_ret
      exact ret_eq (by rfl) HB18.out
    · skip
      as_aux_lemma =>
      obtain ⟨BS, E, R⟩ := HY.out (by first | trivial | rfl)
      clear HY
      have B0 := Lib.hid R.b0; have B1 := Lib.hid R.b1
      have RS := Lib.hid R.sub; have RI := Lib.hid R.inc; have RB := Lib.hid R.bd; have E0 := Lib.hid R.e0; have E1 := Lib.hid R.e1
      have HN := Lib.hid R.hN; have n0 := R.n0; have n1 := R.n1; have hsem := Lib.hid R.sem
      clear R
      obtain ⟨cc0, cc5, cc6⟩ := BXc_18.out
      go_wp2_with fail
      clear cc0 cc5 cc6
      refine (B0.out _).mono ?_
      rintro e w19 ⟨y0, rfl, hb, ho⟩
      have HB19 := Lib.hid (bel_trans hb HB18.out); clear HB18
      have BXc_19 := Lib.hid (BXc_18.out.keep hb); clear BXc_18
      have Rv0_19 := Lib.hid (Rv0_18.out.keep hb); clear Rv0_18
      have Rv1_19 := Lib.hid (Rv1_18.out.keep hb); clear Rv1_18
      have HT19 := Lib.hid (HT18.out.keep hb); clear HT18
      clear hb
      have Ry0_19 := Lib.hid ho.rd; clear ho
      obtain ⟨cc0, cc5, cc6⟩ := BXc_19.out
      go_wp2_with fail
      clear cc0 cc5 cc6
      refine (B1.out _).mono ?_
      rintro e w20 ⟨y1, rfl, hb, ho⟩
      have HB20 := Lib.hid (bel_trans hb HB19.out); clear HB19
      have BXc_20 := Lib.hid (BXc_19.out.keep hb); clear BXc_19
      have Rv0_20 := Lib.hid (Rv0_19.out.keep hb); clear Rv0_19
      have Rv1_20 := Lib.hid (Rv1_19.out.keep hb); clear Rv1_19
      have Ry0_20 := Lib.hid (Ry0_19.out.keep hb); clear Ry0_19
      have HT20 := Lib.hid (HT19.out.keep hb); clear HT19
      clear hb
      have Ry1_20 := Lib.hid ho.rd; clear ho
      obtain ⟨cc0, cc5, cc6⟩ := BXc_20.out
      go_wp2_with fail
      clear cc0 cc5 cc6
      refine (qsame Ry0_20.out Ry1_20.out).mono ?_
      rintro e w21 ⟨rfl, hb⟩
      have HB21 := Lib.hid (bel_trans hb HB20.out); clear HB20
      have BXc_21 := Lib.hid (BXc_20.out.keep hb); clear BXc_20
      have Rv0_21 := Lib.hid (Rv0_20.out.keep hb); clear Rv0_20
      have Rv1_21 := Lib.hid (Rv1_20.out.keep hb); clear Rv1_20
      have Ry0_21 := Lib.hid (Ry0_20.out.keep hb); clear Ry0_20
      have Ry1_21 := Lib.hid (Ry1_20.out.keep hb); clear Ry1_20
      have HT21 := Lib.hid (HT20.out.keep hb); clear HT20
      clear hb
      clear Rv0_21 Ry0_21 B0 B1 HT21
      obtain ⟨adv, capv, hve, hvl, hvc⟩ := Rv1_21.out
      subst hve
      clear hvl hvc
      as_aux_lemma =>
      obtain ⟨cc0, cc5, cc6⟩ := BXc_21.out
      go_wp2_with fail
      clear cc0 cc5 cc6
      go_loopw [36, 37, 222] (fun r q y wr => ∃ (i : Nat) (rest : Int) (sq : Bool), r = .int .i64 rest ∧ q = .bool sq ∧ y = .int .i64 i ∧ i ≤ XS.length ∧ Hid (rest = prE E (XS.drop i)) ∧ Hid (sq = (XS.take i).any fun p => E p == 2) ∧ 1 ≤ rest ∧ rest ≤ 6700000000 ∧ Below w21.heap.size w21 wr) (fun _ _ y _ => XS.length - (intOf y).toNat)
      case atStart => exact ⟨0, N, false, rfl, rfl, rfl, Nat.zero_le _, by unfold Hid; rw [HN.out]; rfl, rfl, n0, n1, Below.refl _ _⟩
      case round =>
        as_aux_lemma =>
        clear n0 n1 HN
        obtain ⟨i, rest, sq, rfl, rfl, rfl, hi, HR, HS, r0, r1, hbel⟩ := hrel
        by_cases hx : i < XS.length
        · skip
          have hRv := Rv1_21.out.keep hbel
          have hRy := Ry1_21.out.keep hbel
          obtain ⟨ad9, cap9, hv9, hl9, hc9⟩ := hRv
          clear hl9
          cases hv9
          obtain ⟨bq, oq, rfl, hqlt, hcell⟩ := hc9 (by omega)
          have hck := hcell i hx
          have hpre : ∀ j, i = j + 1 → ∃ q, wr.cell? ⟨bq, oq + j, none⟩ = some (.int .i64 q) ∧ q < XS.getD i 0 := fun j hj => ⟨_, hcell j (by omega), inc_lt RI.out (by omega) hx⟩
          have hmem := getD_mem (xs := XS) hx
          have EP0 := Lib.hid (E0.out _ hmem); have EP1 := Lib.hid (E1.out _ hmem); have HSub := Lib.hid (RS.out _ hmem)
          obtain ⟨p5, p9, hE⟩ := RB.out _ hmem
          have hst := prE_step E hx
          have hsq := any_step E hx
          clear hcell hc9 hmem
          obtain ⟨p, hp⟩ : ∃ p, XS.getD i 0 = p := ⟨_, rfl⟩
          rw [hp] at hck EP0 EP1 HSub p5 p9 hE hst hsq hpre
          clear hp
          rw [← HR.out] at hst; rw [← HS.out] at hsq
          clear HR HS
          have hpos := prE_pos (E := E) (l := XS.drop (i + 1)) (fun x hx => by have := (RB.out x (List.mem_of_mem_drop hx)).1; omega)
          generalize hRn : prE E (XS.drop (i + 1)) = R at hst hpos
          generalize hSn : (XS.take (i + 1)).any (fun p => E p == 2) = S2 at hsq
          have HRn := Lib.hid hRn; have HSn := Lib.hid hSn; clear hRn hSn
          have HRy := Lib.hid hRy; clear hRy
          obtain ⟨cc0, cc5, cc6⟩ := (BXc_21.out.keep hbel)
          have HST := Lib.hid hst; have HSQ := Lib.hid hsq; have HPR := Lib.hid hpre; clear hst hsq hpre
          have hwn : wrap64 ((i : Int) + 1) = ((i + 1 : Nat) : Int) := wrapN (ile hx HLEN.out)
          have HWN := Lib.hid hwn; clear hwn
          have hp5 : ¬ p < 5 := by omega
          have hp0 : ¬ p = 0 := by omega
          have hp0b : (p == 0) = false := by simp; omega
          have hi1 : (i : Int) < (XS.length : Int) := by omega
          have hi0 : (0 : Int) ≤ (i : Int) := Int.natCast_nonneg _
          rcases hE with hE | hE
          · skip
            as_aux_lemma =>
            have HST2 := Lib.hid (st_one HST.out hE); have HSQ2 := Lib.hid (sq_one HSQ.out hE)
            have EQ0 := EP0.out; have EQ1 := EP1.out
            rw [hE] at EQ0 EQ1
            clear EP0 EP1 hE HST HSQ
            have EP0 := Lib.hid EQ0; have EP1 := Lib.hid EQ1; clear EQ0 EQ1
            rcases i with _ | j
            · skip
              have hck0 : wr.cell? ⟨bq, oq, none⟩ = some (.int .i64 p) := hck
              clear hck
              obtain ⟨m1, m2, m3, m4, m5⟩ := rest_one (by omega) hpos HST2.out
              have HMM := Lib.hid (And.intro m1 (And.intro m2 (And.intro m3 (And.intro m4 m5))))
              clear m1 m2 m3 m4 m5
              go_wp2_with fail
              as_aux_lemma =>
              refine (EP0.out _).mono ?_
              rintro e wa ⟨rfl, hba⟩
              have HRa := Lib.hid (HRy.out.keep hba); clear HRy
              go_wp2_with fail
              refine (qHas_any _ _ _ _ HRa.out HSub.out).mono ?_
              rintro e wb ⟨rfl, hbb⟩
              have hb := bel_trans (bel_trans hbb hba) hbel
              clear hbb hba cc0 cc5 cc6 hbel hck0
              obtain ⟨cc0, cc5, cc6⟩ := BXc_21.out.keep hb
              go_wp2_with fail
              as_aux_lemma =>
              refine (EP1.out _).mono ?_
              rintro e wc ⟨rfl, hbc⟩
              replace hb := bel_trans hbc hb; clear hbc cc0 cc5 cc6
              obtain ⟨m1, m2, m3, m4, m5⟩ := HMM.out
              have hrw : IntKind.i64.wrap R = R := i64_wrap (by omega) (by omega)
              have hle : R ≤ 6700000000 := by omega
              cases sq
              · skip
                as_aux_lemma =>
                go_wp2_with fail
                refine wp_loop_rounds 3 ?_; rw [rounds_succ]
                go_wp2_with fail
                try rw [rounds_succ]
                try go_wp2_with fail
                try rw [rounds_succ]
                try go_wp2_with fail
                have hw := HWN.out
                (try rw [hw])
                go_roundw
                case rel => exact ⟨0 + 1, R, false, rfl, rfl, by first | rfl | go_num, by omega, HRn.out.symm, (HSn.out.trans HSQ2.out).symm, hpos, hle, hb⟩
                case measure => simp [intOf]; omega
              · skip
                as_aux_lemma =>
                go_wp2_with fail
                refine wp_loop_rounds 3 ?_; rw [rounds_succ]
                go_wp2_with fail
                try rw [rounds_succ]
                try go_wp2_with fail
                try rw [rounds_succ]
                try go_wp2_with fail
                have hw := HWN.out
                (try rw [hw])
                go_roundw
                case rel => exact ⟨0 + 1, R, true, rfl, rfl, by first | rfl | go_num, by omega, HRn.out.symm, (HSn.out.trans HSQ2.out).symm, hpos, hle, hb⟩
                case measure => simp [intOf]; omega
            · skip
              obtain ⟨q, hqc, hql⟩ := HPR.out j rfl
              have hqn : ¬ p ≤ q := by omega
              obtain ⟨m1, m2, m3, m4, m5⟩ := rest_one (by omega) hpos HST2.out
              have HMM := Lib.hid (And.intro m1 (And.intro m2 (And.intro m3 (And.intro m4 m5))))
              clear m1 m2 m3 m4 m5
              go_wp2_with fail
              as_aux_lemma =>
              refine (EP0.out _).mono ?_
              rintro e wa ⟨rfl, hba⟩
              have HRa := Lib.hid (HRy.out.keep hba); clear HRy
              have hqa := (hba.cell (p := ⟨bq, oq + j, none⟩) hqlt).trans hqc
              go_wp2_with fail
              refine (qHas_any _ _ _ _ HRa.out HSub.out).mono ?_
              rintro e wb ⟨rfl, hbb⟩
              have hqb := (hbb.cell (p := ⟨bq, oq + j, none⟩) (Nat.lt_of_lt_of_le hqlt hba.size)).trans hqa
              have hwj : wrap64 (j : Int) = (j : Int) := (wrapJ (j := j) (jle hx HLEN.out)).1
              have hb := bel_trans (bel_trans hbb hba) hbel
              clear hbb hba cc0 cc5 cc6 hbel hqa hqc
              obtain ⟨cc0, cc5, cc6⟩ := BXc_21.out.keep hb
              go_wp2_with fail
              as_aux_lemma =>
              refine (EP1.out _).mono ?_
              rintro e wc ⟨rfl, hbc⟩
              replace hb := bel_trans hbc hb; clear hbc cc0 cc5 cc6
              obtain ⟨m1, m2, m3, m4, m5⟩ := HMM.out
              have hrw : IntKind.i64.wrap R = R := i64_wrap (by omega) (by omega)
              have hle : R ≤ 6700000000 := by omega
              cases sq
              · skip
                as_aux_lemma =>
                go_wp2_with fail
                refine wp_loop_rounds 3 ?_; rw [rounds_succ]
                go_wp2_with fail
                try rw [rounds_succ]
                try go_wp2_with fail
                try rw [rounds_succ]
                try go_wp2_with fail
                rw [wrapJ2 (j := j) (jle hx HLEN.out)]
                refine ⟨⟨j + 1 + 1, R, false, rfl, rfl, rfl, hx, HRn.out.symm, (HSn.out.trans HSQ2.out).symm, hpos, hle, hb⟩, ?_⟩
                simp only [intOf, Int.toNat_natCast]
                exact Nat.sub_lt_sub_left hx (Nat.lt_succ_self _)
              · skip
                as_aux_lemma =>
                go_wp2_with fail
                refine wp_loop_rounds 3 ?_; rw [rounds_succ]
                go_wp2_with fail
                try rw [rounds_succ]
                try go_wp2_with fail
                try rw [rounds_succ]
                try go_wp2_with fail
                rw [wrapJ2 (j := j) (jle hx HLEN.out)]
                refine ⟨⟨j + 1 + 1, R, true, rfl, rfl, rfl, hx, HRn.out.symm, (HSn.out.trans HSQ2.out).symm, hpos, hle, hb⟩, ?_⟩
                simp only [intOf, Int.toNat_natCast]
                exact Nat.sub_lt_sub_left hx (Nat.lt_succ_self _)
          · skip
            as_aux_lemma =>
            have HST2 := Lib.hid (st_two HST.out hE); have HSQ2 := Lib.hid (sq_two HSQ.out hE)
            have EQ0 := EP0.out; have EQ1 := EP1.out
            rw [hE] at EQ0 EQ1
            clear EP0 EP1 hE HST HSQ
            have EP0 := Lib.hid EQ0; have EP1 := Lib.hid EQ1; clear EQ0 EQ1
            rcases i with _ | j
            · skip
              have hck0 : wr.cell? ⟨bq, oq, none⟩ = some (.int .i64 p) := hck
              clear hck
              obtain ⟨m1, m2, m3, m4, m5⟩ := rest_one (R := p * R) (by omega) (by have := Int.mul_le_mul (show 1 ≤ p by omega) hpos (by omega) (by omega); omega) HST2.out
              obtain ⟨m6, m7, m8, m9, m10⟩ := rest_one (p := p) (by omega) hpos rfl
              generalize p * R = rest2 at m3 m4 m5 m6 m7 m8 m9 m10
              have HMM := Lib.hid (And.intro m1 (And.intro m2 (And.intro m3 (And.intro m4 m5))))
              clear m1 m2 m3 m4 m5
              have HM2 := Lib.hid (And.intro m6 (And.intro m7 (And.intro m8 (And.intro m9 m10))))
              clear m6 m7 m8 m9 m10
              go_wp2_with fail
              as_aux_lemma =>
              refine (EP0.out _).mono ?_
              rintro e wa ⟨rfl, hba⟩
              have HRa := Lib.hid (HRy.out.keep hba); clear HRy
              go_wp2_with fail
              refine (qHas_any _ _ _ _ HRa.out HSub.out).mono ?_
              rintro e wb ⟨rfl, hbb⟩
              have hb := bel_trans (bel_trans hbb hba) hbel
              clear hbb hba cc0 cc5 cc6 hbel hck0
              obtain ⟨cc0, cc5, cc6⟩ := BXc_21.out.keep hb
              go_wp2_with fail
              as_aux_lemma =>
              refine (EP1.out _).mono ?_
              rintro e wc ⟨rfl, hbc⟩
              replace hb := bel_trans hbc hb; clear hbc cc0 cc5 cc6
              obtain ⟨m1, m2, m3, m4, m5⟩ := HMM.out
              obtain ⟨m6, m7, m8, m9, m10⟩ := HM2.out
              have hrw : IntKind.i64.wrap rest2 = rest2 := i64_wrap (by omega) (by omega)
              have hrw2 : IntKind.i64.wrap R = R := i64_wrap (by omega) (by omega)
              have hle : R ≤ 6700000000 := by omega
              cases sq
              · skip
                as_aux_lemma =>
                go_wp2_with fail
                refine wp_loop_rounds 3 ?_; rw [rounds_succ]
                go_wp2_with fail
                try rw [rounds_succ]
                try go_wp2_with fail
                try rw [rounds_succ]
                try go_wp2_with fail
                have hw := HWN.out
                (try rw [hw])
                go_roundw
                case rel => exact ⟨0 + 1, R, true, rfl, rfl, by first | rfl | go_num, by omega, HRn.out.symm, (HSn.out.trans HSQ2.out).symm, hpos, hle, hb⟩
                case measure => simp [intOf]; omega
              · skip
                as_aux_lemma =>
                go_wp2_with fail
                refine wp_loop_rounds 3 ?_; rw [rounds_succ]
                go_wp2_with fail
                try rw [rounds_succ]
                try go_wp2_with fail
                try rw [rounds_succ]
                try go_wp2_with fail
                have hw := HWN.out
                (try rw [hw])
                go_roundw
                case rel => exact ⟨0 + 1, R, true, rfl, rfl, by first | rfl | go_num, by omega, HRn.out.symm, (HSn.out.trans HSQ2.out).symm, hpos, hle, hb⟩
                case measure => simp [intOf]; omega
            · skip
              obtain ⟨q, hqc, hql⟩ := HPR.out j rfl
              have hqn : ¬ p ≤ q := by omega
              obtain ⟨m1, m2, m3, m4, m5⟩ := rest_one (R := p * R) (by omega) (by have := Int.mul_le_mul (show 1 ≤ p by omega) hpos (by omega) (by omega); omega) HST2.out
              obtain ⟨m6, m7, m8, m9, m10⟩ := rest_one (p := p) (by omega) hpos rfl
              generalize p * R = rest2 at m3 m4 m5 m6 m7 m8 m9 m10
              have HMM := Lib.hid (And.intro m1 (And.intro m2 (And.intro m3 (And.intro m4 m5))))
              clear m1 m2 m3 m4 m5
              have HM2 := Lib.hid (And.intro m6 (And.intro m7 (And.intro m8 (And.intro m9 m10))))
              clear m6 m7 m8 m9 m10
              go_wp2_with fail
              as_aux_lemma =>
              refine (EP0.out _).mono ?_
              rintro e wa ⟨rfl, hba⟩
              have HRa := Lib.hid (HRy.out.keep hba); clear HRy
              have hqa := (hba.cell (p := ⟨bq, oq + j, none⟩) hqlt).trans hqc
              go_wp2_with fail
              refine (qHas_any _ _ _ _ HRa.out HSub.out).mono ?_
              rintro e wb ⟨rfl, hbb⟩
              have hqb := (hbb.cell (p := ⟨bq, oq + j, none⟩) (Nat.lt_of_lt_of_le hqlt hba.size)).trans hqa
              have hwj : wrap64 (j : Int) = (j : Int) := (wrapJ (j := j) (jle hx HLEN.out)).1
              have hb := bel_trans (bel_trans hbb hba) hbel
              clear hbb hba cc0 cc5 cc6 hbel hqa hqc
              obtain ⟨cc0, cc5, cc6⟩ := BXc_21.out.keep hb
              go_wp2_with fail
              as_aux_lemma =>
              refine (EP1.out _).mono ?_
              rintro e wc ⟨rfl, hbc⟩
              replace hb := bel_trans hbc hb; clear hbc cc0 cc5 cc6
              obtain ⟨m1, m2, m3, m4, m5⟩ := HMM.out
              obtain ⟨m6, m7, m8, m9, m10⟩ := HM2.out
              have hrw : IntKind.i64.wrap rest2 = rest2 := i64_wrap (by omega) (by omega)
              have hrw2 : IntKind.i64.wrap R = R := i64_wrap (by omega) (by omega)
              have hle : R ≤ 6700000000 := by omega
              cases sq
              · skip
                as_aux_lemma =>
                go_wp2_with fail
                refine wp_loop_rounds 3 ?_; rw [rounds_succ]
                go_wp2_with fail
                try rw [rounds_succ]
                try go_wp2_with fail
                try rw [rounds_succ]
                try go_wp2_with fail
                rw [wrapJ2 (j := j) (jle hx HLEN.out)]
                refine ⟨⟨j + 1 + 1, R, true, rfl, rfl, rfl, hx, HRn.out.symm, (HSn.out.trans HSQ2.out).symm, hpos, hle, hb⟩, ?_⟩
                simp only [intOf, Int.toNat_natCast]
                exact Nat.sub_lt_sub_left hx (Nat.lt_succ_self _)
              · skip
                as_aux_lemma =>
                go_wp2_with fail
                refine wp_loop_rounds 3 ?_; rw [rounds_succ]
                go_wp2_with fail
                try rw [rounds_succ]
                try go_wp2_with fail
                try rw [rounds_succ]
                try go_wp2_with fail
                rw [wrapJ2 (j := j) (jle hx HLEN.out)]
                refine ⟨⟨j + 1 + 1, R, true, rfl, rfl, rfl, hx, HRn.out.symm, (HSn.out.trans HSQ2.out).symm, hpos, hle, hb⟩, ?_⟩
                simp only [intOf, Int.toNat_natCast]
                exact Nat.sub_lt_sub_left hx (Nat.lt_succ_self _)
        · skip
          have hie : i = XS.length := by omega
          subst hie
          rw [List.drop_length] at HR
          rw [List.take_length, ← Bool.not_not (XS.any _), ← hsem.out] at HS
          obtain rfl : rest = 1 := HR.out
          have hsq := HS.out
          clear HR HS hx
          subst hsq
          have hb := hbel; clear hbel
          go_wp2_with fail
          go_ret
          exact ret_eq (by cases sm <;> rfl) (bel_trans hb HB21.out)
end Go.Proofs.YtpjcfnjagknocaaDoor.fnBadPrimes
