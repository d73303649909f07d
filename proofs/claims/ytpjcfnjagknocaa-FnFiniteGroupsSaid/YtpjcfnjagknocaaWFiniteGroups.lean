/- The walk of FnFiniteGroups. No conditions. -/
import Derived.Test.YtpjcfnjagknocaaFh
import Derived.Test.YtpjcfnjagknocaaDn
import Derived.Deep.Cut
import Derived.Deep.CutRange
namespace Go.Proofs.Ytpjcfnjagknocaa.fnFiniteGroups
open Go.RowKit
set_option maxHeartbeats 8000000 in
set_option maxRecDepth 100000 in
theorem walk (ad0 : Option Addr) (len0 cap0 : Nat) (z0 : List Int) (ad1 : Option Addr) (len1 cap1 : Nat) (z1 : List Int) (w : World) (h0 : IsRow .u8 w ad0 len0 cap0 z0) (h1 : IsRow .u8 w ad1 len1 cap1 z1) :
    Calls Try.prog 4 #[.slice ad0 len0 cap0, .slice ad1 len1 cap1] w (Ret (.bool true) w) := by
  have HRow := Lib.hid h0; have HMore := Lib.hid h1; clear h0 h1
  by_cases hbig : 1048576 < len0 + len1
  · go_enter Try.func4, Try.ntmps4
    go_wp2_with fail
    have hb := big_any ad0 ad1 len0 len1 cap0 cap1 w
    rw [decide_eq_true hbig] at hb
    refine hb.mono ?_
    rintro e w1 ⟨rfl, hb1⟩
    go_wp2_with fail
    go_ret
    exact ret_eq (by rfl) hb1
  have hl0 : len0 ≤ 1048576 := by omega
  have hl1 : len1 ≤ 1048576 := by omega
  go_enter Try.func4, Try.ntmps4
  go_wp2_with fail
  have hb := big_any ad0 ad1 len0 len1 cap0 cap1 w
  rw [decide_eq_false hbig] at hb
  refine hb.mono ?_
  rintro e w1 ⟨rfl, hb1⟩
  clear hb hbig
  go_wp2_with fail
  refine (drawGroupShape_any _ _ _ _ _ (isRow_keep HRow.out hb1) hl0).mono ?_
  rintro e w2 ⟨a, b, p, rfl, pI, hb2⟩
  have HB2 := Lib.hid (bel_trans hb2 hb1); have HM2 := Lib.hid (isRow_keep (isRow_keep HMore.out hb1) hb2)
  clear hb1 hb2 HRow HMore hl0
  go_wp2_with fail
  have HL1 := Lib.hid hl1; clear hl1
  have hb : Below w2.heap.size w2 (w2.alloc (.cells #[.int .i64 a, .int .i64 b] 39)) := below_allocD _ _
  have hx := Bx.new a b w2 39
  generalize w2.alloc (.cells #[.int .i64 a, .int .i64 b] 39) = w3 at hb hx ⊢
  generalize hn : w2.heap.size = nc at hx ⊢
  have BXc_3 := Lib.hid hx; clear hx hn
  have HB3 := Lib.hid (bel_trans hb HB2.out); clear HB2
  have HM3 := Lib.hid (isRow_keep HM2.out hb); clear HM2
  clear hb
  obtain ⟨m, n, ok, X, three, cnt, g, five, rf⟩ := gfacts a b p pI
  have K0 := Lib.hid rf.k0
  have K1 := Lib.hid rf.k1
  have K2 := Lib.hid rf.k2
  have K3 := Lib.hid rf.k3
  have K4 := Lib.hid rf.k4
  have K5 := Lib.hid rf.k5
  have K6 := Lib.hid rf.k6
  have K7 := Lib.hid rf.k7
  have HLEN := Lib.hid rf.len; have H2 := Lib.hid rf.h2; have H1 := Lib.hid rf.h1; have HTR := Lib.hid rf.tr; have HSH := Lib.hid rf.sh
  clear rf
  as_aux_lemma =>
  skip
  refine (K0.out _).mono ?_
  rintro e w4 ⟨rfl, hb⟩
  have HB4 := Lib.hid (bel_trans hb HB3.out); clear HB3
  have HM4 := Lib.hid (isRow_keep HM3.out hb); clear HM3
  have BXc_4 := Lib.hid (BXc_3.out.keep hb); clear BXc_3
  clear hb
  obtain ⟨cc0, cc5, cc6⟩ := BXc_4.out
  go_wp2_with fail
  clear cc0 cc5 cc6
  refine (K1.out _).mono ?_
  rintro e w5 ⟨rfl, hb⟩
  have HB5 := Lib.hid (bel_trans hb HB4.out); clear HB4
  have HM5 := Lib.hid (isRow_keep HM4.out hb); clear HM4
  have BXc_5 := Lib.hid (BXc_4.out.keep hb); clear BXc_4
  clear hb
  obtain ⟨cc0, cc5, cc6⟩ := BXc_5.out
  go_wp2_with fail
  clear cc0 cc5 cc6
  refine (K2.out _).mono ?_
  rintro e w6 ⟨vl, rfl, hb, ho⟩
  have HB6 := Lib.hid (bel_trans hb HB5.out); clear HB5
  have HM6 := Lib.hid (isRow_keep HM5.out hb); clear HM5
  have BXc_6 := Lib.hid (BXc_5.out.keep hb); clear BXc_5
  clear hb
  have Qvl_6 := Lib.hid (RSS.of ho HLEN.out); clear ho
  obtain ⟨cc0, cc5, cc6⟩ := BXc_6.out
  go_wp2_with fail
  clear cc0 cc5 cc6
  refine (K3.out _).mono ?_
  rintro e w7 ⟨vp, rfl, hb, ho⟩
  have HB7 := Lib.hid (bel_trans hb HB6.out); clear HB6
  have HM7 := Lib.hid (isRow_keep HM6.out hb); clear HM6
  have BXc_7 := Lib.hid (BXc_6.out.keep hb); clear BXc_6
  have Qvl_7 := Lib.hid (Qvl_6.out.keep hb); clear Qvl_6
  clear hb
  have Qvp_7 := Lib.hid (RSS.of ho HLEN.out); clear ho
  obtain ⟨cc0, cc5, cc6⟩ := BXc_7.out
  go_wp2_with fail
  clear cc0 cc5 cc6
  refine (K4.out _).mono ?_
  rintro e w8 ⟨rfl, hb⟩
  have HB8 := Lib.hid (bel_trans hb HB7.out); clear HB7
  have HM8 := Lib.hid (isRow_keep HM7.out hb); clear HM7
  have BXc_8 := Lib.hid (BXc_7.out.keep hb); clear BXc_7
  have Qvl_8 := Lib.hid (Qvl_7.out.keep hb); clear Qvl_7
  have Qvp_8 := Lib.hid (Qvp_7.out.keep hb); clear Qvp_7
  clear hb
  obtain ⟨cc0, cc5, cc6⟩ := BXc_8.out
  go_wp2_with fail
  clear cc0 cc5 cc6
  refine (K5.out _).mono ?_
  rintro e w9 ⟨rfl, hb⟩
  have HB9 := Lib.hid (bel_trans hb HB8.out); clear HB8
  have HM9 := Lib.hid (isRow_keep HM8.out hb); clear HM8
  have BXc_9 := Lib.hid (BXc_8.out.keep hb); clear BXc_8
  have Qvl_9 := Lib.hid (Qvl_8.out.keep hb); clear Qvl_8
  have Qvp_9 := Lib.hid (Qvp_8.out.keep hb); clear Qvp_8
  clear hb
  obtain ⟨cc0, cc5, cc6⟩ := BXc_9.out
  go_wp2_with fail
  clear cc0 cc5 cc6
  refine (K6.out _).mono ?_
  rintro e w10 ⟨rfl, hb⟩
  have HB10 := Lib.hid (bel_trans hb HB9.out); clear HB9
  have HM10 := Lib.hid (isRow_keep HM9.out hb); clear HM9
  have BXc_10 := Lib.hid (BXc_9.out.keep hb); clear BXc_9
  have Qvl_10 := Lib.hid (Qvl_9.out.keep hb); clear Qvl_9
  have Qvp_10 := Lib.hid (Qvp_9.out.keep hb); clear Qvp_9
  clear hb
  obtain ⟨cc0, cc5, cc6⟩ := BXc_10.out
  go_wp2_with fail
  clear cc0 cc5 cc6
  refine (K7.out _).mono ?_
  rintro e w11 ⟨rfl, hb⟩
  have HB11 := Lib.hid (bel_trans hb HB10.out); clear HB10
  have HM11 := Lib.hid (isRow_keep HM10.out hb); clear HM10
  have BXc_11 := Lib.hid (BXc_10.out.keep hb); clear BXc_10
  have Qvl_11 := Lib.hid (Qvl_10.out.keep hb); clear Qvl_10
  have Qvp_11 := Lib.hid (Qvp_10.out.keep hb); clear Qvp_10
  clear hb
  clear K0 K1 K2 K3 K4 K5 K6 K7
  as_aux_lemma =>
  obtain ⟨cc0, cc5, cc6⟩ := BXc_11.out
  go_upto_region 12 with fail
  clear cc0 cc5 cc6
  go_cut [178] from 115 to 177 (fun v wx => v = .bool false ∧ Below w11.heap.size w11 wx)
  case first =>
    as_aux_lemma =>
    have HBW := Lib.hid (Below.refl w11.heap.size w11)
    have hcs := gcases H2.out H1.out
    clear H1 H2 HTR HSH
    rcases hcs with ⟨rfl, rfl, rfl, rfl⟩ | ⟨rfl, rfl, rfl, rfl⟩ | ⟨rfl, rfl, rfl, rfl⟩ | ⟨rfl, rfl, rfl, rfl⟩ | ⟨rfl, rfl, rfl, rfl⟩
    · skip
      as_aux_lemma =>
      obtain ⟨cc0, cc5, cc6⟩ := BXc_11.out
      go_wp2_with fail
      clear cc0 cc5 cc6
      refine (sameLists_same Qvl_11.out Qvp_11.out).mono ?_
      rintro e w12 ⟨rfl, hb⟩
      have HBW' := Lib.hid (bel_trans hb HBW.out); clear HBW; have HBW := Lib.hid HBW'.out; clear HBW'
      have HB12 := Lib.hid (bel_trans hb HB11.out); clear HB11
      have HM12 := Lib.hid (isRow_keep HM11.out hb); clear HM11
      have BXc_12 := Lib.hid (BXc_11.out.keep hb); clear BXc_11
      have Qvl_12 := Lib.hid (Qvl_11.out.keep hb); clear Qvl_11
      have Qvp_12 := Lib.hid (Qvp_11.out.keep hb); clear Qvp_11
      clear hb
      obtain ⟨cc0, cc5, cc6⟩ := BXc_12.out
      go_wp2_with fail
      clear cc0 cc5 cc6
      go_meet
      exact ⟨rfl, HBW.out⟩
    · skip
      as_aux_lemma =>
      obtain ⟨cc0, cc5, cc6⟩ := BXc_11.out
      go_wp2_with fail
      clear cc0 cc5 cc6
      refine (sameLists_same Qvl_11.out Qvp_11.out).mono ?_
      rintro e w12 ⟨rfl, hb⟩
      have HBW' := Lib.hid (bel_trans hb HBW.out); clear HBW; have HBW := Lib.hid HBW'.out; clear HBW'
      have HB12 := Lib.hid (bel_trans hb HB11.out); clear HB11
      have HM12 := Lib.hid (isRow_keep HM11.out hb); clear HM11
      have BXc_12 := Lib.hid (BXc_11.out.keep hb); clear BXc_11
      have Qvl_12 := Lib.hid (Qvl_11.out.keep hb); clear Qvl_11
      have Qvp_12 := Lib.hid (Qvp_11.out.keep hb); clear Qvp_11
      clear hb
      obtain ⟨cc0, cc5, cc6⟩ := BXc_12.out
      go_wp2_with fail
      clear cc0 cc5 cc6
      go_meet
      exact ⟨rfl, HBW.out⟩
    · skip
      as_aux_lemma =>
      obtain ⟨cc0, cc5, cc6⟩ := BXc_11.out
      go_wp2_with fail
      clear cc0 cc5 cc6
      refine (sameLists_same Qvl_11.out Qvp_11.out).mono ?_
      rintro e w12 ⟨rfl, hb⟩
      have HBW' := Lib.hid (bel_trans hb HBW.out); clear HBW; have HBW := Lib.hid HBW'.out; clear HBW'
      have HB12 := Lib.hid (bel_trans hb HB11.out); clear HB11
      have HM12 := Lib.hid (isRow_keep HM11.out hb); clear HM11
      have BXc_12 := Lib.hid (BXc_11.out.keep hb); clear BXc_11
      have Qvl_12 := Lib.hid (Qvl_11.out.keep hb); clear Qvl_11
      have Qvp_12 := Lib.hid (Qvp_11.out.keep hb); clear Qvp_11
      clear hb
      obtain ⟨cc0, cc5, cc6⟩ := BXc_12.out
      go_wp2_with fail
      clear cc0 cc5 cc6
      go_meet
      exact ⟨rfl, HBW.out⟩
    · skip
      as_aux_lemma =>
      obtain ⟨cc0, cc5, cc6⟩ := BXc_11.out
      go_wp2_with fail
      clear cc0 cc5 cc6
      refine (sameLists_same Qvl_11.out Qvp_11.out).mono ?_
      rintro e w12 ⟨rfl, hb⟩
      have HBW' := Lib.hid (bel_trans hb HBW.out); clear HBW; have HBW := Lib.hid HBW'.out; clear HBW'
      have HB12 := Lib.hid (bel_trans hb HB11.out); clear HB11
      have HM12 := Lib.hid (isRow_keep HM11.out hb); clear HM11
      have BXc_12 := Lib.hid (BXc_11.out.keep hb); clear BXc_11
      have Qvl_12 := Lib.hid (Qvl_11.out.keep hb); clear Qvl_11
      have Qvp_12 := Lib.hid (Qvp_11.out.keep hb); clear Qvp_11
      clear hb
      obtain ⟨cc0, cc5, cc6⟩ := BXc_12.out
      go_wp2_with fail
      clear cc0 cc5 cc6
      go_meet
      exact ⟨rfl, HBW.out⟩
    · skip
      as_aux_lemma =>
      obtain ⟨cc0, cc5, cc6⟩ := BXc_11.out
      go_wp2_with fail
      clear cc0 cc5 cc6
      refine (sameLists_same Qvl_11.out Qvp_11.out).mono ?_
      rintro e w12 ⟨rfl, hb⟩
      have HBW' := Lib.hid (bel_trans hb HBW.out); clear HBW; have HBW := Lib.hid HBW'.out; clear HBW'
      have HB12 := Lib.hid (bel_trans hb HB11.out); clear HB11
      have HM12 := Lib.hid (isRow_keep HM11.out hb); clear HM11
      have BXc_12 := Lib.hid (BXc_11.out.keep hb); clear BXc_11
      have Qvl_12 := Lib.hid (Qvl_11.out.keep hb); clear Qvl_11
      have Qvp_12 := Lib.hid (Qvp_11.out.keep hb); clear Qvp_11
      clear hb
      obtain ⟨cc0, cc5, cc6⟩ := BXc_12.out
      go_wp2_with fail
      clear cc0 cc5 cc6
      go_meet
      exact ⟨rfl, HBW.out⟩
  case rest =>
    as_aux_lemma =>
    obtain ⟨rfl, hb⟩ := hcut
    generalize wc = w12 at hb ⊢
    have HB12 := Lib.hid (bel_trans hb HB11.out); clear HB11
    have HM12 := Lib.hid (isRow_keep HM11.out hb); clear HM11
    have BXc_12 := Lib.hid (BXc_11.out.keep hb); clear BXc_11
    have Qvl_12 := Lib.hid (Qvl_11.out.keep hb); clear Qvl_11
    have Qvp_12 := Lib.hid (Qvp_11.out.keep hb); clear Qvp_11
    clear hb
    obtain ⟨cc0, cc5, cc6⟩ := BXc_12.out
    go_upto_if 179 with fail
    clear cc0 cc5 cc6
    go_cut [25] from 180 to 189 (fun _ wx => Below w12.heap.size w12 wx)
    case first =>
      as_aux_lemma =>
      have HBW := Lib.hid (Below.refl w12.heap.size w12)
      clear HSH H1 H2
      cases three
      · clear HTR
        obtain ⟨cc0, cc5, cc6⟩ := BXc_12.out
        go_wp2_with fail
        clear cc0 cc5 cc6
        go_meet
        exact HBW.out
      · skip
        obtain ⟨p1, p2, q1, q2, q3⟩ := HTR.out rfl
        clear HTR
        have t0 := sqN (p + 1 - cnt)
        have hw1 : IntKind.i64.wrap (p + 1) = p + 1 := wrapb (by omega) (by omega)
        have hw2 : IntKind.i64.wrap (p + 1 - cnt) = p + 1 - cnt := wrapb (by omega) (by omega)
        have hw4 : IntKind.i64.wrap (4 * p) = 4 * p := wrapb (by omega) (by omega)
        have hw3 : IntKind.i64.wrap ((p + 1 - cnt) * (p + 1 - cnt)) = (p + 1 - cnt) * (p + 1 - cnt) := wrapb (by omega) (by omega)
        have hng : ¬ (p + 1 - cnt) * (p + 1 - cnt) > 4 * p := by omega
        clear t0
        skip
        obtain ⟨cc0, cc5, cc6⟩ := BXc_12.out
        go_wp2_with fail
        clear cc0 cc5 cc6
        go_meet
        exact HBW.out
    case rest =>
      as_aux_lemma =>
      have hb := hcut; clear hcut
      generalize wc = w13 at hb ⊢
      have HB13 := Lib.hid (bel_trans hb HB12.out); clear HB12
      have HM13 := Lib.hid (isRow_keep HM12.out hb); clear HM12
      have BXc_13 := Lib.hid (BXc_12.out.keep hb); clear BXc_12
      have Qvl_13 := Lib.hid (Qvl_12.out.keep hb); clear Qvl_12
      have Qvp_13 := Lib.hid (Qvp_12.out.keep hb); clear Qvp_12
      clear hb
      clear H2
      obtain ⟨cc0, cc5, cc6⟩ := BXc_13.out
      go_upto_if 190 with fail
      clear cc0 cc5 cc6
      go_cut [26, 27, 28, 29, 30, 31] from 191 to 282 (fun _ _ _ _ _ _ wx => Below w13.heap.size w13 wx)
      case first =>
        as_aux_lemma =>
        have HBW := Lib.hid (Below.refl w13.heap.size w13)
        cases ok
        · clear HSH HTR H1
          obtain ⟨cc0, cc5, cc6⟩ := BXc_13.out
          go_wp2_with fail
          clear cc0 cc5 cc6
          go_meet
          exact HBW.out
        · skip
          obtain ⟨p1, p2, -⟩ := HTR.out (H1.out rfl)
          clear HTR H1
          obtain ⟨u, t, k2, R⟩ := HSH.out rfl
          clear HSH
          have m1 := R.m1; have m2 := R.m2; have n1 := R.n1; have n2 := R.n2; have hc := R.c; have mt := R.mt; have pt := R.pt; have hlen := R.len
          have HX0 := Lib.hid R.x0; have CO := Lib.hid R.co; have CU := Lib.hid R.cu; have I2 := Lib.hid R.i2; have S2 := Lib.hid R.s2; have KK := Lib.hid R.kk
          have hmod := R.md; have hpd := R.pd
          clear R
          have hm0 : ¬ m = 0 := by omega
          have hm0b : (m == 0) = false := by simp; omega
          have hpos : 0 < X.length := by have := Int.mul_le_mul m1 n1 (by omega) (by omega); omega
          have hcb : 1 ≤ cnt ∧ cnt ≤ 4000000 := by have := Int.mul_le_mul m1 n1 (by omega) (by omega); have := Int.mul_le_mul m2 n2 (by omega) (by omega); omega
          have hwm : IntKind.i64.wrap (m * n) = cnt := by rw [← hc]; exact wrapb (by omega) (by omega)
          clear hc
          obtain ⟨gp, cp, adp, cp', rfl, hcell⟩ := Qvp_13.out.first hpos HX0.out
          have hwp : IntKind.i64.wrap (p - 1) = p - 1 := wrapb (by omega) (by omega)
          generalize X.length = lx at *
          have hx0 : (0 : Int) < (lx : Int) := by omega
          have hlx : (lx : Int) = cnt := hlen
          clear HX0
          obtain ⟨cc0, cc5, cc6⟩ := BXc_13.out
          go_upto_region 21 with fail
          clear cc0 cc5 cc6
          clear hcell hlen hlx hx0 hwm mt pt hmod hpd hwp hpos hcb hm0b
          clear Qvl_13 Qvp_13
          obtain ⟨cc0, cc5, cc6⟩ := BXc_13.out
          go_wp2_with fail
          clear cc0 cc5 cc6
          refine (CO.out _).mono ?_
          rintro e w14 ⟨rfl, hb⟩
          have HBW' := Lib.hid (bel_trans hb HBW.out); clear HBW; have HBW := Lib.hid HBW'.out; clear HBW'
          have HB14 := Lib.hid (bel_trans hb HB13.out); clear HB13
          have HM14 := Lib.hid (isRow_keep HM13.out hb); clear HM13
          have BXc_14 := Lib.hid (BXc_13.out.keep hb); clear BXc_13
          clear hb
          obtain ⟨cc0, cc5, cc6⟩ := BXc_14.out
          go_upto_region 22 with fail
          clear cc0 cc5 cc6
          go_cut [239] from 229 to 238 (fun v wx => v = .bool false ∧ Below w14.heap.size w14 wx)
          case first =>
            as_aux_lemma =>
            by_cases hn : n ≤ 1000
            · obtain ⟨ht, hu⟩ := CU.out hn
              subst ht; subst hu
              go_wp2_with fail
              go_meet
              exact ⟨rfl, Below.refl _ _⟩
            · skip
              go_wp2_with fail
              go_meet
              exact ⟨rfl, Below.refl _ _⟩
          case rest =>
            as_aux_lemma =>
            obtain ⟨rfl, hb⟩ := hcut
            generalize wc = w15 at hb ⊢
            have HBW' := Lib.hid (bel_trans hb HBW.out); clear HBW; have HBW := Lib.hid HBW'.out; clear HBW'
            have HB15 := Lib.hid (bel_trans hb HB14.out); clear HB14
            have HM15 := Lib.hid (isRow_keep HM14.out hb); clear HM14
            have BXc_15 := Lib.hid (BXc_14.out.keep hb); clear BXc_14
            clear hb
            clear CU CO
            obtain ⟨cc0, cc5, cc6⟩ := BXc_15.out
            go_wp2_with fail
            clear cc0 cc5 cc6
            refine (I2.out _).mono ?_
            rintro e w16 ⟨rfl, hb⟩
            have HBW' := Lib.hid (bel_trans hb HBW.out); clear HBW; have HBW := Lib.hid HBW'.out; clear HBW'
            have HB16 := Lib.hid (bel_trans hb HB15.out); clear HB15
            have HM16 := Lib.hid (isRow_keep HM15.out hb); clear HM15
            have BXc_16 := Lib.hid (BXc_15.out.keep hb); clear BXc_15
            clear hb
            obtain ⟨cc0, cc5, cc6⟩ := BXc_16.out
            go_wp2_with fail
            clear cc0 cc5 cc6
            refine (S2.out _).mono ?_
            rintro e w17 ⟨rfl, hb⟩
            have HBW' := Lib.hid (bel_trans hb HBW.out); clear HBW; have HBW := Lib.hid HBW'.out; clear HBW'
            have HB17 := Lib.hid (bel_trans hb HB16.out); clear HB16
            have HM17 := Lib.hid (isRow_keep HM16.out hb); clear HM16
            have BXc_17 := Lib.hid (BXc_16.out.keep hb); clear BXc_16
            clear hb
            rcases KK.out with ⟨rfl, h2, h2t⟩ | ⟨rfl, h2, h2t⟩ | ⟨rfl, h2, h2t⟩
            · skip
              obtain ⟨cc0, cc5, cc6⟩ := BXc_17.out
              go_wp2_with fail
              clear cc0 cc5 cc6
              go_meet
              exact HBW.out
            · skip
              obtain ⟨cc0, cc5, cc6⟩ := BXc_17.out
              go_wp2_with fail
              clear cc0 cc5 cc6
              go_meet
              exact HBW.out
            · skip
              obtain ⟨cc0, cc5, cc6⟩ := BXc_17.out
              go_wp2_with fail
              clear cc0 cc5 cc6
              go_meet
              exact HBW.out
      case rest =>
        as_aux_lemma =>
        have hb := hcut; clear hcut
        generalize wc = w14 at hb ⊢
        have HB14 := Lib.hid (bel_trans hb HB13.out); clear HB13
        have HM14 := Lib.hid (isRow_keep HM13.out hb); clear HM13
        have BXc_14 := Lib.hid (BXc_13.out.keep hb); clear BXc_13
        have Qvl_14 := Lib.hid (Qvl_13.out.keep hb); clear Qvl_13
        have Qvp_14 := Lib.hid (Qvp_13.out.keep hb); clear Qvp_13
        clear hb
        clear HSH HTR H1 Qvl_14 Qvp_14 BXc_14 HLEN
        go_wp2_with fail
        refine (drawOrderModulo_any _ _ _ _ _ HM14.out HL1.out).mono ?_
        rintro e w15 ⟨a2, b2, q, x, rfl, qI, ⟨zs, rx, nx, -, -⟩, hb⟩
        have HB15 := Lib.hid (bel_trans hb HB14.out); clear HB14
        have HM15 := Lib.hid (isRow_keep HM14.out hb); clear HM14
        clear hb
        have Rx_15 := Lib.hid rx; have N_x := Lib.hid nx; clear rx nx
        go_wp2_with fail
        have hb : Below w15.heap.size w15 (w15.alloc (.cells #[.int .i64 a2, .int .i64 b2] 39)) := below_allocD _ _
        have hx := Bx.new a2 b2 w15 39
        generalize w15.alloc (.cells #[.int .i64 a2, .int .i64 b2] 39) = w16 at hb hx ⊢
        generalize hn : w15.heap.size = nd at hx ⊢
        have BXd_16 := Lib.hid hx; clear hx hn
        have HB16 := Lib.hid (bel_trans hb HB15.out); clear HB15
        have HM16 := Lib.hid (isRow_keep HM15.out hb); clear HM15
        have Rx_16 := Lib.hid (Rx_15.out.keep hb); clear Rx_15
        clear hb
        obtain ⟨K, t, rg⟩ := ofacts a2 b2 q zs qI
        have O0 := Lib.hid rg.o0; have O1 := Lib.hid rg.o1; have OY := Lib.hid rg.yes
        clear rg
        refine (O0.out _ _ Rx_16.out N_x.out).mono ?_
        rintro e w17 ⟨rfl, hb⟩
        have HB17 := Lib.hid (bel_trans hb HB16.out); clear HB16
        have HM17 := Lib.hid (isRow_keep HM16.out hb); clear HM16
        have BXd_17 := Lib.hid (BXd_16.out.keep hb); clear BXd_16
        have Rx_17 := Lib.hid (Rx_16.out.keep hb); clear Rx_16
        clear hb
        obtain ⟨cd0, cd5, cd6⟩ := BXd_17.out
        go_wp2_with fail
        clear cd0 cd5 cd6
        refine (O1.out _ _ Rx_17.out N_x.out).mono ?_
        rintro e w18 ⟨rfl, hb⟩
        have HB18 := Lib.hid (bel_trans hb HB17.out); clear HB17
        have HM18 := Lib.hid (isRow_keep HM17.out hb); clear HM17
        have BXd_18 := Lib.hid (BXd_17.out.keep hb); clear BXd_17
        have Rx_18 := Lib.hid (Rx_17.out.keep hb); clear Rx_17
        clear hb
        clear O0 O1
        have htt : (t != t) = false := by cases t <;> rfl
        obtain ⟨cd0, cd5, cd6⟩ := BXd_18.out
        go_upto_if 311 with fail
        clear cd0 cd5 cd6
        go_cut [39, 40, 41, 42] from 312 to 350 (fun _ _ _ _ wx => Below w18.heap.size w18 wx)
        case first =>
          as_aux_lemma =>
          have HBW := Lib.hid (Below.refl w18.heap.size w18)
          cases t
          · clear OY
            obtain ⟨cd0, cd5, cd6⟩ := BXd_18.out
            go_wp2_with fail
            clear cd0 cd5 cd6
            go_meet
            exact HBW.out
          · skip
            obtain ⟨cnt2, R⟩ := OY.out rfl
            clear OY
            have C0 := Lib.hid R.c0; have TM := Lib.hid R.tm; have kk1 := R.k1; have kmd := R.md; have kmt := R.mt; have HONE := Lib.hid R.one
            clear R
            obtain ⟨cd0, cd5, cd6⟩ := BXd_18.out
            go_wp2_with fail
            clear cd0 cd5 cd6
            refine (C0.out _).mono ?_
            rintro e w19 ⟨rfl, hb⟩
            have HBW' := Lib.hid (bel_trans hb HBW.out); clear HBW; have HBW := Lib.hid HBW'.out; clear HBW'
            have HB19 := Lib.hid (bel_trans hb HB18.out); clear HB18
            have HM19 := Lib.hid (isRow_keep HM18.out hb); clear HM18
            have BXd_19 := Lib.hid (BXd_18.out.keep hb); clear BXd_18
            have Rx_19 := Lib.hid (Rx_18.out.keep hb); clear Rx_18
            clear hb
            obtain ⟨cd0, cd5, cd6⟩ := BXd_19.out
            go_wp2_with fail
            clear cd0 cd5 cd6
            refine (TM.out _ _ Rx_19.out N_x.out).mono ?_
            rintro e w20 ⟨y, rfl, hb, ho⟩
            have HBW' := Lib.hid (bel_trans hb HBW.out); clear HBW; have HBW := Lib.hid HBW'.out; clear HBW'
            have HB20 := Lib.hid (bel_trans hb HB19.out); clear HB19
            have HM20 := Lib.hid (isRow_keep HM19.out hb); clear HM19
            have BXd_20 := Lib.hid (BXd_19.out.keep hb); clear BXd_19
            have Rx_20 := Lib.hid (Rx_19.out.keep hb); clear Rx_19
            clear hb
            have Ry_20 := Lib.hid ho.rd; clear ho
            clear C0 TM
            obtain ⟨ady, capy, hye, hyl, hyc⟩ := Ry_20.out
            subst hye
            clear hyl hyc
            obtain ⟨adx, capx, hxe, hxl, hxc⟩ := Rx_20.out
            subst hxe
            clear hxl hxc Ry_20 Rx_20 N_x
            have hone := HONE.out
            clear HONE
            generalize zs.length = lz at *
            have hk0 : ¬ K = 0 := by omega
            have hk0b : (K == 0) = false := by simp; omega
            by_cases hk : K = 1
            · have hz : lz = 0 := by rw [hk] at hone; simpa using hone.symm
              subst hz; subst hk
              clear hone
              obtain ⟨cd0, cd5, cd6⟩ := BXd_20.out
              go_wp2_with fail
              clear cd0 cd5 cd6
              go_meet
              exact HBW.out
            · have hz : ¬ lz = 0 := by intro e; subst e; simp at hone; exact hk hone
              have hzI : ¬ (lz : Int) = 0 := by omega
              have hzb : ((lz : Int) == 0) = false := by simp; omega
              have hkb : (K == 1) = false := by simp; exact hk
              clear hone
              obtain ⟨cd0, cd5, cd6⟩ := BXd_20.out
              go_wp2_with fail
              clear cd0 cd5 cd6
              go_meet
              exact HBW.out
        case rest =>
          as_aux_lemma =>
          have hb := hcut; clear hcut
          generalize wc = w19 at hb ⊢
          have HB19 := Lib.hid (bel_trans hb HB18.out); clear HB18
          have HM19 := Lib.hid (isRow_keep HM18.out hb); clear HM18
          have BXd_19 := Lib.hid (BXd_18.out.keep hb); clear BXd_18
          have Rx_19 := Lib.hid (Rx_18.out.keep hb); clear Rx_18
          clear hb
          clear OY htt
          clear Rx_19 N_x BXd_19
          go_wp2_with fail
          refine (drawIsPointModulo_any _ _ _ _ _ HM19.out HL1.out).mono ?_
          rintro e w20 ⟨a3, b3, r, y, rfl, rI, ⟨ys, ry, ny, -, -⟩, hb⟩
          have HB20 := Lib.hid (bel_trans hb HB19.out); clear HB19
          have HM20 := Lib.hid (isRow_keep HM19.out hb); clear HM19
          clear hb
          have Ry_20 := Lib.hid ry; clear ry ny
          go_wp2_with fail
          have hb : Below w20.heap.size w20 (w20.alloc (.cells #[.int .i64 a3, .int .i64 b3] 39)) := below_allocD _ _
          have hx := Bx.new a3 b3 w20 39
          generalize w20.alloc (.cells #[.int .i64 a3, .int .i64 b3] 39) = w21 at hb hx ⊢
          generalize hn : w20.heap.size = ne at hx ⊢
          have BXe_21 := Lib.hid hx; clear hx hn
          have HB21 := Lib.hid (bel_trans hb HB20.out); clear HB20
          have HM21 := Lib.hid (isRow_keep HM20.out hb); clear HM20
          have Ry_21 := Lib.hid (Ry_20.out.keep hb); clear Ry_20
          clear hb
          obtain ⟨i0, t0, i1, i2⟩ := ifacts a3 b3 r ys
          have I0 := Lib.hid i1; have I1 := Lib.hid i2; clear i1 i2
          refine (I0.out _ _ Ry_21.out).mono ?_
          rintro e w22 ⟨rfl, hb⟩
          have HB22 := Lib.hid (bel_trans hb HB21.out); clear HB21
          have HM22 := Lib.hid (isRow_keep HM21.out hb); clear HM21
          have BXe_22 := Lib.hid (BXe_21.out.keep hb); clear BXe_21
          have Ry_22 := Lib.hid (Ry_21.out.keep hb); clear Ry_21
          clear hb
          obtain ⟨ce0, ce5, ce6⟩ := BXe_22.out
          go_wp2_with fail
          clear ce0 ce5 ce6
          refine (I1.out _ _ Ry_22.out).mono ?_
          rintro e w23 ⟨rfl, hb⟩
          have HB23 := Lib.hid (bel_trans hb HB22.out); clear HB22
          have HM23 := Lib.hid (isRow_keep HM22.out hb); clear HM22
          have BXe_23 := Lib.hid (BXe_22.out.keep hb); clear BXe_22
          have Ry_23 := Lib.hid (Ry_22.out.keep hb); clear Ry_22
          clear hb
          obtain ⟨ce0, ce5, ce6⟩ := BXe_23.out
          go_wp2_with fail
          clear ce0 ce5 ce6
          clear I0 I1 Ry_23 BXe_23
          refine (drawCountOrders_any _ _ _ _ _ HM23.out HL1.out).mono ?_
          rintro e w24 ⟨a4, b4, h, z, rfl, hb⟩
          have HB24 := Lib.hid (bel_trans hb HB23.out); clear HB23
          have HM24 := Lib.hid (isRow_keep HM23.out hb); clear HM23
          clear hb
          go_wp2_with fail
          have hb : Below w24.heap.size w24 (w24.alloc (.cells #[.int .i64 a4, .int .i64 b4] 39)) := below_allocD _ _
          have hx := Bx.new a4 b4 w24 39
          generalize w24.alloc (.cells #[.int .i64 a4, .int .i64 b4] 39) = w25 at hb hx ⊢
          generalize hn : w24.heap.size = nf at hx ⊢
          have BXf_25 := Lib.hid hx; clear hx hn
          have HB25 := Lib.hid (bel_trans hb HB24.out); clear HB24
          have HM25 := Lib.hid (isRow_keep HM24.out hb); clear HM24
          clear hb
          have c0 := fun w => iCountOrders_any a4 b4 h z w; have c1 := fun w => sCountOrders_any a4 b4 h z w
          generalize (if coB a4 b4 h z = true then coV a4 b4 h z else 0) = d4 at c0 c1
          generalize coB a4 b4 h z = t4 at c0 c1
          have C0 := Lib.hid c0; have C1 := Lib.hid c1; clear c0 c1
          refine (C0.out _).mono ?_
          rintro e w26 ⟨rfl, hb⟩
          have HB26 := Lib.hid (bel_trans hb HB25.out); clear HB25
          have HM26 := Lib.hid (isRow_keep HM25.out hb); clear HM25
          have BXf_26 := Lib.hid (BXf_25.out.keep hb); clear BXf_25
          clear hb
          obtain ⟨cf0, cf5, cf6⟩ := BXf_26.out
          go_wp2_with fail
          clear cf0 cf5 cf6
          refine (C1.out _).mono ?_
          rintro e w27 ⟨rfl, hb⟩
          have HB27 := Lib.hid (bel_trans hb HB26.out); clear HB26
          have HM27 := Lib.hid (isRow_keep HM26.out hb); clear HM26
          have BXf_27 := Lib.hid (BXf_26.out.keep hb); clear BXf_26
          clear hb
          clear C0 C1
          cases i0 <;> cases t0 <;> cases t4
          all_goals
            go_wp2_with fail
            go_ret
            exact ret_eq (by rfl) HB27.out
end Go.Proofs.Ytpjcfnjagknocaa.fnFiniteGroups
