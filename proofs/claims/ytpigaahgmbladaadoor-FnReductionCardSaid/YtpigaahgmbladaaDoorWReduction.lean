/- The walk of FnReduction: where the library's variables lie as the text lays them. -/
import Derived.Test.YtpigaahgmbladaaDoorRe
import Derived.Deep.Cut
import Derived.Test.YtpigaahgmbladaaDoorDe
namespace Go.Proofs.YtpigaahgmbladaaDoor
open Go.RowKit
def BxR (n : Nat) (a b : Int) (w : World) : Prop := n < w.heap.size ∧ w.cell? ⟨n, 0, none⟩ = some (.int .i64 a) ∧ w.cell? ⟨n, 1, none⟩ = some (.int .i64 b)
theorem BxR.new (a b : Int) (w : World) (t : TypeId) : BxR w.heap.size a b (w.alloc (.cells #[.int .i64 a, .int .i64 b] t)) := ⟨by simp, by simp [go_sem], by simp [go_sem]⟩
theorem BxR.keep {n : Nat} {a b : Int} {w w' : World} (h : BxR n a b w) (hb : Below w.heap.size w w') : BxR n a b w' :=
  ⟨Nat.lt_of_lt_of_le h.1 hb.size, (hb.cell (p := ⟨n, 0, none⟩) h.1).trans h.2.1, (hb.cell (p := ⟨n, 1, none⟩) h.1).trans h.2.2⟩
theorem len_wrap {len len' : Nat} (h1 : len ≤ 140737488355328) (h2 : len' ≤ 140737488355328) : IntKind.i64.wrap ((len : Int) + (len' : Int)) = (len : Int) + (len' : Int) := i64_wrap (by omega) (by omega)
theorem len_wrap' {len len' : Nat} (h1 : len ≤ 140737488355328) (h2 : len' ≤ 140737488355328) : wrap64 ((len : Int) + (len' : Int)) = (len : Int) + (len' : Int) := by
  unfold wrap64
  omega
end Go.Proofs.YtpigaahgmbladaaDoor
namespace Go.Proofs.YtpigaahgmbladaaDoor.fnReduction
open Go.RowKit
set_option maxHeartbeats 8000000 in
set_option maxRecDepth 100000 in
theorem walk (ad0 : Option Addr) (len0 cap0 : Nat) (z0 : List Int) (ad1 : Option Addr) (len1 cap1 : Nat) (z1 : List Int) (w : World) (h0 : IsRow .u8 w ad0 len0 cap0 z0) (_h1 : IsRow .u8 w ad1 len1 cap1 z1) (hz0 : len0 ≤ 140737488355328) (hz1 : len1 ≤ 140737488355328) :
    Calls Tryd.prog 3 #[.slice ad0 len0 cap0, .slice ad1 len1 cap1] w (Ret (.bool true) w) := by
  have hw1 : IntKind.i64.wrap ((len0 : Int) + (len1 : Int)) = (len0 : Int) + (len1 : Int) := len_wrap hz0 hz1
  have hw2 : wrap64 ((len0 : Int) + (len1 : Int)) = (len0 : Int) + (len1 : Int) := len_wrap' hz0 hz1
  have HRow := Lib.hid h0; clear h0 _h1 hz0 hz1
  by_cases hbig : (1048576 : Int) < (len0 : Int) + (len1 : Int)
  · go_enter Tryd.func3, Tryd.ntmps3
    go_wp2_with fail
    go_ret
    exact ret_eq (by rfl) (by repeat (first | exact Below.refl _ _ | (with_reducible assumption) | refine bel_alloc ?_ _ | refine bel_drew ?_ | refine bel_drewN ?_ _ | refine Below.setCell ?_ (by dsimp only; omega) _ | refine bel_trans (by assumption) ?_))
  have hl0 : len0 ≤ 1048576 := by omega
  have hbig' : ¬ (1048576 : Int) < (len0 : Int) + (len1 : Int) := hbig
  go_enter Tryd.func3, Tryd.ntmps3
  go_wp2_with fail
  refine (drawReductionKind_any _ _ _ _ _ HRow.out hl0).mono ?_
  rintro e w2 ⟨a, b, p, rfl, aI, bI, pI, hb⟩
  have HB2 := Lib.hid hb
  clear hb HRow hbig hbig' hl0 hw1 hw2 aI bI pI
  go_wp2_with fail
  have hb : Below w2.heap.size w2 (w2.alloc (.cells #[.int .i64 a, .int .i64 b] 24)) := below_allocD _ _
  have hx := BxR.new a b w2 24
  generalize w2.alloc (.cells #[.int .i64 a, .int .i64 b] 24) = w3 at hb hx ⊢
  generalize hn : w2.heap.size = nc at hx ⊢
  have BXc_3 := Lib.hid hx; clear hx hn
  have HB3 := Lib.hid (bel_trans hb HB2.out); clear HB2
  clear hb
  obtain ⟨ok, NB, KS, SS, EX, V, CN, A, B, T, X, TG, rf⟩ := rfacts a b p
  have K0 := Lib.hid rf.k0
  have K1 := Lib.hid rf.k1
  have K2 := Lib.hid rf.k2
  have K3 := Lib.hid rf.k3
  have K4 := Lib.hid rf.k4
  have K5 := Lib.hid rf.k5
  have K6 := Lib.hid rf.k6
  have K7 := Lib.hid rf.k7
  have K8 := Lib.hid rf.k8
  have K9 := Lib.hid rf.k9
  have K10 := Lib.hid rf.k10
  have K11 := Lib.hid rf.k11
  have K12 := Lib.hid rf.k12
  have K13 := Lib.hid rf.k13
  have hN := rf.hN
  have HY := Lib.hid rf.yes
  clear rf
  subst hN
  refine (K0.out _).mono ?_
  rintro e w4 ⟨rfl, hb⟩
  have HB4 := Lib.hid (bel_trans hb HB3.out); clear HB3
  have BXc_4 := Lib.hid (BXc_3.out.keep hb); clear BXc_3
  clear hb
  obtain ⟨cc0, cc5, cc6⟩ := BXc_4.out
  go_wp2_with fail
  clear cc0 cc5 cc6
  refine (K1.out _).mono ?_
  rintro e w5 ⟨rfl, hb⟩
  have HB5 := Lib.hid (bel_trans hb HB4.out); clear HB4
  have BXc_5 := Lib.hid (BXc_4.out.keep hb); clear BXc_4
  clear hb
  obtain ⟨cc0, cc5, cc6⟩ := BXc_5.out
  go_wp2_with fail
  clear cc0 cc5 cc6
  refine (K2.out _).mono ?_
  rintro e w6 ⟨rfl, hb⟩
  have HB6 := Lib.hid (bel_trans hb HB5.out); clear HB5
  have BXc_6 := Lib.hid (BXc_5.out.keep hb); clear BXc_5
  clear hb
  obtain ⟨cc0, cc5, cc6⟩ := BXc_6.out
  go_wp2_with fail
  clear cc0 cc5 cc6
  refine (K3.out _).mono ?_
  rintro e w7 ⟨rfl, hb⟩
  have HB7 := Lib.hid (bel_trans hb HB6.out); clear HB6
  have BXc_7 := Lib.hid (BXc_6.out.keep hb); clear BXc_6
  clear hb
  obtain ⟨cc0, cc5, cc6⟩ := BXc_7.out
  go_wp2_with fail
  clear cc0 cc5 cc6
  refine (K4.out _).mono ?_
  rintro e w8 ⟨rfl, hb⟩
  have HB8 := Lib.hid (bel_trans hb HB7.out); clear HB7
  have BXc_8 := Lib.hid (BXc_7.out.keep hb); clear BXc_7
  clear hb
  obtain ⟨cc0, cc5, cc6⟩ := BXc_8.out
  go_wp2_with fail
  clear cc0 cc5 cc6
  refine (K5.out _).mono ?_
  rintro e w9 ⟨rfl, hb⟩
  have HB9 := Lib.hid (bel_trans hb HB8.out); clear HB8
  have BXc_9 := Lib.hid (BXc_8.out.keep hb); clear BXc_8
  clear hb
  obtain ⟨cc0, cc5, cc6⟩ := BXc_9.out
  go_wp2_with fail
  clear cc0 cc5 cc6
  refine (K6.out _).mono ?_
  rintro e w10 ⟨rfl, hb⟩
  have HB10 := Lib.hid (bel_trans hb HB9.out); clear HB9
  have BXc_10 := Lib.hid (BXc_9.out.keep hb); clear BXc_9
  clear hb
  obtain ⟨cc0, cc5, cc6⟩ := BXc_10.out
  go_wp2_with fail
  clear cc0 cc5 cc6
  refine (K7.out _).mono ?_
  rintro e w11 ⟨rfl, hb⟩
  have HB11 := Lib.hid (bel_trans hb HB10.out); clear HB10
  have BXc_11 := Lib.hid (BXc_10.out.keep hb); clear BXc_10
  clear hb
  obtain ⟨cc0, cc5, cc6⟩ := BXc_11.out
  go_wp2_with fail
  clear cc0 cc5 cc6
  refine (K8.out _).mono ?_
  rintro e w12 ⟨rfl, hb⟩
  have HB12 := Lib.hid (bel_trans hb HB11.out); clear HB11
  have BXc_12 := Lib.hid (BXc_11.out.keep hb); clear BXc_11
  clear hb
  obtain ⟨cc0, cc5, cc6⟩ := BXc_12.out
  go_wp2_with fail
  clear cc0 cc5 cc6
  refine (K9.out _).mono ?_
  rintro e w13 ⟨rfl, hb⟩
  have HB13 := Lib.hid (bel_trans hb HB12.out); clear HB12
  have BXc_13 := Lib.hid (BXc_12.out.keep hb); clear BXc_12
  clear hb
  obtain ⟨cc0, cc5, cc6⟩ := BXc_13.out
  go_wp2_with fail
  clear cc0 cc5 cc6
  refine (K10.out _).mono ?_
  rintro e w14 ⟨rfl, hb⟩
  have HB14 := Lib.hid (bel_trans hb HB13.out); clear HB13
  have BXc_14 := Lib.hid (BXc_13.out.keep hb); clear BXc_13
  clear hb
  obtain ⟨cc0, cc5, cc6⟩ := BXc_14.out
  go_wp2_with fail
  clear cc0 cc5 cc6
  have hb : Below w14.heap.size w14 (w14.alloc (.cells #[.int .i64 A, .int .i64 B] 24)) := below_allocD _ _
  have hx := BxR.new A B w14 24
  generalize w14.alloc (.cells #[.int .i64 A, .int .i64 B] 24) = w15 at hb hx ⊢
  generalize hn : w14.heap.size = nm at hx ⊢
  have BXm_15 := Lib.hid hx; clear hx hn
  have HB15 := Lib.hid (bel_trans hb HB14.out); clear HB14
  have BXc_15 := Lib.hid (BXc_14.out.keep hb); clear BXc_14
  clear hb
  refine (K11.out _).mono ?_
  rintro e w16 ⟨rfl, hb⟩
  have HB16 := Lib.hid (bel_trans hb HB15.out); clear HB15
  have BXc_16 := Lib.hid (BXc_15.out.keep hb); clear BXc_15
  have BXm_16 := Lib.hid (BXm_15.out.keep hb); clear BXm_15
  clear hb
  obtain ⟨cc0, cc5, cc6⟩ := BXc_16.out
  obtain ⟨cm0, cm5, cm6⟩ := BXm_16.out
  go_wp2_with fail
  clear cc0 cc5 cc6
  clear cm0 cm5 cm6
  have hb : Below w16.heap.size w16 (w16.alloc (.cells #[.int .i64 A, .int .i64 B] 24)) := below_allocD _ _
  have hx := BxR.new A B w16 24
  generalize w16.alloc (.cells #[.int .i64 A, .int .i64 B] 24) = w17 at hb hx ⊢
  generalize hn : w16.heap.size = ns at hx ⊢
  have BXs_17 := Lib.hid hx; clear hx hn
  have HB17 := Lib.hid (bel_trans hb HB16.out); clear HB16
  have BXc_17 := Lib.hid (BXc_16.out.keep hb); clear BXc_16
  have BXm_17 := Lib.hid (BXm_16.out.keep hb); clear BXm_16
  clear hb
  refine (K12.out _).mono ?_
  rintro e w18 ⟨rfl, hb⟩
  have HB18 := Lib.hid (bel_trans hb HB17.out); clear HB17
  have BXc_18 := Lib.hid (BXc_17.out.keep hb); clear BXc_17
  have BXm_18 := Lib.hid (BXm_17.out.keep hb); clear BXm_17
  have BXs_18 := Lib.hid (BXs_17.out.keep hb); clear BXs_17
  clear hb
  obtain ⟨cc0, cc5, cc6⟩ := BXc_18.out
  obtain ⟨cm0, cm5, cm6⟩ := BXm_18.out
  obtain ⟨cs0, cs5, cs6⟩ := BXs_18.out
  go_wp2_with fail
  clear cc0 cc5 cc6
  clear cm0 cm5 cm6
  clear cs0 cs5 cs6
  refine (K13.out _).mono ?_
  rintro e w19 ⟨rfl, hb⟩
  have HB19 := Lib.hid (bel_trans hb HB18.out); clear HB18
  have BXc_19 := Lib.hid (BXc_18.out.keep hb); clear BXc_18
  have BXm_19 := Lib.hid (BXm_18.out.keep hb); clear BXm_18
  have BXs_19 := Lib.hid (BXs_18.out.keep hb); clear BXs_18
  clear hb
  clear K0 K1 K2 K3 K4 K5 K6 K7 K8 K9 K10 K11 K12 K13
  cases ok
  · clear HY
    obtain ⟨cc0, cc5, cc6⟩ := BXc_19.out
    obtain ⟨cm0, cm5, cm6⟩ := BXm_19.out
    obtain ⟨cs0, cs5, cs6⟩ := BXs_19.out
    go_wp2_with fail
    clear cc0 cc5 cc6
    clear cm0 cm5 cm6
    clear cs0 cs5 cs6
    go_ret
    exact ret_eq (by rfl) HB19.out
  · have R := HY.out rfl
    clear HY
    obtain ⟨nb, hnb⟩ : ∃ nb, (EX == 1) = nb := ⟨_, rfl⟩
    have hnd : decide (EX = 1) = nb := by rw [← hnb, Bool.eq_iff_iff]; simp
    have hbn : (nb != nb) = false := by cases nb <;> rfl
    rw [Bool.true_and, hnb]
    obtain ⟨cc0, cc5, cc6⟩ := BXc_19.out
    obtain ⟨cm0, cm5, cm6⟩ := BXm_19.out
    obtain ⟨cs0, cs5, cs6⟩ := BXs_19.out
    go_upto_region 22 with fail
    clear cc0 cc5 cc6
    clear cm0 cm5 cm6
    clear cs0 cs5 cs6
    clear hnd hbn
    have HM1 := Lib.hid R.m1; have HM2 := Lib.hid R.m2; have HM3 := Lib.hid R.m3
    have hpb := p5_bd R.p5
    have hcs := R.cs
    clear R
    rcases hcs with ⟨rfl, rfl, rfl, rfl, m4⟩ | ⟨rfl, hS, rfl, hV, hCN, tA, tB⟩ | ⟨hS, rfl, hV, x0, x1, _, r1, r2, ⟨a0, a1, b0, b1⟩, hend⟩
    · skip
      obtain rfl : nb = false := by rw [← hnb]; rfl
      clear hnb
      have HM4 := Lib.hid m4; clear m4
      obtain ⟨cc0, cc5, cc6⟩ := BXc_19.out
      obtain ⟨cm0, cm5, cm6⟩ := BXm_19.out
      obtain ⟨cs0, cs5, cs6⟩ := BXs_19.out
      go_wp2_with fail
      clear cc0 cc5 cc6
      clear cm0 cm5 cm6
      clear cs0 cs5 cs6
      refine (HM1.out _).mono ?_
      rintro e w20 ⟨rfl, hb⟩
      have HB20 := Lib.hid (bel_trans hb HB19.out); clear HB19
      have BXc_20 := Lib.hid (BXc_19.out.keep hb); clear BXc_19
      have BXm_20 := Lib.hid (BXm_19.out.keep hb); clear BXm_19
      have BXs_20 := Lib.hid (BXs_19.out.keep hb); clear BXs_19
      clear hb
      obtain ⟨cc0, cc5, cc6⟩ := BXc_20.out
      obtain ⟨cm0, cm5, cm6⟩ := BXm_20.out
      obtain ⟨cs0, cs5, cs6⟩ := BXs_20.out
      go_wp2_with fail
      clear cc0 cc5 cc6
      clear cm0 cm5 cm6
      clear cs0 cs5 cs6
      refine (HM2.out _).mono ?_
      rintro e w21 ⟨rfl, hb⟩
      have HB21 := Lib.hid (bel_trans hb HB20.out); clear HB20
      have BXc_21 := Lib.hid (BXc_20.out.keep hb); clear BXc_20
      have BXm_21 := Lib.hid (BXm_20.out.keep hb); clear BXm_20
      have BXs_21 := Lib.hid (BXs_20.out.keep hb); clear BXs_20
      clear hb
      obtain ⟨cc0, cc5, cc6⟩ := BXc_21.out
      obtain ⟨cm0, cm5, cm6⟩ := BXm_21.out
      obtain ⟨cs0, cs5, cs6⟩ := BXs_21.out
      go_wp2_with fail
      clear cc0 cc5 cc6
      clear cm0 cm5 cm6
      clear cs0 cs5 cs6
      have hb : Below w21.heap.size w21 (w21.alloc (.cells #[.int .i64 A, .int .i64 B] 24)) := below_allocD _ _
      have hx := BxR.new A B w21 24
      generalize w21.alloc (.cells #[.int .i64 A, .int .i64 B] 24) = w22 at hb hx ⊢
      generalize hn : w21.heap.size = nt at hx ⊢
      have BXt_22 := Lib.hid hx; clear hx hn
      have HB22 := Lib.hid (bel_trans hb HB21.out); clear HB21
      have BXc_22 := Lib.hid (BXc_21.out.keep hb); clear BXc_21
      have BXm_22 := Lib.hid (BXm_21.out.keep hb); clear BXm_21
      have BXs_22 := Lib.hid (BXs_21.out.keep hb); clear BXs_21
      clear hb
      refine (HM3.out _).mono ?_
      rintro e w23 ⟨rfl, hb⟩
      have HB23 := Lib.hid (bel_trans hb HB22.out); clear HB22
      have BXc_23 := Lib.hid (BXc_22.out.keep hb); clear BXc_22
      have BXm_23 := Lib.hid (BXm_22.out.keep hb); clear BXm_22
      have BXs_23 := Lib.hid (BXs_22.out.keep hb); clear BXs_22
      have BXt_23 := Lib.hid (BXt_22.out.keep hb); clear BXt_22
      clear hb
      obtain ⟨cc0, cc5, cc6⟩ := BXc_23.out
      obtain ⟨cm0, cm5, cm6⟩ := BXm_23.out
      obtain ⟨cs0, cs5, cs6⟩ := BXs_23.out
      obtain ⟨ct0, ct5, ct6⟩ := BXt_23.out
      go_wp2_with fail
      clear cc0 cc5 cc6
      clear cm0 cm5 cm6
      clear cs0 cs5 cs6
      clear ct0 ct5 ct6
      refine (HM4.out _).mono ?_
      rintro e w24 ⟨rfl, hb⟩
      have HB24 := Lib.hid (bel_trans hb HB23.out); clear HB23
      have BXc_24 := Lib.hid (BXc_23.out.keep hb); clear BXc_23
      have BXm_24 := Lib.hid (BXm_23.out.keep hb); clear BXm_23
      have BXs_24 := Lib.hid (BXs_23.out.keep hb); clear BXs_23
      have BXt_24 := Lib.hid (BXt_23.out.keep hb); clear BXt_23
      clear hb
      obtain ⟨cc0, cc5, cc6⟩ := BXc_24.out
      obtain ⟨cm0, cm5, cm6⟩ := BXm_24.out
      obtain ⟨cs0, cs5, cs6⟩ := BXs_24.out
      obtain ⟨ct0, ct5, ct6⟩ := BXt_24.out
      go_wp2_with fail
      clear cc0 cc5 cc6
      clear cm0 cm5 cm6
      clear cs0 cs5 cs6
      clear ct0 ct5 ct6
      go_ret
      exact ret_eq (by rfl) HB24.out
    · skip
      obtain rfl : nb = false := by rw [← hnb]; rfl
      clear hnb
      have hSl : (SS.toList == [73, 48]) = false := by have h9 := str_neR hS; simpa using h9
      have hSm : SS.toList ≠ [73, 48] := by simpa using hSl
      have g1 : (V == 0) = false := by simp; omega
      have g2 : ¬ V < 2 := by omega
      have g3 : ¬ V = 0 := by omega
      clear hS
      subst hCN
      obtain ⟨cc0, cc5, cc6⟩ := BXc_19.out
      obtain ⟨cm0, cm5, cm6⟩ := BXm_19.out
      obtain ⟨cs0, cs5, cs6⟩ := BXs_19.out
      go_wp2_with fail
      clear cc0 cc5 cc6
      clear cm0 cm5 cm6
      clear cs0 cs5 cs6
      refine (HM1.out _).mono ?_
      rintro e w20 ⟨rfl, hb⟩
      have HB20 := Lib.hid (bel_trans hb HB19.out); clear HB19
      have BXc_20 := Lib.hid (BXc_19.out.keep hb); clear BXc_19
      have BXm_20 := Lib.hid (BXm_19.out.keep hb); clear BXm_19
      have BXs_20 := Lib.hid (BXs_19.out.keep hb); clear BXs_19
      clear hb
      obtain ⟨cc0, cc5, cc6⟩ := BXc_20.out
      obtain ⟨cm0, cm5, cm6⟩ := BXm_20.out
      obtain ⟨cs0, cs5, cs6⟩ := BXs_20.out
      go_wp2_with fail
      clear cc0 cc5 cc6
      clear cm0 cm5 cm6
      clear cs0 cs5 cs6
      refine (HM2.out _).mono ?_
      rintro e w21 ⟨rfl, hb⟩
      have HB21 := Lib.hid (bel_trans hb HB20.out); clear HB20
      have BXc_21 := Lib.hid (BXc_20.out.keep hb); clear BXc_20
      have BXm_21 := Lib.hid (BXm_20.out.keep hb); clear BXm_20
      have BXs_21 := Lib.hid (BXs_20.out.keep hb); clear BXs_20
      clear hb
      obtain ⟨cc0, cc5, cc6⟩ := BXc_21.out
      obtain ⟨cm0, cm5, cm6⟩ := BXm_21.out
      obtain ⟨cs0, cs5, cs6⟩ := BXs_21.out
      go_wp2_with fail
      clear cc0 cc5 cc6
      clear cm0 cm5 cm6
      clear cs0 cs5 cs6
      have hb : Below w21.heap.size w21 (w21.alloc (.cells #[.int .i64 A, .int .i64 B] 24)) := below_allocD _ _
      have hx := BxR.new A B w21 24
      generalize w21.alloc (.cells #[.int .i64 A, .int .i64 B] 24) = w22 at hb hx ⊢
      generalize hn : w21.heap.size = nt at hx ⊢
      have BXt_22 := Lib.hid hx; clear hx hn
      have HB22 := Lib.hid (bel_trans hb HB21.out); clear HB21
      have BXc_22 := Lib.hid (BXc_21.out.keep hb); clear BXc_21
      have BXm_22 := Lib.hid (BXm_21.out.keep hb); clear BXm_21
      have BXs_22 := Lib.hid (BXs_21.out.keep hb); clear BXs_21
      clear hb
      refine (HM3.out _).mono ?_
      rintro e w23 ⟨rfl, hb⟩
      have HB23 := Lib.hid (bel_trans hb HB22.out); clear HB22
      have BXc_23 := Lib.hid (BXc_22.out.keep hb); clear BXc_22
      have BXm_23 := Lib.hid (BXm_22.out.keep hb); clear BXm_22
      have BXs_23 := Lib.hid (BXs_22.out.keep hb); clear BXs_22
      have BXt_23 := Lib.hid (BXt_22.out.keep hb); clear BXt_22
      clear hb
      obtain ⟨cc0, cc5, cc6⟩ := BXc_23.out
      obtain ⟨cm0, cm5, cm6⟩ := BXm_23.out
      obtain ⟨cs0, cs5, cs6⟩ := BXs_23.out
      obtain ⟨ct0, ct5, ct6⟩ := BXt_23.out
      go_wp2_with fail
      clear cc0 cc5 cc6
      clear cm0 cm5 cm6
      clear cs0 cs5 cs6
      clear ct0 ct5 ct6
      go_ret
      exact ret_eq (by rfl) HB23.out
    · skip
      obtain rfl : nb = true := by rw [← hnb]; rfl
      clear hnb
      have hSl : (SS.toList == [73, 48]) = false := by have h9 := str_neR hS; simpa using h9
      have hSm : SS.toList ≠ [73, 48] := by simpa using hSl
      have g1 : (V == 0) = false := by simp; omega
      have g2 : ¬ V < 1 := by omega
      have g3 : ¬ V = 0 := by omega
      clear hS
      obtain ⟨y1, y2, y3, y4, y5, y6⟩ := node_wraps (A := A) (B := B) hpb.1 hpb.2 x0 x1 a0 a1 b0 b1
      have hp0 : ¬ p = 0 := by omega
      have hp0b : (p == 0) = false := by simp; omega
      have HY := Lib.hid (And.intro r1 (And.intro r2 (And.intro y1 (And.intro y2 (And.intro y3 (And.intro y4 (And.intro y5 y6)))))))
      clear r1 r2 y1 y2 y3 y4 y5 y6 a0 a1 b0 b1 x0 x1
      rcases hend with ⟨rfl, m5⟩ | ⟨rfl, m5⟩
      · skip
        have HM5 := Lib.hid m5; clear m5
        obtain ⟨cc0, cc5, cc6⟩ := BXc_19.out
        obtain ⟨cm0, cm5, cm6⟩ := BXm_19.out
        obtain ⟨cs0, cs5, cs6⟩ := BXs_19.out
        go_wp2_with fail
        clear cc0 cc5 cc6
        clear cm0 cm5 cm6
        clear cs0 cs5 cs6
        refine (HM1.out _).mono ?_
        rintro e w20 ⟨rfl, hb⟩
        have HB20 := Lib.hid (bel_trans hb HB19.out); clear HB19
        have BXc_20 := Lib.hid (BXc_19.out.keep hb); clear BXc_19
        have BXm_20 := Lib.hid (BXm_19.out.keep hb); clear BXm_19
        have BXs_20 := Lib.hid (BXs_19.out.keep hb); clear BXs_19
        clear hb
        obtain ⟨cc0, cc5, cc6⟩ := BXc_20.out
        obtain ⟨cm0, cm5, cm6⟩ := BXm_20.out
        obtain ⟨cs0, cs5, cs6⟩ := BXs_20.out
        go_wp2_with fail
        clear cc0 cc5 cc6
        clear cm0 cm5 cm6
        clear cs0 cs5 cs6
        refine (HM2.out _).mono ?_
        rintro e w21 ⟨rfl, hb⟩
        have HB21 := Lib.hid (bel_trans hb HB20.out); clear HB20
        have BXc_21 := Lib.hid (BXc_20.out.keep hb); clear BXc_20
        have BXm_21 := Lib.hid (BXm_20.out.keep hb); clear BXm_20
        have BXs_21 := Lib.hid (BXs_20.out.keep hb); clear BXs_20
        clear hb
        obtain ⟨cc0, cc5, cc6⟩ := BXc_21.out
        obtain ⟨cm0, cm5, cm6⟩ := BXm_21.out
        obtain ⟨cs0, cs5, cs6⟩ := BXs_21.out
        go_wp2_with fail
        clear cc0 cc5 cc6
        clear cm0 cm5 cm6
        clear cs0 cs5 cs6
        have hb : Below w21.heap.size w21 (w21.alloc (.cells #[.int .i64 A, .int .i64 B] 24)) := below_allocD _ _
        have hx := BxR.new A B w21 24
        generalize w21.alloc (.cells #[.int .i64 A, .int .i64 B] 24) = w22 at hb hx ⊢
        generalize hn : w21.heap.size = nt at hx ⊢
        have BXt_22 := Lib.hid hx; clear hx hn
        have HB22 := Lib.hid (bel_trans hb HB21.out); clear HB21
        have BXc_22 := Lib.hid (BXc_21.out.keep hb); clear BXc_21
        have BXm_22 := Lib.hid (BXm_21.out.keep hb); clear BXm_21
        have BXs_22 := Lib.hid (BXs_21.out.keep hb); clear BXs_21
        clear hb
        refine (HM3.out _).mono ?_
        rintro e w23 ⟨rfl, hb⟩
        have HB23 := Lib.hid (bel_trans hb HB22.out); clear HB22
        have BXc_23 := Lib.hid (BXc_22.out.keep hb); clear BXc_22
        have BXm_23 := Lib.hid (BXm_22.out.keep hb); clear BXm_22
        have BXs_23 := Lib.hid (BXs_22.out.keep hb); clear BXs_22
        have BXt_23 := Lib.hid (BXt_22.out.keep hb); clear BXt_22
        clear hb
        obtain ⟨cc0, cc5, cc6⟩ := BXc_23.out
        obtain ⟨cm0, cm5, cm6⟩ := BXm_23.out
        obtain ⟨cs0, cs5, cs6⟩ := BXs_23.out
        obtain ⟨ct0, ct5, ct6⟩ := BXt_23.out
        go_wp2_with fail
        clear cc0 cc5 cc6
        clear cm0 cm5 cm6
        clear cs0 cs5 cs6
        clear ct0 ct5 ct6
        obtain ⟨r1, r2, y1, y2, y3, y4, y5, y6⟩ := HY.out
        obtain ⟨cc0, cc5, cc6⟩ := BXc_23.out
        obtain ⟨cm0, cm5, cm6⟩ := BXm_23.out
        obtain ⟨cs0, cs5, cs6⟩ := BXs_23.out
        obtain ⟨ct0, ct5, ct6⟩ := BXt_23.out
        go_quiet (fail)
        go_wp2_with fail
        go_quiet (fail)
        go_wp2_with fail
        clear cc0 cc5 cc6
        clear cm0 cm5 cm6
        clear cs0 cs5 cs6
        clear ct0 ct5 ct6
        clear r1 r2 y1 y2 y3 y4 y5 y6
        refine calls_gen ?_; intro V' hV'
        have HB24 : Hid (Below w.heap.size w V') := Lib.hid (by rw [← hV']; exact bel_drewN HB23.out _)
        clear hV' HB23
        clear BXc_23
        clear BXm_23
        clear BXs_23
        clear BXt_23
        refine (HM5.out _).mono ?_
        rintro e w25 ⟨rfl, hb⟩
        have HB25 := Lib.hid (bel_trans hb HB24.out); clear HB24
        clear hb
        go_wp2_with fail
        go_ret
        exact ret_eq (by rfl) HB25.out
      · skip
        have HM5 := Lib.hid m5; clear m5
        obtain ⟨cc0, cc5, cc6⟩ := BXc_19.out
        obtain ⟨cm0, cm5, cm6⟩ := BXm_19.out
        obtain ⟨cs0, cs5, cs6⟩ := BXs_19.out
        go_wp2_with fail
        clear cc0 cc5 cc6
        clear cm0 cm5 cm6
        clear cs0 cs5 cs6
        refine (HM1.out _).mono ?_
        rintro e w20 ⟨rfl, hb⟩
        have HB20 := Lib.hid (bel_trans hb HB19.out); clear HB19
        have BXc_20 := Lib.hid (BXc_19.out.keep hb); clear BXc_19
        have BXm_20 := Lib.hid (BXm_19.out.keep hb); clear BXm_19
        have BXs_20 := Lib.hid (BXs_19.out.keep hb); clear BXs_19
        clear hb
        obtain ⟨cc0, cc5, cc6⟩ := BXc_20.out
        obtain ⟨cm0, cm5, cm6⟩ := BXm_20.out
        obtain ⟨cs0, cs5, cs6⟩ := BXs_20.out
        go_wp2_with fail
        clear cc0 cc5 cc6
        clear cm0 cm5 cm6
        clear cs0 cs5 cs6
        refine (HM2.out _).mono ?_
        rintro e w21 ⟨rfl, hb⟩
        have HB21 := Lib.hid (bel_trans hb HB20.out); clear HB20
        have BXc_21 := Lib.hid (BXc_20.out.keep hb); clear BXc_20
        have BXm_21 := Lib.hid (BXm_20.out.keep hb); clear BXm_20
        have BXs_21 := Lib.hid (BXs_20.out.keep hb); clear BXs_20
        clear hb
        obtain ⟨cc0, cc5, cc6⟩ := BXc_21.out
        obtain ⟨cm0, cm5, cm6⟩ := BXm_21.out
        obtain ⟨cs0, cs5, cs6⟩ := BXs_21.out
        go_wp2_with fail
        clear cc0 cc5 cc6
        clear cm0 cm5 cm6
        clear cs0 cs5 cs6
        have hb : Below w21.heap.size w21 (w21.alloc (.cells #[.int .i64 A, .int .i64 B] 24)) := below_allocD _ _
        have hx := BxR.new A B w21 24
        generalize w21.alloc (.cells #[.int .i64 A, .int .i64 B] 24) = w22 at hb hx ⊢
        generalize hn : w21.heap.size = nt at hx ⊢
        have BXt_22 := Lib.hid hx; clear hx hn
        have HB22 := Lib.hid (bel_trans hb HB21.out); clear HB21
        have BXc_22 := Lib.hid (BXc_21.out.keep hb); clear BXc_21
        have BXm_22 := Lib.hid (BXm_21.out.keep hb); clear BXm_21
        have BXs_22 := Lib.hid (BXs_21.out.keep hb); clear BXs_21
        clear hb
        refine (HM3.out _).mono ?_
        rintro e w23 ⟨rfl, hb⟩
        have HB23 := Lib.hid (bel_trans hb HB22.out); clear HB22
        have BXc_23 := Lib.hid (BXc_22.out.keep hb); clear BXc_22
        have BXm_23 := Lib.hid (BXm_22.out.keep hb); clear BXm_22
        have BXs_23 := Lib.hid (BXs_22.out.keep hb); clear BXs_22
        have BXt_23 := Lib.hid (BXt_22.out.keep hb); clear BXt_22
        clear hb
        obtain ⟨cc0, cc5, cc6⟩ := BXc_23.out
        obtain ⟨cm0, cm5, cm6⟩ := BXm_23.out
        obtain ⟨cs0, cs5, cs6⟩ := BXs_23.out
        obtain ⟨ct0, ct5, ct6⟩ := BXt_23.out
        go_wp2_with fail
        clear cc0 cc5 cc6
        clear cm0 cm5 cm6
        clear cs0 cs5 cs6
        clear ct0 ct5 ct6
        obtain ⟨r1, r2, y1, y2, y3, y4, y5, y6⟩ := HY.out
        obtain ⟨cc0, cc5, cc6⟩ := BXc_23.out
        obtain ⟨cm0, cm5, cm6⟩ := BXm_23.out
        obtain ⟨cs0, cs5, cs6⟩ := BXs_23.out
        obtain ⟨ct0, ct5, ct6⟩ := BXt_23.out
        go_quiet (fail)
        go_wp2_with fail
        go_quiet (fail)
        go_wp2_with fail
        clear cc0 cc5 cc6
        clear cm0 cm5 cm6
        clear cs0 cs5 cs6
        clear ct0 ct5 ct6
        clear r1 r2 y1 y2 y3 y4 y5 y6
        refine calls_gen ?_; intro V' hV'
        have HB24 : Hid (Below w.heap.size w V') := Lib.hid (by rw [← hV']; exact bel_drewN HB23.out _)
        clear hV' HB23
        clear BXc_23
        clear BXm_23
        clear BXs_23
        clear BXt_23
        refine (HM5.out _).mono ?_
        rintro e w25 ⟨rfl, hb⟩
        have HB25 := Lib.hid (bel_trans hb HB24.out); clear HB24
        clear hb
        go_wp2_with fail
        go_ret
        exact ret_eq (by rfl) HB25.out
end Go.Proofs.YtpigaahgmbladaaDoor.fnReduction
