/- Qd: contract: the program's reader of a point's text. No conditions. -/
import Derived.Test.YtadijbaphfgeiaaDoorQc
namespace Go.Proofs.YtadijbaphfgeiaaDoor
open Go.RowKit

/-- a box of three values that may be written. -/
def R3 (B : Nat) (x y z : Value) (w : World) : Prop := B < w.heap.size ∧ w.cell? ⟨B, 0, none⟩ = some x ∧ w.cell? ⟨B, 1, none⟩ = some y ∧ w.cell? ⟨B, 2, none⟩ = some z ∧ w.frozen? ⟨B, 0, none⟩ = false ∧ w.frozen? ⟨B, 1, none⟩ = false ∧ w.frozen? ⟨B, 2, none⟩ = false
theorem R3.keep {B : Nat} {x y z : Value} {w w' : World} (h : R3 B x y z w) (hb : Below w.heap.size w w') : R3 B x y z w' := by
  obtain ⟨h0, h1, h2, h3, h4, h5, h6⟩ := h
  exact ⟨Nat.lt_of_lt_of_le h0 hb.size, (hb.cell (p := ⟨B, 0, none⟩) h0).trans h1, (hb.cell (p := ⟨B, 1, none⟩) h0).trans h2, (hb.cell (p := ⟨B, 2, none⟩) h0).trans h3, (hb.frozen (p := ⟨B, 0, none⟩) h0).trans h4, (hb.frozen (p := ⟨B, 1, none⟩) h0).trans h5, (hb.frozen (p := ⟨B, 2, none⟩) h0).trans h6⟩
theorem R3.mk (w : World) (x y z : Value) (t : TypeId) : R3 w.heap.size x y z (w.alloc (.cells #[x, y, z] t)) := ⟨by simp, by simp [go_sem], by simp [go_sem], by simp [go_sem], by simp [go_sem], by simp [go_sem], by simp [go_sem]⟩
theorem R3.set {B : Nat} {x y z u v t : Value} {w : World} (h : R3 B x y z w) : R3 B u v t (((w.setCell ⟨B, 0, none⟩ u).setCell ⟨B, 1, none⟩ v).setCell ⟨B, 2, none⟩ t) := by
  obtain ⟨h0, h1, h2, h3, h4, h5, h6⟩ := h
  exact ⟨by simp [h0], by simp [go_sem, *], by simp [go_sem, *], by simp [go_sem, *], by simp [go_sem, *], by simp [go_sem, *], by simp [go_sem, *]⟩
noncomputable def ppV (a b : Int) (s : ByteArray) (n1 n2 e : Int) (ok1 ok2 ok3 : Bool) : Value :=
  if ok1 = true ∧ ok2 = true ∧ ok3 = true ∧ pointB a b n1 n2 e = true ∧ ptT n1 n2 e = s then .tuple #[.agg #[.int .i64 n1, .int .i64 n2, .int .i64 e], .bool true] else .tuple #[.agg #[.int .i64 0, .int .i64 0, .int .i64 0], .bool false]
theorem parsePoint_O (a b : Int) (w : World) : Calls Tryd.prog 17 #[.agg #[.int .i64 a, .int .i64 b], .string ⟨#[79]⟩] w (Ret (.tuple #[.agg #[.int .i64 0, .int .i64 0, .int .i64 0], .bool true]) w) := by
  have hO : ((⟨#[79]⟩ : ByteArray).toList == (⟨#[79]⟩ : ByteArray).toList) = true := by simp
  go_enter Tryd.func17, Tryd.ntmps17
  go_wp2_with fail
  refine bodyPost_ret (by simp (maxDischargeDepth := 3) [results, Tryd.results17, go_sem, *]; try rfl) rfl ?_
  exact ret_eq (by rfl) (by repeat (first | exact Below.refl _ _ | (with_reducible assumption) | refine bel_alloc ?_ _ | refine bel_drew ?_ | refine bel_drewN ?_ _ | refine Below.setCell ?_ (by dsimp only; omega) _ | refine bel_trans (by assumption) ?_))
set_option maxHeartbeats 8000000 in
theorem parsePoint_run (a b : Int) (s X Y : ByteArray) (n1 d1 n2 d2 e : Int) (ok1 ok2 ok3 : Bool) (w : World) (hs : s.size ≤ 1048576) (hO : s ≠ ⟨#[79]⟩)
    (hX : (⟨(Lib.cut (Lib.trimSuffix (Lib.trimPrefix s.data.toList [40]) [41]) [44]).1.toArray⟩ : ByteArray) = X) (hY : (⟨(Lib.cut (Lib.trimSuffix (Lib.trimPrefix s.data.toList [40]) [41]) [44]).2.1.toArray⟩ : ByteArray) = Y)
    (hfx : fpV X = .tuple #[.agg #[.int .i64 n1, .int .i64 d1], .bool ok1]) (hfy : fpV Y = .tuple #[.agg #[.int .i64 n2, .int .i64 d2], .bool ok2])
    (hroot : ∀ w, Calls Tryd.prog 36 #[.int .i64 d1] w (Ret (.tuple #[.int .i64 e, .bool ok3]) w)) (ht : LibT w) :
    Calls Tryd.prog 17 #[.agg #[.int .i64 a, .int .i64 b], .string s] w (Ret (ppV a b s n1 n2 e ok1 ok2 ok3) w) := by
  have hOs : (s.toList == [79]) = false := by
    have h9 := str_ne hO
    simpa using h9
  have hl : s.data.toList.length = s.size := by simp
  have l1 := trimP_len s.data.toList [40]
  have l2 := trimS_len (Lib.trimPrefix s.data.toList [40]) [41]
  obtain ⟨c1, c2⟩ := cut_size (Lib.trimSuffix (Lib.trimPrefix s.data.toList [40]) [41]) 44
  have x1 : X.size ≤ 1048576 := by rw [← hX]; show (Lib.cut _ [44]).1.toArray.size ≤ _; rw [List.size_toArray]; omega
  have y1 : Y.size ≤ 1048576 := by rw [← hY]; show (Lib.cut _ [44]).2.1.toArray.size ≤ _; rw [List.size_toArray]; omega
  have t1 : ∀ w, Calls Tryd.prog 34 #[.string s, .string ⟨#[40]⟩] w (fun e w' => e = .returned (.string ⟨(Lib.trimPrefix s.data.toList [40]).toArray⟩) ∧ w' = w) := fun w => Tryd.strings_TrimPrefix s ⟨#[40]⟩ w
  have t2 : ∀ w, Calls Tryd.prog 33 #[.string ⟨(Lib.trimPrefix s.data.toList [40]).toArray⟩, .string ⟨#[41]⟩] w (fun e w' => e = .returned (.string ⟨(Lib.trimSuffix (Lib.trimPrefix s.data.toList [40]) [41]).toArray⟩) ∧ w' = w) := fun w => Tryd.strings_TrimSuffix ⟨(Lib.trimPrefix s.data.toList [40]).toArray⟩ ⟨#[41]⟩ w (by show (Lib.trimPrefix s.data.toList [40]).toArray.size ≤ _; rw [List.size_toArray]; omega)
  have t3 := fun w h => cut_any ⟨(Lib.trimSuffix (Lib.trimPrefix s.data.toList [40]) [41]).toArray⟩ 44 w (by show (Lib.trimSuffix (Lib.trimPrefix s.data.toList [40]) [41]).toArray.size ≤ _; rw [List.size_toArray]; omega) h
  simp only at t3
  rw [hX, hY] at t3
  generalize (Lib.cut (Lib.trimSuffix (Lib.trimPrefix s.data.toList [40]) [41]) [44]).2.2 = f at t3
  clear hX hY c1 c2
  generalize (⟨(Lib.trimSuffix (Lib.trimPrefix s.data.toList [40]) [41]).toArray⟩ : ByteArray) = S2 at *
  generalize (⟨(Lib.trimPrefix s.data.toList [40]).toArray⟩ : ByteArray) = S1 at *
  clear l1 l2 hl
  have px := fun w h => parseFraction_any X w x1 h
  have py := fun w h => parseFraction_any Y w y1 h
  rw [hfx] at px
  rw [hfy] at py
  clear hfx hfy x1 y1
  have T1 := Lib.hid t1; clear t1
  have T2 := Lib.hid t2; clear t2
  have T3 := Lib.hid t3; clear t3
  have PX := Lib.hid px; clear px
  have PY := Lib.hid py; clear py
  have RT := Lib.hid hroot; clear hroot
  have HT := Lib.hid ht; clear ht
  clear hO hs
  go_enter Tryd.func17, Tryd.ntmps17
  go_wp2_with fail
  have hbW : Below w.heap.size w ((w.alloc (.cells #[.int .i64 a, .int .i64 b] 23)).alloc (.cells #[.int .i64 0, .int .i64 0, .int .i64 0] 30)) := bel_alloc (bel_alloc (Below.refl _ _) _) _
  have RC0 := Lib.hid ((RV.mk w (.int .i64 a) (.int .i64 b) 23).keep (bel_alloc (Below.refl _ _) (.cells #[.int .i64 0, .int .i64 0, .int .i64 0] 30)))
  have RR0 := Lib.hid (show R3 (w.heap.size + 1) (.int .i64 0) (.int .i64 0) (.int .i64 0) _ by have h9 := R3.mk (w.alloc (.cells #[.int .i64 a, .int .i64 b] 23)) (.int .i64 0) (.int .i64 0) (.int .i64 0) 30; simpa using h9)
  generalize (w.alloc (.cells #[.int .i64 a, .int .i64 b] 23)).alloc (.cells #[.int .i64 0, .int .i64 0, .int .i64 0] 30) = W at *
  obtain ⟨R, hR⟩ : ∃ R, w.heap.size + 1 = R := ⟨_, rfl⟩
  rw [hR] at RR0 ⊢
  obtain ⟨C, hC⟩ : ∃ C, w.heap.size = C := ⟨_, rfl⟩
  rw [hC] at RC0 ⊢
  have HLE := Lib.hid (show w.heap.size ≤ R by omega)
  clear hR hC
  have HW := Lib.hid hbW; clear hbW
  refine (T1.out _).mono ?_; rintro ee w' ⟨rfl, rfl⟩
  go_wp2_with fail
  refine (T2.out _).mono ?_; rintro ee w' ⟨rfl, rfl⟩
  go_wp2_with fail
  refine (T3.out _ (HT.out.keep HW.out)).mono ?_; rintro ee w1 ⟨rfl, hb1⟩
  have RC1 := Lib.hid (RC0.out.keep hb1)
  have RR1 := Lib.hid (RR0.out.keep hb1)
  have H1 := Lib.hid (bel_trans hb1 HW.out)
  clear hb1 RC0 RR0 HW T1 T2 T3
  go_wp2_with fail
  refine (PX.out _ (HT.out.keep H1.out)).mono ?_; rintro ee w2 ⟨rfl, hb2⟩
  have RC2 := Lib.hid (RC1.out.keep hb2)
  have RR2 := Lib.hid (RR1.out.keep hb2)
  have H2 := Lib.hid (bel_trans hb2 H1.out)
  clear hb2 RC1 RR1 H1 PX
  go_wp2_with fail
  have RX3 := Lib.hid (RV.mk w2 (.int .i64 n1) (.int .i64 d1) 52)
  have RC3 := Lib.hid (RC2.out.keep (bel_alloc (Below.refl _ _) (.cells #[.int .i64 n1, .int .i64 d1] 52)))
  have RR3 := Lib.hid (RR2.out.keep (bel_alloc (Below.refl _ _) (.cells #[.int .i64 n1, .int .i64 d1] 52)))
  have H3 := Lib.hid (bel_alloc H2.out (.cells #[.int .i64 n1, .int .i64 d1] 52))
  clear RC2 RR2 H2
  generalize w2.alloc (.cells #[.int .i64 n1, .int .i64 d1] 52) = w3 at *
  generalize w2.heap.size = FX at *
  refine (PY.out _ (HT.out.keep H3.out)).mono ?_; rintro ee w4 ⟨rfl, hb4⟩
  have RX4 := Lib.hid (RX3.out.keep hb4)
  have RC4 := Lib.hid (RC3.out.keep hb4)
  have RR4 := Lib.hid (RR3.out.keep hb4)
  have H4 := Lib.hid (bel_trans hb4 H3.out)
  clear hb4 RX3 RC3 RR3 H3 PY
  obtain ⟨q0, q1, q2, -, -⟩ := RX4.out
  have qn : ¬ FX = w4.heap.size := by omega
  have qn' : ¬ w4.heap.size = FX := by omega
  go_wp2_with fail
  clear q0 q1 q2 qn qn'
  have RY5 := Lib.hid (RV.mk w4 (.int .i64 n2) (.int .i64 d2) 52)
  have RX5 := Lib.hid (RX4.out.keep (bel_alloc (Below.refl _ _) (.cells #[.int .i64 n2, .int .i64 d2] 52)))
  have RC5 := Lib.hid (RC4.out.keep (bel_alloc (Below.refl _ _) (.cells #[.int .i64 n2, .int .i64 d2] 52)))
  have RR5 := Lib.hid (RR4.out.keep (bel_alloc (Below.refl _ _) (.cells #[.int .i64 n2, .int .i64 d2] 52)))
  have H5 := Lib.hid (bel_alloc H4.out (.cells #[.int .i64 n2, .int .i64 d2] 52))
  clear RX4 RC4 RR4 H4
  generalize w4.alloc (.cells #[.int .i64 n2, .int .i64 d2] 52) = w5 at *
  generalize w4.heap.size = FY at *
  refine (RT.out _).mono ?_; rintro ee w6 ⟨rfl, hb6⟩
  have RX6 := Lib.hid (RX5.out.keep hb6)
  have RY6 := Lib.hid (RY5.out.keep hb6)
  have RC6 := Lib.hid (RC5.out.keep hb6)
  have RR6 := Lib.hid (RR5.out.keep hb6)
  have H6 := Lib.hid (bel_trans hb6 H5.out)
  clear hb6 RX5 RY5 RC5 RR5 H5 RT
  have RP7 := Lib.hid (R3.mk w6 (.int .i64 n1) (.int .i64 n2) (.int .i64 e) 30)
  have RC7 := Lib.hid (RC6.out.keep (bel_alloc (Below.refl _ _) (.cells #[.int .i64 n1, .int .i64 n2, .int .i64 e] 30)))
  have RR7 := Lib.hid (RR6.out.keep (bel_alloc (Below.refl _ _) (.cells #[.int .i64 n1, .int .i64 n2, .int .i64 e] 30)))
  have H7 := Lib.hid (bel_alloc H6.out (.cells #[.int .i64 n1, .int .i64 n2, .int .i64 e] 30))
  obtain ⟨q0, q1, q2, -, -⟩ := RX6.out
  obtain ⟨p0, p1, p2, -, -⟩ := RY6.out
  obtain ⟨r0, r1, r2, r3, r4, r5, r6⟩ := RR6.out
  obtain ⟨s0, s1, s2, -, -⟩ := RC6.out
  have rn : ¬ R = w6.heap.size := by omega
  have rn' : ¬ w6.heap.size = R := by omega
  have sn : ¬ C = w6.heap.size := by omega
  have sn' : ¬ w6.heap.size = C := by omega
  cases ok1
  · go_wp2_with fail
    refine bodyPost_ret (by simp (maxDischargeDepth := 3) [results, Tryd.results17, go_sem, *]; try rfl) rfl ?_
    exact ret_eq (by unfold ppV; rw [if_neg (by simp)]) (bel_alloc (bel_set (bel_set (bel_set H6.out HLE.out _) HLE.out _) HLE.out _) _)
  cases ok2
  · go_wp2_with fail
    refine bodyPost_ret (by simp (maxDischargeDepth := 3) [results, Tryd.results17, go_sem, *]; try rfl) rfl ?_
    exact ret_eq (by unfold ppV; rw [if_neg (by simp)]) (bel_alloc (bel_set (bel_set (bel_set H6.out HLE.out _) HLE.out _) HLE.out _) _)
  cases ok3
  · go_wp2_with fail
    refine bodyPost_ret (by simp (maxDischargeDepth := 3) [results, Tryd.results17, go_sem, *]; try rfl) rfl ?_
    exact ret_eq (by unfold ppV; rw [if_neg (by simp)]) (bel_alloc (bel_set (bel_set (bel_set H6.out HLE.out _) HLE.out _) HLE.out _) _)
  clear RX6 RY6 RC6 RR6
  cases hpt : pointB a b n1 n2 e
  · go_wp2_with fail
    clear q0 q1 q2 p0 p1 p2 r0 r1 r2 r3 r4 r5 r6 s0 s1 s2 rn rn' sn sn'
    generalize w6.alloc (.cells #[.int .i64 n1, .int .i64 n2, .int .i64 e] 30) = w7 at *
    refine (isPoint_any _ _ _ _ _ _).mono ?_; rintro ee w8 ⟨rfl, hb8⟩
    rw [hpt]
    have H8 := Lib.hid (bel_trans hb8 H7.out)
    obtain ⟨r0, r1, r2, r3, r4, r5, r6⟩ := RR7.out.keep hb8
    clear hb8 RR7 RC7 RP7 H7
    go_wp2_with fail
    refine bodyPost_ret (by simp (maxDischargeDepth := 3) [results, Tryd.results17, go_sem, *]; try rfl) rfl ?_
    exact ret_eq (by unfold ppV; rw [hpt, if_neg (by simp)]) (bel_set (bel_set (bel_set H8.out HLE.out _) HLE.out _) HLE.out _)
  · obtain ⟨k1, k2, k3, k4, k5, k6, _⟩ := pointB_bd hpt
    have hn := fun w => pointText_any n1 n2 e w k1 k2 k5 k6 k3 k4
    have hv : ∀ T, ptT n1 n2 e = T → ppV a b s n1 n2 e true true true = if T = s then .tuple #[.agg #[.int .i64 n1, .int .i64 n2, .int .i64 e], .bool true] else .tuple #[.agg #[.int .i64 0, .int .i64 0, .int .i64 0], .bool false] := by
      rintro T rfl
      unfold ppV
      rw [hpt]
      simp
    have hv2 := hv _ rfl
    clear hv
    generalize ptT n1 n2 e = T at *
    have HN := Lib.hid hn; clear hn k1 k2 k3 k4 k5 k6
    have HV := Lib.hid hv2; clear hv2
    go_wp2_with fail
    clear q0 q1 q2 p0 p1 p2 r0 r1 r2 r3 r4 r5 r6 s0 s1 s2 rn rn' sn sn'
    generalize w6.alloc (.cells #[.int .i64 n1, .int .i64 n2, .int .i64 e] 30) = w7 at *
    generalize w6.heap.size = PB at *
    refine (isPoint_any _ _ _ _ _ _).mono ?_; rintro ee w8 ⟨rfl, hb8⟩
    rw [hpt]
    clear hpt
    have H8 := Lib.hid (bel_trans hb8 H7.out)
    have RP8 := Lib.hid (RP7.out.keep hb8)
    have RR8 := Lib.hid (RR7.out.keep hb8)
    clear hb8 RR7 RC7 RP7 H7
    obtain ⟨q0, q1, q2, q3, -, -, -⟩ := RP8.out
    go_wp2_with fail
    clear q0 q1 q2 q3
    refine (HN.out _ (HT.out.keep H8.out).1).mono ?_; rintro ee w9 ⟨rfl, hb9⟩
    have H9 := Lib.hid (bel_trans hb9 H8.out)
    obtain ⟨q0, q1, q2, q3, -, -, -⟩ := RP8.out.keep hb9
    obtain ⟨r0, r1, r2, r3, r4, r5, r6⟩ := RR8.out.keep hb9
    clear hb9 RP8 RR8 H8
    by_cases hT : T = s
    · subst hT
      go_wp2_with fail
      refine bodyPost_ret (by simp (maxDischargeDepth := 3) [results, Tryd.results17, go_sem, *]; try rfl) rfl ?_
      exact ret_eq (by first | rw [HV.out, if_pos rfl] | rw [HV.out, if_pos trivial]) (bel_set (bel_set (bel_set H9.out HLE.out _) HLE.out _) HLE.out _)
    · have hTs := str_ne hT
      go_wp2_with fail
      refine bodyPost_ret (by simp (maxDischargeDepth := 3) [results, Tryd.results17, go_sem, *]; try rfl) rfl ?_
      exact ret_eq (by rw [HV.out, if_neg hT]) (bel_set (bel_set (bel_set H9.out HLE.out _) HLE.out _) HLE.out _)
end Go.Proofs.YtadijbaphfgeiaaDoor
