/- Qb: contract: the program's reader of a fraction's text. No conditions. -/
import Derived.Test.YtadijbaphfgeiaaDoorQa
namespace Go.Proofs.YtadijbaphfgeiaaDoor
open Go.RowKit

theorem indexByte_no {b : UInt8} : ∀ {l : List UInt8}, b ∉ l → Lib.indexByte l b = -1
  | [], _ => rfl
  | c :: l, h => by
    rw [List.mem_cons, not_or] at h
    have e : (c == b) = false := beq_eq_false_iff_ne.2 (fun e => h.1 e.symm)
    unfold Lib.indexByte
    rw [indexByte_no h.2, e]
    simp
theorem cut_no {b : UInt8} {l : List UInt8} (h : b ∉ l) : Lib.cut l [b] = (l, [], false) := by
  unfold Lib.cut
  rw [Lib.index_one, indexByte_no h, if_neg (by decide)]
set_option maxHeartbeats 4000000 in
theorem parseFraction_yes (n d : Int) (w : World) (hc : fracB n d = true) (ht : LibT w) :
    Calls Tryd.prog 35 #[.string (frT n d)] w (Ret (.tuple #[.agg #[.int .i64 n, .int .i64 d], .bool true]) w) := by
  obtain ⟨h1, h2, h3, h4⟩ := frac_bd hc
  have hz := frT_len hc
  have hcut := fun w h => cut_any (frT n d) 47 w (by omega) h
  have e1 : (⟨(intS n).data.toList.toArray⟩ : ByteArray) = intS n := by simp
  have e2 : (⟨(intS d).data.toList.toArray⟩ : ByteArray) = intS d := by simp
  have ha := fun w h => atoi_yes10 (n := n) (by omega) (by omega) w h
  have hb := fun w h => atoi_yes10 (n := d) (by omega) (by omega) w h
  have hn := fun w => fractionText_any n d w h3 h4 h1 h2
  have hr := fun w => isFraction_any n d w
  rw [hc] at hr
  rw [frT_list] at hcut
  have HT := Lib.hid ht; clear ht
  have HA := Lib.hid ha; clear ha
  have HB := Lib.hid hb; clear hb
  have HN := Lib.hid hn; clear hn
  have HR := Lib.hid hr; clear hr
  clear hz hc h1 h2 h3 h4
  by_cases hd : d = 1
  · rw [if_pos hd, cut_no (no47 n)] at hcut
    simp only [e1] at hcut
    have HCUT := Lib.hid hcut; clear hcut
    clear e1 e2 HB
    generalize frT n d = T at *
    generalize intS n = X at *
    subst hd
    go_enter Tryd.func35, Tryd.ntmps35
    go_wp2_with fail
    have hbW : Below w.heap.size w (w.alloc (.cells #[.int .i64 0, .int .i64 0] 52)) := bel_alloc (Below.refl _ _) _
    have RB0 := Lib.hid (RV.mk w (.int .i64 0) (.int .i64 0) 52)
    generalize w.alloc (.cells #[.int .i64 0, .int .i64 0] 52) = W at *
    obtain ⟨B0, hB0⟩ : ∃ B0, w.heap.size = B0 := ⟨_, rfl⟩
    rw [hB0] at RB0 ⊢
    have hle : w.heap.size ≤ B0 := by rw [hB0]; exact Nat.le_refl _
    have HLE := Lib.hid hle; clear hB0 hle
    have HW := Lib.hid hbW; clear hbW
    refine (HCUT.out _ (HT.out.keep HW.out)).mono ?_; rintro e w1 ⟨rfl, hb1⟩
    have RB1 := Lib.hid (RB0.out.keep hb1)
    have H1 := Lib.hid (bel_trans hb1 HW.out); clear hb1
    go_wp2_with fail
    refine (HA.out _ (HT.out.keep H1.out)).mono ?_; rintro e w2 ⟨rfl, hb2⟩
    have RB3 := Lib.hid (RB1.out.keep hb2)
    have H3 := Lib.hid (bel_trans hb2 H1.out); clear hb2 RB1 H1
    have RV4 := Lib.hid (RV.mk w2 (.int .i64 n) (.int .i64 1) 52)
    have RB4 := Lib.hid (RB3.out.keep (bel_alloc (Below.refl _ _) (.cells #[.int .i64 n, (.int .i64 1)] 52)))
    have H4 := Lib.hid (bel_alloc H3.out (.cells #[.int .i64 n, (.int .i64 1)] 52))
    clear RB3
    go_wp2_with fail
    generalize w2.alloc (.cells #[.int .i64 n, (.int .i64 1)] 52) = w4 at *
    generalize w2.heap.size = B at *
    refine (HR.out _).mono ?_; rintro e w5 ⟨rfl, hb5⟩
    have RV5 := Lib.hid (RV4.out.keep hb5)
    have RB5 := Lib.hid (RB4.out.keep hb5)
    have H5 := Lib.hid (bel_trans hb5 H4.out); clear hb5 RV4 RB4 H4
    obtain ⟨q0, q1, q2, q3, q4⟩ := RV5.out
    go_wp2_with fail
    refine (HN.out _ (HT.out.keep H5.out).1).mono ?_; rintro e w6 ⟨rfl, hb6⟩
    have H6 := Lib.hid (bel_trans hb6 H5.out)
    clear q0 q1 q2 q3 q4
    obtain ⟨q0, q1, q2, q3, q4⟩ := RV5.out.keep hb6
    obtain ⟨t0, t1, t2, t3, t4⟩ := RB5.out.keep hb6
    clear hb6 RV5 RB5 H5
    go_wp2_with fail
    refine bodyPost_ret (by simp (maxDischargeDepth := 3) [results, Tryd.results35, go_sem, *]; try rfl) rfl ?_
    exact ret_eq (by rfl) (Below.setCell (Below.setCell H6.out HLE.out _) HLE.out _)
  · rw [if_neg hd, cut_two _ (no47 n)] at hcut
    simp only [e1, e2] at hcut
    have HCUT := Lib.hid hcut; clear hcut
    clear e1 e2
    generalize frT n d = T at *
    generalize intS n = X at *
    generalize intS d = Y at *
    go_enter Tryd.func35, Tryd.ntmps35
    go_wp2_with fail
    have hbW : Below w.heap.size w (w.alloc (.cells #[.int .i64 0, .int .i64 0] 52)) := bel_alloc (Below.refl _ _) _
    have RB0 := Lib.hid (RV.mk w (.int .i64 0) (.int .i64 0) 52)
    generalize w.alloc (.cells #[.int .i64 0, .int .i64 0] 52) = W at *
    obtain ⟨B0, hB0⟩ : ∃ B0, w.heap.size = B0 := ⟨_, rfl⟩
    rw [hB0] at RB0 ⊢
    have hle : w.heap.size ≤ B0 := by rw [hB0]; exact Nat.le_refl _
    have HLE := Lib.hid hle; clear hB0 hle
    have HW := Lib.hid hbW; clear hbW
    refine (HCUT.out _ (HT.out.keep HW.out)).mono ?_; rintro e w1 ⟨rfl, hb1⟩
    have RB1 := Lib.hid (RB0.out.keep hb1)
    have H1 := Lib.hid (bel_trans hb1 HW.out); clear hb1
    go_wp2_with fail
    refine (HA.out _ (HT.out.keep H1.out)).mono ?_; rintro e w2 ⟨rfl, hb2⟩
    have RB2 := Lib.hid (RB1.out.keep hb2)
    have H2 := Lib.hid (bel_trans hb2 H1.out); clear hb2 RB1 H1
    go_wp2_with fail
    refine (HB.out _ (HT.out.keep H2.out)).mono ?_; rintro e w3 ⟨rfl, hb3⟩
    have RB3 := Lib.hid (RB2.out.keep hb3)
    have H3 := Lib.hid (bel_trans hb3 H2.out); clear hb3 RB2 H2
    have RV4 := Lib.hid (RV.mk w3 (.int .i64 n) (.int .i64 d) 52)
    have RB4 := Lib.hid (RB3.out.keep (bel_alloc (Below.refl _ _) (.cells #[.int .i64 n, (.int .i64 d)] 52)))
    have H4 := Lib.hid (bel_alloc H3.out (.cells #[.int .i64 n, (.int .i64 d)] 52))
    clear RB3
    go_wp2_with fail
    generalize w3.alloc (.cells #[.int .i64 n, (.int .i64 d)] 52) = w4 at *
    generalize w3.heap.size = B at *
    refine (HR.out _).mono ?_; rintro e w5 ⟨rfl, hb5⟩
    have RV5 := Lib.hid (RV4.out.keep hb5)
    have RB5 := Lib.hid (RB4.out.keep hb5)
    have H5 := Lib.hid (bel_trans hb5 H4.out); clear hb5 RV4 RB4 H4
    obtain ⟨q0, q1, q2, q3, q4⟩ := RV5.out
    go_wp2_with fail
    refine (HN.out _ (HT.out.keep H5.out).1).mono ?_; rintro e w6 ⟨rfl, hb6⟩
    have H6 := Lib.hid (bel_trans hb6 H5.out)
    clear q0 q1 q2 q3 q4
    obtain ⟨q0, q1, q2, q3, q4⟩ := RV5.out.keep hb6
    obtain ⟨t0, t1, t2, t3, t4⟩ := RB5.out.keep hb6
    clear hb6 RV5 RB5 H5
    go_wp2_with fail
    refine bodyPost_ret (by simp (maxDischargeDepth := 3) [results, Tryd.results35, go_sem, *]; try rfl) rfl ?_
    exact ret_eq (by rfl) (Below.setCell (Below.setCell H6.out HLE.out _) HLE.out _)
set_option maxHeartbeats 4000000 in
theorem parseFraction_no (s : ByteArray) (w : World) (hs : s.size ≤ 1048576) (hno : ∀ n d, fracB n d = true → frT n d ≠ s) (ht : LibT w) :
    Calls Tryd.prog 35 #[.string s] w (Ret (.tuple #[.agg #[.int .i64 0, .int .i64 0], .bool false]) w) := by
  have hcut := fun w h => cut_any s 47 w hs h
  obtain ⟨c1, c2⟩ := cut_size s.data.toList 47
  have hl : s.data.toList.length = s.size := by simp
  obtain ⟨X, hX⟩ : ∃ X, (⟨(Lib.cut s.data.toList [47]).1.toArray⟩ : ByteArray) = X := ⟨_, rfl⟩
  obtain ⟨Y, hY⟩ : ∃ Y, (⟨(Lib.cut s.data.toList [47]).2.1.toArray⟩ : ByteArray) = Y := ⟨_, rfl⟩
  have x1 : X.size ≤ 1048576 := by rw [← hX]; show (Lib.cut s.data.toList [47]).1.toArray.size ≤ _; simp; omega
  have y1 : Y.size ≤ 1048576 := by rw [← hY]; show (Lib.cut s.data.toList [47]).2.1.toArray.size ≤ _; simp; omega
  rw [hX, hY] at hcut
  generalize (Lib.cut s.data.toList [47]).2.2 = f at hcut
  clear hX hY c1 c2 hl
  have ha := fun w h => atoi_any X w x1 h
  have hb := fun w h => atoi_any Y w y1 h
  have HT := Lib.hid ht; clear ht
  have HCUT := Lib.hid hcut; clear hcut
  have HA := Lib.hid ha; clear ha
  have HB := Lib.hid hb; clear hb
  have HNO := Lib.hid hno; clear hno
  clear x1 y1
  go_enter Tryd.func35, Tryd.ntmps35
  go_wp2_with fail
  have hbW : Below w.heap.size w (w.alloc (.cells #[.int .i64 0, .int .i64 0] 52)) := bel_alloc (Below.refl _ _) _
  have RB0 := Lib.hid (RV.mk w (.int .i64 0) (.int .i64 0) 52)
  generalize w.alloc (.cells #[.int .i64 0, .int .i64 0] 52) = W at *
  obtain ⟨B0, hB0⟩ : ∃ B0, w.heap.size = B0 := ⟨_, rfl⟩
  rw [hB0] at RB0 ⊢
  have hle : w.heap.size ≤ B0 := by rw [hB0]; exact Nat.le_refl _
  have HLE := Lib.hid hle; clear hB0 hle
  have HW := Lib.hid hbW; clear hbW
  refine (HCUT.out _ (HT.out.keep HW.out)).mono ?_; rintro e w1 ⟨rfl, hb1⟩
  have RB1 := Lib.hid (RB0.out.keep hb1)
  have H1 := Lib.hid (bel_trans hb1 HW.out); clear hb1
  go_wp2_with fail
  refine (HA.out _ (HT.out.keep H1.out)).mono ?_; rintro e w2 ⟨v1, e1, rfl, hv1, _, hb2⟩
  have RB2 := Lib.hid (RB1.out.keep hb2)
  have H2 := Lib.hid (bel_trans hb2 H1.out); clear hb2 RB1 H1 RB0 HW HCUT HA
  have he1 : e1 = .nilIface ∨ ∃ t p, e1 = .iface t p := by
    rcases hv1 with ⟨h, _⟩ | ⟨h, _⟩
    · exact .inl h
    · exact .inr h
  clear hv1
  have HE1 := Lib.hid he1; clear he1
  cases f
  · rcases HE1.out with rfl | ⟨t, p, rfl⟩
    · have RV4 := Lib.hid (RV.mk w2 (.int .i64 v1) (.int .i64 1) 52)
      have RB4 := Lib.hid (RB2.out.keep (bel_alloc (Below.refl _ _) (.cells #[.int .i64 v1, .int .i64 1] 52)))
      have H4 := Lib.hid (bel_alloc H2.out (.cells #[.int .i64 v1, .int .i64 1] 52))
      clear RB2
      cases hfr : fracB v1 1
      · go_wp2_with fail
        generalize w2.alloc (.cells #[.int .i64 v1, .int .i64 1] 52) = w4 at *
        generalize w2.heap.size = B at *
        refine (isFraction_any _ _ _).mono ?_; rintro e w5 ⟨rfl, hb5⟩
        rw [hfr]
        have H5 := Lib.hid (bel_trans hb5 H4.out)
        obtain ⟨t0, t1, t2, t3, t4⟩ := RB4.out.keep hb5
        clear hb5 RV4 RB4 H4
        go_wp2_with fail
        refine bodyPost_ret (by simp (maxDischargeDepth := 3) [results, Tryd.results35, go_sem, *]; try rfl) rfl ?_
        exact ret_eq (by rfl) (Below.setCell (Below.setCell H5.out HLE.out _) HLE.out _)
      · obtain ⟨k1, k2, k3, k4⟩ := frac_bd hfr
        have hn := fun w => fractionText_any v1 1 w k3 k4 k1 k2
        have hTs := str_ne (HNO.out _ _ hfr)
        generalize frT v1 1 = T at *
        have HN := Lib.hid hn; clear hn HNO k1 k2 k3 k4
        go_wp2_with fail
        generalize w2.alloc (.cells #[.int .i64 v1, .int .i64 1] 52) = w4 at *
        generalize w2.heap.size = B at *
        refine (isFraction_any _ _ _).mono ?_; rintro e w5 ⟨rfl, hb5⟩
        rw [hfr]
        clear hfr
        have RV5 := Lib.hid (RV4.out.keep hb5)
        have RB5 := Lib.hid (RB4.out.keep hb5)
        have H5 := Lib.hid (bel_trans hb5 H4.out); clear hb5 RV4 RB4 H4
        obtain ⟨q0, q1, q2, q3, q4⟩ := RV5.out
        go_wp2_with fail
        refine (HN.out _ (HT.out.keep H5.out).1).mono ?_; rintro e w6 ⟨rfl, hb6⟩
        have H6 := Lib.hid (bel_trans hb6 H5.out)
        clear q0 q1 q2 q3 q4
        obtain ⟨t0, t1, t2, t3, t4⟩ := RB5.out.keep hb6
        clear hb6 RV5 RB5 H5
        go_wp2_with fail
        refine bodyPost_ret (by simp (maxDischargeDepth := 3) [results, Tryd.results35, go_sem, *]; try rfl) rfl ?_
        exact ret_eq (by rfl) (Below.setCell (Below.setCell H6.out HLE.out _) HLE.out _)
    · obtain ⟨r0, r1, r2, r3, r4⟩ := RB2.out
      have rn : ¬ B0 = w2.heap.size := by omega
      have rn' : ¬ w2.heap.size = B0 := by omega
      go_wp2_with fail
      refine bodyPost_ret (by simp (maxDischargeDepth := 3) [results, Tryd.results35, go_sem, *]; try rfl) rfl ?_
      exact ret_eq (by rfl) (bel_alloc (bel_set (bel_set H2.out HLE.out _) HLE.out _) _)
  · go_wp2_with fail
    refine (HB.out _ (HT.out.keep H2.out)).mono ?_; rintro e w3 ⟨v2, e2, rfl, hv2, _, hb3⟩
    have RB3 := Lib.hid (RB2.out.keep hb3)
    have H3 := Lib.hid (bel_trans hb3 H2.out); clear hb3 RB2 H2 HB
    have he2 : e2 = .nilIface ∨ ∃ t p, e2 = .iface t p := by
      rcases hv2 with ⟨h, _⟩ | ⟨h, _⟩
      · exact .inl h
      · exact .inr h
    clear hv2
    have HE2 := Lib.hid he2; clear he2
    rcases HE1.out with rfl | ⟨t, p, rfl⟩
    · rcases HE2.out with rfl | ⟨t, p, rfl⟩
      · have RV4 := Lib.hid (RV.mk w3 (.int .i64 v1) (.int .i64 v2) 52)
        have RB4 := Lib.hid (RB3.out.keep (bel_alloc (Below.refl _ _) (.cells #[.int .i64 v1, .int .i64 v2] 52)))
        have H4 := Lib.hid (bel_alloc H3.out (.cells #[.int .i64 v1, .int .i64 v2] 52))
        clear RB3
        cases hfr : fracB v1 v2
        · go_wp2_with fail
          generalize w3.alloc (.cells #[.int .i64 v1, .int .i64 v2] 52) = w4 at *
          generalize w3.heap.size = B at *
          refine (isFraction_any _ _ _).mono ?_; rintro e w5 ⟨rfl, hb5⟩
          rw [hfr]
          have H5 := Lib.hid (bel_trans hb5 H4.out)
          obtain ⟨t0, t1, t2, t3, t4⟩ := RB4.out.keep hb5
          clear hb5 RV4 RB4 H4
          go_wp2_with fail
          refine bodyPost_ret (by simp (maxDischargeDepth := 3) [results, Tryd.results35, go_sem, *]; try rfl) rfl ?_
          exact ret_eq (by rfl) (Below.setCell (Below.setCell H5.out HLE.out _) HLE.out _)
        · obtain ⟨k1, k2, k3, k4⟩ := frac_bd hfr
          have hn := fun w => fractionText_any v1 v2 w k3 k4 k1 k2
          have hTs := str_ne (HNO.out _ _ hfr)
          generalize frT v1 v2 = T at *
          have HN := Lib.hid hn; clear hn HNO k1 k2 k3 k4
          go_wp2_with fail
          generalize w3.alloc (.cells #[.int .i64 v1, .int .i64 v2] 52) = w4 at *
          generalize w3.heap.size = B at *
          refine (isFraction_any _ _ _).mono ?_; rintro e w5 ⟨rfl, hb5⟩
          rw [hfr]
          clear hfr
          have RV5 := Lib.hid (RV4.out.keep hb5)
          have RB5 := Lib.hid (RB4.out.keep hb5)
          have H5 := Lib.hid (bel_trans hb5 H4.out); clear hb5 RV4 RB4 H4
          obtain ⟨q0, q1, q2, q3, q4⟩ := RV5.out
          go_wp2_with fail
          refine (HN.out _ (HT.out.keep H5.out).1).mono ?_; rintro e w6 ⟨rfl, hb6⟩
          have H6 := Lib.hid (bel_trans hb6 H5.out)
          clear q0 q1 q2 q3 q4
          obtain ⟨t0, t1, t2, t3, t4⟩ := RB5.out.keep hb6
          clear hb6 RV5 RB5 H5
          go_wp2_with fail
          refine bodyPost_ret (by simp (maxDischargeDepth := 3) [results, Tryd.results35, go_sem, *]; try rfl) rfl ?_
          exact ret_eq (by rfl) (Below.setCell (Below.setCell H6.out HLE.out _) HLE.out _)
      · obtain ⟨r0, r1, r2, r3, r4⟩ := RB3.out
        have rn : ¬ B0 = w3.heap.size := by omega
        have rn' : ¬ w3.heap.size = B0 := by omega
        go_wp2_with fail
        refine bodyPost_ret (by simp (maxDischargeDepth := 3) [results, Tryd.results35, go_sem, *]; try rfl) rfl ?_
        exact ret_eq (by rfl) (bel_alloc (bel_set (bel_set H3.out HLE.out _) HLE.out _) _)
    · obtain ⟨r0, r1, r2, r3, r4⟩ := RB3.out
      have rn : ¬ B0 = w3.heap.size := by omega
      have rn' : ¬ w3.heap.size = B0 := by omega
      go_wp2_with fail
      refine bodyPost_ret (by simp (maxDischargeDepth := 3) [results, Tryd.results35, go_sem, *]; try rfl) rfl ?_
      exact ret_eq (by rfl) (bel_alloc (bel_set (bel_set H3.out HLE.out _) HLE.out _) _)
theorem parseFraction_any (s : ByteArray) (w : World) (hs : s.size ≤ 1048576) (ht : LibT w) :
    Calls Tryd.prog 35 #[.string s] w (Ret (fpV s) w) := by
  by_cases h : ∃ a b, fracB a b = true ∧ frT a b = s
  · obtain ⟨a, b, hc, rfl⟩ := h
    rw [fpV_yes hc]
    exact parseFraction_yes a b w hc ht
  · have hno : ∀ a b, fracB a b = true → frT a b ≠ s := fun a b h1 h2 => h ⟨a, b, h1, h2⟩
    rw [fpV_no hno]
    exact parseFraction_no s w hs hno ht
end Go.Proofs.YtadijbaphfgeiaaDoor
