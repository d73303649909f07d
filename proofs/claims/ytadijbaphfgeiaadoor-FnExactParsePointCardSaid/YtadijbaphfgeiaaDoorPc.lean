/- Pc: contracts: both readers of a curve's text. No conditions. -/
import Derived.Test.YtadijbaphfgeiaaDoorPb
import Derived.Test.YtadijbaphfgeiaaDoorLt
import Derived.Test.YtadijbaphfgeiaaDoorMf
import Derived.Lib.Strings
namespace Go.Proofs.YtadijbaphfgeiaaDoor
open Go.RowKit

theorem str_ne {a b : ByteArray} (h : a ≠ b) : (a.toList == b.toList) = false := by
  rw [beq_eq_false_iff_ne, Lib.toList_data, Lib.toList_data]
  intro e
  apply h
  apply ByteArray.ext
  exact Array.toList_inj.1 e
theorem cvT_size {a b : Int} (hc : curveB a b = true) : (cvT a b).size ≤ 12 := by
  obtain ⟨h1, h2, h3, h4, _⟩ := curveB_true.1 hc
  have e : (cvT a b).data.toList.length = (cvT a b).size := by simp
  have k1 : (intS a).data.toList.length ≤ 5 := by
    rw [intS_list]
    unfold Lib.itoa
    split
    · have := dec_length 3 a.natAbs (by omega); simp; omega
    · have := dec_length 3 a.toNat (by omega); omega
  have k2 : (intS b).data.toList.length ≤ 6 := by
    rw [intS_list]
    unfold Lib.itoa
    split
    · have := dec_length 4 b.natAbs (by omega); simp; omega
    · have := dec_length 4 b.toNat (by omega); omega
  rw [← e, cvT_list, List.length_append, List.length_cons]
  omega
/-- the curve whose text it is, or none. -/
noncomputable def pcV (s : ByteArray) : Value := match pcs 32 s.data.toList with
  | [x, y] => if curveB (sgL x) (sgL y) = true ∧ cvT (sgL x) (sgL y) = s then .tuple #[.agg #[.int .i64 (sgL x), .int .i64 (sgL y)], .bool true] else .tuple #[.agg #[.int .i64 0, .int .i64 0], .bool false]
  | _ => .tuple #[.agg #[.int .i64 0, .int .i64 0], .bool false]
theorem pcs_cv (a b : Int) : pcs 32 (cvT a b).data.toList = [(intS a).data.toList, (intS b).data.toList] := by
  rw [cvT_list, pcs_two (int_none (.inl (by decide)) a) (int_none (.inl (by decide)) b)]
theorem pcV_yes {a b : Int} (hc : curveB a b = true) : pcV (cvT a b) = .tuple #[.agg #[.int .i64 a, .int .i64 b], .bool true] := by
  obtain ⟨h1, h2, h3, h4, _⟩ := curveB_true.1 hc
  unfold pcV
  rw [pcs_cv]
  simp only
  rw [sgL_int (by omega) (by omega), sgL_int (by omega) (by omega), if_pos ⟨hc, rfl⟩]
theorem pcV_no {s : ByteArray} (h : ∀ a b, curveB a b = true → cvT a b ≠ s) : pcV s = .tuple #[.agg #[.int .i64 0, .int .i64 0], .bool false] := by
  unfold pcV
  split
  · rw [if_neg (fun ⟨h1, h2⟩ => h _ _ h1 h2)]
  · rfl
theorem atoi_yes {n : Int} (h0 : -1000000 < n) (h1 : n < 1000000) (w : World) (ht : LibT w) : Calls Tryd.prog 22 #[.string (intS n)] w (Ret (.tuple #[.int .i64 n, .nilIface]) w) := by
  have hs := int_size (n := n) (k := 5) (by omega)
  have e : (intS n).data.toList.length = (intS n).size := by simp
  refine (atoi_any (intS n) w (by omega) ht).mono ?_
  rintro e w' ⟨v, ev, rfl, hv, _, hb⟩
  rw [atoi_int h0 h1] at hv
  rcases hv with ⟨rfl, h⟩ | ⟨_, h⟩
  · injection h with h
    subst h
    exact ⟨rfl, hb⟩
  · exact absurd rfl (h n)
theorem curveResult_any (a b : Int) (w : World) :
    Calls Tryd.prog 25 #[.agg #[.int .i64 a, .int .i64 b]] w (Ret (bif curveB a b then .tuple #[.agg #[.int .i64 a, .int .i64 b], .bool true] else .tuple #[.agg #[.int .i64 0, .int .i64 0], .bool false]) w) := by
  cases hcur : curveB a b
  · go_enter Tryd.func25, Tryd.ntmps25
    go_wp2_with (go_at_call 16; refine (isCurve_any _ _ _).mono ?_; rintro e w' ⟨rfl, hb⟩; (try replace hb := aft2 hb (by assumption)); obtain ⟨hc, hf⟩ := aft hb)
    refine bodyPost_ret (by simp (maxDischargeDepth := 3) [results, Tryd.results25, go_sem, *]; try rfl) rfl ?_
    exact ret_mk (by repeat (first | exact Below.refl _ _ | (with_reducible assumption) | refine bel_alloc ?_ _ | refine bel_drew ?_ | refine bel_drewN ?_ _ | refine Below.setCell ?_ (by dsimp only; omega) _ | refine bel_trans (by assumption) ?_))
  · go_enter Tryd.func25, Tryd.ntmps25
    go_wp2_with (go_at_call 16; refine (isCurve_any _ _ _).mono ?_; rintro e w' ⟨rfl, hb⟩; (try replace hb := aft2 hb (by assumption)); obtain ⟨hc, hf⟩ := aft hb)
    refine bodyPost_ret (by simp (maxDischargeDepth := 3) [results, Tryd.results25, go_sem, *]; try rfl) rfl ?_
    exact ret_mk (by repeat (first | exact Below.refl _ _ | (with_reducible assumption) | refine bel_alloc ?_ _ | refine bel_drew ?_ | refine bel_drewN ?_ _ | refine Below.setCell ?_ (by dsimp only; omega) _ | refine bel_trans (by assumption) ?_))
theorem inside_known {n lo hi : Int} {r : Bool} (h : inB n lo hi = r) (w : World) : Calls Tryd.prog 23 #[.int .i64 n, .int .i64 lo, .int .i64 hi] w (fun e w' => e = .returned (.bool r) ∧ w = w') := by
  have := inside_any n lo hi w
  rw [h] at this
  exact this
/-- a fresh result of two zeros. -/
def RB (B : Nat) (w : World) : Prop := B < w.heap.size ∧ w.cell? ⟨B, 0, none⟩ = some (.int .i64 0) ∧ w.cell? ⟨B, 1, none⟩ = some (.int .i64 0) ∧ w.frozen? ⟨B, 0, none⟩ = false ∧ w.frozen? ⟨B, 1, none⟩ = false
theorem RB.keep {B : Nat} {w w' : World} (h : RB B w) (hb : Below w.heap.size w w') : RB B w' := by
  obtain ⟨h0, h1, h2, h3, h4⟩ := h
  exact ⟨Nat.lt_of_lt_of_le h0 hb.size, (hb.cell (p := ⟨B, 0, none⟩) h0).trans h1, (hb.cell (p := ⟨B, 1, none⟩) h0).trans h2, (hb.frozen (p := ⟨B, 0, none⟩) h0).trans h3, (hb.frozen (p := ⟨B, 1, none⟩) h0).trans h4⟩
theorem RB.mk (w : World) : RB w.heap.size (w.alloc (.cells #[.int .i64 0, .int .i64 0] 23)) :=
  ⟨by simp, by simp [go_sem], by simp [go_sem], by simp [go_sem], by simp [go_sem]⟩
set_option maxHeartbeats 4000000 in
theorem parseCurve_yes (a b : Int) (w : World) (hc : curveB a b = true) (ht : LibT w) :
    Calls Tryd.prog 13 #[.string (cvT a b)] w (Ret (.tuple #[.agg #[.int .i64 a, .int .i64 b], .bool true]) w) := by
  obtain ⟨h1, h2, h3, h4, _⟩ := curveB_true.1 hc
  have i1 : inB a (-1000) 1000 = true := inB_true.2 ⟨h1, h2⟩
  have i2 : inB b (-10000) 10000 = true := inB_true.2 ⟨h3, h4⟩
  have hz := cvT_size hc
  have hcut := fun w h => cut_any (cvT a b) 32 w (by omega) h
  rw [cvT_list, cut_two _ (int_none (.inl (by decide)) a)] at hcut
  have e1 : (⟨(intS a).data.toList.toArray⟩ : ByteArray) = intS a := by simp
  have e2 : (⟨(intS b).data.toList.toArray⟩ : ByteArray) = intS b := by simp
  simp only [e1, e2] at hcut
  have ha := fun w h => atoi_yes (n := a) (by omega) (by omega) w h
  have hb := fun w h => atoi_yes (n := b) (by omega) (by omega) w h
  have hn := fun ad w => numbersText_any a b ad w h1 h2 h3 h4
  have hr := fun w => curveResult_any a b w
  rw [hc, cond_true] at hr
  have HT := Lib.hid ht; clear ht
  have HCUT := Lib.hid hcut; clear hcut
  have HA := Lib.hid ha; clear ha
  have HB := Lib.hid hb; clear hb
  have HN := Lib.hid hn; clear hn
  have HR := Lib.hid hr; clear hr
  clear hz hc e1 e2
  generalize cvT a b = T at *
  generalize intS a = X at *
  generalize intS b = Y at *
  go_enter Tryd.func13, Tryd.ntmps13
  go_wp2_with fail
  have hbW : Below w.heap.size w (w.alloc (.cells #[.int .i64 0, .int .i64 0] 23)) := bel_alloc (Below.refl _ _) _
  have RB0 := Lib.hid (RB.mk w)
  generalize w.alloc (.cells #[.int .i64 0, .int .i64 0] 23) = W at *
  obtain ⟨B0, hB0⟩ : ∃ B0, w.heap.size = B0 := ⟨_, rfl⟩
  rw [hB0] at RB0 ⊢
  have HB0 := Lib.hid hB0; clear hB0
  have HW := Lib.hid hbW; clear hbW
  refine (HCUT.out _ (HT.out.keep HW.out)).mono ?_; rintro e w1 ⟨rfl, hb1⟩
  have RB1 := Lib.hid (RB0.out.keep hb1)
  have H1 := Lib.hid (bel_trans hb1 HW.out); clear hb1
  go_wp2_with fail
  refine (HA.out _ (HT.out.keep H1.out)).mono ?_; rintro e w2 ⟨rfl, hb2⟩
  have RB2 := Lib.hid (RB1.out.keep hb2)
  have H2 := Lib.hid (bel_trans hb2 H1.out); clear hb2
  go_wp2_with fail
  refine (HB.out _ (HT.out.keep H2.out)).mono ?_; rintro e w3 ⟨rfl, hb3⟩
  have RB3 := Lib.hid (RB2.out.keep hb3)
  have H3 := Lib.hid (bel_trans hb3 H2.out); clear hb3
  go_wp2_with fail
  refine (inside_known i1 _).mono ?_; rintro e w' ⟨rfl, rfl⟩
  go_wp2_with fail
  refine (inside_known i2 _).mono ?_; rintro e w' ⟨rfl, rfl⟩
  go_wp2_with fail
  have g0 : w3.heap.size < (w3.alloc (.cells #[.int .i64 a, .int .i64 b] 3)).heap.size := by simp
  have g1 : (w3.alloc (.cells #[.int .i64 a, .int .i64 b] 3)).cell? ⟨w3.heap.size, 0, none⟩ = some (.int .i64 a) := by simp [go_sem]
  have g2 : (w3.alloc (.cells #[.int .i64 a, .int .i64 b] 3)).cell? ⟨w3.heap.size, 1, none⟩ = some (.int .i64 b) := by simp [go_sem]
  have hb4 : Below w3.heap.size w3 (w3.alloc (.cells #[.int .i64 a, .int .i64 b] 3)) := bel_alloc (Below.refl _ _) _
  have hn := HN.out w3.heap.size _ (HT.out.keep (bel_trans hb4 H3.out)).1 g0 g1 g2
  have HNN := Lib.hid hn; clear hn g0 g1 g2
  generalize w3.alloc (.cells #[.int .i64 a, .int .i64 b] 3) = w4 at *
  refine HNN.out.mono ?_; rintro e w5 ⟨rfl, hb5⟩
  have RB5 := Lib.hid ((RB3.out.keep hb4).keep hb5)
  have H5 := Lib.hid (bel_trans hb5 (bel_trans hb4 H3.out)); clear hb5 hb4 HNN
  go_wp2_with fail
  refine (HR.out _).mono ?_; rintro e w6 ⟨rfl, hb6⟩
  obtain ⟨q0, q1, q2, q3, q4⟩ := RB5.out.keep hb6
  have H6 := Lib.hid (bel_trans hb6 H5.out); clear hb6
  go_wp2_with fail
  refine bodyPost_ret (by simp (maxDischargeDepth := 3) [results, Tryd.results13, go_sem, *]; try rfl) rfl ?_
  have hle : w.heap.size ≤ B0 := by rw [HB0.out]; exact Nat.le_refl _
  exact ret_eq (by rfl) (Below.setCell (Below.setCell H6.out hle _) hle _)
set_option maxHeartbeats 4000000 in
theorem parseCurve_no (s : ByteArray) (w : World) (hs : s.size ≤ 1048576) (hno : ∀ a b, curveB a b = true → cvT a b ≠ s) (ht : LibT w) :
    Calls Tryd.prog 13 #[.string s] w (Ret (.tuple #[.agg #[.int .i64 0, .int .i64 0], .bool false]) w) := by
  have hcut := fun w h => cut_any s 32 w hs h
  obtain ⟨c1, c2⟩ := cut_size s.data.toList 32
  have hl : s.data.toList.length = s.size := by simp
  obtain ⟨X, hX⟩ : ∃ X, (⟨(Lib.cut s.data.toList [32]).1.toArray⟩ : ByteArray) = X := ⟨_, rfl⟩
  obtain ⟨Y, hY⟩ : ∃ Y, (⟨(Lib.cut s.data.toList [32]).2.1.toArray⟩ : ByteArray) = Y := ⟨_, rfl⟩
  have x1 : X.size ≤ 1048576 := by rw [← hX]; show (Lib.cut s.data.toList [32]).1.toArray.size ≤ _; simp; omega
  have y1 : Y.size ≤ 1048576 := by rw [← hY]; show (Lib.cut s.data.toList [32]).2.1.toArray.size ≤ _; simp; omega
  rw [hX, hY] at hcut
  generalize (Lib.cut s.data.toList [32]).2.2 = f at hcut
  clear hX hY c1 c2 hl
  have ha := fun w h => atoi_any X w x1 h
  have hb := fun w h => atoi_any Y w y1 h
  have HT := Lib.hid ht; clear ht
  have HCUT := Lib.hid hcut; clear hcut
  have HA := Lib.hid ha; clear ha
  have HB := Lib.hid hb; clear hb
  have HNO := Lib.hid hno; clear hno
  clear x1 y1
  go_enter Tryd.func13, Tryd.ntmps13
  go_wp2_with fail
  have hbW : Below w.heap.size w (w.alloc (.cells #[.int .i64 0, .int .i64 0] 23)) := bel_alloc (Below.refl _ _) _
  have RB0 := Lib.hid (RB.mk w)
  generalize w.alloc (.cells #[.int .i64 0, .int .i64 0] 23) = W at *
  obtain ⟨B0, hB0⟩ : ∃ B0, w.heap.size = B0 := ⟨_, rfl⟩
  rw [hB0] at RB0 ⊢
  have hle : w.heap.size ≤ B0 := by rw [hB0]; exact Nat.le_refl _
  have HLE := Lib.hid hle; clear hB0 hle
  have HW := Lib.hid hbW; clear hbW
  refine (HCUT.out _ (HT.out.keep HW.out)).mono ?_; rintro e w1 ⟨rfl, hb1⟩
  have RB1 := Lib.hid (RB0.out.keep hb1)
  have H1 := Lib.hid (bel_trans hb1 HW.out); clear hb1
  go_wp2_with fail
  refine (HA.out _ (HT.out.keep H1.out)).mono ?_; rintro e w2 ⟨v1, e1, rfl, hv1, _, hb2⟩
  have RB2 := Lib.hid (RB1.out.keep hb2)
  have H2 := Lib.hid (bel_trans hb2 H1.out); clear hb2
  have HV1 := Lib.hid hv1; clear hv1
  go_wp2_with fail
  refine (HB.out _ (HT.out.keep H2.out)).mono ?_; rintro e w3 ⟨v2, e2, rfl, hv2, _, hb3⟩
  have RB3 := Lib.hid (RB2.out.keep hb3)
  have H3 := Lib.hid (bel_trans hb3 H2.out); clear hb3
  clear HCUT HA HB H1 H2 HW RB0 RB1 RB2
  rcases HV1.out with ⟨rfl, _⟩ | ⟨⟨t, p, rfl⟩, _⟩
  rotate_left
  · clear HV1 hv2
    obtain ⟨q0, q1, q2, q3, q4⟩ := RB3.out
    go_wp2_with fail
    refine bodyPost_ret (by simp (maxDischargeDepth := 3) [results, Tryd.results13, go_sem, *]; try rfl) rfl ?_
    exact ret_eq (by rfl) (Below.setCell (Below.setCell H3.out HLE.out _) HLE.out _)
  clear HV1
  rcases hv2 with ⟨rfl, _⟩ | ⟨⟨t, p, rfl⟩, _⟩
  rotate_left
  · obtain ⟨q0, q1, q2, q3, q4⟩ := RB3.out
    go_wp2_with fail
    refine bodyPost_ret (by simp (maxDischargeDepth := 3) [results, Tryd.results13, go_sem, *]; try rfl) rfl ?_
    exact ret_eq (by rfl) (Below.setCell (Below.setCell H3.out HLE.out _) HLE.out _)
  cases i1 : inB v1 (-1000) 1000
  · obtain ⟨q0, q1, q2, q3, q4⟩ := RB3.out
    go_wp2_with fail
    refine (inside_known i1 _).mono ?_; rintro e w' ⟨rfl, rfl⟩
    go_wp2_with fail
    refine bodyPost_ret (by simp (maxDischargeDepth := 3) [results, Tryd.results13, go_sem, *]; try rfl) rfl ?_
    exact ret_eq (by rfl) (Below.setCell (Below.setCell H3.out HLE.out _) HLE.out _)
  cases i2 : inB v2 (-10000) 10000
  · obtain ⟨q0, q1, q2, q3, q4⟩ := RB3.out
    go_wp2_with fail
    refine (inside_known i1 _).mono ?_; rintro e w' ⟨rfl, rfl⟩
    go_wp2_with fail
    refine (inside_known i2 _).mono ?_; rintro e w' ⟨rfl, rfl⟩
    go_wp2_with fail
    refine bodyPost_ret (by simp (maxDischargeDepth := 3) [results, Tryd.results13, go_sem, *]; try rfl) rfl ?_
    exact ret_eq (by rfl) (Below.setCell (Below.setCell H3.out HLE.out _) HLE.out _)
  obtain ⟨h1, h2⟩ := inB_true.1 i1
  obtain ⟨h3, h4⟩ := inB_true.1 i2
  have hn := fun ad w => numbersText_any v1 v2 ad w h1 h2 h3 h4
  have hno := HNO.out v1 v2
  generalize cvT v1 v2 = T at *
  have HN := Lib.hid hn; clear hn
  have HNV := Lib.hid hno; clear hno HNO
  clear h1 h2 h3 h4
  go_wp2_with fail
  refine (inside_known i1 _).mono ?_; rintro e w' ⟨rfl, rfl⟩
  go_wp2_with fail
  refine (inside_known i2 _).mono ?_; rintro e w' ⟨rfl, rfl⟩
  go_wp2_with fail
  clear i1 i2
  have g0 : w3.heap.size < (w3.alloc (.cells #[.int .i64 v1, .int .i64 v2] 3)).heap.size := by simp
  have g1 : (w3.alloc (.cells #[.int .i64 v1, .int .i64 v2] 3)).cell? ⟨w3.heap.size, 0, none⟩ = some (.int .i64 v1) := by simp [go_sem]
  have g2 : (w3.alloc (.cells #[.int .i64 v1, .int .i64 v2] 3)).cell? ⟨w3.heap.size, 1, none⟩ = some (.int .i64 v2) := by simp [go_sem]
  have hb4 : Below w3.heap.size w3 (w3.alloc (.cells #[.int .i64 v1, .int .i64 v2] 3)) := bel_alloc (Below.refl _ _) _
  have hn := HN.out w3.heap.size _ (HT.out.keep (bel_trans hb4 H3.out)).1 g0 g1 g2
  have HNN := Lib.hid hn; clear hn g0 g1 g2
  generalize w3.alloc (.cells #[.int .i64 v1, .int .i64 v2] 3) = w4 at *
  refine HNN.out.mono ?_; rintro e w5 ⟨rfl, hb5⟩
  have RB5 := Lib.hid ((RB3.out.keep hb4).keep hb5)
  have H5 := Lib.hid (bel_trans hb5 (bel_trans hb4 H3.out)); clear hb5 hb4 HNN
  by_cases hT : T = s
  · subst hT
    have hcur : curveB v1 v2 = false := by
      cases h : curveB v1 v2
      · rfl
      · exact absurd rfl (HNV.out h)
    have hr := fun w => curveResult_any v1 v2 w
    rw [hcur, cond_false] at hr
    have HR := Lib.hid hr; clear hr hcur
    go_wp2_with fail
    refine (HR.out _).mono ?_; rintro e w6 ⟨rfl, hb6⟩
    obtain ⟨q0, q1, q2, q3, q4⟩ := RB5.out.keep hb6
    have H6 := Lib.hid (bel_trans hb6 H5.out); clear hb6
    go_wp2_with fail
    refine bodyPost_ret (by simp (maxDischargeDepth := 3) [results, Tryd.results13, go_sem, *]; try rfl) rfl ?_
    exact ret_eq (by rfl) (Below.setCell (Below.setCell H6.out HLE.out _) HLE.out _)
  · have hTs := str_ne hT
    obtain ⟨q0, q1, q2, q3, q4⟩ := RB5.out
    go_wp2_with fail
    refine bodyPost_ret (by simp (maxDischargeDepth := 3) [results, Tryd.results13, go_sem, *]; try rfl) rfl ?_
    exact ret_eq (by rfl) (Below.setCell (Below.setCell H5.out HLE.out _) HLE.out _)
theorem parseCurve_any (s : ByteArray) (w : World) (hs : s.size ≤ 1048576) (ht : LibT w) :
    Calls Tryd.prog 13 #[.string s] w (Ret (pcV s) w) := by
  by_cases h : ∃ a b, curveB a b = true ∧ cvT a b = s
  · obtain ⟨a, b, hc, rfl⟩ := h
    rw [pcV_yes hc]
    exact parseCurve_yes a b w hc ht
  · have hno : ∀ a b, curveB a b = true → cvT a b ≠ s := fun a b h1 h2 => h ⟨a, b, h1, h2⟩
    rw [pcV_no hno]
    exact parseCurve_no s w hs hno ht
theorem pcs_len (b : UInt8) : ∀ (l x : List UInt8), x ∈ pcs b l → x.length ≤ l.length
  | [], x, h => by
    obtain rfl : x = [] := by simpa [pcs] using h
    simp
  | c :: l, x, h => by
    rw [pcs_cons] at h
    split at h
    · rcases List.mem_cons.1 h with rfl | h
      · simp
      · have := pcs_len b l x h
        simp; omega
    · cases hp : pcs b l with
      | nil =>
        rw [hp] at h
        obtain rfl : x = [c] := by simpa using h
        simp
      | cons y t =>
        rw [hp] at h
        rcases List.mem_cons.1 h with rfl | h
        · have := pcs_len b l y (by rw [hp]; simp)
          simp; omega
        · have := pcs_len b l x (by rw [hp]; exact List.mem_cons_of_mem _ h)
          simp; omega
theorem pk_held {g : Nat} {X Y : ByteArray} {w1 w' : World} (hb : Below w1.heap.size w1 w') (hlt : g < w1.heap.size) (e0 : w1.cell? ⟨g, 0, none⟩ = some (.string X)) (e1 : w1.cell? ⟨g, 1, none⟩ = some (.string Y)) :
    Below w1.heap.size w1 w' ∧ w'.cell? ⟨g, 0, none⟩ = some (.string X) ∧ w'.cell? ⟨g, 1, none⟩ = some (.string Y) :=
  ⟨hb, (hb.cell (p := ⟨g, 0, none⟩) hlt).trans e0, (hb.cell (p := ⟨g, 1, none⟩) hlt).trans e1⟩
set_option maxHeartbeats 4000000 in
theorem ecParse_any (s : ByteArray) (w : World) (hs : s.size ≤ 1048576) :
    Calls Tryd.prog 12 #[.string s] w (Ret (pcV s) w) := by
  have hsp := fun w => l1Split_any s 32 w hs
  have HS := Lib.hid hsp; clear hsp
  go_enter Tryd.func12, Tryd.ntmps12
  go_wp2_with fail
  have hbW : Below w.heap.size w (w.alloc (.cells #[.int .i64 0, .int .i64 0] 23)) := bel_alloc (Below.refl _ _) _
  have RB0 := Lib.hid (RB.mk w)
  generalize w.alloc (.cells #[.int .i64 0, .int .i64 0] 23) = W at *
  obtain ⟨B0, hB0⟩ : ∃ B0, w.heap.size = B0 := ⟨_, rfl⟩
  rw [hB0] at RB0 ⊢
  have hle : w.heap.size ≤ B0 := by rw [hB0]; exact Nat.le_refl _
  have HLE := Lib.hid hle; clear hB0 hle
  have HW := Lib.hid hbW; clear hbW
  refine (HS.out _).mono ?_; rintro e w1 ⟨v, outs, rfl, ho, hown, hol, hb1⟩
  have RB1 := Lib.hid (RB0.out.keep hb1)
  have H1 := Lib.hid (bel_trans hb1 HW.out); clear hb1 HW RB0 HS
  have hpos : outs.length ≠ 0 := by
    intro h0
    have : outs = [] := List.length_eq_zero_iff.1 h0
    subst this
    cases hl : s.data.toList with
    | nil => rw [hl] at ho; cases ho
    | cons c l =>
      rw [hl, pcs_cons] at ho
      split at ho
      · cases ho
      · split at ho <;> cases ho
  obtain ⟨n, hn⟩ : ∃ n, outs.length = n := ⟨_, rfl⟩
  rcases hown.2 with ⟨_, h⟩ | ⟨g, cap, cur, rfl, hg, hh, hcap, _⟩
  · exact absurd h hpos
  rw [hn]
  have hsh : ∀ b1 b2 : Bool, True := fun _ _ => trivial
  clear hsh
  by_cases h12 : 12 < s.size
  · have hv : pcV s = .tuple #[.agg #[.int .i64 0, .int .i64 0], .bool false] := pcV_no fun a b hc e => by
      have := cvT_size hc
      rw [e] at this; omega
    have h12' : (12 : Int) < (s.size : Int) := by omega
    obtain ⟨q0, q1, q2, q3, q4⟩ := RB1.out
    have HV := Lib.hid hv
    clear hv hown hh ho hol hpos
    go_wp2_with fail
    refine bodyPost_ret (by simp (maxDischargeDepth := 3) [results, Tryd.results12, go_sem, *]; try rfl) rfl ?_
    exact ret_eq (by rw [HV.out]) (Below.setCell (Below.setCell H1.out HLE.out _) HLE.out _)
  have h12' : ¬ (12 : Int) < (s.size : Int) := by omega
  by_cases hn2 : n = 2
  · subst hn2
    obtain ⟨X, Y, rfl⟩ : ∃ X Y, outs = [X, Y] := by
      match outs, hn with
      | [X, Y], _ => exact ⟨X, Y, rfl⟩
    have hv : pcV s = if curveB (sgL X.data.toList) (sgL Y.data.toList) = true ∧ cvT (sgL X.data.toList) (sgL Y.data.toList) = s then .tuple #[.agg #[.int .i64 (sgL X.data.toList), .int .i64 (sgL Y.data.toList)], .bool true] else .tuple #[.agg #[.int .i64 0, .int .i64 0], .bool false] := by
      unfold pcV
      rw [← ho]
      rfl
    have hXs : X.size ≤ 1048576 ∧ Y.size ≤ 1048576 := by
      have hl : s.data.toList.length = s.size := by simp
      have hl1 : X.data.toList.length = X.size := by simp
      have hl2 : Y.data.toList.length = Y.size := by simp
      have k1 := pcs_len 32 s.data.toList X.data.toList (by rw [← ho]; simp)
      have k2 := pcs_len 32 s.data.toList Y.data.toList (by rw [← ho]; simp)
      omega
    obtain ⟨hXs, hYs⟩ := hXs
    have e0 := hown.cellAt 0 (by omega)
    have e1 := hown.cellAt 1 (by omega)
    replace e0 : w1.cell? ⟨g, 0, none⟩ = some (.string X) := e0
    replace e1 : w1.cell? ⟨g, 1, none⟩ = some (.string Y) := e1
    have hlt : g < w1.heap.size := by
      rcases Nat.lt_or_ge g w1.heap.size with h' | h'
      · exact h'
      · rw [Array.getElem?_eq_none h'] at hh; cases hh
    clear hown hh ho hol hpos hcap hn
    have HV := Lib.hid hv; clear hv
    go_wp2_with fail
    refine' wp_region_box (a0 := _) 5 (fun B w' => Below w1.heap.size w1 w' ∧ Box2 w1.heap.size B (.int .i64 (sgL X.data.toList)) (.int .i64 (sgL Y.data.toList)) w') ?_ ?_
    rotate_left
    · go_region_held3 (fun w' => Below w1.heap.size w1 w' ∧ w'.cell? ⟨g, 0, none⟩ = some (.string X) ∧ w'.cell? ⟨g, 1, none⟩ = some (.string Y)) ((refine pk_held ?_ hlt e0 e1; go_split_ands; repeat (first | exact Below.refl _ _ | (with_reducible assumption) | refine bel_alloc ?_ _ | refine bel_drew ?_ | refine Below.setCell ?_ (by dsimp only; omega) _ | refine bel_trans (by assumption) ?_))) ((go_at_call 19; refine (ecSigned_any _ _ (by with_reducible assumption)).mono ?_; rintro e w' ⟨rfl, hb⟩; (try replace hb := aft2 hb (by assumption)); have hz := hb.size; obtain ⟨hc, hf, hs1, hs2, hs3, hs4⟩ := aftz hb; (try simp at hz)))
      all_goals
        rename_i hHeld
        refine ⟨rfl, _, ⟨by first | rfl | (simp [Act.put]; done) | (simp [Act.put]; rfl), by first | rfl | (simp; done) | (simp; rfl)⟩, hHeld.1, ?_⟩
        clear hHeld
        refine ⟨by first | omega | (simp; done) | (simp; omega), by first | (simp; done) | (simp; omega), ?_, ?_⟩
        all_goals first | (simp [go_sem]; done) | (simp [go_sem, *]; done)
    rintro B w2 ⟨hbw, q0, q1, q2, q3⟩
    simp only [Act.put, List.setIfInBounds_toArray, List.set_cons_zero, List.set_cons_succ]
    have HVV := HV.out
    clear HV
    generalize sgL X.data.toList = x at *
    generalize sgL Y.data.toList = y at *
    have HV := Lib.hid HVV; clear HVV
    have RB2 := Lib.hid (RB1.out.keep hbw)
    have H2 := Lib.hid (bel_trans hbw H1.out)
    clear hbw hXs hYs e0 e1 hlt RB1 H1 q0
    cases hcur : curveB x y
    · rw [hcur] at HV
      go_wp2_with fail
      refine (ecGood_any _ _ _).mono ?_; rintro e w3 ⟨rfl, hb3⟩
      rw [hcur]
      have H3 := Lib.hid (bel_trans hb3 H2.out)
      obtain ⟨t0, t1, t2, t3, t4⟩ := RB2.out.keep hb3
      clear hb3 q1 q2 q3
      go_wp2_with fail
      refine bodyPost_ret (by simp (maxDischargeDepth := 3) [results, Tryd.results12, go_sem, *]; try rfl) rfl ?_
      exact ret_eq (by rw [HV.out]; rfl) (Below.setCell (Below.setCell H3.out HLE.out _) HLE.out _)
    obtain ⟨k1, k2, k3, k4, _⟩ := curveB_true.1 hcur
    rw [hcur] at HV
    have ht := fun w => ecText_any x y w k1 k2 k3 k4
    generalize cvT x y = T at *
    have HTX := Lib.hid ht; clear ht k1 k2 k3 k4
    go_wp2_with fail
    refine (ecGood_any _ _ _).mono ?_; rintro e w3 ⟨rfl, hb3⟩
    rw [hcur]
    clear hcur
    have r1 := Nat.lt_of_lt_of_le q1 hb3.size
    have r2 := (hb3.cell (p := ⟨B, 0, none⟩) q1).trans q2
    have r3 := (hb3.cell (p := ⟨B, 1, none⟩) q1).trans q3
    have RB3 := Lib.hid (RB2.out.keep hb3)
    have H3 := Lib.hid (bel_trans hb3 H2.out)
    clear hb3 q1 q2 q3 RB2 H2
    go_wp2_with fail
    refine (HTX.out _).mono ?_; rintro e w4 ⟨rfl, hb4⟩
    have q1 := Nat.lt_of_lt_of_le r1 hb4.size
    have q2 := (hb4.cell (p := ⟨B, 0, none⟩) r1).trans r2
    have q3 := (hb4.cell (p := ⟨B, 1, none⟩) r1).trans r3
    obtain ⟨t0, t1, t2, t3, t4⟩ := RB3.out.keep hb4
    have H4 := Lib.hid (bel_trans hb4 H3.out)
    clear hb4 r1 r2 r3 RB3 H3
    by_cases hT : T = s
    · subst hT
      go_wp2_with fail
      refine bodyPost_ret (by simp (maxDischargeDepth := 3) [results, Tryd.results12, go_sem, *]; try rfl) rfl ?_
      exact ret_eq (by rw [HV.out, if_pos (by simp)]) (Below.setCell (Below.setCell H4.out HLE.out _) HLE.out _)
    · have hTs := str_ne hT
      go_wp2_with fail
      refine bodyPost_ret (by simp (maxDischargeDepth := 3) [results, Tryd.results12, go_sem, *]; try rfl) rfl ?_
      exact ret_eq (by rw [HV.out, if_neg (fun h => hT h.2)]) (Below.setCell (Below.setCell H4.out HLE.out _) HLE.out _)
  · have hv : pcV s = .tuple #[.agg #[.int .i64 0, .int .i64 0], .bool false] := by
      unfold pcV
      rw [← ho]
      match outs, hn with
      | [], _ => rfl
      | [_], _ => rfl
      | [_, _], h => exact absurd h.symm hn2
      | _ :: _ :: _ :: _, _ => rfl
    have hn2' : ((n : Int) != 2) = true := by rw [bne_iff_ne]; omega
    obtain ⟨q0, q1, q2, q3, q4⟩ := RB1.out
    have HV := Lib.hid hv
    clear hv hown hh ho hol hpos
    go_wp2_with fail
    refine bodyPost_ret (by simp (maxDischargeDepth := 3) [results, Tryd.results12, go_sem, *]; try rfl) rfl ?_
    exact ret_eq (by rw [HV.out]) (Below.setCell (Below.setCell H1.out HLE.out _) HLE.out _)
end Go.Proofs.YtadijbaphfgeiaaDoor
