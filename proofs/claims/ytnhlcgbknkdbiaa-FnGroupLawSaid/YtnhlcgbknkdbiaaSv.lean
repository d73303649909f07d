/- Sv: contracts: AddPoints, DoublePoint, OrderOfPoint, AreCollinear of both sides. No conditions. -/
import Derived.Test.YtnhlcgbknkdbiaaSu
namespace Go.Proofs.Ytnhlcgbknkdbiaa
open Go.RowKit
set_option linter.unusedVariables false

noncomputable def sumO (a b x y e x2 y2 e2 : Int) : Option (Int × Int × Int) := bif pointB a b x y e && pointB a b x2 y2 e2 then addT a x y e x2 y2 e2 else none
noncomputable def ordP (a b x y e : Int) : Option Nat := bif pointB a b x y e then ordO a x y e 12 1 else none
noncomputable def mulO (a b x y e n : Int) : Option (Int × Int × Int) := bif pointB a b x y e && inB n (-12) 12 then mulT a x (if n < 0 then -y else y) e n.natAbs else none
theorem pointB_on {a b x y e : Int} (h : pointB a b x y e = true) : curveB a b = true ∧ onB a b x y e = true := by
  unfold pointB at h; rw [Bool.and_eq_true] at h; exact h
theorem ptO_shape (o : Option (Int × Int × Int)) : ∃ (n1 n2 n3 : Int) (ok : Bool), ptO o = .tuple #[.agg #[.int .i64 n1, .int .i64 n2, .int .i64 n3], .bool ok] := by
  cases o with
  | none => exact ⟨_, _, _, _, rfl⟩
  | some t => exact ⟨_, _, _, _, rfl⟩
theorem ordW_shape (o : Option Nat) : ∃ (n : Int) (ok : Bool), ordW o = .tuple #[.int .i64 n, .bool ok] := by
  cases o with
  | none => exact ⟨_, _, rfl⟩
  | some t => exact ⟨_, _, rfl⟩
theorem iAddPoints_any (a b x y e x2 y2 e2 : Int) (w : World) :
    Calls Try.prog 20 #[.agg #[.int .i64 a, .int .i64 b], .agg #[.int .i64 x, .int .i64 y, .int .i64 e], .agg #[.int .i64 x2, .int .i64 y2, .int .i64 e2]] w (Ret (ptO (sumO a b x y e x2 y2 e2)) w) := by
  unfold sumO
  cases hpt : pointB a b x y e
  · go_enter Try.func20, Try.ntmps20
    go_wp2_with (go_at_call 59; refine (isPoint_any _ _ _ _ _ _).mono ?_; rintro e w' ⟨rfl, hb⟩; (try replace hb := aft2 hb (by assumption)); obtain ⟨hc, hf, hs1, hs2, hs3, hs4⟩ := aftz hb)
    refine bodyPost_ret (by simp (maxDischargeDepth := 3) [results, Try.results20, go_sem, *]; try rfl) rfl ?_
    exact ret_eq rfl (by repeat (first | exact Below.refl _ _ | (with_reducible assumption) | refine bel_alloc ?_ _ | refine bel_drew ?_ | refine bel_drewN ?_ _ | refine Below.setCell ?_ (by dsimp only; omega) _ | refine bel_trans (by assumption) ?_))
  · cases hqt : pointB a b x2 y2 e2
    · go_enter Try.func20, Try.ntmps20
      go_wp2_with (go_at_call 59; refine (isPoint_any _ _ _ _ _ _).mono ?_; rintro e w' ⟨rfl, hb⟩; (try replace hb := aft2 hb (by assumption)); obtain ⟨hc, hf, hs1, hs2, hs3, hs4⟩ := aftz hb)
      refine bodyPost_ret (by simp (maxDischargeDepth := 3) [results, Try.results20, go_sem, *]; try rfl) rfl ?_
      exact ret_eq rfl (by repeat (first | exact Below.refl _ _ | (with_reducible assumption) | refine bel_alloc ?_ _ | refine bel_drew ?_ | refine bel_drewN ?_ _ | refine Below.setCell ?_ (by dsimp only; omega) _ | refine bel_trans (by assumption) ?_))
    · obtain ⟨n1, n2, n3, ok, hv⟩ := ptO_shape (addT a x y e x2 y2 e2)
      have hcon := fun w => addPoints_any a b x y e x2 y2 e2 w (pointB_on hpt).1 (pointB_on hpt).2 (pointB_on hqt).2
      have hr : ptO (bif true && true then addT a x y e x2 y2 e2 else none) = .tuple #[.agg #[.int .i64 n1, .int .i64 n2, .int .i64 n3], .bool ok] := hv
      rw [hr]
      rw [hv] at hcon
      clear hv hr
      go_enter Try.func20, Try.ntmps20
      go_wp2_with (first | (go_at_call 59; refine (isPoint_any _ _ _ _ _ _).mono ?_; rintro e w' ⟨rfl, hb⟩; (try replace hb := aft2 hb (by assumption)); obtain ⟨hc, hf, hs1, hs2, hs3, hs4⟩ := aftz hb) | (go_at_call 60; refine (hcon _).mono ?_; rintro e w' ⟨rfl, hb⟩; (try replace hb := aft2 hb (by assumption)); obtain ⟨hc, hf, hs1, hs2, hs3, hs4⟩ := aftz hb))
      refine bodyPost_ret (by simp (maxDischargeDepth := 3) [results, Try.results20, go_sem, *]; try rfl) rfl ?_
      exact ret_eq rfl (by repeat (first | exact Below.refl _ _ | (with_reducible assumption) | refine bel_alloc ?_ _ | refine bel_drew ?_ | refine bel_drewN ?_ _ | refine Below.setCell ?_ (by dsimp only; omega) _ | refine bel_trans (by assumption) ?_))
theorem sAddPoints_any (a b x y e x2 y2 e2 : Int) (w : World) :
    Calls Try.prog 21 #[.agg #[.int .i64 a, .int .i64 b], .agg #[.int .i64 x, .int .i64 y, .int .i64 e], .agg #[.int .i64 x2, .int .i64 y2, .int .i64 e2]] w (Ret (ptO (sumO a b x y e x2 y2 e2)) w) := by
  unfold sumO
  cases hpt : pointB a b x y e
  · go_enter Try.func21, Try.ntmps21
    go_wp2_with (go_at_call 61; refine (sIsPointOf_any _ _ _ _ _ _).mono ?_; rintro e w' ⟨rfl, hb⟩; (try replace hb := aft2 hb (by assumption)); obtain ⟨hc, hf, hs1, hs2, hs3, hs4⟩ := aftz hb)
    refine bodyPost_ret (by simp (maxDischargeDepth := 3) [results, Try.results21, go_sem, *]; try rfl) rfl ?_
    exact ret_eq rfl (by repeat (first | exact Below.refl _ _ | (with_reducible assumption) | refine bel_alloc ?_ _ | refine bel_drew ?_ | refine bel_drewN ?_ _ | refine Below.setCell ?_ (by dsimp only; omega) _ | refine bel_trans (by assumption) ?_))
  · cases hqt : pointB a b x2 y2 e2
    · go_enter Try.func21, Try.ntmps21
      go_wp2_with (go_at_call 61; refine (sIsPointOf_any _ _ _ _ _ _).mono ?_; rintro e w' ⟨rfl, hb⟩; (try replace hb := aft2 hb (by assumption)); obtain ⟨hc, hf, hs1, hs2, hs3, hs4⟩ := aftz hb)
      refine bodyPost_ret (by simp (maxDischargeDepth := 3) [results, Try.results21, go_sem, *]; try rfl) rfl ?_
      exact ret_eq rfl (by repeat (first | exact Below.refl _ _ | (with_reducible assumption) | refine bel_alloc ?_ _ | refine bel_drew ?_ | refine bel_drewN ?_ _ | refine Below.setCell ?_ (by dsimp only; omega) _ | refine bel_trans (by assumption) ?_))
    · obtain ⟨n1, n2, n3, ok, hv⟩ := ptO_shape (addT a x y e x2 y2 e2)
      have hcon := fun w => ptAdd_any a b x y e x2 y2 e2 w (pointB_on hpt).1 (pointB_on hpt).2 (pointB_on hqt).2
      have hr : ptO (bif true && true then addT a x y e x2 y2 e2 else none) = .tuple #[.agg #[.int .i64 n1, .int .i64 n2, .int .i64 n3], .bool ok] := hv
      rw [hr]
      rw [hv] at hcon
      clear hv hr
      go_enter Try.func21, Try.ntmps21
      go_wp2_with (first | (go_at_call 61; refine (sIsPointOf_any _ _ _ _ _ _).mono ?_; rintro e w' ⟨rfl, hb⟩; (try replace hb := aft2 hb (by assumption)); obtain ⟨hc, hf, hs1, hs2, hs3, hs4⟩ := aftz hb) | (go_at_call 62; refine (hcon _).mono ?_; rintro e w' ⟨rfl, hb⟩; (try replace hb := aft2 hb (by assumption)); obtain ⟨hc, hf, hs1, hs2, hs3, hs4⟩ := aftz hb))
      refine bodyPost_ret (by simp (maxDischargeDepth := 3) [results, Try.results21, go_sem, *]; try rfl) rfl ?_
      exact ret_eq rfl (by repeat (first | exact Below.refl _ _ | (with_reducible assumption) | refine bel_alloc ?_ _ | refine bel_drew ?_ | refine bel_drewN ?_ _ | refine Below.setCell ?_ (by dsimp only; omega) _ | refine bel_trans (by assumption) ?_))
theorem iDoublePoint_any (a b x y e : Int) (w : World) :
    Calls Try.prog 23 #[.agg #[.int .i64 a, .int .i64 b], .agg #[.int .i64 x, .int .i64 y, .int .i64 e]] w (Ret (ptO (sumO a b x y e x y e)) w) := by
  unfold sumO
  cases hpt : pointB a b x y e
  · go_enter Try.func23, Try.ntmps23
    go_wp2_with (go_at_call 59; refine (isPoint_any _ _ _ _ _ _).mono ?_; rintro e w' ⟨rfl, hb⟩; (try replace hb := aft2 hb (by assumption)); obtain ⟨hc, hf, hs1, hs2, hs3, hs4⟩ := aftz hb)
    refine bodyPost_ret (by simp (maxDischargeDepth := 3) [results, Try.results23, go_sem, *]; try rfl) rfl ?_
    exact ret_eq rfl (by repeat (first | exact Below.refl _ _ | (with_reducible assumption) | refine bel_alloc ?_ _ | refine bel_drew ?_ | refine bel_drewN ?_ _ | refine Below.setCell ?_ (by dsimp only; omega) _ | refine bel_trans (by assumption) ?_))
  · obtain ⟨n1, n2, n3, ok, hv⟩ := ptO_shape (addT a x y e x y e)
    have hcon := fun w => addPoints_any a b x y e x y e w (pointB_on hpt).1 (pointB_on hpt).2 (pointB_on hpt).2
    have hr : ptO (bif true && true then addT a x y e x y e else none) = .tuple #[.agg #[.int .i64 n1, .int .i64 n2, .int .i64 n3], .bool ok] := hv
    rw [hr]
    rw [hv] at hcon
    clear hv hr
    go_enter Try.func23, Try.ntmps23
    go_wp2_with (first | (go_at_call 59; refine (isPoint_any _ _ _ _ _ _).mono ?_; rintro e w' ⟨rfl, hb⟩; (try replace hb := aft2 hb (by assumption)); obtain ⟨hc, hf, hs1, hs2, hs3, hs4⟩ := aftz hb) | (go_at_call 60; refine (hcon _).mono ?_; rintro e w' ⟨rfl, hb⟩; (try replace hb := aft2 hb (by assumption)); obtain ⟨hc, hf, hs1, hs2, hs3, hs4⟩ := aftz hb))
    refine bodyPost_ret (by simp (maxDischargeDepth := 3) [results, Try.results23, go_sem, *]; try rfl) rfl ?_
    exact ret_eq rfl (by repeat (first | exact Below.refl _ _ | (with_reducible assumption) | refine bel_alloc ?_ _ | refine bel_drew ?_ | refine bel_drewN ?_ _ | refine Below.setCell ?_ (by dsimp only; omega) _ | refine bel_trans (by assumption) ?_))
theorem sDoublePoint_any (a b x y e : Int) (w : World) :
    Calls Try.prog 24 #[.agg #[.int .i64 a, .int .i64 b], .agg #[.int .i64 x, .int .i64 y, .int .i64 e]] w (Ret (ptO (sumO a b x y e x y e)) w) := by
  unfold sumO
  cases hpt : pointB a b x y e
  · go_enter Try.func24, Try.ntmps24
    go_wp2_with (go_at_call 61; refine (sIsPointOf_any _ _ _ _ _ _).mono ?_; rintro e w' ⟨rfl, hb⟩; (try replace hb := aft2 hb (by assumption)); obtain ⟨hc, hf, hs1, hs2, hs3, hs4⟩ := aftz hb)
    refine bodyPost_ret (by simp (maxDischargeDepth := 3) [results, Try.results24, go_sem, *]; try rfl) rfl ?_
    exact ret_eq rfl (by repeat (first | exact Below.refl _ _ | (with_reducible assumption) | refine bel_alloc ?_ _ | refine bel_drew ?_ | refine bel_drewN ?_ _ | refine Below.setCell ?_ (by dsimp only; omega) _ | refine bel_trans (by assumption) ?_))
  · obtain ⟨n1, n2, n3, ok, hv⟩ := ptO_shape (addT a x y e x y e)
    have hcon := fun w => ptAdd_any a b x y e x y e w (pointB_on hpt).1 (pointB_on hpt).2 (pointB_on hpt).2
    have hr : ptO (bif true && true then addT a x y e x y e else none) = .tuple #[.agg #[.int .i64 n1, .int .i64 n2, .int .i64 n3], .bool ok] := hv
    rw [hr]
    rw [hv] at hcon
    clear hv hr
    go_enter Try.func24, Try.ntmps24
    go_wp2_with (first | (go_at_call 61; refine (sIsPointOf_any _ _ _ _ _ _).mono ?_; rintro e w' ⟨rfl, hb⟩; (try replace hb := aft2 hb (by assumption)); obtain ⟨hc, hf, hs1, hs2, hs3, hs4⟩ := aftz hb) | (go_at_call 62; refine (hcon _).mono ?_; rintro e w' ⟨rfl, hb⟩; (try replace hb := aft2 hb (by assumption)); obtain ⟨hc, hf, hs1, hs2, hs3, hs4⟩ := aftz hb))
    refine bodyPost_ret (by simp (maxDischargeDepth := 3) [results, Try.results24, go_sem, *]; try rfl) rfl ?_
    exact ret_eq rfl (by repeat (first | exact Below.refl _ _ | (with_reducible assumption) | refine bel_alloc ?_ _ | refine bel_drew ?_ | refine bel_drewN ?_ _ | refine Below.setCell ?_ (by dsimp only; omega) _ | refine bel_trans (by assumption) ?_))
/-- whether three points lie on a line. -/
noncomputable def colV (a b x y e x2 y2 e2 x3 y3 e3 : Int) : Value :=
  bif pointB a b x y e && pointB a b x2 y2 e2 && pointB a b x3 y3 e3 then
    match addT a x y e x2 y2 e2 with
    | none => .tuple #[.bool false, .bool false]
    | some t => .tuple #[.bool (decide (t.1 = x3 ∧ t.2.1 = -y3 ∧ t.2.2 = e3)), .bool true]
  else .tuple #[.bool false, .bool false]
theorem colV_shape (a b x y e x2 y2 e2 x3 y3 e3 : Int) : ∃ r ok : Bool, colV a b x y e x2 y2 e2 x3 y3 e3 = .tuple #[.bool r, .bool ok] := by
  unfold colV
  cases pointB a b x y e && pointB a b x2 y2 e2 && pointB a b x3 y3 e3
  · exact ⟨_, _, rfl⟩
  · cases addT a x y e x2 y2 e2 with
    | none => exact ⟨_, _, rfl⟩
    | some t => exact ⟨_, _, rfl⟩
set_option maxHeartbeats 4000000 in
theorem iAreCollinear_any (a b x y e x2 y2 e2 x3 y3 e3 : Int) (w : World) :
    Calls Try.prog 28 #[.agg #[.int .i64 a, .int .i64 b], .agg #[.int .i64 x, .int .i64 y, .int .i64 e], .agg #[.int .i64 x2, .int .i64 y2, .int .i64 e2], .agg #[.int .i64 x3, .int .i64 y3, .int .i64 e3]] w (Ret (colV a b x y e x2 y2 e2 x3 y3 e3) w) := by
  obtain ⟨R, hR⟩ : ∃ R, colV a b x y e x2 y2 e2 x3 y3 e3 = R := ⟨_, rfl⟩
  rw [hR]
  have HR := Lib.hid hR; clear hR
  cases hpt : pointB a b x y e
  · go_enter Try.func28, Try.ntmps28
    go_wp2_with (go_at_call 59; refine (isPoint_any _ _ _ _ _ _).mono ?_; rintro e w' ⟨rfl, hb⟩; (try replace hb := aft2 hb (by assumption)); obtain ⟨hc, hf, hs1, hs2, hs3, hs4⟩ := aftz hb)
    refine bodyPost_ret (by simp (maxDischargeDepth := 3) [results, Try.results28, go_sem, *]; try rfl) rfl ?_
    exact ret_eq (by rw [← HR.out]; unfold colV; rw [hpt]; rfl) (by repeat (first | exact Below.refl _ _ | (with_reducible assumption) | refine bel_alloc ?_ _ | refine bel_drew ?_ | refine bel_drewN ?_ _ | refine Below.setCell ?_ (by dsimp only; omega) _ | refine bel_trans (by assumption) ?_))
  cases hqt : pointB a b x2 y2 e2
  · go_enter Try.func28, Try.ntmps28
    go_wp2_with (go_at_call 59; refine (isPoint_any _ _ _ _ _ _).mono ?_; rintro e w' ⟨rfl, hb⟩; (try replace hb := aft2 hb (by assumption)); obtain ⟨hc, hf, hs1, hs2, hs3, hs4⟩ := aftz hb)
    refine bodyPost_ret (by simp (maxDischargeDepth := 3) [results, Try.results28, go_sem, *]; try rfl) rfl ?_
    exact ret_eq (by rw [← HR.out]; unfold colV; rw [hpt, hqt]; rfl) (by repeat (first | exact Below.refl _ _ | (with_reducible assumption) | refine bel_alloc ?_ _ | refine bel_drew ?_ | refine bel_drewN ?_ _ | refine Below.setCell ?_ (by dsimp only; omega) _ | refine bel_trans (by assumption) ?_))
  cases hrt : pointB a b x3 y3 e3
  · go_enter Try.func28, Try.ntmps28
    go_wp2_with (go_at_call 59; refine (isPoint_any _ _ _ _ _ _).mono ?_; rintro e w' ⟨rfl, hb⟩; (try replace hb := aft2 hb (by assumption)); obtain ⟨hc, hf, hs1, hs2, hs3, hs4⟩ := aftz hb)
    refine bodyPost_ret (by simp (maxDischargeDepth := 3) [results, Try.results28, go_sem, *]; try rfl) rfl ?_
    exact ret_eq (by rw [← HR.out]; unfold colV; rw [hpt, hqt, hrt]; rfl) (by repeat (first | exact Below.refl _ _ | (with_reducible assumption) | refine bel_alloc ?_ _ | refine bel_drew ?_ | refine bel_drewN ?_ _ | refine Below.setCell ?_ (by dsimp only; omega) _ | refine bel_trans (by assumption) ?_))
  have hcon := fun w => addPoints_any a b x y e x2 y2 e2 w (pointB_on hpt).1 (pointB_on hpt).2 (pointB_on hqt).2
  obtain ⟨_, _, _, _, y1, y2b, _, _⟩ := pointB_bd hrt
  cases hadd : addT a x y e x2 y2 e2 with
  | none =>
    have hRv : R = .tuple #[.bool false, .bool false] := by rw [← HR.out]; unfold colV; rw [hpt, hqt, hrt, hadd]; rfl
    subst hRv
    rw [hadd, ptO_none] at hcon
    clear HR hadd
    go_enter Try.func28, Try.ntmps28
    go_wp2_with (first | (go_at_call 59; refine (isPoint_any _ _ _ _ _ _).mono ?_; rintro e w' ⟨rfl, hb⟩; (try replace hb := aft2 hb (by assumption)); obtain ⟨hc, hf, hs1, hs2, hs3, hs4⟩ := aftz hb) | (go_at_call 60; refine (hcon _).mono ?_; rintro e w' ⟨rfl, hb⟩; (try replace hb := aft2 hb (by assumption)); obtain ⟨hc, hf, hs1, hs2, hs3, hs4⟩ := aftz hb))
    refine wp_region_grow (by kernel_rfl) (by kernel_rfl) ?_
    repeat (go_big_quiet_step ((fail)))
    refine wpQuiet_nil ?_
    rintro wg hbg
    (try replace hbg := aft2 hbg (by assumption))
    obtain ⟨hcg, hfg, hg1, hg2, hg3, hg4⟩ := aftz hbg
    go_wp2_with fail
    refine bodyPost_ret (by simp (maxDischargeDepth := 3) [results, Try.results28, go_sem, *]; try rfl) rfl ?_
    exact ret_eq rfl (by repeat (first | exact Below.refl _ _ | (with_reducible assumption) | refine bel_alloc ?_ _ | refine bel_drew ?_ | refine bel_drewN ?_ _ | refine Below.setCell ?_ (by dsimp only; omega) _ | refine bel_trans (by assumption) ?_))
  | some t =>
    obtain ⟨tx, ty, te⟩ := t
    rw [hadd, ptO_some] at hcon
    by_cases hsame : tx = x3 ∧ ty = -y3 ∧ te = e3
    · have hRv : R = .tuple #[.bool true, .bool true] := by rw [← HR.out]; unfold colV; rw [hpt, hqt, hrt, hadd]; show Value.tuple #[.bool (decide (tx = x3 ∧ ty = -y3 ∧ te = e3)), .bool true] = _; rw [decide_eq_true hsame]
      subst hRv
      obtain ⟨rfl, rfl, rfl⟩ := hsame
      clear HR hadd
      go_enter Try.func28, Try.ntmps28
      go_wp2_with (first | (go_at_call 59; refine (isPoint_any _ _ _ _ _ _).mono ?_; rintro e w' ⟨rfl, hb⟩; (try replace hb := aft2 hb (by assumption)); obtain ⟨hc, hf, hs1, hs2, hs3, hs4⟩ := aftz hb) | (go_at_call 60; refine (hcon _).mono ?_; rintro e w' ⟨rfl, hb⟩; (try replace hb := aft2 hb (by assumption)); obtain ⟨hc, hf, hs1, hs2, hs3, hs4⟩ := aftz hb))
      refine wp_region_grow (by kernel_rfl) (by kernel_rfl) ?_
      repeat (go_big_quiet_step (((go_at_call 64; exact grow_ret (opposite_any _ _ _ _ y1 y2b)))))
      refine wpQuiet_nil ?_
      rintro wg hbg
      (try replace hbg := aft2 hbg (by assumption))
      obtain ⟨hcg, hfg, hg1, hg2, hg3, hg4⟩ := aftz hbg
      go_wp2_with fail
      refine bodyPost_ret (by simp (maxDischargeDepth := 3) [results, Try.results28, go_sem, *]; try rfl) rfl ?_
      exact ret_eq rfl (by repeat (first | exact Below.refl _ _ | (with_reducible assumption) | refine bel_alloc ?_ _ | refine bel_drew ?_ | refine bel_drewN ?_ _ | refine Below.setCell ?_ (by dsimp only; omega) _ | refine bel_trans (by assumption) ?_))
    · have hRv : R = .tuple #[.bool false, .bool true] := by rw [← HR.out]; unfold colV; rw [hpt, hqt, hrt, hadd]; show Value.tuple #[.bool (decide (tx = x3 ∧ ty = -y3 ∧ te = e3)), .bool true] = _; rw [decide_eq_false hsame]
      subst hRv
      have hsb := ptEq_no hsame
      clear HR hadd
      go_enter Try.func28, Try.ntmps28
      go_wp2_with (first | (go_at_call 59; refine (isPoint_any _ _ _ _ _ _).mono ?_; rintro e w' ⟨rfl, hb⟩; (try replace hb := aft2 hb (by assumption)); obtain ⟨hc, hf, hs1, hs2, hs3, hs4⟩ := aftz hb) | (go_at_call 60; refine (hcon _).mono ?_; rintro e w' ⟨rfl, hb⟩; (try replace hb := aft2 hb (by assumption)); obtain ⟨hc, hf, hs1, hs2, hs3, hs4⟩ := aftz hb))
      refine wp_region_grow (by kernel_rfl) (by kernel_rfl) ?_
      repeat (go_big_quiet_step (((go_at_call 64; exact grow_ret (opposite_any _ _ _ _ y1 y2b)))))
      refine wpQuiet_nil ?_
      rintro wg hbg
      (try replace hbg := aft2 hbg (by assumption))
      obtain ⟨hcg, hfg, hg1, hg2, hg3, hg4⟩ := aftz hbg
      go_wp2_with fail
      refine bodyPost_ret (by simp (maxDischargeDepth := 3) [results, Try.results28, go_sem, *]; try rfl) rfl ?_
      exact ret_eq rfl (by repeat (first | exact Below.refl _ _ | (with_reducible assumption) | refine bel_alloc ?_ _ | refine bel_drew ?_ | refine bel_drewN ?_ _ | refine Below.setCell ?_ (by dsimp only; omega) _ | refine bel_trans (by assumption) ?_))
set_option maxHeartbeats 4000000 in
theorem sAreCollinear_any (a b x y e x2 y2 e2 x3 y3 e3 : Int) (w : World) :
    Calls Try.prog 29 #[.agg #[.int .i64 a, .int .i64 b], .agg #[.int .i64 x, .int .i64 y, .int .i64 e], .agg #[.int .i64 x2, .int .i64 y2, .int .i64 e2], .agg #[.int .i64 x3, .int .i64 y3, .int .i64 e3]] w (Ret (colV a b x y e x2 y2 e2 x3 y3 e3) w) := by
  obtain ⟨R, hR⟩ : ∃ R, colV a b x y e x2 y2 e2 x3 y3 e3 = R := ⟨_, rfl⟩
  rw [hR]
  have HR := Lib.hid hR; clear hR
  cases hpt : pointB a b x y e
  · go_enter Try.func29, Try.ntmps29
    go_wp2_with (go_at_call 61; refine (sIsPointOf_any _ _ _ _ _ _).mono ?_; rintro e w' ⟨rfl, hb⟩; (try replace hb := aft2 hb (by assumption)); obtain ⟨hc, hf, hs1, hs2, hs3, hs4⟩ := aftz hb)
    refine bodyPost_ret (by simp (maxDischargeDepth := 3) [results, Try.results29, go_sem, *]; try rfl) rfl ?_
    exact ret_eq (by rw [← HR.out]; unfold colV; rw [hpt]; rfl) (by repeat (first | exact Below.refl _ _ | (with_reducible assumption) | refine bel_alloc ?_ _ | refine bel_drew ?_ | refine bel_drewN ?_ _ | refine Below.setCell ?_ (by dsimp only; omega) _ | refine bel_trans (by assumption) ?_))
  cases hqt : pointB a b x2 y2 e2
  · go_enter Try.func29, Try.ntmps29
    go_wp2_with (go_at_call 61; refine (sIsPointOf_any _ _ _ _ _ _).mono ?_; rintro e w' ⟨rfl, hb⟩; (try replace hb := aft2 hb (by assumption)); obtain ⟨hc, hf, hs1, hs2, hs3, hs4⟩ := aftz hb)
    refine bodyPost_ret (by simp (maxDischargeDepth := 3) [results, Try.results29, go_sem, *]; try rfl) rfl ?_
    exact ret_eq (by rw [← HR.out]; unfold colV; rw [hpt, hqt]; rfl) (by repeat (first | exact Below.refl _ _ | (with_reducible assumption) | refine bel_alloc ?_ _ | refine bel_drew ?_ | refine bel_drewN ?_ _ | refine Below.setCell ?_ (by dsimp only; omega) _ | refine bel_trans (by assumption) ?_))
  cases hrt : pointB a b x3 y3 e3
  · go_enter Try.func29, Try.ntmps29
    go_wp2_with (go_at_call 61; refine (sIsPointOf_any _ _ _ _ _ _).mono ?_; rintro e w' ⟨rfl, hb⟩; (try replace hb := aft2 hb (by assumption)); obtain ⟨hc, hf, hs1, hs2, hs3, hs4⟩ := aftz hb)
    refine bodyPost_ret (by simp (maxDischargeDepth := 3) [results, Try.results29, go_sem, *]; try rfl) rfl ?_
    exact ret_eq (by rw [← HR.out]; unfold colV; rw [hpt, hqt, hrt]; rfl) (by repeat (first | exact Below.refl _ _ | (with_reducible assumption) | refine bel_alloc ?_ _ | refine bel_drew ?_ | refine bel_drewN ?_ _ | refine Below.setCell ?_ (by dsimp only; omega) _ | refine bel_trans (by assumption) ?_))
  have hcon := fun w => ptAdd_any a b x y e x2 y2 e2 w (pointB_on hpt).1 (pointB_on hpt).2 (pointB_on hqt).2
  obtain ⟨_, _, _, _, y1, y2b, _, _⟩ := pointB_bd hrt
  cases hadd : addT a x y e x2 y2 e2 with
  | none =>
    have hRv : R = .tuple #[.bool false, .bool false] := by rw [← HR.out]; unfold colV; rw [hpt, hqt, hrt, hadd]; rfl
    subst hRv
    rw [hadd, ptO_none] at hcon
    clear HR hadd
    go_enter Try.func29, Try.ntmps29
    go_wp2_with (first | (go_at_call 61; refine (sIsPointOf_any _ _ _ _ _ _).mono ?_; rintro e w' ⟨rfl, hb⟩; (try replace hb := aft2 hb (by assumption)); obtain ⟨hc, hf, hs1, hs2, hs3, hs4⟩ := aftz hb) | (go_at_call 62; refine (hcon _).mono ?_; rintro e w' ⟨rfl, hb⟩; (try replace hb := aft2 hb (by assumption)); obtain ⟨hc, hf, hs1, hs2, hs3, hs4⟩ := aftz hb))
    refine bodyPost_ret (by simp (maxDischargeDepth := 3) [results, Try.results29, go_sem, *]; try rfl) rfl ?_
    exact ret_eq rfl (by repeat (first | exact Below.refl _ _ | (with_reducible assumption) | refine bel_alloc ?_ _ | refine bel_drew ?_ | refine bel_drewN ?_ _ | refine Below.setCell ?_ (by dsimp only; omega) _ | refine bel_trans (by assumption) ?_))
  | some t =>
    obtain ⟨tx, ty, te⟩ := t
    rw [hadd, ptO_some] at hcon
    by_cases hsame : tx = x3 ∧ ty = -y3 ∧ te = e3
    · have hRv : R = .tuple #[.bool true, .bool true] := by rw [← HR.out]; unfold colV; rw [hpt, hqt, hrt, hadd]; show Value.tuple #[.bool (decide (tx = x3 ∧ ty = -y3 ∧ te = e3)), .bool true] = _; rw [decide_eq_true hsame]
      subst hRv
      obtain ⟨rfl, rfl, rfl⟩ := hsame
      clear HR hadd
      go_enter Try.func29, Try.ntmps29
      go_wp2_with (first | (go_at_call 61; refine (sIsPointOf_any _ _ _ _ _ _).mono ?_; rintro e w' ⟨rfl, hb⟩; (try replace hb := aft2 hb (by assumption)); obtain ⟨hc, hf, hs1, hs2, hs3, hs4⟩ := aftz hb) | (go_at_call 62; refine (hcon _).mono ?_; rintro e w' ⟨rfl, hb⟩; (try replace hb := aft2 hb (by assumption)); obtain ⟨hc, hf, hs1, hs2, hs3, hs4⟩ := aftz hb))
      refine wp_region_grow (by kernel_rfl) (by kernel_rfl) ?_
      repeat (go_big_quiet_step (((go_at_call 57; exact grow_ret (ptMinus_any _ _ _ _ y1 y2b)))))
      refine wpQuiet_nil ?_
      rintro wg hbg
      (try replace hbg := aft2 hbg (by assumption))
      obtain ⟨hcg, hfg, hg1, hg2, hg3, hg4⟩ := aftz hbg
      go_wp2_with fail
      refine bodyPost_ret (by simp (maxDischargeDepth := 3) [results, Try.results29, go_sem, *]; try rfl) rfl ?_
      exact ret_eq rfl (by repeat (first | exact Below.refl _ _ | (with_reducible assumption) | refine bel_alloc ?_ _ | refine bel_drew ?_ | refine bel_drewN ?_ _ | refine Below.setCell ?_ (by dsimp only; omega) _ | refine bel_trans (by assumption) ?_))
    · have hRv : R = .tuple #[.bool false, .bool true] := by rw [← HR.out]; unfold colV; rw [hpt, hqt, hrt, hadd]; show Value.tuple #[.bool (decide (tx = x3 ∧ ty = -y3 ∧ te = e3)), .bool true] = _; rw [decide_eq_false hsame]
      subst hRv
      have hsb := ptEq_no hsame
      clear HR hadd
      go_enter Try.func29, Try.ntmps29
      go_wp2_with (first | (go_at_call 61; refine (sIsPointOf_any _ _ _ _ _ _).mono ?_; rintro e w' ⟨rfl, hb⟩; (try replace hb := aft2 hb (by assumption)); obtain ⟨hc, hf, hs1, hs2, hs3, hs4⟩ := aftz hb) | (go_at_call 62; refine (hcon _).mono ?_; rintro e w' ⟨rfl, hb⟩; (try replace hb := aft2 hb (by assumption)); obtain ⟨hc, hf, hs1, hs2, hs3, hs4⟩ := aftz hb))
      refine wp_region_grow (by kernel_rfl) (by kernel_rfl) ?_
      repeat (go_big_quiet_step (((go_at_call 57; exact grow_ret (ptMinus_any _ _ _ _ y1 y2b)))))
      refine wpQuiet_nil ?_
      rintro wg hbg
      (try replace hbg := aft2 hbg (by assumption))
      obtain ⟨hcg, hfg, hg1, hg2, hg3, hg4⟩ := aftz hbg
      go_wp2_with fail
      refine bodyPost_ret (by simp (maxDischargeDepth := 3) [results, Try.results29, go_sem, *]; try rfl) rfl ?_
      exact ret_eq rfl (by repeat (first | exact Below.refl _ _ | (with_reducible assumption) | refine bel_alloc ?_ _ | refine bel_drew ?_ | refine bel_drewN ?_ _ | refine Below.setCell ?_ (by dsimp only; omega) _ | refine bel_trans (by assumption) ?_))
end Go.Proofs.Ytnhlcgbknkdbiaa
