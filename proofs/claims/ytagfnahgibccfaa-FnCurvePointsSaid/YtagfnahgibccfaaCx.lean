/- Cx: contracts: roots, real parts, discriminants, invariants and points of curves; sums and members of lists. No conditions. -/
import Derived.Test.YtagfnahgibccfaaCq
import Derived.Test.YtagfnahgibccfaaEp
import Derived.Test.YtagfnahgibccfaaDc
import Derived.Test.YtagfnahgibccfaaLs
import Derived.Test.YtagfnahgibccfaaMk
import Derived.Test.YtagfnahgibccfaaFac
import Derived.Test.YtagfnahgibccfaaCur
namespace Go.Proofs.Ytagfnahgibccfaa
open Go.RowKit

theorem cub_bds {a x M : Int} (h1 : -1000 ≤ a) (h2 : a ≤ 1000) (hx : -M ≤ x) (hx' : x ≤ M) (hM : 0 ≤ M) : (-(M * M) ≤ x * x ∧ x * x ≤ M * M) ∧ (-(M * M * M) ≤ x * x * x ∧ x * x * x ≤ M * M * M) ∧ (-(1000 * M) ≤ a * x ∧ a * x ≤ 1000 * M) := by
  have b1 := mul_bd (a := x) (b := x) (A := M) (B := M) hx hx' hx hx'
  have hMM : 0 ≤ M * M := Int.mul_nonneg hM hM
  have b2 := mul_bd (a := x * x) (b := x) (A := M * M) (B := M) b1.1 b1.2 hx hx'
  have b3 := mul_bd (a := a) (b := x) (A := 1000) (B := M) h1 h2 hx hx'
  exact ⟨b1, b2, b3⟩
theorem ecValue_any (a b x : Int) (w : World) (h1 : -1000 ≤ a) (h2 : a ≤ 1000) (h3 : -10000 ≤ b) (h4 : b ≤ 10000) (h5 : -1000000 ≤ x) (h6 : x ≤ 1000000) :
    Calls Try.prog 37 #[.agg #[.int .i64 a, .int .i64 b], .int .i64 x] w (Ret (.int .i64 (cubV a b x)) w) := by
  unfold cubV
  obtain ⟨b1, b2, b3⟩ := cub_bds h1 h2 h5 h6 (by omega)
  go_enter Try.func37, Try.ntmps37
  go_wp2
  go_ret
  exact ret_mk (by repeat (first | exact Below.refl _ _ | (with_reducible assumption) | refine bel_alloc ?_ _ | refine bel_drew ?_ | refine bel_drewN ?_ _ | refine Below.setCell ?_ (by dsimp only; omega) _ | refine bel_trans (by assumption) ?_))
theorem iRealParts_any (a b : Int) (w : World) :
    Calls Try.prog 8 #[.agg #[.int .i64 a, .int .i64 b]] w (Ret (if curveB a b = true then .tuple #[.int .i64 (if discI a b < 0 then 2 else 1), .bool true] else .tuple #[.int .i64 0, .bool false]) w) := by
  cases h : curveB a b
  · rw [if_neg (by decide)]
    go_enter Try.func8, Try.ntmps8
    go_wp2_with fail
    refine (isCurve_any _ _ _).mono ?_; rintro e w1 ⟨rfl, hb1⟩
    rw [h]
    go_wp2_with fail
    go_returns
    exact ret_eq (by rfl) (by repeat (first | exact Below.refl _ _ | (with_reducible assumption) | refine bel_alloc ?_ _ | refine bel_drew ?_ | refine bel_drewN ?_ _ | refine Below.setCell ?_ (by dsimp only; omega) _ | refine bel_trans (by assumption) ?_))
  · obtain ⟨h1, h2, h3, h4, h5⟩ := curveB_true.1 h
    rw [if_pos rfl]
    by_cases hd : discI a b < 0
    all_goals
      first | rw [if_pos hd] | rw [if_neg hd]
      go_enter Try.func8, Try.ntmps8
      go_wp2_with fail
      have c5 : w.heap.size < (w.alloc (.cells #[.int .i64 a, .int .i64 b] 25)).heap.size := by simp
      have c6 : (w.alloc (.cells #[.int .i64 a, .int .i64 b] 25)).cell? ⟨w.heap.size, 0, none⟩ = some (.int .i64 a) := by simp [go_sem]
      have c7 : (w.alloc (.cells #[.int .i64 a, .int .i64 b] 25)).cell? ⟨w.heap.size, 1, none⟩ = some (.int .i64 b) := by simp [go_sem]
      have hbW : Below w.heap.size w (w.alloc (.cells #[.int .i64 a, .int .i64 b] 25)) := below_allocD _ _
      generalize w.alloc (.cells #[.int .i64 a, .int .i64 b] 25) = W at c5 c6 c7 hbW ⊢
      refine (isCurve_any _ _ _).mono ?_; rintro e w1 ⟨rfl, hb1⟩
      rw [h]
      have d6 := (hb1.cell (p := ⟨w.heap.size, 0, none⟩) c5).trans c6
      have d7 := (hb1.cell (p := ⟨w.heap.size, 1, none⟩) c5).trans c7
      go_wp2_with fail
      refine (core_any _ _ _ h1 h2 h3 h4).mono ?_; rintro e w2 ⟨rfl, hb2⟩
      go_wp2_with fail
      go_returns
      exact ret_eq (by rfl) (bel_trans hb2 (bel_trans hb1 hbW))
theorem iDiscriminantOf_any (a b : Int) (w : World) :
    Calls Try.prog 12 #[.agg #[.int .i64 a, .int .i64 b]] w (Ret (if curveB a b = true then .tuple #[.int .i64 (-16 * discI a b), .bool true] else .tuple #[.int .i64 0, .bool false]) w) := by
  cases h : curveB a b
  · rw [if_neg (by decide)]
    go_enter Try.func12, Try.ntmps12
    go_wp2_with fail
    refine (isCurve_any _ _ _).mono ?_; rintro e w1 ⟨rfl, hb1⟩
    rw [h]
    go_wp2_with fail
    go_returns
    exact ret_eq (by rfl) (by repeat (first | exact Below.refl _ _ | (with_reducible assumption) | refine bel_alloc ?_ _ | refine bel_drew ?_ | refine bel_drewN ?_ _ | refine Below.setCell ?_ (by dsimp only; omega) _ | refine bel_trans (by assumption) ?_))
  · obtain ⟨h1, h2, h3, h4, h5⟩ := curveB_true.1 h
    rw [if_pos rfl]
    have hdb := disc_bd h1 h2 h3 h4
    have hwr : IntKind.i64.wrap (-16 * discI a b) = -16 * discI a b := wrapf (by omega) (by omega)
    generalize hD : discI a b = D at *
    go_enter Try.func12, Try.ntmps12
    go_wp2_with fail
    have c5 : w.heap.size < (w.alloc (.cells #[.int .i64 a, .int .i64 b] 25)).heap.size := by simp
    have c6 : (w.alloc (.cells #[.int .i64 a, .int .i64 b] 25)).cell? ⟨w.heap.size, 0, none⟩ = some (.int .i64 a) := by simp [go_sem]
    have c7 : (w.alloc (.cells #[.int .i64 a, .int .i64 b] 25)).cell? ⟨w.heap.size, 1, none⟩ = some (.int .i64 b) := by simp [go_sem]
    have hbW : Below w.heap.size w (w.alloc (.cells #[.int .i64 a, .int .i64 b] 25)) := below_allocD _ _
    generalize w.alloc (.cells #[.int .i64 a, .int .i64 b] 25) = W at c5 c6 c7 hbW ⊢
    refine (isCurve_any _ _ _).mono ?_; rintro e w1 ⟨rfl, hb1⟩
    rw [h]
    have d6 := (hb1.cell (p := ⟨w.heap.size, 0, none⟩) c5).trans c6
    have d7 := (hb1.cell (p := ⟨w.heap.size, 1, none⟩) c5).trans c7
    go_wp2_with fail
    refine (core_any _ _ _ h1 h2 h3 h4).mono ?_; rintro e w2 ⟨rfl, hb2⟩
    rw [hD]
    go_wp2_with fail
    go_returns
    exact ret_eq (by rfl) (bel_trans hb2 (bel_trans hb1 hbW))
theorem sRealParts_any (a b : Int) (w : World) :
    Calls Try.prog 9 #[.agg #[.int .i64 a, .int .i64 b]] w (Ret (if curveB a b = true then .tuple #[.int .i64 (if discI a b < 0 then 2 else 1), .bool true] else .tuple #[.int .i64 0, .bool false]) w) := by
  cases h : curveB a b
  · rw [if_neg (by decide)]
    go_enter Try.func9, Try.ntmps9
    go_wp2_with fail
    refine (ecGood_any _ _ _).mono ?_; rintro e w1 ⟨rfl, hb1⟩
    rw [h]
    go_wp2_with fail
    go_returns
    exact ret_eq (by rfl) (by repeat (first | exact Below.refl _ _ | (with_reducible assumption) | refine bel_alloc ?_ _ | refine bel_drew ?_ | refine bel_drewN ?_ _ | refine Below.setCell ?_ (by dsimp only; omega) _ | refine bel_trans (by assumption) ?_))
  · obtain ⟨h1, h2, h3, h4, h5⟩ := curveB_true.1 h
    rw [if_pos rfl]
    by_cases hd : discI a b < 0
    all_goals
      first | rw [if_pos hd] | rw [if_neg hd]
      go_enter Try.func9, Try.ntmps9
      go_wp2_with fail
      have c5 : w.heap.size < (w.alloc (.cells #[.int .i64 a, .int .i64 b] 25)).heap.size := by simp
      have c6 : (w.alloc (.cells #[.int .i64 a, .int .i64 b] 25)).cell? ⟨w.heap.size, 0, none⟩ = some (.int .i64 a) := by simp [go_sem]
      have c7 : (w.alloc (.cells #[.int .i64 a, .int .i64 b] 25)).cell? ⟨w.heap.size, 1, none⟩ = some (.int .i64 b) := by simp [go_sem]
      have hbW : Below w.heap.size w (w.alloc (.cells #[.int .i64 a, .int .i64 b] 25)) := below_allocD _ _
      generalize w.alloc (.cells #[.int .i64 a, .int .i64 b] 25) = W at c5 c6 c7 hbW ⊢
      refine (ecGood_any _ _ _).mono ?_; rintro e w1 ⟨rfl, hb1⟩
      rw [h]
      have d6 := (hb1.cell (p := ⟨w.heap.size, 0, none⟩) c5).trans c6
      have d7 := (hb1.cell (p := ⟨w.heap.size, 1, none⟩) c5).trans c7
      go_wp2_with fail
      refine (ecDisc_any _ _ _ h1 h2 h3 h4).mono ?_; rintro e w2 ⟨rfl, hb2⟩
      go_wp2_with fail
      go_returns
      exact ret_eq (by rfl) (bel_trans hb2 (bel_trans hb1 hbW))
theorem sDiscriminantOf_any (a b : Int) (w : World) :
    Calls Try.prog 13 #[.agg #[.int .i64 a, .int .i64 b]] w (Ret (if curveB a b = true then .tuple #[.int .i64 (-16 * discI a b), .bool true] else .tuple #[.int .i64 0, .bool false]) w) := by
  cases h : curveB a b
  · rw [if_neg (by decide)]
    go_enter Try.func13, Try.ntmps13
    go_wp2_with fail
    refine (ecGood_any _ _ _).mono ?_; rintro e w1 ⟨rfl, hb1⟩
    rw [h]
    go_wp2_with fail
    go_returns
    exact ret_eq (by rfl) (by repeat (first | exact Below.refl _ _ | (with_reducible assumption) | refine bel_alloc ?_ _ | refine bel_drew ?_ | refine bel_drewN ?_ _ | refine Below.setCell ?_ (by dsimp only; omega) _ | refine bel_trans (by assumption) ?_))
  · obtain ⟨h1, h2, h3, h4, h5⟩ := curveB_true.1 h
    rw [if_pos rfl]
    have hdb := disc_bd h1 h2 h3 h4
    have hwr : IntKind.i64.wrap (-16 * discI a b) = -16 * discI a b := wrapf (by omega) (by omega)
    generalize hD : discI a b = D at *
    go_enter Try.func13, Try.ntmps13
    go_wp2_with fail
    have c5 : w.heap.size < (w.alloc (.cells #[.int .i64 a, .int .i64 b] 25)).heap.size := by simp
    have c6 : (w.alloc (.cells #[.int .i64 a, .int .i64 b] 25)).cell? ⟨w.heap.size, 0, none⟩ = some (.int .i64 a) := by simp [go_sem]
    have c7 : (w.alloc (.cells #[.int .i64 a, .int .i64 b] 25)).cell? ⟨w.heap.size, 1, none⟩ = some (.int .i64 b) := by simp [go_sem]
    have hbW : Below w.heap.size w (w.alloc (.cells #[.int .i64 a, .int .i64 b] 25)) := below_allocD _ _
    generalize w.alloc (.cells #[.int .i64 a, .int .i64 b] 25) = W at c5 c6 c7 hbW ⊢
    refine (ecGood_any _ _ _).mono ?_; rintro e w1 ⟨rfl, hb1⟩
    rw [h]
    have d6 := (hb1.cell (p := ⟨w.heap.size, 0, none⟩) c5).trans c6
    have d7 := (hb1.cell (p := ⟨w.heap.size, 1, none⟩) c5).trans c7
    go_wp2_with fail
    refine (ecDisc_any _ _ _ h1 h2 h3 h4).mono ?_; rintro e w2 ⟨rfl, hb2⟩
    rw [hD]
    go_wp2_with fail
    go_returns
    exact ret_eq (by rfl) (bel_trans hb2 (bel_trans hb1 hbW))
theorem iInvariantOf_any (a b : Int) (w : World) :
    Calls Try.prog 14 #[.agg #[.int .i64 a, .int .i64 b]] w (Ret (if curveB a b = true then .tuple #[.int .i64 (lowN (6912 * a * a * a) (discI a b)), .int .i64 (lowD (6912 * a * a * a) (discI a b)), .bool true] else .tuple #[.int .i64 0, .int .i64 0, .bool false]) w) := by
  cases h : curveB a b
  · rw [if_neg (by decide)]
    go_enter Try.func14, Try.ntmps14
    go_wp2_with fail
    refine (isCurve_any _ _ _).mono ?_; rintro e w1 ⟨rfl, hb1⟩
    rw [h]
    go_wp2_with fail
    go_returns
    exact ret_eq (by rfl) (by repeat (first | exact Below.refl _ _ | (with_reducible assumption) | refine bel_alloc ?_ _ | refine bel_drew ?_ | refine bel_drewN ?_ _ | refine Below.setCell ?_ (by dsimp only; omega) _ | refine bel_trans (by assumption) ?_))
  · obtain ⟨h1, h2, h3, h4, h5⟩ := curveB_true.1 h
    rw [if_pos rfl]
    have hdb := disc_bd h1 h2 h3 h4
    have b1 := mul_bd (a := 6912 * a) (b := a) (A := 6912000) (B := 1000) (by omega) (by omega) h1 h2
    have b2 := mul_bd (a := 6912 * a * a) (b := a) (A := 6912000000) (B := 1000) b1.1 b1.2 h1 h2
    have x1 : IntKind.i64.wrap (6912 * a) = 6912 * a := wrapf (by omega) (by omega)
    have x2 : IntKind.i64.wrap (6912 * a * a) = 6912 * a * a := wrapf (by omega) (by omega)
    have x3 : IntKind.i64.wrap (6912 * a * a * a) = 6912 * a * a * a := wrapf (by omega) (by omega)
    have X1 := Lib.hid x1; have X2 := Lib.hid x2; have X3 := Lib.hid x3
    go_enter Try.func14, Try.ntmps14
    go_wp2_with fail
    have c5 : w.heap.size < (w.alloc (.cells #[.int .i64 a, .int .i64 b] 25)).heap.size := by simp
    have c6 : (w.alloc (.cells #[.int .i64 a, .int .i64 b] 25)).cell? ⟨w.heap.size, 0, none⟩ = some (.int .i64 a) := by simp [go_sem]
    have c7 : (w.alloc (.cells #[.int .i64 a, .int .i64 b] 25)).cell? ⟨w.heap.size, 1, none⟩ = some (.int .i64 b) := by simp [go_sem]
    have hbW : Below w.heap.size w (w.alloc (.cells #[.int .i64 a, .int .i64 b] 25)) := below_allocD _ _
    generalize w.alloc (.cells #[.int .i64 a, .int .i64 b] 25) = W at c5 c6 c7 hbW ⊢
    refine (isCurve_any _ _ _).mono ?_; rintro e w1 ⟨rfl, hb1⟩
    rw [h]
    have d6 := (hb1.cell (p := ⟨w.heap.size, 0, none⟩) c5).trans c6
    have d7 := (hb1.cell (p := ⟨w.heap.size, 1, none⟩) c5).trans c7
    go_wp2_with fail
    have hcore := fun w => core_any a b w h1 h2 h3 h4
    have d5 := Nat.lt_of_lt_of_le c5 hb1.size
    have HBB := Lib.hid (bel_trans hb1 hbW); clear hb1 hbW c5 c6 c7
    obtain ⟨num, hnum⟩ : ∃ num, 6912 * a * a * a = num := ⟨_, rfl⟩
    generalize hD : discI a b = D at *
    rw [hnum]
    rw [hnum] at b2
    have n0 : -1000000000000000000 ≤ num := by omega
    have n1 : num ≤ 1000000000000000000 := by omega
    have d0 : -1000000000000000000 ≤ D := by omega
    have d1 : D ≤ 1000000000000000000 := by omega
    obtain ⟨G, hG⟩ : ∃ G, gcdI num D = G := ⟨_, rfl⟩
    have hgb := gcdI_bd (n := num) h5
    rw [hG] at hgb
    obtain ⟨g, hg⟩ : ∃ g, sgcd num D = g := ⟨_, rfl⟩
    have hgne := sgcd_ne (n := num) h5
    rw [hg] at hgne
    have hgg : g = if D < 0 then -G else G := by rw [← hg, ← hG]; rfl
    have hv1 : lowN (6912 * a * a * a) D = num.tdiv g := by rw [hnum]; unfold lowN; rw [hg]
    have hv2 : lowD (6912 * a * a * a) D = D.tdiv g := by rw [hnum]; unfold lowD; rw [hg]
    have HV1 := Lib.hid hv1; have HV2 := Lib.hid hv2
    have t1 := tdiv_bd (g := g) n0 n1
    have t2 := tdiv_bd (g := g) d0 d1
    have y1 : IntKind.i64.wrap (num.tdiv g) = num.tdiv g := wrapf (by omega) (by omega)
    have y2 : IntKind.i64.wrap (D.tdiv g) = D.tdiv g := wrapf (by omega) (by omega)
    clear hv1 hv2 hg
    have hgb0 : (g == 0) = false := by simp [hgne]
    have hgn0 : ¬ g = 0 := hgne
    have HG := Lib.hid hG; clear hG
    have Y1 := Lib.hid y1; have Y2 := Lib.hid y2; clear y1 y2
    have HGB0 := Lib.hid hgb0; have HGN := Lib.hid hgn0; clear hgb0 hgn0 hgne
    refine wp_region_grow (by kernel_rfl) (by kernel_rfl) ?_
    repeat (go_big_quiet_step (((go_at_call 29; exact grow_ret (hcore _)))))
    refine wpQuiet_nil ?_
    rintro wg hbg
    (try replace hbg := aft2 hbg (by assumption))
    obtain ⟨hcg, hfg, hg1, hg2, hg3, hg4⟩ := aftz hbg
    have HBX := Lib.hid hbg; clear hbg hcg hfg hg1 hg2 hg3 hg4 d5 d6 d7 HBB hnum x1 x2 x3 X1 X2 X3
    go_wp2_with fail
    refine (gcd_any num D _ (by omega) (by omega) (by omega) (by omega)).mono ?_; rintro e w2 ⟨rfl, hb2⟩
    rw [HG.out]
    have HB2 := Lib.hid (bel_trans hb2 HBX.out); clear hb2
    by_cases hneg : D < 0
    all_goals
      first | rw [if_pos hneg] at hgg | rw [if_neg hneg] at hgg
      have HGG := Lib.hid hgg; clear hgg
      have hbf : Below w2.heap.size w2 w2 := Below.refl _ _
      go_wp2_with fail
      rw [← HGG.out]
      have y1 := Y1.out; have y2 := Y2.out; have hgb0 := HGB0.out; have hgn0 := HGN.out
      go_quiet (fail)
      go_wp2_with fail
      go_returns
      exact ret_eq (by rw [HV1.out, HV2.out]; rfl) (bel_drewN HB2.out _)
set_option maxHeartbeats 4000000 in
theorem iOrderTwoAt_any (a b : Int) (w : World) (h : curveB a b = true) :
    Calls Try.prog 6 #[.agg #[.int .i64 a, .int .i64 b]] w (RetSlB (rts a b (-200) 401) true w) := by
  obtain ⟨i0, hi, hz0, hz1, hz2⟩ := info_parts Try.info_int
  obtain ⟨q1, q2, q3, q4, q5⟩ := curveB_true.1 h
  have HC := Lib.hid h; clear h q5
  go_enter Try.func6, Try.ntmps6
  go_wp2_with fail
  have c5 : w.heap.size < (w.alloc (.cells #[.int .i64 a, .int .i64 b] 25)).heap.size := by simp
  have c6 : (w.alloc (.cells #[.int .i64 a, .int .i64 b] 25)).cell? ⟨w.heap.size, 0, none⟩ = some (.int .i64 a) := by simp [go_sem]
  have c7 : (w.alloc (.cells #[.int .i64 a, .int .i64 b] 25)).cell? ⟨w.heap.size, 1, none⟩ = some (.int .i64 b) := by simp [go_sem]
  have hbW : Below w.heap.size w (w.alloc (.cells #[.int .i64 a, .int .i64 b] 25)) := below_allocD _ _
  generalize w.alloc (.cells #[.int .i64 a, .int .i64 b] 25) = W at c5 c6 c7 hbW ⊢
  generalize hB0 : w.heap.size = B0 at c5 c6 c7 ⊢
  have HB0 := Lib.hid hB0; clear hB0
  refine (isCurve_any _ _ _).mono ?_; rintro e w1 ⟨rfl, hb1⟩
  rw [HC.out]
  have d5 := Nat.lt_of_lt_of_le c5 hb1.size
  have d6 := (hb1.cell (p := ⟨B0, 0, none⟩) c5).trans c6
  have d7 := (hb1.cell (p := ⟨B0, 1, none⟩) c5).trans c7
  have hbW1 := bel_trans hb1 hbW
  clear hb1 c5 c6 c7 hbW
  have HBW := Lib.hid hbW1; clear hbW1
  have c5 := d5; have c6 := d6; have c7 := d7; clear d5 d6 d7
  generalize w1 = W at *
  go_wp2_with fail
  have C5 := Lib.hid c5; have C6 := Lib.hid c6; have C7 := Lib.hid c7; clear c5 c6 c7
  go_loopw [4, 5] (fun v y wr => ∃ (n : Nat) (p : Int), y = .int .i64 p ∧ Hid (p = (-200 : Int) + n) ∧ n ≤ 401 ∧ Below W.heap.size W wr ∧ Own wr W.heap.size v (rts a b (-200) n))
    (fun _ y _ => (200 + 1 - intOf y).toNat)
  case atStart => exact ⟨0, -200, rfl, rfl, by omega, Below.refl _ _, Own.nil _ _⟩
  case round =>
    obtain ⟨n, p, rfl, HP, hn, hbel, hown⟩ := hrel
    have hsz1 : B0 < wr.heap.size := Nat.lt_of_lt_of_le C5.out hbel.size
    have hca1 : wr.cell? ⟨B0, 0, none⟩ = some (.int .i64 a) := (hbel.cell (p := ⟨B0, 0, none⟩) C5.out).trans C6.out
    have hcb1 : wr.cell? ⟨B0, 1, none⟩ = some (.int .i64 b) := (hbel.cell (p := ⟨B0, 1, none⟩) C5.out).trans C7.out
    have hgs := rts_succ a b (-200) n
    rw [← HP.out] at hgs
    have HGS := Lib.hid hgs; clear hgs
    have h3 := (rts_three a b (-200) n).1
    obtain ⟨l, hl⟩ : ∃ l, rts a b (-200) n = l := ⟨_, rfl⟩
    rw [hl] at hown h3
    have HL := Lib.hid hl; clear hl
    have HLEN := Lib.hid h3; clear h3
    obtain ⟨ad, cap, rfl⟩ := hown.len
    by_cases hlk : p ≤ 200
    · have hp1 : -200 ≤ p := by have := HP.out; omega
      have hn1 : n + 1 ≤ 401 := by have := HP.out; omega
      have HN := Lib.hid hn1; clear hn1 hn
      obtain ⟨b1, b2, b3⟩ := cub_bds (M := 200) q1 q2 hp1 hlk (by omega)
      have x1 : IntKind.i64.wrap (p * p) = p * p := wrapf (by omega) (by omega)
      have x2 : IntKind.i64.wrap (p * p * p) = p * p * p := wrapf (by omega) (by omega)
      have x3 : IntKind.i64.wrap (a * p) = a * p := wrapf (by omega) (by omega)
      have x4 : IntKind.i64.wrap (p * p * p + a * p) = p * p * p + a * p := wrapf (by omega) (by omega)
      have x5 : IntKind.i64.wrap (p * p * p + a * p + b) = p * p * p + a * p + b := wrapf (by omega) (by omega)
      by_cases hg : cubV a b p = 0
      · have hx : Hid (rts a b (-200) (n + 1) = l ++ [p]) := by unfold Hid; rw [HGS.out, if_pos hg, HL.out]
        unfold cubV at hg
        have hgb : (p * p * p + a * p + b == 0) = true := by simp [hg]
        have hbel1 := hbel
        have hown1 := hown
        clear hbel hown
        have hown' : wr.ownsRow W.heap.size 3 1 _ l.length (l.map (Value.int .i64)) := hown1
        go_wp2_with (first | (at_builtin; refine wpList_append_own _ rfl _ _ 27 rfl W.heap.size 3 i0 (.int .i64 0) 1 8 Try.underlying27 hi hz0 hz1 hz2 rfl (by decide) _ _ _ rfl (hown'.alloc _) ⟨wr.heap.size, 0, none⟩ 1 1 [.int .i64 p] rfl rfl (cell_one_new _ _ _) ?_ ?_ ?_ ?_ ?_))
        · first | rfl | (intro u hu; simp at hu; subst hu; rfl)
        · unfold maxLen; have := HLEN.out; omega
        · have := HLEN.out; omega
        · have := hbel1.size; simp; omega
        · intro v' w2 hown2 hgrow _
          obtain ⟨hb2, ho2⟩ := own_snoc hbel1 hown1 hown2 hgrow
          clear hown2 hgrow hown1 hown' hbel1
          go_wp2_with fail
          go_roundw
          case rel => exact ⟨n + 1, p + 1, rfl, by unfold Hid; have := HP.out; omega, HN.out, hb2, by rw [hx.out]; exact ho2⟩
          case measure => simp [intOf]; omega
      · have hx : Hid (rts a b (-200) (n + 1) = l) := by unfold Hid; rw [HGS.out, if_neg hg, HL.out]
        unfold cubV at hg
        have hgb : (p * p * p + a * p + b == 0) = false := by simp [hg]
        have hbel1 := hbel
        have hown1 := hown
        clear hbel hown
        go_wp2_with fail
        go_roundw
        case rel => exact ⟨n + 1, p + 1, rfl, by unfold Hid; have := HP.out; omega, HN.out, hbel1, by rw [hx.out]; exact hown1⟩
        case measure => simp [intOf]; omega
    · have hfin : Hid (rts a b (-200) 401 = l) := by
        have : n = 401 := by have := HP.out; omega
        subst this
        exact HL.out
      clear hca1 hcb1
      go_wp2_with fail
      go_returns
      exact ⟨_, rfl, bel_trans hbel HBW.out, (by rw [hfin.out]; exact hown.le HBW.out.size : Own wr w.heap.size (.slice ad l.length cap) (rts a b (-200) 401))⟩
set_option maxHeartbeats 4000000 in
theorem ecRoots_any (a b : Int) (w : World) (h : curveB a b = true) :
    Calls Try.prog 28 #[.agg #[.int .i64 a, .int .i64 b]] w (RetSl (rts a b (-100) 201) w) := by
  obtain ⟨i0, hi, hz0, hz1, hz2⟩ := info_parts Try.info_int
  obtain ⟨q1, q2, q3, q4, q5⟩ := curveB_true.1 h
  have HC := Lib.hid h; clear h q5
  go_enter Try.func28, Try.ntmps28
  go_wp2_with fail
  have c5 : w.heap.size < (w.alloc (.cells #[.int .i64 a, .int .i64 b] 25)).heap.size := by simp
  have c6 : (w.alloc (.cells #[.int .i64 a, .int .i64 b] 25)).cell? ⟨w.heap.size, 0, none⟩ = some (.int .i64 a) := by simp [go_sem]
  have c7 : (w.alloc (.cells #[.int .i64 a, .int .i64 b] 25)).cell? ⟨w.heap.size, 1, none⟩ = some (.int .i64 b) := by simp [go_sem]
  have hbW : Below w.heap.size w (w.alloc (.cells #[.int .i64 a, .int .i64 b] 25)) := below_allocD _ _
  generalize w.alloc (.cells #[.int .i64 a, .int .i64 b] 25) = W at c5 c6 c7 hbW ⊢
  generalize hB0 : w.heap.size = B0 at c5 c6 c7 ⊢
  have HB0 := Lib.hid hB0; clear hB0
  have HBW := Lib.hid hbW; clear hbW
  have C5 := Lib.hid c5; have C6 := Lib.hid c6; have C7 := Lib.hid c7; clear c5 c6 c7
  go_loopw [3, 4] (fun v y wr => ∃ (n : Nat) (p : Int), y = .int .i64 p ∧ Hid (p = (-100 : Int) + n) ∧ n ≤ 201 ∧ Below W.heap.size W wr ∧ Own wr W.heap.size v (rts a b (-100) n))
    (fun _ y _ => (100 + 1 - intOf y).toNat)
  case atStart => exact ⟨0, -100, rfl, rfl, by omega, Below.refl _ _, Own.nil _ _⟩
  case round =>
    obtain ⟨n, p, rfl, HP, hn, hbel, hown⟩ := hrel
    have hsz1 : B0 < wr.heap.size := Nat.lt_of_lt_of_le C5.out hbel.size
    have hca1 : wr.cell? ⟨B0, 0, none⟩ = some (.int .i64 a) := (hbel.cell (p := ⟨B0, 0, none⟩) C5.out).trans C6.out
    have hcb1 : wr.cell? ⟨B0, 1, none⟩ = some (.int .i64 b) := (hbel.cell (p := ⟨B0, 1, none⟩) C5.out).trans C7.out
    have hgs := rts_succ a b (-100) n
    rw [← HP.out] at hgs
    have HGS := Lib.hid hgs; clear hgs
    have h3 := (rts_three a b (-100) n).1
    obtain ⟨l, hl⟩ : ∃ l, rts a b (-100) n = l := ⟨_, rfl⟩
    rw [hl] at hown h3
    have HL := Lib.hid hl; clear hl
    have HLEN := Lib.hid h3; clear h3
    obtain ⟨ad, cap, rfl⟩ := hown.len
    by_cases hlk : p ≤ 100
    · have hp1 : -100 ≤ p := by have := HP.out; omega
      have hn1 : n + 1 ≤ 201 := by have := HP.out; omega
      have HN := Lib.hid hn1; clear hn1 hn
      by_cases hg : cubV a b p = 0
      · have hx : Hid (rts a b (-100) (n + 1) = l ++ [p]) := by unfold Hid; rw [HGS.out, if_pos hg, HL.out]
        go_wp2_with fail
        refine (ecValue_any _ _ _ _ q1 q2 q3 q4 (by omega) (by omega)).mono ?_; rintro e w1 ⟨rfl, hb1⟩
        have hgb : (cubV a b p == 0) = true := by simp [hg]
        have hown1 := hown.keep hb1
        have hbel1 := bel_trans hb1 hbel
        clear hb1 hown hbel hca1 hcb1
        have hown' : w1.ownsRow W.heap.size 3 1 _ l.length (l.map (Value.int .i64)) := hown1
        go_wp2_with (first | (at_builtin; refine wpList_append_own _ rfl _ _ 27 rfl W.heap.size 3 i0 (.int .i64 0) 1 8 Try.underlying27 hi hz0 hz1 hz2 rfl (by decide) _ _ _ rfl (hown'.alloc _) ⟨w1.heap.size, 0, none⟩ 1 1 [.int .i64 p] rfl rfl (cell_one_new _ _ _) ?_ ?_ ?_ ?_ ?_))
        · first | rfl | (intro u hu; simp at hu; subst hu; rfl)
        · unfold maxLen; have := HLEN.out; omega
        · have := HLEN.out; omega
        · have := hbel1.size; simp; omega
        · intro v' w2 hown2 hgrow _
          obtain ⟨hb2, ho2⟩ := own_snoc hbel1 hown1 hown2 hgrow
          clear hown2 hgrow hown1 hown' hbel1
          go_wp2_with fail
          go_roundw
          case rel => exact ⟨n + 1, p + 1, rfl, by unfold Hid; have := HP.out; omega, HN.out, hb2, by rw [hx.out]; exact ho2⟩
          case measure => simp [intOf]; omega
      · have hx : Hid (rts a b (-100) (n + 1) = l) := by unfold Hid; rw [HGS.out, if_neg hg, HL.out]
        go_wp2_with fail
        refine (ecValue_any _ _ _ _ q1 q2 q3 q4 (by omega) (by omega)).mono ?_; rintro e w1 ⟨rfl, hb1⟩
        have hgb : (cubV a b p == 0) = false := by simp [hg]
        have hown1 := hown.keep hb1
        have hbel1 := bel_trans hb1 hbel
        clear hb1 hown hbel hca1 hcb1
        go_wp2_with fail
        go_roundw
        case rel => exact ⟨n + 1, p + 1, rfl, by unfold Hid; have := HP.out; omega, HN.out, hbel1, by rw [hx.out]; exact hown1⟩
        case measure => simp [intOf]; omega
    · have hfin : Hid (rts a b (-100) 201 = l) := by
        have : n = 201 := by have := HP.out; omega
        subst this
        exact HL.out
      clear hca1 hcb1
      go_wp2_with fail
      go_ret
      exact ⟨_, rfl, bel_trans hbel HBW.out, (by rw [hfin.out]; exact hown.le HBW.out.size : Own wr w.heap.size (.slice ad l.length cap) (rts a b (-100) 201))⟩
theorem ecInvariant_any (a b : Int) (w : World) (h : curveB a b = true) :
    Calls Try.prog 34 #[.agg #[.int .i64 a, .int .i64 b]] w (Ret (.tuple #[.int .i64 (lowN (6912 * a * a * a) (discI a b)), .int .i64 (lowD (6912 * a * a * a) (discI a b))]) w) := by
  obtain ⟨h1, h2, h3, h4, h5⟩ := curveB_true.1 h
  have hdb := disc_bd h1 h2 h3 h4
  have b1 := mul_bd (a := 6912 * a) (b := a) (A := 6912000) (B := 1000) (by omega) (by omega) h1 h2
  have b2 := mul_bd (a := 6912 * a * a) (b := a) (A := 6912000000) (B := 1000) b1.1 b1.2 h1 h2
  have x1 : IntKind.i64.wrap (6912 * a) = 6912 * a := wrapf (by omega) (by omega)
  have x2 : IntKind.i64.wrap (6912 * a * a) = 6912 * a * a := wrapf (by omega) (by omega)
  have x3 : IntKind.i64.wrap (6912 * a * a * a) = 6912 * a * a * a := wrapf (by omega) (by omega)
  have hdisc := fun w => ecDisc_any a b w h1 h2 h3 h4
  generalize hD : discI a b = D at *
  obtain ⟨num, hnum⟩ : ∃ num, 6912 * a * a * a = num := ⟨_, rfl⟩
  rw [hnum] at b2 ⊢
  have hep := fun w => ecPart_any num D w (by omega) (by omega) (by omega) (by omega) h5
  have X1 := Lib.hid x1; have X2 := Lib.hid x2; have X3 := Lib.hid x3
  go_enter Try.func34, Try.ntmps34
  go_wp2_with fail
  refine wp_region_grow (by kernel_rfl) (by kernel_rfl) ?_
  repeat (go_big_quiet_step (((first | (go_at_call 30; exact grow_ret (hdisc _)) | (go_at_call 43; exact grow_ret (hep _))))))
  refine wpQuiet_nil ?_
  rintro wg hbg
  (try replace hbg := aft2 hbg (by assumption))
  obtain ⟨hcg, hfg, hg1, hg2, hg3, hg4⟩ := aftz hbg
  go_wp2_with fail
  go_returns
  exact ret_eq (by rfl) (by repeat (first | exact Below.refl _ _ | (with_reducible assumption) | refine bel_alloc ?_ _ | refine bel_drew ?_ | refine bel_drewN ?_ _ | refine Below.setCell ?_ (by dsimp only; omega) _ | refine bel_trans (by assumption) ?_))
theorem sInvariantOf_any (a b : Int) (w : World) :
    Calls Try.prog 15 #[.agg #[.int .i64 a, .int .i64 b]] w (Ret (if curveB a b = true then .tuple #[.int .i64 (lowN (6912 * a * a * a) (discI a b)), .int .i64 (lowD (6912 * a * a * a) (discI a b)), .bool true] else .tuple #[.int .i64 0, .int .i64 0, .bool false]) w) := by
  cases h : curveB a b
  · rw [if_neg (by decide)]
    go_enter Try.func15, Try.ntmps15
    go_wp2_with fail
    refine (ecGood_any _ _ _).mono ?_; rintro e w1 ⟨rfl, hb1⟩
    rw [h]
    go_wp2_with fail
    go_returns
    exact ret_eq (by rfl) (by repeat (first | exact Below.refl _ _ | (with_reducible assumption) | refine bel_alloc ?_ _ | refine bel_drew ?_ | refine bel_drewN ?_ _ | refine Below.setCell ?_ (by dsimp only; omega) _ | refine bel_trans (by assumption) ?_))
  · rw [if_pos rfl]
    go_enter Try.func15, Try.ntmps15
    go_wp2_with fail
    have c5 : w.heap.size < (w.alloc (.cells #[.int .i64 a, .int .i64 b] 25)).heap.size := by simp
    have c6 : (w.alloc (.cells #[.int .i64 a, .int .i64 b] 25)).cell? ⟨w.heap.size, 0, none⟩ = some (.int .i64 a) := by simp [go_sem]
    have c7 : (w.alloc (.cells #[.int .i64 a, .int .i64 b] 25)).cell? ⟨w.heap.size, 1, none⟩ = some (.int .i64 b) := by simp [go_sem]
    have hbW : Below w.heap.size w (w.alloc (.cells #[.int .i64 a, .int .i64 b] 25)) := below_allocD _ _
    generalize w.alloc (.cells #[.int .i64 a, .int .i64 b] 25) = W at c5 c6 c7 hbW ⊢
    refine (ecGood_any _ _ _).mono ?_; rintro e w1 ⟨rfl, hb1⟩
    rw [h]
    have d6 := (hb1.cell (p := ⟨w.heap.size, 0, none⟩) c5).trans c6
    have d7 := (hb1.cell (p := ⟨w.heap.size, 1, none⟩) c5).trans c7
    go_wp2_with fail
    refine (ecInvariant_any _ _ _ h).mono ?_; rintro e w2 ⟨rfl, hb2⟩
    go_wp2_with fail
    go_returns
    exact ret_eq (by rfl) (bel_trans hb2 (bel_trans hb1 hbW))
theorem sOrderTwoAt_any (a b : Int) (w : World) :
    Calls Try.prog 7 #[.agg #[.int .i64 a, .int .i64 b]] w (RetSlB (if curveB a b = true then rts a b (-100) 201 else []) (curveB a b) w) := by
  cases h : curveB a b
  · rw [if_neg (by decide)]
    go_enter Try.func7, Try.ntmps7
    go_wp2_with fail
    refine (ecGood_any _ _ _).mono ?_; rintro e w1 ⟨rfl, hb1⟩
    rw [h]
    go_wp2_with fail
    go_returns
    exact ⟨_, rfl, (by repeat (first | exact Below.refl _ _ | (with_reducible assumption) | refine bel_alloc ?_ _ | refine bel_drew ?_ | refine bel_drewN ?_ _ | refine Below.setCell ?_ (by dsimp only; omega) _ | refine bel_trans (by assumption) ?_)), Own.nil _ _⟩
  · rw [if_pos rfl]
    go_enter Try.func7, Try.ntmps7
    go_wp2_with fail
    have c5 : w.heap.size < (w.alloc (.cells #[.int .i64 a, .int .i64 b] 25)).heap.size := by simp
    have c6 : (w.alloc (.cells #[.int .i64 a, .int .i64 b] 25)).cell? ⟨w.heap.size, 0, none⟩ = some (.int .i64 a) := by simp [go_sem]
    have c7 : (w.alloc (.cells #[.int .i64 a, .int .i64 b] 25)).cell? ⟨w.heap.size, 1, none⟩ = some (.int .i64 b) := by simp [go_sem]
    have hbW : Below w.heap.size w (w.alloc (.cells #[.int .i64 a, .int .i64 b] 25)) := below_allocD _ _
    generalize w.alloc (.cells #[.int .i64 a, .int .i64 b] 25) = W at c5 c6 c7 hbW ⊢
    refine (ecGood_any _ _ _).mono ?_; rintro e w1 ⟨rfl, hb1⟩
    rw [h]
    have d6 := (hb1.cell (p := ⟨w.heap.size, 0, none⟩) c5).trans c6
    have d7 := (hb1.cell (p := ⟨w.heap.size, 1, none⟩) c5).trans c7
    go_wp2_with fail
    refine (ecRoots_any _ _ _ h).mono ?_; rintro e w2 ⟨v, rfl, hb2, ho⟩
    go_wp2_with fail
    go_returns
    exact ⟨_, rfl, bel_trans hb2 (bel_trans hb1 hbW), ho.le (bel_trans hb1 hbW).size⟩
noncomputable def ipV (a b x y : Int) : Value := if curveB a b = true ∧ (-1000000 ≤ x ∧ x ≤ 1000000) ∧ (-1000000 ≤ y ∧ y ≤ 1000000) then .tuple #[.bool (decide (y * y = cubV a b x)), .bool true] else .tuple #[.bool false, .bool false]
set_option maxHeartbeats 1000000 in
theorem iIsIntegerPoint_any (a b x y : Int) (w : World) :
    Calls Try.prog 17 #[.agg #[.int .i64 a, .int .i64 b], .int .i64 x, .int .i64 y] w (Ret (ipV a b x y) w) := by
  cases h : curveB a b
  · have e : ipV a b x y = .tuple #[.bool false, .bool false] := by unfold ipV; rw [if_neg]; rw [h]; simp
    rw [e]
    go_enter Try.func17, Try.ntmps17
    go_wp2_with fail
    refine (isCurve_any _ _ _).mono ?_; rintro e w1 ⟨rfl, hb1⟩
    rw [h]
    go_wp2_with fail
    go_returns
    exact ret_eq (by rfl) (by repeat (first | exact Below.refl _ _ | (with_reducible assumption) | refine bel_alloc ?_ _ | refine bel_drew ?_ | refine bel_drewN ?_ _ | refine Below.setCell ?_ (by dsimp only; omega) _ | refine bel_trans (by assumption) ?_))
  by_cases hx : -1000000 ≤ x ∧ x ≤ 1000000
  rotate_left
  · have e : ipV a b x y = .tuple #[.bool false, .bool false] := by unfold ipV; rw [if_neg]; exact fun k => hx k.2.1
    have i1 := inB_false.2 hx
    rw [e]
    go_enter Try.func17, Try.ntmps17
    go_wp2_with fail
    refine (isCurve_any _ _ _).mono ?_; rintro e w1 ⟨rfl, hb1⟩
    rw [h]
    clear hx
    go_wp2_with (go_at_call 35; refine (inside_any _ _ _ _).mono ?_; rintro e w' ⟨rfl, rfl⟩)
    go_returns
    exact ret_eq (by rfl) (by repeat (first | exact Below.refl _ _ | (with_reducible assumption) | refine bel_alloc ?_ _ | refine bel_drew ?_ | refine bel_drewN ?_ _ | refine Below.setCell ?_ (by dsimp only; omega) _ | refine bel_trans (by assumption) ?_))
  have i1 := inB_true.2 hx
  by_cases hy : -1000000 ≤ y ∧ y ≤ 1000000
  rotate_left
  · have e : ipV a b x y = .tuple #[.bool false, .bool false] := by unfold ipV; rw [if_neg]; exact fun k => hy k.2.2
    have i2 := inB_false.2 hy
    rw [e]
    go_enter Try.func17, Try.ntmps17
    go_wp2_with fail
    refine (isCurve_any _ _ _).mono ?_; rintro e w1 ⟨rfl, hb1⟩
    rw [h]
    clear hy
    go_wp2_with (go_at_call 35; refine (inside_any _ _ _ _).mono ?_; rintro e w' ⟨rfl, rfl⟩)
    go_returns
    exact ret_eq (by rfl) (by repeat (first | exact Below.refl _ _ | (with_reducible assumption) | refine bel_alloc ?_ _ | refine bel_drew ?_ | refine bel_drewN ?_ _ | refine Below.setCell ?_ (by dsimp only; omega) _ | refine bel_trans (by assumption) ?_))
  have i2 := inB_true.2 hy
  have e : ipV a b x y = .tuple #[.bool (decide (y * y = cubV a b x)), .bool true] := by unfold ipV; rw [if_pos ⟨h, hx, hy⟩]
  rw [e]; clear e
  obtain ⟨h1, h2, h3, h4, h5⟩ := curveB_true.1 h
  obtain ⟨b1, b2, b3⟩ := cub_bds (M := 1000000) h1 h2 hx.1 hx.2 (by omega)
  have b4 := mul_bd (a := y) (b := y) (A := 1000000) (B := 1000000) hy.1 hy.2 hy.1 hy.2
  have x1 : IntKind.i64.wrap (x * x) = x * x := wrapf (by omega) (by omega)
  have x2 : IntKind.i64.wrap (x * x * x) = x * x * x := wrapf (by omega) (by omega)
  have x3 : IntKind.i64.wrap (a * x) = a * x := wrapf (by omega) (by omega)
  have x4 : IntKind.i64.wrap (x * x * x + a * x) = x * x * x + a * x := wrapf (by omega) (by omega)
  have x5 : IntKind.i64.wrap (x * x * x + a * x + b) = x * x * x + a * x + b := wrapf (by omega) (by omega)
  have x6 : IntKind.i64.wrap (y * y) = y * y := wrapf (by omega) (by omega)
  clear h5
  go_enter Try.func17, Try.ntmps17
  go_wp2_with fail
  have c5 : w.heap.size < (w.alloc (.cells #[.int .i64 a, .int .i64 b] 25)).heap.size := by simp
  have c6 : (w.alloc (.cells #[.int .i64 a, .int .i64 b] 25)).cell? ⟨w.heap.size, 0, none⟩ = some (.int .i64 a) := by simp [go_sem]
  have c7 : (w.alloc (.cells #[.int .i64 a, .int .i64 b] 25)).cell? ⟨w.heap.size, 1, none⟩ = some (.int .i64 b) := by simp [go_sem]
  have hbW : Below w.heap.size w (w.alloc (.cells #[.int .i64 a, .int .i64 b] 25)) := below_allocD _ _
  generalize w.alloc (.cells #[.int .i64 a, .int .i64 b] 25) = W at c5 c6 c7 hbW ⊢
  refine (isCurve_any _ _ _).mono ?_; rintro e w1 ⟨rfl, hb1⟩
  rw [h]
  have d5 := Nat.lt_of_lt_of_le c5 hb1.size
  have d6 := (hb1.cell (p := ⟨w.heap.size, 0, none⟩) c5).trans c6
  have d7 := (hb1.cell (p := ⟨w.heap.size, 1, none⟩) c5).trans c7
  have HBX := Lib.hid (bel_trans hb1 hbW); clear hb1 hbW c5 c6 c7
  go_wp2_with (go_at_call 35; refine (inside_any _ _ _ _).mono ?_; rintro e w' ⟨rfl, rfl⟩)
  go_returns
  exact ret_eq (by unfold cubV; first | rfl | simp | grind) HBX.out
set_option maxHeartbeats 1000000 in
theorem sIsIntegerPoint_any (a b x y : Int) (w : World) :
    Calls Try.prog 21 #[.agg #[.int .i64 a, .int .i64 b], .int .i64 x, .int .i64 y] w (Ret (ipV a b x y) w) := by
  cases h : curveB a b
  · have e : ipV a b x y = .tuple #[.bool false, .bool false] := by unfold ipV; rw [if_neg]; rw [h]; simp
    rw [e]
    go_enter Try.func21, Try.ntmps21
    go_wp2_with fail
    refine (ecGood_any _ _ _).mono ?_; rintro e w1 ⟨rfl, hb1⟩
    rw [h]
    go_wp2_with fail
    go_returns
    exact ret_eq (by rfl) (by repeat (first | exact Below.refl _ _ | (with_reducible assumption) | refine bel_alloc ?_ _ | refine bel_drew ?_ | refine bel_drewN ?_ _ | refine Below.setCell ?_ (by dsimp only; omega) _ | refine bel_trans (by assumption) ?_))
  by_cases hx : -1000000 ≤ x ∧ x ≤ 1000000
  rotate_left
  · have e : ipV a b x y = .tuple #[.bool false, .bool false] := by unfold ipV; rw [if_neg]; exact fun k => hx k.2.1
    have i1 := inB_false.2 hx
    rw [e]
    go_enter Try.func21, Try.ntmps21
    go_wp2_with fail
    refine (ecGood_any _ _ _).mono ?_; rintro e w1 ⟨rfl, hb1⟩
    rw [h]
    clear hx
    go_wp2_with (go_at_call 36; refine (l1In_any _ _ _ _).mono ?_; rintro e w' ⟨rfl, rfl⟩)
    go_returns
    exact ret_eq (by rfl) (by repeat (first | exact Below.refl _ _ | (with_reducible assumption) | refine bel_alloc ?_ _ | refine bel_drew ?_ | refine bel_drewN ?_ _ | refine Below.setCell ?_ (by dsimp only; omega) _ | refine bel_trans (by assumption) ?_))
  have i1 := inB_true.2 hx
  by_cases hy : -1000000 ≤ y ∧ y ≤ 1000000
  rotate_left
  · have e : ipV a b x y = .tuple #[.bool false, .bool false] := by unfold ipV; rw [if_neg]; exact fun k => hy k.2.2
    have i2 := inB_false.2 hy
    rw [e]
    go_enter Try.func21, Try.ntmps21
    go_wp2_with fail
    refine (ecGood_any _ _ _).mono ?_; rintro e w1 ⟨rfl, hb1⟩
    rw [h]
    clear hy
    go_wp2_with (go_at_call 36; refine (l1In_any _ _ _ _).mono ?_; rintro e w' ⟨rfl, rfl⟩)
    go_returns
    exact ret_eq (by rfl) (by repeat (first | exact Below.refl _ _ | (with_reducible assumption) | refine bel_alloc ?_ _ | refine bel_drew ?_ | refine bel_drewN ?_ _ | refine Below.setCell ?_ (by dsimp only; omega) _ | refine bel_trans (by assumption) ?_))
  have i2 := inB_true.2 hy
  have e : ipV a b x y = .tuple #[.bool (decide (y * y = cubV a b x)), .bool true] := by unfold ipV; rw [if_pos ⟨h, hx, hy⟩]
  rw [e]; clear e
  obtain ⟨h1, h2, h3, h4, h5⟩ := curveB_true.1 h
  obtain ⟨b1, b2, b3⟩ := cub_bds (M := 1000000) h1 h2 hx.1 hx.2 (by omega)
  have b4 := mul_bd (a := y) (b := y) (A := 1000000) (B := 1000000) hy.1 hy.2 hy.1 hy.2
  have x1 : IntKind.i64.wrap (x * x) = x * x := wrapf (by omega) (by omega)
  have x2 : IntKind.i64.wrap (x * x * x) = x * x * x := wrapf (by omega) (by omega)
  have x3 : IntKind.i64.wrap (a * x) = a * x := wrapf (by omega) (by omega)
  have x4 : IntKind.i64.wrap (x * x * x + a * x) = x * x * x + a * x := wrapf (by omega) (by omega)
  have x5 : IntKind.i64.wrap (x * x * x + a * x + b) = x * x * x + a * x + b := wrapf (by omega) (by omega)
  have x6 : IntKind.i64.wrap (y * y) = y * y := wrapf (by omega) (by omega)
  clear h5
  go_enter Try.func21, Try.ntmps21
  go_wp2_with fail
  have c5 : w.heap.size < (w.alloc (.cells #[.int .i64 a, .int .i64 b] 25)).heap.size := by simp
  have c6 : (w.alloc (.cells #[.int .i64 a, .int .i64 b] 25)).cell? ⟨w.heap.size, 0, none⟩ = some (.int .i64 a) := by simp [go_sem]
  have c7 : (w.alloc (.cells #[.int .i64 a, .int .i64 b] 25)).cell? ⟨w.heap.size, 1, none⟩ = some (.int .i64 b) := by simp [go_sem]
  have hbW : Below w.heap.size w (w.alloc (.cells #[.int .i64 a, .int .i64 b] 25)) := below_allocD _ _
  generalize w.alloc (.cells #[.int .i64 a, .int .i64 b] 25) = W at c5 c6 c7 hbW ⊢
  refine (ecGood_any _ _ _).mono ?_; rintro e w1 ⟨rfl, hb1⟩
  rw [h]
  have d5 := Nat.lt_of_lt_of_le c5 hb1.size
  have d6 := (hb1.cell (p := ⟨w.heap.size, 0, none⟩) c5).trans c6
  have d7 := (hb1.cell (p := ⟨w.heap.size, 1, none⟩) c5).trans c7
  have HBX := Lib.hid (bel_trans hb1 hbW); clear hb1 hbW c5 c6 c7
  go_wp2_with (go_at_call 36; refine (l1In_any _ _ _ _).mono ?_; rintro e w' ⟨rfl, rfl⟩)
  refine (ecValue_any _ _ _ _ h1 h2 h3 h4 hx.1 hx.2).mono ?_; rintro e w2 ⟨rfl, hb2⟩
  go_wp2_with fail
  go_returns
  exact ret_eq (by first | rfl | simp | grind) (bel_trans hb2 HBX.out)
theorem iOrderTwoAt_no (a b : Int) (w : World) (h : curveB a b = false) :
    Calls Try.prog 6 #[.agg #[.int .i64 a, .int .i64 b]] w (RetSlB [] false w) := by
  go_enter Try.func6, Try.ntmps6
  go_wp2_with fail
  refine (isCurve_any _ _ _).mono ?_; rintro e w1 ⟨rfl, hb1⟩
  rw [h]
  go_wp2_with fail
  go_returns
  exact ⟨_, rfl, (by repeat (first | exact Below.refl _ _ | (with_reducible assumption) | refine bel_alloc ?_ _ | refine bel_drew ?_ | refine bel_drewN ?_ _ | refine Below.setCell ?_ (by dsimp only; omega) _ | refine bel_trans (by assumption) ?_)), Own.nil _ _⟩
theorem sum_bds : ∀ (l : List Int), (∀ n ∈ l, -1000 ≤ n ∧ n ≤ 1000) → -1000 * (l.length : Int) ≤ l.sum ∧ l.sum ≤ 1000 * (l.length : Int)
  | [], _ => by simp
  | x :: l, h => by
    have h1 := h x (by simp)
    have h2 := sum_bds l fun n hn => h n (by simp [hn])
    simp only [List.sum_cons, List.length_cons]
    omega
theorem sum_take {xs : List Int} {j : Nat} (hj : j < xs.length) : (xs.take (j + 1)).sum = (xs.take j).sum + xs.getD j 0 := by
  rw [List.take_add_one, List.getD_eq_getElem?_getD, List.getElem?_eq_getElem hj, List.sum_append]
  simp
set_option maxHeartbeats 2000000 in
theorem pSum_any (v : Value) (xs : List Int) (w : World) (h : Rd w v xs) (h3 : xs.length = 3) (hb : ∀ n ∈ xs, -1000 ≤ n ∧ n ≤ 1000) :
    Calls Try.prog 18 #[v] w (Ret (.int .i64 xs.sum) w) := by
  obtain ⟨ad, c, rfl, hl, hc⟩ := h
  obtain ⟨b, off, rfl, hlt, hcell⟩ := hc (by omega)
  have K := Lib.hid hcell; have HBD := Lib.hid hb; clear hcell hb hc hl
  go_enter Try.func18, Try.ntmps18
  go_wp2_with fail
  go_loopw [3, 8] (fun s x wr => ∃ j : Nat, x = .int .i64 j ∧ s = .int .i64 (xs.take j).sum ∧ j ≤ xs.length ∧ Below w.heap.size w wr) (fun _ x _ => xs.length - (intOf x).toNat)
  case atStart => exact ⟨0, rfl, rfl, Nat.zero_le _, Below.refl _ _⟩
  case round =>
    obtain ⟨j, rfl, rfl, hj, hbel⟩ := hrel
    by_cases hlt2 : j < xs.length
    · have c0 := (hbel.cell (p := ⟨b, off + j, none⟩) hlt).trans (K.out j hlt2)
      have hj1 : (j : Int) < (xs.length : Int) := by omega
      have hj0 : (0 : Int) ≤ (j : Int) := Int.natCast_nonneg _
      have hst := sum_take hlt2
      have hs1 := sum_bds (xs.take j) fun n hn => HBD.out n (List.mem_of_mem_take hn)
      have hs2 := sum_bds (xs.take (j + 1)) fun n hn => HBD.out n (List.mem_of_mem_take hn)
      rw [List.length_take] at hs1 hs2
      rw [hst] at hs2
      have HST := Lib.hid hst; clear hst
      have hw1 : IntKind.i64.wrap ((xs.take j).sum + xs.getD j 0) = (xs.take j).sum + xs.getD j 0 := wrapf (by omega) (by omega)
      have hw2 : IntKind.i64.wrap ((j : Int) + 1) = ((j + 1 : Nat) : Int) := by rw [wrapf (by omega) (by omega)]; rfl
      generalize xs.getD j 0 = q at *
      generalize (xs.take j).sum = s0 at *
      go_wp2_with fail
      exact ⟨⟨j + 1, rfl, by rw [HST.out], hlt2, hbel⟩, by simp only [intOf]; omega⟩
    · have hjl : j = xs.length := by omega
      subst hjl
      rw [List.take_length]
      go_wp2_with fail
      go_ret
      exact ret_eq (by rfl) hbel
set_option maxHeartbeats 2000000 in
theorem pIn_any (v : Value) (xs : List Int) (n : Int) (w : World) (h : Rd w v xs) (h0 : 0 < xs.length) :
    Calls Try.prog 19 #[v, .int .i64 n] w (Ret (.bool (decide (n ∈ xs))) w) := by
  obtain ⟨ad, c, rfl, hl, hc⟩ := h
  obtain ⟨b, off, rfl, hlt, hcell⟩ := hc h0
  have K := Lib.hid hcell; have HL := Lib.hid hl; clear hcell hc hl
  go_enter Try.func19, Try.ntmps19
  go_wp2_with fail
  go_loopw [9] (fun x wr => ∃ j : Nat, x = .int .i64 j ∧ j ≤ xs.length ∧ Below w.heap.size w wr ∧ ∀ i, i < j → xs.getD i 0 ≠ n) (fun x _ => xs.length - (intOf x).toNat)
  case atStart => exact ⟨0, rfl, Nat.zero_le _, Below.refl _ _, fun i h => absurd h (Nat.not_lt_zero _)⟩
  case round =>
    obtain ⟨j, rfl, hj, hbel, hne⟩ := hrel
    have HNE := Lib.hid hne; clear hne
    by_cases hlt2 : j < xs.length
    · have c0 := (hbel.cell (p := ⟨b, off + j, none⟩) hlt).trans (K.out j hlt2)
      have hj1 : (j : Int) < (xs.length : Int) := by omega
      have hj0 : (0 : Int) ≤ (j : Int) := Int.natCast_nonneg _
      have hmem : xs.getD j 0 ∈ xs := by rw [List.getD_eq_getElem?_getD, List.getElem?_eq_getElem hlt2]; exact List.getElem_mem hlt2
      have HM := Lib.hid hmem; clear hmem
      obtain ⟨q, hq⟩ : ∃ q, xs.getD j 0 = q := ⟨_, rfl⟩
      rw [hq] at c0
      by_cases he : q = n
      · have heb : (q == n) = true := by simp [he]
        go_wp2_with fail
        go_ret
        exact ret_eq (by rw [decide_eq_true (he ▸ hq ▸ HM.out)]; rfl) hbel
      · have heb : (q == n) = false := by simp [he]
        go_wp2_with fail
        have hw : wrap64 ((j : Int) + 1) = ((j + 1 : Nat) : Int) := wrapLen HL.out hlt2
        rw [hw]
        refine ⟨⟨j + 1, rfl, hlt2, hbel, fun i hi => ?_⟩, by simp only [intOf, Int.toNat_natCast]; exact Nat.sub_lt_sub_left hlt2 (Nat.lt_succ_self j)⟩
        by_cases hij : i = j
        · subst hij; rw [hq]; exact he
        · exact HNE.out i (Nat.lt_of_le_of_ne (Nat.le_of_lt_succ hi) hij)
    · have hjl : j = xs.length := Nat.le_antisymm hj (Nat.le_of_not_lt hlt2)
      subst hjl
      have hf : decide (n ∈ xs) = false := decide_eq_false fun hm => by
        obtain ⟨i, hi, e⟩ := List.getElem_of_mem hm
        exact HNE.out i hi (by rw [List.getD_eq_getElem?_getD, List.getElem?_eq_getElem hi]; exact e)
      go_wp2_with fail
      go_ret
      exact ret_eq (by rw [hf]; rfl) hbel
end Go.Proofs.Ytagfnahgibccfaa
