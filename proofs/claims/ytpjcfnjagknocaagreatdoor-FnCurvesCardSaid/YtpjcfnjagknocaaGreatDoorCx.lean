/- Cx: contracts: roots, real parts, discriminants, invariants and points of curves; sums and members of lists. No conditions. -/
import Derived.Test.YtpjcfnjagknocaaGreatDoorCq
import Derived.Test.YtpjcfnjagknocaaGreatDoorEp
import Derived.Test.YtpjcfnjagknocaaGreatDoorDc
import Derived.Test.YtpjcfnjagknocaaGreatDoorLs
import Derived.Test.YtpjcfnjagknocaaGreatDoorMk
import Derived.Test.YtpjcfnjagknocaaGreatDoorFac
import Derived.Test.YtpjcfnjagknocaaGreatDoorCur
namespace Go.Proofs.YtpjcfnjagknocaaGreatDoor
open Go.RowKit

theorem cub_bds {a x M : Int} (h1 : -1000 ≤ a) (h2 : a ≤ 1000) (hx : -M ≤ x) (hx' : x ≤ M) (hM : 0 ≤ M) : (-(M * M) ≤ x * x ∧ x * x ≤ M * M) ∧ (-(M * M * M) ≤ x * x * x ∧ x * x * x ≤ M * M * M) ∧ (-(1000 * M) ≤ a * x ∧ a * x ≤ 1000 * M) := by
  have b1 := mul_bd (a := x) (b := x) (A := M) (B := M) hx hx' hx hx'
  have hMM : 0 ≤ M * M := Int.mul_nonneg hM hM
  have b2 := mul_bd (a := x * x) (b := x) (A := M * M) (B := M) b1.1 b1.2 hx hx'
  have b3 := mul_bd (a := a) (b := x) (A := 1000) (B := M) h1 h2 hx hx'
  exact ⟨b1, b2, b3⟩
theorem iDiscriminantOf_any (a b : Int) (w : World) :
    Calls Tryz.prog 13 #[.agg #[.int .i64 a, .int .i64 b]] w (Ret (if curveB a b = true then .tuple #[.int .i64 (-16 * discI a b), .bool true] else .tuple #[.int .i64 0, .bool false]) w) := by
  cases h : curveB a b
  · rw [if_neg (by decide)]
    go_enter Tryz.func13, Tryz.ntmps13
    go_wp2_with fail
    refine (isCurve_any _ _ _).mono ?_; rintro e w1 ⟨rfl, hb1⟩
    rw [h]
    go_wp2_with fail
    go_returns
    exact ret_eq (by rfl) (by repeat (first | exact Below.refl _ _ | (with_reducible assumption) | refine bel_alloc ?_ _ | refine bel_drew ?_ | refine bel_drewN ?_ _ | refine Below.setCell ?_ (by dsimp only; omega) _ | refine bel_trans (by assumption) ?_))
  · obtain ⟨h1, h2, h3, h4, h5⟩ := curveB_true.1 h
    rw [if_pos rfl]
    have hdb := disc_bd h1 h2 h3 h4
    have hwr : IntKind.i64.wrap (-16 * discI a b) = -16 * discI a b := wrapf (by omega) (by omega)
    generalize hD : discI a b = D at *
    go_enter Tryz.func13, Tryz.ntmps13
    go_wp2_with fail
    have c5 : w.heap.size < (w.alloc (.cells #[.int .i64 a, .int .i64 b] 25)).heap.size := by simp
    have c6 : (w.alloc (.cells #[.int .i64 a, .int .i64 b] 25)).cell? ⟨w.heap.size, 0, none⟩ = some (.int .i64 a) := by simp [go_sem]
    have c7 : (w.alloc (.cells #[.int .i64 a, .int .i64 b] 25)).cell? ⟨w.heap.size, 1, none⟩ = some (.int .i64 b) := by simp [go_sem]
    have hbW : Below w.heap.size w (w.alloc (.cells #[.int .i64 a, .int .i64 b] 25)) := below_allocD _ _
    generalize w.alloc (.cells #[.int .i64 a, .int .i64 b] 25) = W at c5 c6 c7 hbW ⊢
    refine (isCurve_any _ _ _).mono ?_; rintro e w1 ⟨rfl, hb1⟩
    rw [h]
    have d6 := (hb1.cell (p := ⟨w.heap.size, 0, none⟩) c5).trans c6
    have d7 := (hb1.cell (p := ⟨w.heap.size, 1, none⟩) c5).trans c7
    go_wp2_with fail
    refine (core_any _ _ _ h1 h2 h3 h4).mono ?_; rintro e w2 ⟨rfl, hb2⟩
    rw [hD]
    go_wp2_with fail
    go_returns
    exact ret_eq (by rfl) (bel_trans hb2 (bel_trans hb1 hbW))
theorem sDiscriminantOf_any (a b : Int) (w : World) :
    Calls Tryz.prog 14 #[.agg #[.int .i64 a, .int .i64 b]] w (Ret (if curveB a b = true then .tuple #[.int .i64 (-16 * discI a b), .bool true] else .tuple #[.int .i64 0, .bool false]) w) := by
  cases h : curveB a b
  · rw [if_neg (by decide)]
    go_enter Tryz.func14, Tryz.ntmps14
    go_wp2_with fail
    refine (ecGood_any _ _ _).mono ?_; rintro e w1 ⟨rfl, hb1⟩
    rw [h]
    go_wp2_with fail
    go_returns
    exact ret_eq (by rfl) (by repeat (first | exact Below.refl _ _ | (with_reducible assumption) | refine bel_alloc ?_ _ | refine bel_drew ?_ | refine bel_drewN ?_ _ | refine Below.setCell ?_ (by dsimp only; omega) _ | refine bel_trans (by assumption) ?_))
  · obtain ⟨h1, h2, h3, h4, h5⟩ := curveB_true.1 h
    rw [if_pos rfl]
    have hdb := disc_bd h1 h2 h3 h4
    have hwr : IntKind.i64.wrap (-16 * discI a b) = -16 * discI a b := wrapf (by omega) (by omega)
    generalize hD : discI a b = D at *
    go_enter Tryz.func14, Tryz.ntmps14
    go_wp2_with fail
    have c5 : w.heap.size < (w.alloc (.cells #[.int .i64 a, .int .i64 b] 25)).heap.size := by simp
    have c6 : (w.alloc (.cells #[.int .i64 a, .int .i64 b] 25)).cell? ⟨w.heap.size, 0, none⟩ = some (.int .i64 a) := by simp [go_sem]
    have c7 : (w.alloc (.cells #[.int .i64 a, .int .i64 b] 25)).cell? ⟨w.heap.size, 1, none⟩ = some (.int .i64 b) := by simp [go_sem]
    have hbW : Below w.heap.size w (w.alloc (.cells #[.int .i64 a, .int .i64 b] 25)) := below_allocD _ _
    generalize w.alloc (.cells #[.int .i64 a, .int .i64 b] 25) = W at c5 c6 c7 hbW ⊢
    refine (ecGood_any _ _ _).mono ?_; rintro e w1 ⟨rfl, hb1⟩
    rw [h]
    have d6 := (hb1.cell (p := ⟨w.heap.size, 0, none⟩) c5).trans c6
    have d7 := (hb1.cell (p := ⟨w.heap.size, 1, none⟩) c5).trans c7
    go_wp2_with fail
    refine (ecDisc_any _ _ _ h1 h2 h3 h4).mono ?_; rintro e w2 ⟨rfl, hb2⟩
    rw [hD]
    go_wp2_with fail
    go_returns
    exact ret_eq (by rfl) (bel_trans hb2 (bel_trans hb1 hbW))
theorem iInvariantOf_any (a b : Int) (w : World) :
    Calls Tryz.prog 11 #[.agg #[.int .i64 a, .int .i64 b]] w (Ret (if curveB a b = true then .tuple #[.int .i64 (lowN (6912 * a * a * a) (discI a b)), .int .i64 (lowD (6912 * a * a * a) (discI a b)), .bool true] else .tuple #[.int .i64 0, .int .i64 0, .bool false]) w) := by
  cases h : curveB a b
  · rw [if_neg (by decide)]
    go_enter Tryz.func11, Tryz.ntmps11
    go_wp2_with fail
    refine (isCurve_any _ _ _).mono ?_; rintro e w1 ⟨rfl, hb1⟩
    rw [h]
    go_wp2_with fail
    go_returns
    exact ret_eq (by rfl) (by repeat (first | exact Below.refl _ _ | (with_reducible assumption) | refine bel_alloc ?_ _ | refine bel_drew ?_ | refine bel_drewN ?_ _ | refine Below.setCell ?_ (by dsimp only; omega) _ | refine bel_trans (by assumption) ?_))
  · obtain ⟨h1, h2, h3, h4, h5⟩ := curveB_true.1 h
    rw [if_pos rfl]
    have hdb := disc_bd h1 h2 h3 h4
    have b1 := mul_bd (a := 6912 * a) (b := a) (A := 6912000) (B := 1000) (by omega) (by omega) h1 h2
    have b2 := mul_bd (a := 6912 * a * a) (b := a) (A := 6912000000) (B := 1000) b1.1 b1.2 h1 h2
    have x1 : IntKind.i64.wrap (6912 * a) = 6912 * a := wrapf (by omega) (by omega)
    have x2 : IntKind.i64.wrap (6912 * a * a) = 6912 * a * a := wrapf (by omega) (by omega)
    have x3 : IntKind.i64.wrap (6912 * a * a * a) = 6912 * a * a * a := wrapf (by omega) (by omega)
    have X1 := Lib.hid x1; have X2 := Lib.hid x2; have X3 := Lib.hid x3
    go_enter Tryz.func11, Tryz.ntmps11
    go_wp2_with fail
    have c5 : w.heap.size < (w.alloc (.cells #[.int .i64 a, .int .i64 b] 25)).heap.size := by simp
    have c6 : (w.alloc (.cells #[.int .i64 a, .int .i64 b] 25)).cell? ⟨w.heap.size, 0, none⟩ = some (.int .i64 a) := by simp [go_sem]
    have c7 : (w.alloc (.cells #[.int .i64 a, .int .i64 b] 25)).cell? ⟨w.heap.size, 1, none⟩ = some (.int .i64 b) := by simp [go_sem]
    have hbW : Below w.heap.size w (w.alloc (.cells #[.int .i64 a, .int .i64 b] 25)) := below_allocD _ _
    generalize w.alloc (.cells #[.int .i64 a, .int .i64 b] 25) = W at c5 c6 c7 hbW ⊢
    refine (isCurve_any _ _ _).mono ?_; rintro e w1 ⟨rfl, hb1⟩
    rw [h]
    have d6 := (hb1.cell (p := ⟨w.heap.size, 0, none⟩) c5).trans c6
    have d7 := (hb1.cell (p := ⟨w.heap.size, 1, none⟩) c5).trans c7
    go_wp2_with fail
    have hcore := fun w => core_any a b w h1 h2 h3 h4
    have d5 := Nat.lt_of_lt_of_le c5 hb1.size
    have HBB := Lib.hid (bel_trans hb1 hbW); clear hb1 hbW c5 c6 c7
    obtain ⟨num, hnum⟩ : ∃ num, 6912 * a * a * a = num := ⟨_, rfl⟩
    generalize hD : discI a b = D at *
    rw [hnum]
    rw [hnum] at b2
    have n0 : -1000000000000000000 ≤ num := by omega
    have n1 : num ≤ 1000000000000000000 := by omega
    have d0 : -1000000000000000000 ≤ D := by omega
    have d1 : D ≤ 1000000000000000000 := by omega
    obtain ⟨G, hG⟩ : ∃ G, gcdI num D = G := ⟨_, rfl⟩
    have hgb := gcdI_bd (n := num) h5
    rw [hG] at hgb
    obtain ⟨g, hg⟩ : ∃ g, sgcd num D = g := ⟨_, rfl⟩
    have hgne := sgcd_ne (n := num) h5
    rw [hg] at hgne
    have hgg : g = if D < 0 then -G else G := by rw [← hg, ← hG]; rfl
    have hv1 : lowN (6912 * a * a * a) D = num.tdiv g := by rw [hnum]; unfold lowN; rw [hg]
    have hv2 : lowD (6912 * a * a * a) D = D.tdiv g := by rw [hnum]; unfold lowD; rw [hg]
    have HV1 := Lib.hid hv1; have HV2 := Lib.hid hv2
    have t1 := tdiv_bd (g := g) n0 n1
    have t2 := tdiv_bd (g := g) d0 d1
    have y1 : IntKind.i64.wrap (num.tdiv g) = num.tdiv g := wrapf (by omega) (by omega)
    have y2 : IntKind.i64.wrap (D.tdiv g) = D.tdiv g := wrapf (by omega) (by omega)
    clear hv1 hv2 hg
    have hgb0 : (g == 0) = false := by simp [hgne]
    have hgn0 : ¬ g = 0 := hgne
    have HG := Lib.hid hG; clear hG
    have Y1 := Lib.hid y1; have Y2 := Lib.hid y2; clear y1 y2
    have HGB0 := Lib.hid hgb0; have HGN := Lib.hid hgn0; clear hgb0 hgn0 hgne
    refine wp_region_grow (by kernel_rfl) (by kernel_rfl) ?_
    repeat (go_big_quiet_step (((go_at_call 75; exact grow_ret (hcore _)))))
    refine wpQuiet_nil ?_
    rintro wg hbg
    (try replace hbg := aft2 hbg (by assumption))
    obtain ⟨hcg, hfg, hg1, hg2, hg3, hg4⟩ := aftz hbg
    have HBX := Lib.hid hbg; clear hbg hcg hfg hg1 hg2 hg3 hg4 d5 d6 d7 HBB hnum x1 x2 x3 X1 X2 X3
    go_wp2_with fail
    refine (gcd_any num D _ (by omega) (by omega) (by omega) (by omega)).mono ?_; rintro e w2 ⟨rfl, hb2⟩
    rw [HG.out]
    have HB2 := Lib.hid (bel_trans hb2 HBX.out); clear hb2
    by_cases hneg : D < 0
    all_goals
      first | rw [if_pos hneg] at hgg | rw [if_neg hneg] at hgg
      have HGG := Lib.hid hgg; clear hgg
      have hbf : Below w2.heap.size w2 w2 := Below.refl _ _
      go_wp2_with fail
      rw [← HGG.out]
      have y1 := Y1.out; have y2 := Y2.out; have hgb0 := HGB0.out; have hgn0 := HGN.out
      go_quiet (fail)
      go_wp2_with fail
      go_returns
      exact ret_eq (by rw [HV1.out, HV2.out]; rfl) (bel_drewN HB2.out _)
theorem ecInvariant_any (a b : Int) (w : World) (h : curveB a b = true) :
    Calls Tryz.prog 77 #[.agg #[.int .i64 a, .int .i64 b]] w (Ret (.tuple #[.int .i64 (lowN (6912 * a * a * a) (discI a b)), .int .i64 (lowD (6912 * a * a * a) (discI a b))]) w) := by
  obtain ⟨h1, h2, h3, h4, h5⟩ := curveB_true.1 h
  have hdb := disc_bd h1 h2 h3 h4
  have b1 := mul_bd (a := 6912 * a) (b := a) (A := 6912000) (B := 1000) (by omega) (by omega) h1 h2
  have b2 := mul_bd (a := 6912 * a * a) (b := a) (A := 6912000000) (B := 1000) b1.1 b1.2 h1 h2
  have x1 : IntKind.i64.wrap (6912 * a) = 6912 * a := wrapf (by omega) (by omega)
  have x2 : IntKind.i64.wrap (6912 * a * a) = 6912 * a * a := wrapf (by omega) (by omega)
  have x3 : IntKind.i64.wrap (6912 * a * a * a) = 6912 * a * a * a := wrapf (by omega) (by omega)
  have hdisc := fun w => ecDisc_any a b w h1 h2 h3 h4
  generalize hD : discI a b = D at *
  obtain ⟨num, hnum⟩ : ∃ num, 6912 * a * a * a = num := ⟨_, rfl⟩
  rw [hnum] at b2 ⊢
  have hep := fun w => ecPart_any num D w (by omega) (by omega) (by omega) (by omega) h5
  have X1 := Lib.hid x1; have X2 := Lib.hid x2; have X3 := Lib.hid x3
  go_enter Tryz.func77, Tryz.ntmps77
  go_wp2_with fail
  refine wp_region_grow (by kernel_rfl) (by kernel_rfl) ?_
  repeat (go_big_quiet_step (((first | (go_at_call 78; exact grow_ret (hdisc _)) | (go_at_call 144; exact grow_ret (hep _))))))
  refine wpQuiet_nil ?_
  rintro wg hbg
  (try replace hbg := aft2 hbg (by assumption))
  obtain ⟨hcg, hfg, hg1, hg2, hg3, hg4⟩ := aftz hbg
  go_wp2_with fail
  go_returns
  exact ret_eq (by rfl) (by repeat (first | exact Below.refl _ _ | (with_reducible assumption) | refine bel_alloc ?_ _ | refine bel_drew ?_ | refine bel_drewN ?_ _ | refine Below.setCell ?_ (by dsimp only; omega) _ | refine bel_trans (by assumption) ?_))
theorem sInvariantOf_any (a b : Int) (w : World) :
    Calls Tryz.prog 12 #[.agg #[.int .i64 a, .int .i64 b]] w (Ret (if curveB a b = true then .tuple #[.int .i64 (lowN (6912 * a * a * a) (discI a b)), .int .i64 (lowD (6912 * a * a * a) (discI a b)), .bool true] else .tuple #[.int .i64 0, .int .i64 0, .bool false]) w) := by
  cases h : curveB a b
  · rw [if_neg (by decide)]
    go_enter Tryz.func12, Tryz.ntmps12
    go_wp2_with fail
    refine (ecGood_any _ _ _).mono ?_; rintro e w1 ⟨rfl, hb1⟩
    rw [h]
    go_wp2_with fail
    go_returns
    exact ret_eq (by rfl) (by repeat (first | exact Below.refl _ _ | (with_reducible assumption) | refine bel_alloc ?_ _ | refine bel_drew ?_ | refine bel_drewN ?_ _ | refine Below.setCell ?_ (by dsimp only; omega) _ | refine bel_trans (by assumption) ?_))
  · rw [if_pos rfl]
    go_enter Tryz.func12, Tryz.ntmps12
    go_wp2_with fail
    have c5 : w.heap.size < (w.alloc (.cells #[.int .i64 a, .int .i64 b] 25)).heap.size := by simp
    have c6 : (w.alloc (.cells #[.int .i64 a, .int .i64 b] 25)).cell? ⟨w.heap.size, 0, none⟩ = some (.int .i64 a) := by simp [go_sem]
    have c7 : (w.alloc (.cells #[.int .i64 a, .int .i64 b] 25)).cell? ⟨w.heap.size, 1, none⟩ = some (.int .i64 b) := by simp [go_sem]
    have hbW : Below w.heap.size w (w.alloc (.cells #[.int .i64 a, .int .i64 b] 25)) := below_allocD _ _
    generalize w.alloc (.cells #[.int .i64 a, .int .i64 b] 25) = W at c5 c6 c7 hbW ⊢
    refine (ecGood_any _ _ _).mono ?_; rintro e w1 ⟨rfl, hb1⟩
    rw [h]
    have d6 := (hb1.cell (p := ⟨w.heap.size, 0, none⟩) c5).trans c6
    have d7 := (hb1.cell (p := ⟨w.heap.size, 1, none⟩) c5).trans c7
    go_wp2_with fail
    refine (ecInvariant_any _ _ _ h).mono ?_; rintro e w2 ⟨rfl, hb2⟩
    go_wp2_with fail
    go_returns
    exact ret_eq (by rfl) (bel_trans hb2 (bel_trans hb1 hbW))
theorem sum_bds : ∀ (l : List Int), (∀ n ∈ l, -1000 ≤ n ∧ n ≤ 1000) → -1000 * (l.length : Int) ≤ l.sum ∧ l.sum ≤ 1000 * (l.length : Int)
  | [], _ => by simp
  | x :: l, h => by
    have h1 := h x (by simp)
    have h2 := sum_bds l fun n hn => h n (by simp [hn])
    simp only [List.sum_cons, List.length_cons]
    omega
theorem sum_take {xs : List Int} {j : Nat} (hj : j < xs.length) : (xs.take (j + 1)).sum = (xs.take j).sum + xs.getD j 0 := by
  rw [List.take_add_one, List.getD_eq_getElem?_getD, List.getElem?_eq_getElem hj, List.sum_append]
  simp
end Go.Proofs.YtpjcfnjagknocaaGreatDoor
