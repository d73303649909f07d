/- Mf: contracts: fractions in lowest terms. No conditions. -/
import Derived.Test.YtnhlcgbknkdbiaaFr
import Derived.Test.YtnhlcgbknkdbiaaRg
namespace Go.Proofs.Ytnhlcgbknkdbiaa
open Go.RowKit

def Box2 (n B : Nat) (x y : Value) (w' : World) : Prop := n ≤ B ∧ B < w'.heap.size ∧ w'.cell? ⟨B, 0, none⟩ = some x ∧ w'.cell? ⟨B, 1, none⟩ = some y
theorem wrapf {u : Int} (h0 : -4000000000000000000 ≤ u) (h1 : u ≤ 4000000000000000000) : IntKind.i64.wrap u = u := by
  simp only [IntKind.wrap, IntKind.bits, IntKind.signed]
  simp
  omega
/-- the greatest common divisor, with the denominator's sign. -/
def sgcd (n d : Int) : Int := if d < 0 then -gcdI n d else gcdI n d
theorem sgcd_ne {n d : Int} (h : d ≠ 0) : sgcd n d ≠ 0 := by
  have : gcdI n d ≠ 0 := by
    unfold gcdI
    intro k
    have := Int.gcd_eq_zero_iff.1 (show Int.gcd n d = 0 by omega)
    exact h this.2
  unfold sgcd; split <;> omega
theorem tdiv_bd {n g B : Int} (h0 : -B ≤ n) (h1 : n ≤ B) : -B ≤ n.tdiv g ∧ n.tdiv g ≤ B := by
  have h : (n.tdiv g).natAbs ≤ n.natAbs := by rw [Int.natAbs_tdiv]; exact Nat.div_le_self _ _
  omega
theorem gcdI_bd {n d : Int} (h : d ≠ 0) : 1 ≤ gcdI n d ∧ gcdI n d ≤ d.natAbs := by
  have h0 := gcdI_nonneg n d
  have h1 := sgcd_ne (n := n) h
  have h2 : gcdI n d ≠ 0 := by unfold sgcd at h1; split at h1 <;> omega
  refine ⟨by omega, ?_⟩
  unfold gcdI
  have := Nat.le_of_dvd (by omega) (Int.gcd_dvd_natAbs_right n d)
  omega
/-- numerator and denominator in lowest terms. -/
def lowN (n d : Int) : Int := n.tdiv (sgcd n d)
def lowD (n d : Int) : Int := d.tdiv (sgcd n d)
theorem gcdI_dvd_l (n d : Int) : gcdI n d ∣ n := Int.gcd_dvd_left ..
theorem gcdI_dvd_r (n d : Int) : gcdI n d ∣ d := Int.gcd_dvd_right ..
theorem lowD_pos {n d : Int} (h : d ≠ 0) : 1 ≤ lowD n d := by
  obtain ⟨g1, g2⟩ := gcdI_bd (n := n) h
  obtain ⟨c, hc⟩ := gcdI_dvd_r n d
  unfold lowD sgcd
  split
  · rename_i hd
    have hcn : c < 0 := by
      rcases Int.lt_or_le c 0 with k | k
      · exact k
      · have := Int.mul_nonneg (show 0 ≤ gcdI n d by omega) k
        omega
    rw [Int.tdiv_neg]
    conv => rhs; rw [hc]
    rw [show gcdI n (gcdI n d * c) = gcdI n d by rw [← hc]]
    rw [Int.mul_tdiv_cancel_left _ (by omega)]
    omega
  · rename_i hd
    have hcn : 0 < c := by
      rcases Int.lt_or_le 0 c with k | k
      · exact k
      · have := Int.mul_nonpos_of_nonneg_of_nonpos (show 0 ≤ gcdI n d by omega) k
        omega
    conv => rhs; rw [hc]
    rw [show gcdI n (gcdI n d * c) = gcdI n d by rw [← hc]]
    rw [Int.mul_tdiv_cancel_left _ (by omega)]
    omega
theorem low_gcd {n d : Int} (h : d ≠ 0) : gcdI (lowN n d) (lowD n d) = 1 := by
  obtain ⟨g1, g2⟩ := gcdI_bd (n := n) h
  have hN : (lowN n d).natAbs = n.natAbs / (gcdI n d).natAbs := by
    unfold lowN; rw [Int.natAbs_tdiv]; unfold sgcd; split <;> first | rfl | (rw [Int.natAbs_neg]; rfl)
  have hD : (lowD n d).natAbs = d.natAbs / (gcdI n d).natAbs := by
    unfold lowD; rw [Int.natAbs_tdiv]; unfold sgcd; split <;> first | rfl | (rw [Int.natAbs_neg]; rfl)
  have hg : (gcdI n d).natAbs = Nat.gcd n.natAbs d.natAbs := by unfold gcdI; rw [Int.natAbs_natCast, Int.gcd_eq_natAbs_gcd_natAbs]
  have e : Nat.gcd (lowN n d).natAbs (lowD n d).natAbs = 1 := by
    rw [hN, hD, hg]
    have hp : 0 < Nat.gcd n.natAbs d.natAbs := by rw [← hg]; omega
    rw [Nat.gcd_div (Nat.gcd_dvd_left ..) (Nat.gcd_dvd_right ..)]
    exact Nat.div_self hp
  unfold gcdI
  rw [Int.gcd_eq_natAbs_gcd_natAbs, e]
  rfl
theorem low_low {n d : Int} (h : d ≠ 0) : lowN (lowN n d) (lowD n d) = lowN n d ∧ lowD (lowN n d) (lowD n d) = lowD n d := by
  have h1 := low_gcd (n := n) h
  have h2 := lowD_pos (n := n) h
  have e : sgcd (lowN n d) (lowD n d) = 1 := by unfold sgcd; rw [if_neg (by omega), h1]
  constructor
  · show (lowN n d).tdiv (sgcd (lowN n d) (lowD n d)) = _
    rw [e, Int.tdiv_one]
  · show (lowD n d).tdiv (sgcd (lowN n d) (lowD n d)) = _
    rw [e, Int.tdiv_one]
/-- what a fraction's making returns. -/
def makV (n d : Int) : Value := bif fracB (lowN n d) (lowD n d) then .tuple #[.agg #[.int .i64 (lowN n d), .int .i64 (lowD n d)], .bool true] else .tuple #[.agg #[.int .i64 0, .int .i64 0], .bool false]
set_option maxHeartbeats 2000000 in
theorem makeFraction_any (n d : Int) (w : World) (n0 : -1000000000000000000 ≤ n) (n1 : n ≤ 1000000000000000000) (d0 : -1000000000000000000 ≤ d) (d1 : d ≤ 1000000000000000000) (hd : d ≠ 0) :
    Calls Try.prog 66 #[.int .i64 n, .int .i64 d] w (Ret (makV n d) w) := by
  obtain ⟨G, hG⟩ : ∃ G, gcdI n d = G := ⟨_, rfl⟩
  have hgb := gcdI_bd (n := n) hd
  rw [hG] at hgb
  obtain ⟨g, hg⟩ : ∃ g, sgcd n d = g := ⟨_, rfl⟩
  have hgne := sgcd_ne (n := n) hd
  rw [hg] at hgne
  have hgg : g = if d < 0 then -G else G := by rw [← hg, ← hG]; rfl
  have hv : makV n d = bif fracB (n.tdiv g) (d.tdiv g) then .tuple #[.agg #[.int .i64 (n.tdiv g), .int .i64 (d.tdiv g)], .bool true] else .tuple #[.agg #[.int .i64 0, .int .i64 0], .bool false] := by unfold makV lowN lowD; rw [hg]
  have b1 := tdiv_bd (g := g) n0 n1
  have b2 := tdiv_bd (g := g) d0 d1
  have w1 : IntKind.i64.wrap (n.tdiv g) = n.tdiv g := wrapf (by omega) (by omega)
  have w2 : IntKind.i64.wrap (d.tdiv g) = d.tdiv g := wrapf (by omega) (by omega)
  rw [hv]; clear hv hg
  have hgb0 : (g == 0) = false := by simp [hgne]
  have HG := Lib.hid hG; clear hG
  have hdb : (d == 0) = false := by simp [hd]
  by_cases hneg : d < 0
  all_goals
    cases hfr : fracB (n.tdiv g) (d.tdiv g)
    all_goals
      first | rw [if_pos hneg] at hgg | rw [if_neg hneg] at hgg
      have HGG := Lib.hid hgg; clear hgg
      have hgn0 : ¬ g = 0 := hgne
      go_enter Try.func66, Try.ntmps66
      go_wp2_with fail
      refine (gcd_any n d _ (by omega) (by omega) (by omega) (by omega)).mono ?_; rintro e W ⟨rfl, hb1⟩
      rw [HG.out]
      obtain ⟨g0, hbW, cr0, cr1, fz0, fz1⟩ : w.heap.size < W.heap.size ∧ Below w.heap.size w W ∧ W.cell? ⟨w.heap.size, 0, none⟩ = some (.int .i64 0) ∧ W.cell? ⟨w.heap.size, 1, none⟩ = some (.int .i64 0) ∧ W.frozen? ⟨w.heap.size, 0, none⟩ = false ∧ W.frozen? ⟨w.heap.size, 1, none⟩ = false := by
        obtain ⟨hc, hf⟩ := aft hb1
        have hsz := hb1.size
        refine ⟨by simp at hsz; omega, (by repeat (first | exact Below.refl _ _ | (with_reducible assumption) | refine bel_alloc ?_ _ | refine bel_drew ?_ | refine bel_drewN ?_ _ | refine Below.setCell ?_ (by dsimp only; omega) _ | refine bel_trans (by assumption) ?_)), by simp [go_sem, hc], by simp [go_sem, hc], by simp [go_sem, hf], by simp [go_sem, hf]⟩
      clear hb1
      obtain ⟨B0, hB0⟩ : ∃ B0, w.heap.size = B0 := ⟨_, rfl⟩
      rw [hB0] at g0 cr0 cr1 fz0 fz1 ⊢
      go_wp2_with fail
      rw [← HGG.out]
      refine' wp_region_box (a0 := _) 7 (fun B w' => Below W.heap.size W w' ∧ Box2 W.heap.size B (.int .i64 (n.tdiv g)) (.int .i64 (d.tdiv g)) w') ?_ ?_
      rotate_left
      · go_region_held3 (fun w' => Below W.heap.size W w') ((repeat (first | exact Below.refl _ _ | (with_reducible assumption) | refine bel_alloc ?_ _ | refine bel_drew ?_ | refine Below.setCell ?_ (by dsimp only; first | omega | (simp; done)) _ | refine bel_trans (by assumption) ?_))) (fail)
        all_goals
          rename_i hHeld
          refine ⟨rfl, _, ⟨by first | rfl | (simp [Act.put]; done) | (simp [Act.put]; rfl), by first | rfl | (simp; done) | (simp; rfl)⟩, hHeld, ?_⟩
          clear hHeld
          refine ⟨by simp, by first | (simp; done) | (simp; omega), ?_, ?_⟩
          all_goals first | (simp [go_sem]; done) | (simp [go_sem, *]; done)
      rintro B w2 ⟨hbw, q0, q1, q2, q3⟩
      simp only [Act.put, List.setIfInBounds_toArray, List.set_cons_zero, List.set_cons_succ]
      have r0 := (hbw.cell (p := ⟨B0, 0, none⟩) g0).trans cr0
      have r1 := (hbw.cell (p := ⟨B0, 1, none⟩) g0).trans cr1
      have rz := (hbw.frozen (p := ⟨B0, 0, none⟩) g0).trans fz0
      have rz1 := (hbw.frozen (p := ⟨B0, 1, none⟩) g0).trans fz1
      have gB : B0 < w2.heap.size := Nat.lt_of_lt_of_le g0 hbw.size
      have hne : B ≠ B0 := by omega
      have hbx := bel_trans hbw hbW
      go_wp2_with fail
      refine (isFraction_any _ _ _).mono ?_; rintro e w3 ⟨rfl, hb3⟩
      have s0 := (hb3.cell (p := ⟨B0, 0, none⟩) gB).trans r0
      have s1 := (hb3.cell (p := ⟨B0, 1, none⟩) gB).trans r1
      have sz := (hb3.frozen (p := ⟨B0, 0, none⟩) gB).trans rz
      have sz1 := (hb3.frozen (p := ⟨B0, 1, none⟩) gB).trans rz1
      have t0 := (hb3.cell (p := ⟨B, 0, none⟩) q1).trans q2
      have t1 := (hb3.cell (p := ⟨B, 1, none⟩) q1).trans q3
      have hb4 := bel_trans hb3 hbx
      have gz := hb3.size
      clear r0 r1 rz rz1 q2 q3
      go_wp2_with fail
      refine bodyPost_ret (by simp (maxDischargeDepth := 3) [results, Try.results66, go_sem, *]; try rfl) rfl ?_
      exact ret_eq (by first | rfl | simp) (by repeat (first | exact Below.refl _ _ | (with_reducible assumption) | refine Below.setCell ?_ (by dsimp only; omega) _))
set_option maxHeartbeats 2000000 in
theorem frMake_any (n d : Int) (w : World) (n0 : -1000000000000000000 ≤ n) (n1 : n ≤ 1000000000000000000) (d0 : -1000000000000000000 ≤ d) (d1 : d ≤ 1000000000000000000) (hd : d ≠ 0) :
    Calls Try.prog 68 #[.int .i64 n, .int .i64 d] w (Ret (makV n d) w) := by
  obtain ⟨G, hG⟩ : ∃ G, gcdI n d = G := ⟨_, rfl⟩
  have hgb := gcdI_bd (n := n) hd
  rw [hG] at hgb
  obtain ⟨g, hg⟩ : ∃ g, sgcd n d = g := ⟨_, rfl⟩
  have hgne := sgcd_ne (n := n) hd
  rw [hg] at hgne
  have hgg : g = if d < 0 then -G else G := by rw [← hg, ← hG]; rfl
  have hv : makV n d = bif fracB (n.tdiv g) (d.tdiv g) then .tuple #[.agg #[.int .i64 (n.tdiv g), .int .i64 (d.tdiv g)], .bool true] else .tuple #[.agg #[.int .i64 0, .int .i64 0], .bool false] := by unfold makV lowN lowD; rw [hg]
  have b1 := tdiv_bd (g := g) n0 n1
  have b2 := tdiv_bd (g := g) d0 d1
  have w1 : IntKind.i64.wrap (n.tdiv g) = n.tdiv g := wrapf (by omega) (by omega)
  have w2 : IntKind.i64.wrap (d.tdiv g) = d.tdiv g := wrapf (by omega) (by omega)
  rw [hv]; clear hv hg
  have hgb0 : (g == 0) = false := by simp [hgne]
  have HG := Lib.hid hG; clear hG
  have hdb : (d == 0) = false := by simp [hd]
  by_cases hneg : d < 0
  all_goals
    cases hfr : fracB (n.tdiv g) (d.tdiv g)
    all_goals
      first | rw [if_pos hneg] at hgg | rw [if_neg hneg] at hgg
      have HGG := Lib.hid hgg; clear hgg
      have hgn0 : ¬ g = 0 := hgne
      go_enter Try.func68, Try.ntmps68
      go_wp2_with fail
      go_wp2_with (go_at_call 79; refine (l1Abs_any _ _ (by omega) (by omega)).mono ?_; rintro e w' ⟨rfl, rfl⟩)
      refine (bgCommon_any _ _ _ (by omega) (by omega) (by omega) (by omega)).mono ?_; rintro e W ⟨rfl, hb1⟩
      rw [gcdI_natAbs]
      rw [HG.out]
      obtain ⟨g0, hbW, cr0, cr1, fz0, fz1⟩ : w.heap.size < W.heap.size ∧ Below w.heap.size w W ∧ W.cell? ⟨w.heap.size, 0, none⟩ = some (.int .i64 0) ∧ W.cell? ⟨w.heap.size, 1, none⟩ = some (.int .i64 0) ∧ W.frozen? ⟨w.heap.size, 0, none⟩ = false ∧ W.frozen? ⟨w.heap.size, 1, none⟩ = false := by
        obtain ⟨hc, hf⟩ := aft hb1
        have hsz := hb1.size
        refine ⟨by simp at hsz; omega, (by repeat (first | exact Below.refl _ _ | (with_reducible assumption) | refine bel_alloc ?_ _ | refine bel_drew ?_ | refine bel_drewN ?_ _ | refine Below.setCell ?_ (by dsimp only; omega) _ | refine bel_trans (by assumption) ?_)), by simp [go_sem, hc], by simp [go_sem, hc], by simp [go_sem, hf], by simp [go_sem, hf]⟩
      clear hb1
      obtain ⟨B0, hB0⟩ : ∃ B0, w.heap.size = B0 := ⟨_, rfl⟩
      rw [hB0] at g0 cr0 cr1 fz0 fz1 ⊢
      go_wp2_with fail
      rw [← HGG.out]
      refine' wp_region_box (a0 := _) 7 (fun B w' => Below W.heap.size W w' ∧ Box2 W.heap.size B (.int .i64 (n.tdiv g)) (.int .i64 (d.tdiv g)) w') ?_ ?_
      rotate_left
      · go_region_held3 (fun w' => Below W.heap.size W w') ((repeat (first | exact Below.refl _ _ | (with_reducible assumption) | refine bel_alloc ?_ _ | refine bel_drew ?_ | refine Below.setCell ?_ (by dsimp only; first | omega | (simp; done)) _ | refine bel_trans (by assumption) ?_))) (fail)
        all_goals
          rename_i hHeld
          refine ⟨rfl, _, ⟨by first | rfl | (simp [Act.put]; done) | (simp [Act.put]; rfl), by first | rfl | (simp; done) | (simp; rfl)⟩, hHeld, ?_⟩
          clear hHeld
          refine ⟨by simp, by first | (simp; done) | (simp; omega), ?_, ?_⟩
          all_goals first | (simp [go_sem]; done) | (simp [go_sem, *]; done)
      rintro B w2 ⟨hbw, q0, q1, q2, q3⟩
      simp only [Act.put, List.setIfInBounds_toArray, List.set_cons_zero, List.set_cons_succ]
      have r0 := (hbw.cell (p := ⟨B0, 0, none⟩) g0).trans cr0
      have r1 := (hbw.cell (p := ⟨B0, 1, none⟩) g0).trans cr1
      have rz := (hbw.frozen (p := ⟨B0, 0, none⟩) g0).trans fz0
      have rz1 := (hbw.frozen (p := ⟨B0, 1, none⟩) g0).trans fz1
      have gB : B0 < w2.heap.size := Nat.lt_of_lt_of_le g0 hbw.size
      have hne : B ≠ B0 := by omega
      have hbx := bel_trans hbw hbW
      go_wp2_with fail
      refine (frGood_any _ _ _).mono ?_; rintro e w3 ⟨rfl, hb3⟩
      have s0 := (hb3.cell (p := ⟨B0, 0, none⟩) gB).trans r0
      have s1 := (hb3.cell (p := ⟨B0, 1, none⟩) gB).trans r1
      have sz := (hb3.frozen (p := ⟨B0, 0, none⟩) gB).trans rz
      have sz1 := (hb3.frozen (p := ⟨B0, 1, none⟩) gB).trans rz1
      have t0 := (hb3.cell (p := ⟨B, 0, none⟩) q1).trans q2
      have t1 := (hb3.cell (p := ⟨B, 1, none⟩) q1).trans q3
      have hb4 := bel_trans hb3 hbx
      have gz := hb3.size
      clear r0 r1 rz rz1 q2 q3
      go_wp2_with fail
      refine bodyPost_ret (by simp (maxDischargeDepth := 3) [results, Try.results68, go_sem, *]; try rfl) rfl ?_
      exact ret_eq (by first | rfl | simp) (by repeat (first | exact Below.refl _ _ | (with_reducible assumption) | refine Below.setCell ?_ (by dsimp only; omega) _))
end Go.Proofs.Ytnhlcgbknkdbiaa
