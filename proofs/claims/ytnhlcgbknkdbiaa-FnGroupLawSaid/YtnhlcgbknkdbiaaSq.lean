/- Sq: contracts: a quotient of two whole numbers, if it is an integer within bounds. No conditions. -/
import Derived.Test.YtnhlcgbknkdbiaaWq
import Derived.Test.YtnhlcgbknkdbiaaWc
namespace Go.Proofs.Ytnhlcgbknkdbiaa
open Go.RowKit

theorem floorTwo_any (a : Int) (w : World) (h0 : -1000000 ≤ a) (h1 : a ≤ 1000000) :
    Calls Try.prog 108 #[.int .i64 a, .int .i64 2] w (Ret (.int .i64 (a / 2)) w) := by
  by_cases ha : 0 ≤ a
  · go_enter Try.func108, Try.ntmps108
    go_wp2_with fail
    go_ret
    exact ret_eq rfl (by repeat (first | exact Below.refl _ _ | (with_reducible assumption) | refine bel_alloc ?_ _ | refine bel_drew ?_ | refine bel_drewN ?_ _ | refine Below.setCell ?_ (by dsimp only; omega) _ | refine bel_trans (by assumption) ?_))
  · obtain ⟨m, rfl⟩ : ∃ m, a = -m := ⟨-a, by omega⟩
    have e1 : (-m).tdiv 2 = -(m / 2) := by rw [Int.neg_tdiv, Int.tdiv_eq_ediv_of_nonneg (by omega)]
    have e2 : (-m).tmod 2 = -(m % 2) := by rw [Int.neg_tmod, Int.tmod_eq_emod_of_nonneg (by omega)]
    have e3 : IntKind.i64.wrap (-(m / 2)) = -(m / 2) := by
      simp only [IntKind.wrap, IntKind.bits, IntKind.signed]
      simp
      omega
    by_cases hm : m % 2 = 0
    · have hf : (-m) / 2 = -(m / 2) := by omega
      rw [hf]
      have hlt : ¬ -(m % 2) < 0 := by omega
      clear hf
      go_enter Try.func108, Try.ntmps108
      go_wp2_with fail
      go_ret
      exact ret_eq rfl (by repeat (first | exact Below.refl _ _ | (with_reducible assumption) | refine bel_alloc ?_ _ | refine bel_drew ?_ | refine bel_drewN ?_ _ | refine Below.setCell ?_ (by dsimp only; omega) _ | refine bel_trans (by assumption) ?_))
    · have hf : (-m) / 2 = -(m / 2) - 1 := by omega
      rw [hf]
      have hlt : -(m % 2) < 0 := by omega
      clear hf
      go_enter Try.func108, Try.ntmps108
      go_wp2_with fail
      go_ret
      exact ret_eq rfl (by repeat (first | exact Below.refl _ _ | (with_reducible assumption) | refine bel_alloc ?_ _ | refine bel_drew ?_ | refine bel_drewN ?_ _ | refine Below.setCell ?_ (by dsimp only; omega) _ | refine bel_trans (by assumption) ?_))
theorem held4 {W w' : World} {B0 B1 : Nat} {u0 u1 u2 u3 : Value} (h : Below W.heap.size W w') (h0 : B0 < W.heap.size) (h1 : B1 < W.heap.size) (c0 : W.cell? ⟨B0, 0, none⟩ = some u0) (c1 : W.cell? ⟨B0, 1, none⟩ = some u1) (c2 : W.cell? ⟨B1, 0, none⟩ = some u2) (c3 : W.cell? ⟨B1, 1, none⟩ = some u3) :
    Below W.heap.size W w' ∧ w'.cell? ⟨B0, 0, none⟩ = some u0 ∧ w'.cell? ⟨B0, 1, none⟩ = some u1 ∧ w'.cell? ⟨B1, 0, none⟩ = some u2 ∧ w'.cell? ⟨B1, 1, none⟩ = some u3 :=
  ⟨h, (h.cell (p := ⟨B0, 0, none⟩) h0).trans c0, (h.cell (p := ⟨B0, 1, none⟩) h0).trans c1, (h.cell (p := ⟨B1, 0, none⟩) h1).trans c2, (h.cell (p := ⟨B1, 1, none⟩) h1).trans c3⟩
/-- returned a number and whether b times it is z; if there is one within the bounds, it is that one. -/
def RetSq (z b : Int) (w : World) (e : Ending) (w' : World) : Prop := ∃ low : Int, e = .returned (.tuple #[.int .i64 low, .bool (decide (b * low = z))]) ∧ -10000 ≤ low ∧ low ≤ 10000 ∧ (∀ c, -10000 ≤ c → c ≤ 10000 → b * c = z → low = c) ∧ Below w.heap.size w w'
theorem cmp_ge {x y : Int} : 0 ≤ cmpI x y ↔ y ≤ x := by unfold cmpI; split <;> (try split) <;> omega
theorem cmp_zero {x y : Int} : cmpI x y = 0 ↔ x = y := by unfold cmpI; split <;> (try split) <;> omega
theorem mul_le_cancel {b x y : Int} (hb : 0 < b) : b * x ≤ b * y ↔ x ≤ y := ⟨fun h => Int.le_of_mul_le_mul_left h hb, fun h => Int.mul_le_mul_of_nonneg_left h (by omega)⟩
set_option maxHeartbeats 4000000 in
theorem smallQuotient_any (v u : Value) (z b : Int) (w : World) (hv : WV w v z) (hu : WV w u b) (hb : 0 < b) (hl : (digs z.natAbs).length ≤ 900) (hl' : (digs b.natAbs).length ≤ 900) :
    Calls Try.prog 89 #[v, u, .int .i64 10000] w (RetSq z b w) := by
  have hti := fun (m : Int) (h0 : -10000 ≤ m) (h1 : m ≤ 10000) w' (hb : Below w.heap.size w w') => timesInt_any u b m w' (hu.keep hb) (by omega) (by omega) (by omega)
  have hdl : ∀ m : Int, -10000 ≤ m → m ≤ 10000 → (digs (b * m).natAbs).length ≤ 1000000 := fun m h0 h1 => by
    rw [Int.natAbs_mul]
    have := digs_mul_len b.natAbs m.natAbs
    have h2 := digs_lt (n := m.natAbs) (k := 2) (by omega)
    omega
  have hcw := fun (m : Int) (h0 : -10000 ≤ m) (h1 : m ≤ 10000) u1 w' (hb : Below w.heap.size w w') (hu1 : WV w' u1 (b * m)) => compareWholes_any u1 v (b * m) z w' hu1 (hv.keep hb) (hdl m h0 h1) (by omega)
  have HTI := Lib.hid hti; clear hti
  have HCW := Lib.hid hcw; clear hcw hdl
  obtain ⟨ad, cap, rfl, _, _⟩ := hv
  obtain ⟨ad', cap', rfl, _, _⟩ := hu
  generalize decide (z < 0) = b1 at *
  generalize (digs z.natAbs).length = la at *
  generalize decide (b < 0) = b2 at *
  generalize (digs b.natAbs).length = lb at *
  obtain ⟨B0, hB0⟩ : ∃ B0, w.heap.size = B0 := ⟨_, rfl⟩
  go_enter Try.func89, Try.ntmps89
  go_wp2_with fail
  generalize hW : (w.alloc (.cells #[.bool b1, .slice ad la cap] 26)).alloc (.cells #[.bool b2, .slice ad' lb cap'] 26) = W
  obtain ⟨hbelW, hW0, hW1, ca0, ca1, cb0, cb1⟩ : Below w.heap.size w W ∧ B0 < W.heap.size ∧ B0 + 1 < W.heap.size ∧ W.cell? ⟨B0, 0, none⟩ = some (.bool b1) ∧ W.cell? ⟨B0, 1, none⟩ = some (.slice ad la cap) ∧ W.cell? ⟨B0 + 1, 0, none⟩ = some (.bool b2) ∧ W.cell? ⟨B0 + 1, 1, none⟩ = some (.slice ad' lb cap') := by
    subst hW; subst hB0
    exact ⟨(by repeat (first | exact Below.refl _ _ | (with_reducible assumption) | refine bel_alloc ?_ _ | refine bel_drew ?_ | refine bel_drewN ?_ _ | refine Below.setCell ?_ (by dsimp only; omega) _ | refine bel_trans (by assumption) ?_)), by simp, by simp, by simp [go_sem], by simp [go_sem], by simp [go_sem], by simp [go_sem]⟩
  clear hW
  (try rw [hB0])
  go_loopw [8, 9] (fun p q wr => ∃ lo hi : Int, p = .int .i64 lo ∧ q = .int .i64 hi ∧ -10000 ≤ lo ∧ lo ≤ hi ∧ hi ≤ 10000 ∧ Hid (∀ c, -10000 ≤ c → c ≤ 10000 → b * c = z → lo ≤ c ∧ c ≤ hi) ∧ Below W.heap.size W wr) (fun p q _ => (intOf q - intOf p).toNat)
  case atStart => exact ⟨-10000, 10000, rfl, rfl, by omega, by omega, by omega, fun c h0 h1 _ => ⟨h0, h1⟩, Below.refl _ _⟩
  case round =>
    obtain ⟨lo, hi, rfl, rfl, l0, l1, l2, HQ, hbel⟩ := hrel
    have htw := fun m h0 h1 w' (hb : Below W.heap.size W w') => HTI.out m h0 h1 w' (bel_trans hb hbelW)
    have hcw := fun m h0 h1 u1 w' (hb : Below W.heap.size W w') => HCW.out m h0 h1 u1 w' (bel_trans hb hbelW)
    have HTIW := Lib.hid htw; clear htw
    have HCWW := Lib.hid hcw; clear hcw
    have ka0 := (hbel.cell (p := ⟨B0, 0, none⟩) hW0).trans ca0
    have ka1 := (hbel.cell (p := ⟨B0, 1, none⟩) hW0).trans ca1
    have kb0 := (hbel.cell (p := ⟨B0 + 1, 0, none⟩) hW1).trans cb0
    have kb1 := (hbel.cell (p := ⟨B0 + 1, 1, none⟩) hW1).trans cb1
    by_cases hlt : lo < hi
    · have hm0 : lo ≤ (lo + hi) / 2 := by omega
      have hm1 : (lo + hi) / 2 < hi := by omega
      go_wp2_with fail
      refine (floorTwo_any _ _ (by omega) (by omega)).mono ?_; rintro e w1 ⟨rfl, hb1⟩
      have hbel1 := bel_trans hb1 hbel
      obtain ⟨m, hmm⟩ : ∃ m, (lo + hi) / 2 = m := ⟨_, rfl⟩
      rw [hmm] at hm0 hm1 ⊢
      clear hmm hb1 ka0 ka1 kb0 kb1
      obtain ⟨cc, hcc⟩ : ∃ cc, cmpI (b * m) z = cc := ⟨_, rfl⟩
      have hcc0 := cmp_ge (x := b * m) (y := z)
      rw [hcc] at hcc0
      have hcm := HCWW.out m (by omega) (by omega)
      rw [hcc] at hcm
      have HCM := Lib.hid hcm; clear hcm
      have HTM := Lib.hid (HTIW.out m (by omega) (by omega))
      have HCC := Lib.hid hcc; clear hcc
      have HC0 := Lib.hid hcc0; clear hcc0
      have hq1 : z ≤ b * m → ∀ c, -10000 ≤ c → c ≤ 10000 → b * c = z → lo ≤ c ∧ c ≤ m := fun h c c0 c1 hc => by
        have k := HQ.out c c0 c1 hc
        rw [← hc] at h
        exact ⟨k.1, (mul_le_cancel hb).1 h⟩
      have hq2 : ¬ z ≤ b * m → ∀ c, -10000 ≤ c → c ≤ 10000 → b * c = z → m + 1 ≤ c ∧ c ≤ hi := fun h c c0 c1 hc => by
        have k := HQ.out c c0 c1 hc
        rw [← hc, mul_le_cancel hb] at h
        exact ⟨by omega, k.2⟩
      have HQ1 := Lib.hid hq1; clear hq1
      have HQ2 := Lib.hid hq2; clear hq2
      by_cases hge : 0 ≤ cc
      all_goals
        go_wp2_with fail
        refine' wp_region_val (f := _) (fun v w' => Below W.heap.size W w') ?_ ?_
        rotate_left
        · go_region_held3 (fun w' => Below W.heap.size W w' ∧ w'.cell? ⟨B0, 0, none⟩ = some (.bool b1) ∧ w'.cell? ⟨B0, 1, none⟩ = some (.slice ad la cap) ∧ w'.cell? ⟨B0 + 1, 0, none⟩ = some (.bool b2) ∧ w'.cell? ⟨B0 + 1, 1, none⟩ = some (.slice ad' lb cap')) ((refine held4 ?_ hW0 hW1 ca0 ca1 cb0 cb1; repeat (first | exact Below.refl _ _ | (with_reducible assumption) | refine bel_drew ?_ | refine bel_trans (by assumption) ?_))) ((first | (go_at_call 90; refine (HTM.out _ (And.left (by assumption))).mono ?_; rintro e w2 ⟨u1, rfl, hb2, hu1⟩; have hbw2 : Below W.heap.size W w2 := bel_trans hb2 (And.left (by assumption))) | (go_at_call 109; refine (HCM.out _ _ (And.left (by assumption)) hu1.wv).mono ?_; rintro e w3 ⟨rfl, hb3⟩; have hbw3 : Below W.heap.size W w3 := bel_trans hb3 hbw2)))
          all_goals
            rename_i hHeld
            exact ⟨rfl, u1, by rfl, hHeld.1⟩
        rintro u1 w3 hbel3
        (try simp only [Act.put, List.setIfInBounds_toArray, List.set_cons_zero, List.set_cons_succ])
        go_wp2_with fail
        go_roundw
        first
        | (case rel => exact ⟨lo, m, rfl, rfl, by omega, by omega, by omega, HQ1.out (HC0.out.1 hge), hbel3⟩)
        | (case rel => exact ⟨m + 1, hi, rfl, rfl, by omega, by omega, by omega, HQ2.out (Int.not_le.1 (fun h => absurd (HC0.out.2 h) (by omega))), hbel3⟩)
        case measure => simp [intOf]; omega
    · have he : hi = lo := by omega
      subst he
      have hcm := HCWW.out hi (by omega) (by omega)
      obtain ⟨cc, hcc⟩ : ∃ cc, cmpI (b * hi) z = cc := ⟨_, rfl⟩
      have hcc0 := cmp_zero (x := b * hi) (y := z)
      rw [hcc] at hcm hcc0
      have HCM := Lib.hid hcm; clear hcm hcc
      have HTM := Lib.hid (HTIW.out hi (by omega) (by omega))
      have hqq : ∀ c, -10000 ≤ c → c ≤ 10000 → b * c = z → hi = c := fun c c0 c1 hc => by have := HQ.out c c0 c1 hc; omega
      have HQQ := Lib.hid hqq; clear hqq
      have hdd : decide (b * hi = z) = decide (cc = 0) := by simp only [hcc0]
      have HDD := Lib.hid hdd; clear hdd hcc0
      go_wp2_with fail
      go_region_held3 (fun w' => Below W.heap.size W w' ∧ w'.cell? ⟨B0, 0, none⟩ = some (.bool b1) ∧ w'.cell? ⟨B0, 1, none⟩ = some (.slice ad la cap) ∧ w'.cell? ⟨B0 + 1, 0, none⟩ = some (.bool b2) ∧ w'.cell? ⟨B0 + 1, 1, none⟩ = some (.slice ad' lb cap')) ((refine held4 ?_ hW0 hW1 ca0 ca1 cb0 cb1; repeat (first | exact Below.refl _ _ | (with_reducible assumption) | refine bel_drew ?_ | refine bel_trans (by assumption) ?_))) ((first | (go_at_call 90; refine (HTM.out _ (And.left (by assumption))).mono ?_; rintro e w2 ⟨u1, rfl, hb2, hu1⟩; have hbw2 : Below W.heap.size W w2 := bel_trans hb2 (And.left (by assumption))) | (go_at_call 109; refine (HCM.out _ _ (And.left (by assumption)) hu1.wv).mono ?_; rintro e w3 ⟨rfl, hb3⟩; have hbw3 : Below W.heap.size W w3 := bel_trans hb3 hbw2)))
      all_goals
        rename_i hHeld
        have hbf := bel_trans hHeld.1 hbelW
        clear hHeld
        go_wp2_with fail
        go_returns
        exact ⟨hi, by rw [HDD.out]; first | rfl | simp, by omega, by omega, HQQ.out, hbf⟩
end Go.Proofs.Ytnhlcgbknkdbiaa
