/- Cp: contracts: the number of points modulo a prime. No conditions. -/
import Derived.Test.YtpjcfnjagknocaaPw
namespace Go.Proofs.Ytpjcfnjagknocaa
open Go.RowKit

noncomputable def cntN (a b p : Int) : Nat → Int
  | 0 => 0
  | n + 1 => cntN a b p n + symI (rsI a b p n) p
noncomputable def cntI (a b p : Int) : Int := p + 1 + cntN a b p p.toNat
theorem cntN_bd {a b p : Int} (hp : p5B p = true) : ∀ n : Nat, -(n : Int) ≤ cntN a b p n ∧ cntN a b p n ≤ n
  | 0 => by simp [cntN]
  | n + 1 => by
    have h1 := cntN_bd (a := a) (b := b) hp n
    have h2 := symI_bd (a := rsI a b p n) hp
    simp only [cntN]; omega
theorem cntN_succ (a b p x : Int) (h : 0 ≤ x) : cntN a b p (x + 1).toNat = cntN a b p x.toNat + symI (rsI a b p x) p := by
  obtain ⟨n, rfl⟩ : ∃ n : Nat, x = n := ⟨x.toNat, by omega⟩
  rw [show ((n : Int) + 1).toNat = n + 1 by omega, show (n : Int).toNat = n by omega]
  rfl
theorem cntI_bd {a b p : Int} (hp : p5B p = true) : 0 ≤ cntI a b p ∧ cntI a b p ≤ 2000 := by
  have := cntN_bd (a := a) (b := b) hp p.toNat
  have := p5_bd hp
  unfold cntI; omega
noncomputable def cpB (a b p : Int) : Bool := curveB a b && goodB a b p
set_option maxHeartbeats 1000000 in
theorem countPoints_any (a b p : Int) (w : World) (hcur : curveB a b = true) (hg : goodB a b p = true) :
    Calls Try.prog 85 #[.agg #[.int .i64 a, .int .i64 b], .int .i64 p] w (Ret (.int .i64 (cntI a b p)) w) := by
  obtain ⟨q1, q2, q3, q4, q5⟩ := curveB_true.1 hcur
  have hp5 : p5B p = true := by unfold goodB at hg; rw [Bool.and_eq_true] at hg; exact hg.1
  have hpb := p5_bd hp5
  have HQ := Lib.hid q5; clear q5
  have hci : cntI a b p = p + 1 + cntN a b p p.toNat := rfl
  have HCI := Lib.hid hci; clear hci
  go_enter Try.func85, Try.ntmps85
  go_wp2_with fail
  generalize hW : w.alloc (.cells #[.int .i64 a, .int .i64 b] 39) = W
  obtain ⟨B0, hB0⟩ : ∃ B0, w.heap.size = B0 := ⟨_, rfl⟩
  obtain ⟨hbelW, hsz, hca, hcb⟩ : Below w.heap.size w W ∧ B0 < W.heap.size ∧ W.cell? ⟨B0, 0, none⟩ = some (.int .i64 a) ∧ W.cell? ⟨B0, 1, none⟩ = some (.int .i64 b) := by
    subst hW; subst hB0
    exact ⟨(by repeat (first | exact Below.refl _ _ | (with_reducible assumption) | refine bel_alloc ?_ _ | refine bel_drew ?_ | refine bel_drewN ?_ _ | refine Below.setCell ?_ (by dsimp only; omega) _ | refine bel_trans (by assumption) ?_)), by simp, by simp [go_sem], by simp [go_sem]⟩
  clear hW
  rw [hB0]
  go_loopw [5, 8] (fun v y wr => ∃ x s : Int, y = .int .i64 x ∧ v = .int .i64 s ∧ 0 ≤ x ∧ x ≤ p ∧ 0 ≤ s ∧ s ≤ 2000 ∧ Hid (s = x + 1 + cntN a b p x.toNat) ∧ Below W.heap.size W wr)
    (fun _ y _ => (1000 - intOf y).toNat)
  case atStart => exact ⟨0, _, rfl, rfl, by omega, by omega, by omega, by omega, by unfold Hid; simp [cntN], Below.refl _ _⟩
  case round =>
    obtain ⟨x, s, rfl, rfl, x0, x1, s0, s1, HS, hbel⟩ := hrel
    have hsz1 : B0 < wr.heap.size := Nat.lt_of_lt_of_le hsz hbel.size
    have hca1 : wr.cell? ⟨B0, 0, none⟩ = some (.int .i64 a) := (hbel.cell (p := ⟨B0, 0, none⟩) hsz).trans hca
    have hcb1 : wr.cell? ⟨B0, 1, none⟩ = some (.int .i64 b) := (hbel.cell (p := ⟨B0, 1, none⟩) hsz).trans hcb
    by_cases hx : x < p
    · have hss := symI_bd (a := rsI a b p x) hp5
      have hnx := cntN_succ a b p x x0
      have hcb0 := cntN_bd (a := a) (b := b) hp5 x.toNat
      have hcb1' := cntN_bd (a := a) (b := b) hp5 (x.toNat + 1)
      rw [← show (x + 1).toNat = x.toNat + 1 by omega] at hcb1'
      have hsn : 0 ≤ s + (1 + symI (rsI a b p x) p) ∧ s + (1 + symI (rsI a b p x) p) ≤ 2000 := by have := HS.out; omega
      have HN := Lib.hid hnx; clear hnx hcb0 hcb1'
      go_wp2_with fail
      refine (rightSide_any a b p x _ q1 q2 q3 q4 (by omega) (by omega) (by omega) (by omega)).mono ?_; rintro e w1 ⟨rfl, hb1⟩
      replace hb1 := bel_trans hb1 hbel; clear hbel hca1 hcb1 hsz1
      go_wp2_with fail
      refine (symbol_any (rsI a b p x) p _ hp5).mono ?_; rintro e w2 ⟨rfl, hb2⟩
      replace hb2 := bel_trans hb2 hb1; clear hb1
      generalize symI (rsI a b p x) p = y at *
      go_wp2_with fail
      go_roundw
      case rel => exact ⟨x + 1, _, rfl, rfl, by omega, by omega, hsn.1, hsn.2, by unfold Hid; have := HS.out; have := HN.out; omega, hb2⟩
      case measure => simp [intOf]; omega
    · have hxp : x = p := by omega
      subst hxp
      have hv : Hid (s = cntI a b x) := HS.out.trans HCI.out.symm
      go_wp2_with fail
      go_ret
      exact ret_eq (by rw [hv.out]; rfl) (bel_trans hbel hbelW)
set_option maxHeartbeats 1000000 in
theorem fmCount_any (a b p : Int) (w : World) (hcur : curveB a b = true) (hg : goodB a b p = true) :
    Calls Try.prog 87 #[.agg #[.int .i64 a, .int .i64 b], .int .i64 p] w (Ret (.int .i64 (cntI a b p)) w) := by
  obtain ⟨q1, q2, q3, q4, q5⟩ := curveB_true.1 hcur
  have hp5 : p5B p = true := by unfold goodB at hg; rw [Bool.and_eq_true] at hg; exact hg.1
  have hpb := p5_bd hp5
  have HQ := Lib.hid q5; clear q5
  have hci : cntI a b p = p + 1 + cntN a b p p.toNat := rfl
  have HCI := Lib.hid hci; clear hci
  go_enter Try.func87, Try.ntmps87
  go_wp2_with fail
  generalize hW : w.alloc (.cells #[.int .i64 a, .int .i64 b] 39) = W
  obtain ⟨B0, hB0⟩ : ∃ B0, w.heap.size = B0 := ⟨_, rfl⟩
  obtain ⟨hbelW, hsz, hca, hcb⟩ : Below w.heap.size w W ∧ B0 < W.heap.size ∧ W.cell? ⟨B0, 0, none⟩ = some (.int .i64 a) ∧ W.cell? ⟨B0, 1, none⟩ = some (.int .i64 b) := by
    subst hW; subst hB0
    exact ⟨(by repeat (first | exact Below.refl _ _ | (with_reducible assumption) | refine bel_alloc ?_ _ | refine bel_drew ?_ | refine bel_drewN ?_ _ | refine Below.setCell ?_ (by dsimp only; omega) _ | refine bel_trans (by assumption) ?_)), by simp, by simp [go_sem], by simp [go_sem]⟩
  clear hW
  rw [hB0]
  go_loopw [5, 6] (fun v y wr => ∃ x s : Int, y = .int .i64 x ∧ v = .int .i64 s ∧ 0 ≤ x ∧ x ≤ p ∧ 0 ≤ s ∧ s ≤ 2000 ∧ Hid (s = p + 1 + cntN a b p x.toNat) ∧ Below W.heap.size W wr)
    (fun _ y _ => (1000 - intOf y).toNat)
  case atStart => exact ⟨0, _, rfl, rfl, by omega, by omega, by omega, by omega, by unfold Hid; simp [cntN], Below.refl _ _⟩
  case round =>
    obtain ⟨x, s, rfl, rfl, x0, x1, s0, s1, HS, hbel⟩ := hrel
    have hsz1 : B0 < wr.heap.size := Nat.lt_of_lt_of_le hsz hbel.size
    have hca1 : wr.cell? ⟨B0, 0, none⟩ = some (.int .i64 a) := (hbel.cell (p := ⟨B0, 0, none⟩) hsz).trans hca
    have hcb1 : wr.cell? ⟨B0, 1, none⟩ = some (.int .i64 b) := (hbel.cell (p := ⟨B0, 1, none⟩) hsz).trans hcb
    by_cases hx : x < p
    · have hss := symI_bd (a := rsI a b p x) hp5
      have hnx := cntN_succ a b p x x0
      have hcb0 := cntN_bd (a := a) (b := b) hp5 x.toNat
      have hcb1' := cntN_bd (a := a) (b := b) hp5 (x.toNat + 1)
      rw [← show (x + 1).toNat = x.toNat + 1 by omega] at hcb1'
      have hsn : 0 ≤ s + symI (rsI a b p x) p ∧ s + symI (rsI a b p x) p ≤ 2000 := by have := HS.out; omega
      have HN := Lib.hid hnx; clear hnx hcb0 hcb1'
      go_wp2_with fail
      refine (fmValue_any a b p x _ q1 q2 q3 q4 (by omega) (by omega) (by omega) (by omega)).mono ?_; rintro e w1 ⟨rfl, hb1⟩
      replace hb1 := bel_trans hb1 hbel; clear hbel hca1 hcb1 hsz1
      go_wp2_with fail
      refine (mdSymbol_any (rsI a b p x) p _ hp5).mono ?_; rintro e w2 ⟨rfl, hb2⟩
      replace hb2 := bel_trans hb2 hb1; clear hb1
      generalize symI (rsI a b p x) p = y at *
      go_wp2_with fail
      go_roundw
      case rel => exact ⟨x + 1, _, rfl, rfl, by omega, by omega, hsn.1, hsn.2, by unfold Hid; have := HS.out; have := HN.out; omega, hb2⟩
      case measure => simp [intOf]; omega
    · have hxp : x = p := by omega
      subst hxp
      have hv : Hid (s = cntI a b x) := HS.out.trans HCI.out.symm
      go_wp2_with fail
      go_ret
      exact ret_eq (by rw [hv.out]; rfl) (bel_trans hbel hbelW)
theorem iCountPoints_any (a b p : Int) (w : World) (_hp : I64 p) :
    Calls Try.prog 25 #[.agg #[.int .i64 a, .int .i64 b], .int .i64 p] w (Ret (.tuple #[.int .i64 (bif cpB a b p then cntI a b p else 0), .bool (cpB a b p)]) w) := by
  have hcp : cpB a b p = (curveB a b && goodB a b p) := rfl
  cases hcur : curveB a b
  · rw [hcp, hcur]
    clear hcp
    go_enter Try.func25, Try.ntmps25
    go_wp2_with (go_at_call 83; refine (isCurve_any _ _ _).mono ?_; rintro e w' ⟨rfl, hb⟩; (try replace hb := aft2 hb (by assumption)); obtain ⟨hc, hf⟩ := aft hb)
    refine bodyPost_ret (by simp (maxDischargeDepth := 3) [results, Try.results25, go_sem, *]; try rfl) rfl ?_
    exact ret_eq rfl (by repeat (first | exact Below.refl _ _ | (with_reducible assumption) | refine bel_alloc ?_ _ | refine bel_drew ?_ | refine bel_drewN ?_ _ | refine Below.setCell ?_ (by dsimp only; omega) _ | refine bel_trans (by assumption) ?_))
  · obtain ⟨q1, q2, q3, q4, q5⟩ := curveB_true.1 hcur
    have HQ := Lib.hid q5; clear q5
    cases hg : goodB a b p
    · rw [hcp, hcur, hg]
      clear hcp
      go_enter Try.func25, Try.ntmps25
      go_wp2_with (first | (go_at_call 83; refine (isCurve_any _ _ _).mono ?_; rintro e w' ⟨rfl, hb⟩; (try replace hb := aft2 hb (by assumption)); obtain ⟨hc, hf, hs1, hs2, hs3, hs4⟩ := aftz hb) | (go_at_call 84; refine (isGood_any _ _ _ _ q1 q2 q3 q4).mono ?_; rintro e w' ⟨rfl, hb⟩; (try replace hb := aft2 hb (by assumption)); obtain ⟨hc, hf, hs1, hs2, hs3, hs4⟩ := aftz hb) | (go_at_call 85; refine (countPoints_any _ _ _ _ hcur hg).mono ?_; rintro e w' ⟨rfl, hb⟩; (try replace hb := aft2 hb (by assumption)); obtain ⟨hc, hf⟩ := aft hb))
      refine bodyPost_ret (by simp (maxDischargeDepth := 3) [results, Try.results25, go_sem, *]; try rfl) rfl ?_
      exact ret_eq rfl (by repeat (first | exact Below.refl _ _ | (with_reducible assumption) | refine bel_alloc ?_ _ | refine bel_drew ?_ | refine bel_drewN ?_ _ | refine Below.setCell ?_ (by dsimp only; omega) _ | refine bel_trans (by assumption) ?_))
    · rw [hcp, hcur, hg]
      clear hcp
      go_enter Try.func25, Try.ntmps25
      go_wp2_with (first | (go_at_call 83; refine (isCurve_any _ _ _).mono ?_; rintro e w' ⟨rfl, hb⟩; (try replace hb := aft2 hb (by assumption)); obtain ⟨hc, hf, hs1, hs2, hs3, hs4⟩ := aftz hb) | (go_at_call 84; refine (isGood_any _ _ _ _ q1 q2 q3 q4).mono ?_; rintro e w' ⟨rfl, hb⟩; (try replace hb := aft2 hb (by assumption)); obtain ⟨hc, hf, hs1, hs2, hs3, hs4⟩ := aftz hb) | (go_at_call 85; refine (countPoints_any _ _ _ _ hcur hg).mono ?_; rintro e w' ⟨rfl, hb⟩; (try replace hb := aft2 hb (by assumption)); obtain ⟨hc, hf⟩ := aft hb))
      refine bodyPost_ret (by simp (maxDischargeDepth := 3) [results, Try.results25, go_sem, *]; try rfl) rfl ?_
      exact ret_eq rfl (by repeat (first | exact Below.refl _ _ | (with_reducible assumption) | refine bel_alloc ?_ _ | refine bel_drew ?_ | refine bel_drewN ?_ _ | refine Below.setCell ?_ (by dsimp only; omega) _ | refine bel_trans (by assumption) ?_))
theorem sCountPoints_any (a b p : Int) (w : World) (_hp : I64 p) :
    Calls Try.prog 26 #[.agg #[.int .i64 a, .int .i64 b], .int .i64 p] w (Ret (.tuple #[.int .i64 (bif cpB a b p then cntI a b p else 0), .bool (cpB a b p)]) w) := by
  have hcp : cpB a b p = (curveB a b && goodB a b p) := rfl
  cases hcur : curveB a b
  · rw [hcp, hcur]
    clear hcp
    go_enter Try.func26, Try.ntmps26
    go_wp2_with (go_at_call 86; refine (fmGood_any _ _ _ _).mono ?_; rintro e w' ⟨rfl, hb⟩; (try replace hb := aft2 hb (by assumption)); obtain ⟨hc, hf⟩ := aft hb)
    refine bodyPost_ret (by simp (maxDischargeDepth := 3) [results, Try.results26, go_sem, *]; try rfl) rfl ?_
    exact ret_eq rfl (by repeat (first | exact Below.refl _ _ | (with_reducible assumption) | refine bel_alloc ?_ _ | refine bel_drew ?_ | refine bel_drewN ?_ _ | refine Below.setCell ?_ (by dsimp only; omega) _ | refine bel_trans (by assumption) ?_))
  · obtain ⟨q1, q2, q3, q4, q5⟩ := curveB_true.1 hcur
    have HQ := Lib.hid q5; clear q5
    cases hg : goodB a b p
    · rw [hcp, hcur, hg]
      clear hcp
      go_enter Try.func26, Try.ntmps26
      go_wp2_with (first | (go_at_call 86; refine (fmGood_any _ _ _ _).mono ?_; rintro e w' ⟨rfl, hb⟩; (try replace hb := aft2 hb (by assumption)); obtain ⟨hc, hf, hs1, hs2, hs3, hs4⟩ := aftz hb) | (go_at_call 87; refine (fmCount_any _ _ _ _ hcur hg).mono ?_; rintro e w' ⟨rfl, hb⟩; (try replace hb := aft2 hb (by assumption)); obtain ⟨hc, hf⟩ := aft hb))
      refine bodyPost_ret (by simp (maxDischargeDepth := 3) [results, Try.results26, go_sem, *]; try rfl) rfl ?_
      exact ret_eq rfl (by repeat (first | exact Below.refl _ _ | (with_reducible assumption) | refine bel_alloc ?_ _ | refine bel_drew ?_ | refine bel_drewN ?_ _ | refine Below.setCell ?_ (by dsimp only; omega) _ | refine bel_trans (by assumption) ?_))
    · rw [hcp, hcur, hg]
      clear hcp
      go_enter Try.func26, Try.ntmps26
      go_wp2_with (first | (go_at_call 86; refine (fmGood_any _ _ _ _).mono ?_; rintro e w' ⟨rfl, hb⟩; (try replace hb := aft2 hb (by assumption)); obtain ⟨hc, hf, hs1, hs2, hs3, hs4⟩ := aftz hb) | (go_at_call 87; refine (fmCount_any _ _ _ _ hcur hg).mono ?_; rintro e w' ⟨rfl, hb⟩; (try replace hb := aft2 hb (by assumption)); obtain ⟨hc, hf⟩ := aft hb))
      refine bodyPost_ret (by simp (maxDischargeDepth := 3) [results, Try.results26, go_sem, *]; try rfl) rfl ?_
      exact ret_eq rfl (by repeat (first | exact Below.refl _ _ | (with_reducible assumption) | refine bel_alloc ?_ _ | refine bel_drew ?_ | refine bel_drewN ?_ _ | refine Below.setCell ?_ (by dsimp only; omega) _ | refine bel_trans (by assumption) ?_))
end Go.Proofs.Ytpjcfnjagknocaa
