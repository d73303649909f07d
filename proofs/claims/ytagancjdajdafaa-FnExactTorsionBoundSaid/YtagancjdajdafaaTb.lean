/- Tb: contracts: the bound on torsion from numbers of points. No conditions. -/
import Derived.Test.YtagancjdajdafaaGp
import Derived.Test.YtagancjdajdafaaCp
namespace Go.Proofs.Ytagancjdajdafaa
open Go.RowKit

theorem Rd.cellAt {w : World} {g cap : Nat} {xs : List Int} (h : Rd w (.slice (some ⟨g, 0, none⟩) xs.length cap) xs) (i : Nat) (hi : i < xs.length) : w.cell? ⟨g, i, none⟩ = some (.int .i64 (xs.getD i 0)) := by
  obtain ⟨ad, c, hv, _, hc⟩ := h
  obtain ⟨b, off, ha, _, hcell⟩ := hc (by omega)
  subst ha
  injection hv with h1 h2 h3
  injection h1 with h1
  injection h1 with h4 h5 h6
  subst h4; subst h5
  have := hcell i hi
  rwa [Nat.zero_add] at this
theorem getD_mem {xs : List Int} {i : Nat} (h : i < xs.length) : xs.getD i 0 ∈ xs := by
  simp [List.getD_eq_getElem?_getD, List.getElem?_eq_getElem h]
noncomputable def tbL (a b : Int) (l : List Int) : Int := l.foldl (fun acc p => gcdI acc (cntI a b p)) 0
theorem tbL_step (a b : Int) {xs : List Int} {i : Nat} (h : i < xs.length) : tbL a b (xs.take (i + 1)) = gcdI (tbL a b (xs.take i)) (cntI a b (xs.getD i 0)) := by
  unfold tbL
  rw [List.take_add_one, List.foldl_append, List.getElem?_eq_getElem h]
  simp [List.getD_eq_getElem?_getD, List.getElem?_eq_getElem h]
theorem good_p5 {a b p : Int} (hg : goodB a b p = true) : p5B p = true := by unfold goodB at hg; rw [Bool.and_eq_true] at hg; exact hg.1
theorem cntI_pos {a b p : Int} (hp : p5B p = true) : 1 ≤ cntI a b p ∧ cntI a b p ≤ 2000 := by
  have := cntN_bd (a := a) (b := b) hp p.toNat
  have := p5_bd hp
  unfold cntI; omega
theorem gcdI_bd (s c : Int) (h : 1 ≤ c) (h2 : c ≤ 2000) : 0 ≤ gcdI s c ∧ gcdI s c ≤ 2000 := by
  refine ⟨gcdI_nonneg _ _, ?_⟩
  have : (Int.gcd s c : Int) ∣ c := Int.gcd_dvd_right s c
  have := Int.le_of_dvd (by omega) this
  unfold gcdI; omega
set_option maxHeartbeats 1000000 in
theorem iTorsionBound_any (a b k : Int) (w : World) (_hk : I64 k) :
    Calls Try.prog 32 #[.agg #[.int .i64 a, .int .i64 b], .int .i64 k] w (Ret (.tuple #[.int .i64 (bif gpB a b k then tbL a b (goodK a b k.toNat) else 0), .bool (gpB a b k)]) w) := by
  have hgp : gpB a b k = (curveB a b && inB k 1 8) := rfl
  cases hcur : curveB a b
  · rw [hgp, hcur]
    clear hgp
    go_enter Try.func32, Try.ntmps32
    go_wp2_with (go_at_call 52; refine (isCurve_any _ _ _).mono ?_; rintro e w' ⟨rfl, hb⟩; (try replace hb := aft2 hb (by assumption)); obtain ⟨hc, hf⟩ := aft hb)
    refine bodyPost_ret (by simp (maxDischargeDepth := 3) [results, Try.results32, go_sem, *]; try rfl) rfl ?_
    exact ret_eq rfl (by repeat (first | exact Below.refl _ _ | (with_reducible assumption) | refine bel_alloc ?_ _ | refine bel_drew ?_ | refine bel_drewN ?_ _ | refine Below.setCell ?_ (by dsimp only; omega) _ | refine bel_trans (by assumption) ?_))
  · by_cases h : 1 ≤ k ∧ k ≤ 8
    · have i1 := inB_true.2 h
      rw [hgp, hcur, i1]
      clear hgp
      obtain ⟨n, rfl⟩ : ∃ n : Nat, k = n := ⟨k.toNat, by omega⟩
      rw [Int.toNat_natCast]
      have hgood : ∀ p ∈ goodK a b n, goodB a b p = true := fun p hp => goodK_good hp
      have hln : (goodK a b n).length = n := goodK_len hcur (by omega)
      go_enter Try.func32, Try.ntmps32
      go_wp2_with fail
      generalize hW : w.alloc (.cells #[.int .i64 a, .int .i64 b] 27) = W
      obtain ⟨B0, hB0⟩ : ∃ B0, w.heap.size = B0 := ⟨_, rfl⟩
      obtain ⟨hbelW, hsz, hca, hcb⟩ : Below w.heap.size w W ∧ B0 < W.heap.size ∧ W.cell? ⟨B0, 0, none⟩ = some (.int .i64 a) ∧ W.cell? ⟨B0, 1, none⟩ = some (.int .i64 b) := by
        subst hW; subst hB0
        exact ⟨(by repeat (first | exact Below.refl _ _ | (with_reducible assumption) | refine bel_alloc ?_ _ | refine bel_drew ?_ | refine bel_drewN ?_ _ | refine Below.setCell ?_ (by dsimp only; omega) _ | refine bel_trans (by assumption) ?_)), by simp, by simp [go_sem], by simp [go_sem]⟩
      clear hW
      (try rw [hB0])
      refine (isCurve_any _ _ _).mono ?_; rintro e w1 ⟨rfl, hb1⟩
      rw [hcur]
      have hca1 : w1.cell? ⟨B0, 0, none⟩ = some (.int .i64 a) := (hb1.cell (p := ⟨B0, 0, none⟩) hsz).trans hca
      have hcb1 : w1.cell? ⟨B0, 1, none⟩ = some (.int .i64 b) := (hb1.cell (p := ⟨B0, 1, none⟩) hsz).trans hcb
      go_wp2_with (go_at_call 53; refine (inside_any _ _ _ _).mono ?_; rintro e w' ⟨rfl, rfl⟩)
      refine (goodPrimes_any a b n _ hcur (by omega) (by omega)).mono ?_; rintro e w2 ⟨v, rfl, hb2, ho2⟩
      generalize goodK a b n = xs at *
      rcases ho2.shape with ⟨_, h0⟩ | ⟨g, cap, rfl, hg, hlt, hnn, hm⟩
      · rw [h0] at hln; simp at hln; omega
      have hrd := ho2.rd
      clear ho2 hca1 hcb1
      replace hb2 := aft2 hb2 hb1
      unfold maxLen at hm
      go_wp2_with fail
      go_loopw [6, 21] (fun v y wr => ∃ (i : Nat) (s : Int), y = .int .i64 i ∧ v = .int .i64 s ∧ i ≤ xs.length ∧ 0 ≤ s ∧ s ≤ 2000 ∧ Hid (s = tbL a b (xs.take i)) ∧ Below W.heap.size W wr ∧ Rd wr (.slice (some ⟨g, 0, none⟩) xs.length cap) xs)
        (fun _ y _ => (1000 - intOf y).toNat)
      case atStart => exact ⟨0, 0, rfl, rfl, Nat.zero_le _, by omega, by omega, rfl, hb2, hrd⟩
      case round =>
        obtain ⟨i, s, rfl, rfl, hi, s0, s1, HS, hbel, hrd2⟩ := hrel
        have hsz1 : B0 < wr.heap.size := Nat.lt_of_lt_of_le hsz hbel.size
        have hca1 : wr.cell? ⟨B0, 0, none⟩ = some (.int .i64 a) := (hbel.cell (p := ⟨B0, 0, none⟩) hsz).trans hca
        have hcb1 : wr.cell? ⟨B0, 1, none⟩ = some (.int .i64 b) := (hbel.cell (p := ⟨B0, 1, none⟩) hsz).trans hcb
        by_cases hx : i < xs.length
        · have hck := hrd2.cellAt i hx
          have hgd := hgood (xs.getD i 0) (getD_mem hx)
          have hst := tbL_step a b hx
          have hcp := cntI_pos (a := a) (b := b) (good_p5 hgd)
          obtain ⟨p, hp⟩ : ∃ p, xs.getD i 0 = p := ⟨_, rfl⟩
          rw [hp] at hck hgd hst hcp
          clear hp
          rw [← HS.out] at hst
          have hgb := gcdI_bd s (cntI a b p) hcp.1 hcp.2
          have HST := Lib.hid hst; clear hst
          have hi0 : (0 : Int) ≤ (i : Int) := Int.natCast_nonneg _
          have hi1 : (i : Int) < (xs.length : Int) := by omega
          have hl8 : xs.length ≤ 8 := by omega
          go_wp2_with fail
          refine (countPoints_any a b p _ hcur hgd).mono ?_; rintro e w3 ⟨rfl, hb3⟩
          have hrd3 := hrd2.keep hb3
          replace hb3 := bel_trans hb3 hbel; clear hbel hca1 hcb1 hsz1 hrd2 hck
          generalize cntI a b p = c at *
          go_wp2_with fail
          refine (gcd_any s c _ (by omega) (by omega) (by omega) (by omega)).mono ?_; rintro e w4 ⟨rfl, hb4⟩
          have hrd4 := hrd3.keep hb4
          replace hb4 := bel_trans hb4 hb3; clear hb3 hrd3
          generalize gcdI s c = y at *
          go_wp2_with fail
          go_roundw
          case rel => exact ⟨i + 1, y, by go_num, rfl, by omega, by omega, by omega, HST.out.symm, hb4, hrd4⟩
          case measure => simp [intOf]; omega
        · have hxe : i = xs.length := by omega
          have hv : Hid (s = tbL a b xs) := by rw [hxe, List.take_length] at HS; exact HS
          clear hx
          subst hxe
          go_wp2_with fail
          refine bodyPost_ret (by simp (maxDischargeDepth := 3) [results, Try.results32, go_sem, *]; try rfl) rfl ?_
          exact ret_eq (by rw [hv.out]; rfl) (bel_trans hbel hbelW)
    · have i1 := inB_false.2 h
      rw [hgp, hcur, i1]
      clear hgp
      go_enter Try.func32, Try.ntmps32
      go_wp2_with (first | (go_at_call 52; refine (isCurve_any _ _ _).mono ?_; rintro e w' ⟨rfl, hb⟩; (try replace hb := aft2 hb (by assumption)); obtain ⟨hc, hf⟩ := aft hb) | (go_at_call 53; refine (inside_any _ _ _ _).mono ?_; rintro e w' ⟨rfl, rfl⟩))
      refine bodyPost_ret (by simp (maxDischargeDepth := 3) [results, Try.results32, go_sem, *]; try rfl) rfl ?_
      exact ret_eq rfl (by repeat (first | exact Below.refl _ _ | (with_reducible assumption) | refine bel_alloc ?_ _ | refine bel_drew ?_ | refine bel_drewN ?_ _ | refine Below.setCell ?_ (by dsimp only; omega) _ | refine bel_trans (by assumption) ?_))
set_option maxHeartbeats 1000000 in
theorem sTorsionBound_any (a b k : Int) (w : World) (_hk : I64 k) :
    Calls Try.prog 31 #[.agg #[.int .i64 a, .int .i64 b], .int .i64 k] w (Ret (.tuple #[.int .i64 (bif gpB a b k then tbL a b (goodK a b k.toNat) else 0), .bool (gpB a b k)]) w) := by
  have hgp : gpB a b k = (curveB a b && inB k 1 8) := rfl
  cases hcur : curveB a b
  · rw [hgp, hcur]
    clear hgp
    go_enter Try.func31, Try.ntmps31
    go_wp2_with (go_at_call 49; refine (ecGood_any _ _ _).mono ?_; rintro e w' ⟨rfl, hb⟩; (try replace hb := aft2 hb (by assumption)); obtain ⟨hc, hf⟩ := aft hb)
    refine bodyPost_ret (by simp (maxDischargeDepth := 3) [results, Try.results31, go_sem, *]; try rfl) rfl ?_
    exact ret_eq rfl (by repeat (first | exact Below.refl _ _ | (with_reducible assumption) | refine bel_alloc ?_ _ | refine bel_drew ?_ | refine bel_drewN ?_ _ | refine Below.setCell ?_ (by dsimp only; omega) _ | refine bel_trans (by assumption) ?_))
  · by_cases h : 1 ≤ k ∧ k ≤ 8
    · have i1 := inB_true.2 h
      rw [hgp, hcur, i1]
      clear hgp
      obtain ⟨n, rfl⟩ : ∃ n : Nat, k = n := ⟨k.toNat, by omega⟩
      rw [Int.toNat_natCast]
      have hgood : ∀ p ∈ goodK a b n, goodB a b p = true := fun p hp => goodK_good hp
      have hln : (goodK a b n).length = n := goodK_len hcur (by omega)
      go_enter Try.func31, Try.ntmps31
      go_wp2_with fail
      generalize hW : w.alloc (.cells #[.int .i64 a, .int .i64 b] 27) = W
      obtain ⟨B0, hB0⟩ : ∃ B0, w.heap.size = B0 := ⟨_, rfl⟩
      obtain ⟨hbelW, hsz, hca, hcb⟩ : Below w.heap.size w W ∧ B0 < W.heap.size ∧ W.cell? ⟨B0, 0, none⟩ = some (.int .i64 a) ∧ W.cell? ⟨B0, 1, none⟩ = some (.int .i64 b) := by
        subst hW; subst hB0
        exact ⟨(by repeat (first | exact Below.refl _ _ | (with_reducible assumption) | refine bel_alloc ?_ _ | refine bel_drew ?_ | refine bel_drewN ?_ _ | refine Below.setCell ?_ (by dsimp only; omega) _ | refine bel_trans (by assumption) ?_)), by simp, by simp [go_sem], by simp [go_sem]⟩
      clear hW
      (try rw [hB0])
      refine (ecGood_any _ _ _).mono ?_; rintro e w1 ⟨rfl, hb1⟩
      rw [hcur]
      have hca1 : w1.cell? ⟨B0, 0, none⟩ = some (.int .i64 a) := (hb1.cell (p := ⟨B0, 0, none⟩) hsz).trans hca
      have hcb1 : w1.cell? ⟨B0, 1, none⟩ = some (.int .i64 b) := (hb1.cell (p := ⟨B0, 1, none⟩) hsz).trans hcb
      go_wp2_with (go_at_call 50; refine (toMany_any _ _).mono ?_; rintro e w' ⟨rfl, rfl⟩)
      refine (toPrimes_any a b n _ hcur (by omega) (by omega)).mono ?_; rintro e w2 ⟨v, rfl, hb2, ho2⟩
      generalize goodK a b n = xs at *
      rcases ho2.shape with ⟨_, h0⟩ | ⟨g, cap, rfl, hg, hlt, hnn, hm⟩
      · rw [h0] at hln; simp at hln; omega
      have hrd := ho2.rd
      clear ho2 hca1 hcb1
      replace hb2 := aft2 hb2 hb1
      unfold maxLen at hm
      go_wp2_with fail
      go_loopw [6, 21] (fun v y wr => ∃ (i : Nat) (s : Int), y = .int .i64 i ∧ v = .int .i64 s ∧ i ≤ xs.length ∧ 0 ≤ s ∧ s ≤ 2000 ∧ Hid (s = tbL a b (xs.take i)) ∧ Below W.heap.size W wr ∧ Rd wr (.slice (some ⟨g, 0, none⟩) xs.length cap) xs)
        (fun _ y _ => (1000 - intOf y).toNat)
      case atStart => exact ⟨0, 0, rfl, rfl, Nat.zero_le _, by omega, by omega, rfl, hb2, hrd⟩
      case round =>
        obtain ⟨i, s, rfl, rfl, hi, s0, s1, HS, hbel, hrd2⟩ := hrel
        have hsz1 : B0 < wr.heap.size := Nat.lt_of_lt_of_le hsz hbel.size
        have hca1 : wr.cell? ⟨B0, 0, none⟩ = some (.int .i64 a) := (hbel.cell (p := ⟨B0, 0, none⟩) hsz).trans hca
        have hcb1 : wr.cell? ⟨B0, 1, none⟩ = some (.int .i64 b) := (hbel.cell (p := ⟨B0, 1, none⟩) hsz).trans hcb
        by_cases hx : i < xs.length
        · have hck := hrd2.cellAt i hx
          have hgd := hgood (xs.getD i 0) (getD_mem hx)
          have hst := tbL_step a b hx
          have hcp := cntI_pos (a := a) (b := b) (good_p5 hgd)
          obtain ⟨p, hp⟩ : ∃ p, xs.getD i 0 = p := ⟨_, rfl⟩
          rw [hp] at hck hgd hst hcp
          clear hp
          rw [← HS.out] at hst
          have hgb := gcdI_bd s (cntI a b p) hcp.1 hcp.2
          have HST := Lib.hid hst; clear hst
          have hi0 : (0 : Int) ≤ (i : Int) := Int.natCast_nonneg _
          have hi1 : (i : Int) < (xs.length : Int) := by omega
          have hl8 : xs.length ≤ 8 := by omega
          go_wp2_with fail
          refine (fmCount_any a b p _ hcur hgd).mono ?_; rintro e w3 ⟨rfl, hb3⟩
          have hrd3 := hrd2.keep hb3
          replace hb3 := bel_trans hb3 hbel; clear hbel hca1 hcb1 hsz1 hrd2 hck
          generalize cntI a b p = c at *
          go_wp2_with fail
          refine (bgCommon_any s c _ (by omega) (by omega) (by omega) (by omega)).mono ?_; rintro e w4 ⟨rfl, hb4⟩
          have hrd4 := hrd3.keep hb4
          replace hb4 := bel_trans hb4 hb3; clear hb3 hrd3
          generalize gcdI s c = y at *
          go_wp2_with fail
          go_roundw
          case rel => exact ⟨i + 1, y, by go_num, rfl, by omega, by omega, by omega, HST.out.symm, hb4, hrd4⟩
          case measure => simp [intOf]; omega
        · have hxe : i = xs.length := by omega
          have hv : Hid (s = tbL a b xs) := by rw [hxe, List.take_length] at HS; exact HS
          clear hx
          subst hxe
          go_wp2_with fail
          refine bodyPost_ret (by simp (maxDischargeDepth := 3) [results, Try.results31, go_sem, *]; try rfl) rfl ?_
          exact ret_eq (by rw [hv.out]; rfl) (bel_trans hbel hbelW)
    · have i1 := inB_false.2 h
      rw [hgp, hcur, i1]
      clear hgp
      go_enter Try.func31, Try.ntmps31
      go_wp2_with (first | (go_at_call 49; refine (ecGood_any _ _ _).mono ?_; rintro e w' ⟨rfl, hb⟩; (try replace hb := aft2 hb (by assumption)); obtain ⟨hc, hf⟩ := aft hb) | (go_at_call 50; refine (toMany_any _ _).mono ?_; rintro e w' ⟨rfl, rfl⟩))
      refine bodyPost_ret (by simp (maxDischargeDepth := 3) [results, Try.results31, go_sem, *]; try rfl) rfl ?_
      exact ret_eq rfl (by repeat (first | exact Below.refl _ _ | (with_reducible assumption) | refine bel_alloc ?_ _ | refine bel_drew ?_ | refine bel_drewN ?_ _ | refine Below.setCell ?_ (by dsimp only; omega) _ | refine bel_trans (by assumption) ?_))
end Go.Proofs.Ytagancjdajdafaa
