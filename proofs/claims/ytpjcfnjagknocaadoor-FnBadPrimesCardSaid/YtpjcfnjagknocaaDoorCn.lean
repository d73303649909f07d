/- Cn: contracts: the part of the conductor. No conditions. -/
import Derived.Test.YtpjcfnjagknocaaDoorBg
namespace Go.Proofs.YtpjcfnjagknocaaDoor
open Go.RowKit

theorem getD_mem {xs : List Int} {i : Nat} (h : i < xs.length) : xs.getD i 0 ∈ xs := by
  simp [List.getD_eq_getElem?_getD, List.getElem?_eq_getElem h]
theorem Rd.cellAt {w : World} {g cap : Nat} {xs : List Int} (h : Rd w (.slice (some ⟨g, 0, none⟩) xs.length cap) xs) (i : Nat) (hi : i < xs.length) : w.cell? ⟨g, i, none⟩ = some (.int .i64 (xs.getD i 0)) := by
  obtain ⟨ad, c, hv, _, hc⟩ := h
  obtain ⟨b, off, ha, _, hcell⟩ := hc (by omega)
  subst ha
  injection hv with h1 h2 h3
  injection h1 with h1
  injection h1 with h4 h5 h6
  subst h4; subst h5
  have := hcell i hi
  rwa [Nat.zero_add] at this
def condS (k : Nat) (s p : Int) : Int := match k with
  | 1 => wrap64 (wrap64 (s * p) * p)
  | _ => wrap64 (s * p)
def condL (a b : Int) (l : List Int) : Int := l.foldl (fun s p => condS (kindN (minA a b p) b p) s p) 1
theorem condL_step (a b : Int) {xs : List Int} {i : Nat} (h : i < xs.length) : condL a b (xs.take (i + 1)) = condS (kindN (minA a b (xs.getD i 0)) b (xs.getD i 0)) (condL a b (xs.take i)) (xs.getD i 0) := by
  unfold condL
  rw [List.take_add_one, List.foldl_append, List.getElem?_eq_getElem h]
  simp [List.getD_eq_getElem?_getD, List.getElem?_eq_getElem h]
theorem bfX_mem {a b p : Int} (hcur : curveB a b = true) (h : p ∈ bfX a b) : p5B p = true ∧ kindN (minA a b p) b p ≠ 0 := by
  obtain ⟨q1, q2, q3, q4, q5⟩ := curveB_true.1 hcur
  unfold bfX at h
  cases hk : bfOk a b
  · rw [hk] at h; simp at h
  · rw [hk, cond_true] at h
    unfold badF at h
    rw [List.mem_filter] at h
    unfold bfOk at hk
    rw [List.all_eq_true] at hk
    have h1 := hk p h.1
    simp only [decide_eq_true_eq] at h1
    have hs := (primesL_spec (N := ((discI a b).natAbs : Int)) (by omega)).2 p
    have hpr := (hs.1 h.1).1
    have h2 := h.2
    unfold badP at h2
    simp only [Bool.and_eq_true, decide_eq_true_eq, bne_iff_ne] at h2
    exact ⟨pr_p5 hpr h2.1 h1, h2.2⟩
theorem wrap_mul (x p : Int) : wrap64 (x * (p * p)) = wrap64 (wrap64 (x * p) * p) := by
  have h := Int.mul_ediv_add_emod (x * p + 9223372036854775808) 18446744073709551616
  generalize hq : (x * p + 9223372036854775808) / 18446744073709551616 = q at h
  have e : wrap64 (x * p) = x * p - 18446744073709551616 * q := by unfold wrap64; omega
  rw [e, Int.sub_mul, Int.mul_assoc 18446744073709551616 q p, Int.mul_assoc x p p]
  generalize x * (p * p) = z
  generalize q * p = t
  unfold wrap64
  omega
theorem loPower_any (p k : Int) (w : World) (h5 : 2 ≤ p) (h6 : p ≤ 997) (hk : k = 1 ∨ k = 2) :
    Calls Tryd.prog 29 #[.int .i64 p, .int .i64 k] w (Ret (.int .i64 (if k = 2 then p * p else p)) w) := by
  have pp := mul_bd (a := p) (b := p) (A := 997) (B := 997) (by omega) (by omega) (by omega) (by omega)
  rcases hk with hk | hk
  all_goals
    subst hk
    go_enter Tryd.func29, Tryd.ntmps29
    go_wp2_with fail
    refine wp_loop_rounds 3 ?_; rw [rounds_succ]
    go_wp2_with fail
    try rw [rounds_succ]
    try go_wp2_with fail
    try rw [rounds_succ]
    try go_wp2_with fail
    go_ret
    exact ret_eq rfl (by repeat (first | exact Below.refl _ _ | (with_reducible assumption) | refine bel_alloc ?_ _ | refine bel_drew ?_ | refine bel_drewN ?_ _ | refine Below.setCell ?_ (by dsimp only; omega) _ | refine bel_trans (by assumption) ?_))
set_option maxHeartbeats 2000000 in
theorem iConductorPart_any (a b : Int) (w : World) :
    Calls Tryd.prog 7 #[.agg #[.int .i64 a, .int .i64 b]] w (Ret (.tuple #[.int .i64 (bif bbOk a b then condL a b (bfX a b) else 0), .bool (bbOk a b)]) w) := by
  have hbb : bbOk a b = (curveB a b && bfOk a b) := rfl
  cases hcur : curveB a b
  · rw [hbb, hcur]
    clear hbb
    go_enter Tryd.func7, Tryd.ntmps7
    go_wp2_with (go_at_call 24; refine (isCurve_any _ _ _).mono ?_; rintro e w' ⟨rfl, hb⟩; (try replace hb := aft2 hb (by assumption)); obtain ⟨hc, hf⟩ := aft hb)
    refine bodyPost_ret (by simp (maxDischargeDepth := 3) [results, Tryd.results7, go_sem, *]; try rfl) rfl ?_
    exact ret_eq rfl (by repeat (first | exact Below.refl _ _ | (with_reducible assumption) | refine bel_alloc ?_ _ | refine bel_drew ?_ | refine bel_drewN ?_ _ | refine Below.setCell ?_ (by dsimp only; omega) _ | refine bel_trans (by assumption) ?_))
  · rw [hbb, hcur]
    clear hbb
    have hmem : ∀ p ∈ bfX a b, _ := fun p hp => bfX_mem hcur hp
    have hln := bfX_len a b hcur
    go_enter Tryd.func7, Tryd.ntmps7
    go_wp2_with fail
    generalize hW : w.alloc (.cells #[.int .i64 a, .int .i64 b] 24) = W
    obtain ⟨B0, hB0⟩ : ∃ B0, w.heap.size = B0 := ⟨_, rfl⟩
    obtain ⟨hbelW, hsz, hca, hcb⟩ : Below w.heap.size w W ∧ B0 < W.heap.size ∧ W.cell? ⟨B0, 0, none⟩ = some (.int .i64 a) ∧ W.cell? ⟨B0, 1, none⟩ = some (.int .i64 b) := by
      subst hW; subst hB0
      exact ⟨(by repeat (first | exact Below.refl _ _ | (with_reducible assumption) | refine bel_alloc ?_ _ | refine bel_drew ?_ | refine bel_drewN ?_ _ | refine Below.setCell ?_ (by dsimp only; omega) _ | refine bel_trans (by assumption) ?_)), by simp, by simp [go_sem], by simp [go_sem]⟩
    clear hW
    (try rw [hB0])
    refine (isCurve_any _ _ _).mono ?_; rintro e w1 ⟨rfl, hb1⟩
    rw [hcur]
    have hca1 : w1.cell? ⟨B0, 0, none⟩ = some (.int .i64 a) := (hb1.cell (p := ⟨B0, 0, none⟩) hsz).trans hca
    have hcb1 : w1.cell? ⟨B0, 1, none⟩ = some (.int .i64 b) := (hb1.cell (p := ⟨B0, 1, none⟩) hsz).trans hcb
    go_wp2_with fail
    refine (badFromFive_any a b _ hcur).mono ?_; rintro e w2 ⟨v, rfl, hb2, ho2⟩
    clear hca1 hcb1
    replace hb2 := aft2 hb2 hb1
    cases hok : bfOk a b
    · go_wp2_with fail
      refine bodyPost_ret (by simp (maxDischargeDepth := 3) [results, Tryd.results7, go_sem, *]; try rfl) rfl ?_
      exact ret_eq (by rw [hok]; rfl) (bel_trans hb2 hbelW)
    · generalize bfX a b = xs at *
      rcases ho2.shape with ⟨rfl, h0⟩ | ⟨g, cap, rfl, hg, hlt, hnn, hm⟩
      · subst h0
        go_wp2_with fail
        refine wp_loop_rounds 1 ?_; rw [rounds_succ]
        go_wp2_with fail
        refine bodyPost_ret (by simp (maxDischargeDepth := 3) [results, Tryd.results7, go_sem, *]; try rfl) rfl ?_
        exact ret_eq (by rw [hok]; rfl) (bel_trans hb2 hbelW)
      · have hrd := ho2.rd
        clear ho2
        unfold maxLen at hm
        go_wp2_with fail
        go_loopw [6, 21] (fun v y wr => ∃ (i : Nat) (s : Int), y = .int .i64 i ∧ v = .int .i64 s ∧ i ≤ xs.length ∧ Hid (s = condL a b (xs.take i)) ∧ Below W.heap.size W wr ∧ Rd wr (.slice (some ⟨g, 0, none⟩) xs.length cap) xs)
          (fun _ y _ => xs.length - (intOf y).toNat)
        case atStart => exact ⟨0, 1, rfl, rfl, Nat.zero_le _, rfl, hb2, hrd⟩
        case round =>
          obtain ⟨i, s, rfl, rfl, hi, HS, hbel, hrd2⟩ := hrel
          have hsz1 : B0 < wr.heap.size := Nat.lt_of_lt_of_le hsz hbel.size
          have hca1 : wr.cell? ⟨B0, 0, none⟩ = some (.int .i64 a) := (hbel.cell (p := ⟨B0, 0, none⟩) hsz).trans hca
          have hcb1 : wr.cell? ⟨B0, 1, none⟩ = some (.int .i64 b) := (hbel.cell (p := ⟨B0, 1, none⟩) hsz).trans hcb
          by_cases hx : i < xs.length
          · have hck := hrd2.cellAt i hx
            obtain ⟨hp5, hkn⟩ := hmem (xs.getD i 0) (getD_mem hx)
            have hst := condL_step a b hx
            obtain ⟨p, hp⟩ : ∃ p, xs.getD i 0 = p := ⟨_, rfl⟩
            rw [hp] at hck hp5 hkn hst
            clear hp
            rw [← HS.out] at hst
            have hpb := p5_bd hp5
            have hi0 : (0 : Int) ≤ (i : Int) := Int.natCast_nonneg _
            have hi1 : (i : Int) < (xs.length : Int) := by omega
            rcases kind_cases (minA a b p) b p with hk | hk | hk | hk
            · exact absurd hk hkn
            all_goals
              rw [hk] at hst
              have HST := Lib.hid hst; clear hst hkn
              go_wp2_with fail
              refine (conductorExponent_any a b p _ hcur hp5).mono ?_; rintro e w3 ⟨rfl, hb3⟩
              rw [hk]
              have hrd3 := hrd2.keep hb3
              replace hb3 := bel_trans hb3 hbel; clear hbel hca1 hcb1 hsz1 hrd2 hck
              go_wp2_with fail
              refine wp_loop_rounds 3 ?_; rw [rounds_succ]
              go_wp2_with fail
              try rw [rounds_succ]
              try go_wp2_with fail
              try rw [rounds_succ]
              try go_wp2_with fail
              go_roundw
              case rel => exact ⟨i + 1, _, by go_num, rfl, by omega, HST.out.symm, hb3, hrd3⟩
              case measure => simp [intOf]; omega
          · have hxe : i = xs.length := by omega
            have hv : Hid (s = condL a b xs) := by rw [hxe, List.take_length] at HS; exact HS
            clear hx
            subst hxe
            go_wp2_with fail
            refine bodyPost_ret (by simp (maxDischargeDepth := 3) [results, Tryd.results7, go_sem, *]; try rfl) rfl ?_
            exact ret_eq (by rw [hv.out, hok]; rfl) (bel_trans hbel hbelW)
set_option maxHeartbeats 2000000 in
theorem sConductorPart_any (a b : Int) (w : World) :
    Calls Tryd.prog 8 #[.agg #[.int .i64 a, .int .i64 b]] w (Ret (.tuple #[.int .i64 (bif bbOk a b then condL a b (bfX a b) else 0), .bool (bbOk a b)]) w) := by
  have hbb : bbOk a b = (curveB a b && bfOk a b) := rfl
  cases hcur : curveB a b
  · rw [hbb, hcur]
    clear hbb
    go_enter Tryd.func8, Tryd.ntmps8
    go_wp2_with (go_at_call 26; refine (ecGood_any _ _ _).mono ?_; rintro e w' ⟨rfl, hb⟩; (try replace hb := aft2 hb (by assumption)); obtain ⟨hc, hf⟩ := aft hb)
    refine bodyPost_ret (by simp (maxDischargeDepth := 3) [results, Tryd.results8, go_sem, *]; try rfl) rfl ?_
    exact ret_eq rfl (by repeat (first | exact Below.refl _ _ | (with_reducible assumption) | refine bel_alloc ?_ _ | refine bel_drew ?_ | refine bel_drewN ?_ _ | refine Below.setCell ?_ (by dsimp only; omega) _ | refine bel_trans (by assumption) ?_))
  · rw [hbb, hcur]
    clear hbb
    have hmem : ∀ p ∈ bfX a b, _ := fun p hp => bfX_mem hcur hp
    have hln := bfX_len a b hcur
    go_enter Tryd.func8, Tryd.ntmps8
    go_wp2_with fail
    generalize hW : w.alloc (.cells #[.int .i64 a, .int .i64 b] 24) = W
    obtain ⟨B0, hB0⟩ : ∃ B0, w.heap.size = B0 := ⟨_, rfl⟩
    obtain ⟨hbelW, hsz, hca, hcb⟩ : Below w.heap.size w W ∧ B0 < W.heap.size ∧ W.cell? ⟨B0, 0, none⟩ = some (.int .i64 a) ∧ W.cell? ⟨B0, 1, none⟩ = some (.int .i64 b) := by
      subst hW; subst hB0
      exact ⟨(by repeat (first | exact Below.refl _ _ | (with_reducible assumption) | refine bel_alloc ?_ _ | refine bel_drew ?_ | refine bel_drewN ?_ _ | refine Below.setCell ?_ (by dsimp only; omega) _ | refine bel_trans (by assumption) ?_)), by simp, by simp [go_sem], by simp [go_sem]⟩
    clear hW
    (try rw [hB0])
    refine (ecGood_any _ _ _).mono ?_; rintro e w1 ⟨rfl, hb1⟩
    rw [hcur]
    have hca1 : w1.cell? ⟨B0, 0, none⟩ = some (.int .i64 a) := (hb1.cell (p := ⟨B0, 0, none⟩) hsz).trans hca
    have hcb1 : w1.cell? ⟨B0, 1, none⟩ = some (.int .i64 b) := (hb1.cell (p := ⟨B0, 1, none⟩) hsz).trans hcb
    go_wp2_with fail
    refine (rtBad_any a b _ hcur).mono ?_; rintro e w2 ⟨v, rfl, hb2, ho2⟩
    clear hca1 hcb1
    replace hb2 := aft2 hb2 hb1
    cases hok : bfOk a b
    · go_wp2_with fail
      refine bodyPost_ret (by simp (maxDischargeDepth := 3) [results, Tryd.results8, go_sem, *]; try rfl) rfl ?_
      exact ret_eq (by rw [hok]; rfl) (bel_trans hb2 hbelW)
    · generalize bfX a b = xs at *
      rcases ho2.shape with ⟨rfl, h0⟩ | ⟨g, cap, rfl, hg, hlt, hnn, hm⟩
      · subst h0
        go_wp2_with fail
        refine wp_loop_rounds 1 ?_; rw [rounds_succ]
        go_wp2_with fail
        refine bodyPost_ret (by simp (maxDischargeDepth := 3) [results, Tryd.results8, go_sem, *]; try rfl) rfl ?_
        exact ret_eq (by rw [hok]; rfl) (bel_trans hb2 hbelW)
      · have hrd := ho2.rd
        clear ho2
        unfold maxLen at hm
        go_wp2_with fail
        go_loopw [6, 21] (fun v y wr => ∃ (i : Nat) (s : Int), y = .int .i64 i ∧ v = .int .i64 s ∧ i ≤ xs.length ∧ Hid (s = condL a b (xs.take i)) ∧ Below W.heap.size W wr ∧ Rd wr (.slice (some ⟨g, 0, none⟩) xs.length cap) xs)
          (fun _ y _ => xs.length - (intOf y).toNat)
        case atStart => exact ⟨0, 1, rfl, rfl, Nat.zero_le _, rfl, hb2, hrd⟩
        case round =>
          obtain ⟨i, s, rfl, rfl, hi, HS, hbel, hrd2⟩ := hrel
          have hsz1 : B0 < wr.heap.size := Nat.lt_of_lt_of_le hsz hbel.size
          have hca1 : wr.cell? ⟨B0, 0, none⟩ = some (.int .i64 a) := (hbel.cell (p := ⟨B0, 0, none⟩) hsz).trans hca
          have hcb1 : wr.cell? ⟨B0, 1, none⟩ = some (.int .i64 b) := (hbel.cell (p := ⟨B0, 1, none⟩) hsz).trans hcb
          by_cases hx : i < xs.length
          · have hck := hrd2.cellAt i hx
            obtain ⟨hp5, hkn⟩ := hmem (xs.getD i 0) (getD_mem hx)
            have hst := condL_step a b hx
            obtain ⟨p, hp⟩ : ∃ p, xs.getD i 0 = p := ⟨_, rfl⟩
            rw [hp] at hck hp5 hkn hst
            clear hp
            rw [← HS.out] at hst
            have hpb := p5_bd hp5
            have hi0 : (0 : Int) ≤ (i : Int) := Int.natCast_nonneg _
            have hi1 : (i : Int) < (xs.length : Int) := by omega
            rcases kind_cases (minA a b p) b p with hk | hk | hk | hk
            · exact absurd hk hkn
            all_goals
              rw [hk] at hst
              have HST := Lib.hid hst; clear hst hkn
              go_wp2_with fail
              refine (rtExponent_any a b p _ hcur hp5).mono ?_; rintro e w3 ⟨rfl, hb3⟩
              rw [hk]
              have hrd3 := hrd2.keep hb3
              replace hb3 := bel_trans hb3 hbel; clear hbel hca1 hcb1 hsz1 hrd2 hck
              simp only [expK]
              go_wp2_with fail
              refine (loPower_any p _ _ (by omega) (by omega) (by omega)).mono ?_; rintro e w4 ⟨rfl, hb4⟩
              have hrd4 := hrd3.keep hb4
              replace hb4 := bel_trans hb4 hb3; clear hb3 hrd3
              go_wp2_with fail
              go_roundw
              case rel => exact ⟨i + 1, _, by go_num, rfl, by omega, by unfold Hid; rw [HST.out]; first | exact wrap_mul s p | rfl, hb4, hrd4⟩
              case measure => simp [intOf]; omega
          · have hxe : i = xs.length := by omega
            have hv : Hid (s = condL a b xs) := by rw [hxe, List.take_length] at HS; exact HS
            clear hx
            subst hxe
            go_wp2_with fail
            refine bodyPost_ret (by simp (maxDischargeDepth := 3) [results, Tryd.results8, go_sem, *]; try rfl) rfl ?_
            exact ret_eq (by rw [hv.out, hok]; rfl) (bel_trans hbel hbelW)
end Go.Proofs.YtpjcfnjagknocaaDoor
