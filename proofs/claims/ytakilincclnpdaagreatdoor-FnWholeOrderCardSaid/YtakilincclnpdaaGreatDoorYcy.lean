/- Yc: contracts: the reference's wholes: laying one, its opposite, a limb, the order, sums of limbs. No conditions. -/
import Derived.Test.YtakilincclnpdaaGreatDoorYby
import Derived.Test.YtakilincclnpdaaGreatDoorYpy
import Derived.Test.YtakilincclnpdaaGreatDoorWby
namespace Go.Proofs.YtakilincclnpdaaGreatDoor
open Go.RowKit

set_option maxHeartbeats 2000000 in
theorem bgMake_any (neg : Bool) (v : Value) (xs : List Int) (w : World) (hrd : Rd w v xs) (hso : SlOk v) (hd : Dig xs) (hl : xs.length ≤ 1000000) :
    Calls Tryz.prog 82 #[.bool neg, v] w (RetW (if neg = true then -(val xs) else val xs) w) := by
  obtain ⟨hz, hca⟩ := hso
  obtain ⟨z, hz0⟩ : ∃ z, (if neg = true then -(val xs) else val xs) = z := ⟨_, rfl⟩
  rw [hz0]
  have HZ0 := Lib.hid hz0; clear hz0
  have HR := Lib.hid hrd
  have HZ := Lib.hid hz
  obtain ⟨ad, cap, rfl, hlm, hcs⟩ := hrd
  have HCS := Lib.hid hcs; clear hcs
  have HD := Lib.hid hd; clear hd
  have hcap := hca _ _ _ rfl
  clear hz hca hlm
  have hsg : ∀ m, (xs.take m = [] ∨ (xs.take m).getD ((xs.take m).length - 1) 0 ≠ 0) → val (xs.take m) = val xs → (xs.take m = digs z.natAbs ∧ (neg && decide (0 < (xs.take m).length)) = decide (z < 0)) := fun m h1 h2 => by
    have := sgn_val (neg := neg) (HD.out.take m) h1
    rw [h2, HZ0.out] at this
    exact this
  have HSG := Lib.hid hsg; clear hsg
  cases neg
  all_goals
    go_enter Tryz.func82, Tryz.ntmps82
    go_wp2_with fail
    go_loopw [5] (fun x wr => ∃ m : Nat, x = .int .i64 m ∧ m ≤ xs.length ∧ m ≤ cap ∧ Hid (val (xs.take m) = val xs) ∧ wr = w.alloc (.cells #[.bool false, .slice none 0 0] 26)) (fun x _ => (intOf x).toNat)
    case atStart => exact ⟨xs.length, rfl, Nat.le_refl _, hcap, by unfold Hid; rw [List.take_length], rfl⟩
    case round =>
      obtain ⟨m, rfl, hm, hmc, HV, rfl⟩ := hrel
      have hm0 : (0 : Int) ≤ (m : Int) := Int.natCast_nonneg _
      have hmb : (m : Int) ≤ 1000000 := by omega
      have hmx : (m : Int) ≤ (xs.length : Int) := by omega
      have hmk : (m : Int) ≤ (cap : Int) := by omega
      have hrm : ∀ n w', n ≤ xs.length → Below w.heap.size w w' → Rd w' (.slice ad (xs.take n).length cap) (xs.take n) := fun n w' hn hb => by
        have hq := HR.out.keep hb
        obtain ⟨ad', cap', hv, hl', hc'⟩ := hq
        injection hv with h1 _ h3
        subst h1; subst h3
        refine ⟨_, _, rfl, by rw [List.length_take]; unfold maxLen at *; omega, fun hp => ?_⟩
        rw [List.length_take] at hp
        obtain ⟨bb, off, e1, e2, e3⟩ := hc' (by omega)
        refine ⟨bb, off, e1, e2, fun i hi => ?_⟩
        rw [List.length_take] at hi
        rw [e3 i (by omega)]
        congr 2
        rw [List.getD_eq_getElem?_getD, List.getD_eq_getElem?_getD, List.getElem?_take, if_pos (by omega)]
      have HRM := Lib.hid hrm; clear hrm
      by_cases hz0 : m = 0
      · subst hz0
        have HS := Lib.hid (HSG.out 0 (.inl rfl) HV.out)
        have hcl := fun w' hb => l1Own_any (.slice ad 0 cap) [] w' (HRM.out 0 w' (by omega) hb) (by intro n c h; injection h with h1 h2 h3; subst h1; subst h3; exact HZ.out _ _ rfl) (by simp)
        have HCL := Lib.hid hcl; clear hcl
        go_wp2_with fail
        refine (HCL.out _ (by repeat (first | exact Below.refl _ _ | (with_reducible assumption) | refine bel_alloc ?_ _ | refine bel_drew ?_ | refine bel_drewN ?_ _ | refine Below.setCell ?_ (by dsimp only; omega) _ | refine bel_trans (by assumption) ?_))).mono ?_; rintro e w2 ⟨u, rfl, hb2, ho2⟩
        obtain ⟨hc2, hf2, hz1, hz2, hz3, hz4⟩ := aftz hb2
        obtain ⟨ad2, cap2, rfl⟩ := ho2.len
        have hzz : w.heap.size + 1 ≤ w2.heap.size := by have := hb2.size; simpa using this
        go_wp2_with fail
        refine bodyPost_ret (by simp (maxDischargeDepth := 3) [results, Tryz.results82, go_sem, *]; try rfl) rfl ?_
        exact ⟨_, rfl, (by repeat (first | exact Below.refl _ _ | (with_reducible assumption) | refine bel_alloc ?_ _ | refine bel_drew ?_ | refine bel_drewN ?_ _ | refine Below.setCell ?_ (by dsimp only; omega) _ | refine bel_trans (by assumption) ?_)), wv_of ((own_setFar (own_setFar ho2 (by simp) _ _) (by simp) _ _).le (by simp)) HS.out.1 HS.out.2⟩
      · have hm1 : (0 : Int) < (m : Int) := by omega
        obtain ⟨bb, off, rfl, hbb, hcell⟩ := HCS.out (by omega)
        have hck := hcell (m - 1) (by omega)
        clear hcell
        by_cases hx0 : xs.getD (m - 1) 0 = 0
        · have hvv : val (xs.take (m - 1)) = val xs := by
            have h1 := val_take_succ (xs := xs) (k := m - 1) (by omega)
            rw [show m - 1 + 1 = m by omega, hx0, Int.zero_mul, Int.add_zero, HV.out] at h1
            exact h1.symm
          rw [hx0] at hck
          clear hx0
          have HVV := Lib.hid hvv; clear hvv
          go_wp2_with fail
          go_roundw
          case rel => exact ⟨m - 1, by first | rfl | (congr 1; omega), by omega, by omega, HVV, by first | rfl | trivial⟩
          case measure => simp [intOf]; omega
        · have hxb : (xs.getD (m - 1) 0 == 0) = false := beq_eq_false_iff_ne.2 hx0
          have hlast : (xs.take m) = [] ∨ (xs.take m).getD ((xs.take m).length - 1) 0 ≠ 0 := .inr (by
            rw [List.length_take, Nat.min_eq_left hm, List.getD_eq_getElem?_getD, List.getElem?_take, if_pos (by omega), ← List.getD_eq_getElem?_getD]
            exact hx0)
          generalize xs.getD (m - 1) 0 = y at hck hx0 hxb
          have HLA := Lib.hid hlast; clear hlast
          have hcl := fun w' hb => l1Own_any (.slice (some ⟨bb, off, none⟩) (xs.take m).length cap) (xs.take m) w' (HRM.out m w' hm hb) (by intro n c h; cases h) (by rw [List.length_take]; omega)
          have hlt : (xs.take m).length = m := by rw [List.length_take]; omega
          have HS := Lib.hid (HSG.out m HLA.out HV.out)
          rw [hlt] at hcl
          have HLT := Lib.hid hlt; clear hlt
          have HCL := Lib.hid hcl; clear hcl
          go_wp2_with fail
          refine (HCL.out _ (by repeat (first | exact Below.refl _ _ | (with_reducible assumption) | refine bel_alloc ?_ _ | refine bel_drew ?_ | refine bel_drewN ?_ _ | refine Below.setCell ?_ (by dsimp only; omega) _ | refine bel_trans (by assumption) ?_))).mono ?_; rintro e w2 ⟨u, rfl, hb2, ho2⟩
          obtain ⟨hc2, hf2, hz1, hz2, hz3, hz4⟩ := aftz hb2
          obtain ⟨ad2, cap2, hu⟩ := ho2.len
          rw [HLT.out] at hu
          have hzz : w.heap.size + 1 ≤ w2.heap.size := by have := hb2.size; simpa using this
          have HO := Lib.hid ho2; clear ho2
          subst hu
          go_wp2_with fail
          refine bodyPost_ret (by simp (maxDischargeDepth := 3) [results, Tryz.results82, go_sem, *]; try rfl) rfl ?_
          exact ⟨_, rfl, (by repeat (first | exact Below.refl _ _ | (with_reducible assumption) | refine bel_alloc ?_ _ | refine bel_drew ?_ | refine bel_drewN ?_ _ | refine Below.setCell ?_ (by dsimp only; omega) _ | refine bel_trans (by assumption) ?_)), wv_of ((own_setFar (own_setFar HO.out (by simp) _ _) (by simp) _ _).le (by simp)) HS.out.1 (by rw [← HS.out.2, HLT.out]; simp; try omega)⟩
set_option maxHeartbeats 1000000 in
theorem bgMinus_any (v : Value) (z : Int) (w : World) (h : WV w v z) (hl : (digs z.natAbs).length ≤ 1000000) :
    Calls Tryz.prog 113 #[v] w (RetW (-z) w) := by
  obtain ⟨ad, cap, rfl, hr, hs⟩ := h
  have hval : (if (!decide (z < 0)) = true then -(val (digs z.natAbs)) else val (digs z.natAbs)) = -z := by
    rw [val_digs]
    by_cases hz : z < 0
    · rw [if_neg (by simp [hz])]; omega
    · rw [if_pos (by simpa using hz)]; omega
  have htr := fun w' hb => bgMake_any (!decide (z < 0)) (.slice ad (digs z.natAbs).length cap) (digs z.natAbs) w' (hr.keep hb) hs (digs_dig _) hl
  rw [hval] at htr
  have HTR := Lib.hid htr; clear htr hval hr hs
  generalize hbb : decide (z < 0) = bb at HTR ⊢
  generalize (digs z.natAbs).length = ln at HTR ⊢
  clear hbb
  go_enter Tryz.func113, Tryz.ntmps113
  go_wp2_with fail
  refine (HTR.out _ (by repeat (first | exact Below.refl _ _ | (with_reducible assumption) | refine bel_alloc ?_ _ | refine bel_drew ?_ | refine bel_drewN ?_ _ | refine Below.setCell ?_ (by dsimp only; omega) _ | refine bel_trans (by assumption) ?_))).mono ?_; rintro e w2 ⟨u, rfl, hb2, hv2⟩
  obtain ⟨hc2, hf2, hs1, hs2, hs3, hs4⟩ := aftz hb2
  have HV := Lib.hid hv2
  obtain ⟨ad2, cap2, hu, _⟩ := hv2
  subst hu
  generalize decide (-z < 0) = b2 at HV ⊢
  generalize (digs (-z).natAbs).length = l2 at HV ⊢
  go_wp2_with fail
  refine bodyPost_ret (by simp (maxDischargeDepth := 3) [results, Tryz.results113, go_sem, *]; try rfl) rfl ?_
  exact ⟨_, rfl, (by repeat (first | exact Below.refl _ _ | (with_reducible assumption) | refine bel_alloc ?_ _ | refine bel_drew ?_ | refine bel_drewN ?_ _ | refine Below.setCell ?_ (by dsimp only; omega) _ | refine bel_trans (by assumption) ?_)), ((HV.out.setFar (by simp) _ _).setFar (by simp) _ _).le (by simp; omega)⟩
set_option maxRecDepth 4000 in
set_option maxHeartbeats 2000000 in
theorem bgOf_any (n : Int) (w : World) (h0 : -4000000000000000000 ≤ n) (h1 : n ≤ 4000000000000000000) :
    Calls Tryz.prog 69 #[.int .i64 n] w (RetW n w) := by
  obtain ⟨i0, hi, hz0, hz1, hz2⟩ := info_parts Tryz.info_int
  obtain ⟨N, hN⟩ : ∃ N, n.natAbs = N := ⟨_, rfl⟩
  have hab := fun w => l1Abs_any n w (by omega) (by omega)
  rw [hN] at hab
  have HAB := Lib.hid hab; clear hab
  have hl5 := digs_int_len (n := N) (by omega)
  have hNb : N ≤ 4000000000000000000 := by omega
  have HN := Lib.hid hN; clear hN
  by_cases hneg : n < 0
  all_goals
    go_enter Tryz.func69, Tryz.ntmps69
    go_wp2_with fail
    refine (HAB.out _).mono ?_; rintro e w' ⟨rfl, rfl⟩
    go_wp2_with fail
    generalize hW : w.alloc (.cells #[.bool false, .slice none 0 0] 26) = W
    obtain ⟨B0, hB0⟩ : ∃ B0, w.heap.size = B0 := ⟨_, rfl⟩
    obtain ⟨hbelW, hsz, hca, hcb, hfa, hfb⟩ : Below w.heap.size w W ∧ B0 < W.heap.size ∧ W.cell? ⟨B0, 0, none⟩ = some (.bool false) ∧ W.cell? ⟨B0, 1, none⟩ = some (.slice none 0 0) ∧ W.frozen? ⟨B0, 0, none⟩ = false ∧ W.frozen? ⟨B0, 1, none⟩ = false := by
      subst hW; subst hB0
      exact ⟨(by repeat (first | exact Below.refl _ _ | (with_reducible assumption) | refine bel_alloc ?_ _ | refine bel_drew ?_ | refine bel_drewN ?_ _ | refine Below.setCell ?_ (by dsimp only; omega) _ | refine bel_trans (by assumption) ?_)), by simp, by simp [go_sem], by simp [go_sem], by simp [go_sem], by simp [go_sem]⟩
    clear hW
    (try rw [hB0])
    go_loopw [3, 4] (fun y x wr => ∃ (m : Nat) (xs : List Int), x = .int .i64 m ∧ m ≤ 4000000000000000000 ∧ Hid (digs N = xs ++ digs m) ∧ Below W.heap.size W wr ∧ Own wr W.heap.size y xs) (fun _ x _ => (intOf x).toNat)
    case atStart => exact ⟨N, [], rfl, hNb, rfl, Below.refl _ _, Own.nil _ _⟩
    case round =>
      obtain ⟨m, xs, rfl, hmb, HD, hbel, hown⟩ := hrel
      have hm0 : (0 : Int) ≤ (m : Int) := Int.natCast_nonneg _
      by_cases hz : m = 0
      · subst hz
        have hx : xs = digs N := by rw [HD.out, digs_zero, List.append_nil]
        have hval : (if decide (n < 0) = true then -(val xs) else val xs) = n := by
          rw [hx, val_digs, ← HN.out]
          by_cases hn : n < 0
          · rw [if_pos (by simpa using hn)]; omega
          · rw [if_neg (by simpa using hn)]; omega
        have hdd : Dig xs := by rw [hx]; exact digs_dig N
        have hxl : xs.length ≤ 1000000 := by rw [hx]; omega
        have htr := bgMake_any (decide (n < 0)) u3 xs wr hown.rd hown.slok hdd hxl
        rw [hval] at htr
        clear hval hdd hxl hx
        first | rw [decide_eq_true hneg] at htr | rw [decide_eq_false (by omega)] at htr
        have HTR := Lib.hid htr; clear htr
        have kca := (hbel.cell (p := ⟨B0, 0, none⟩) hsz).trans hca
        have kcb := (hbel.cell (p := ⟨B0, 1, none⟩) hsz).trans hcb
        have kfa := (hbel.frozen (p := ⟨B0, 0, none⟩) hsz).trans hfa
        have kfb := (hbel.frozen (p := ⟨B0, 1, none⟩) hsz).trans hfb
        have kz := hbel.size
        clear hown
        go_wp2_with fail
        (try rw [show decide (n < 0) = false from decide_eq_false (by omega)])
        refine HTR.out.mono ?_; rintro e w2 ⟨v, rfl, hb2, hv2⟩
        have hkb : B0 < wr.heap.size := by omega
        have lca := (hb2.cell (p := ⟨B0, 0, none⟩) hkb).trans kca
        have lcb := (hb2.cell (p := ⟨B0, 1, none⟩) hkb).trans kcb
        have lfa := (hb2.frozen (p := ⟨B0, 0, none⟩) hkb).trans kfa
        have lfb := (hb2.frozen (p := ⟨B0, 1, none⟩) hkb).trans kfb
        have lz := hb2.size
        have HV := Lib.hid hv2
        obtain ⟨ad, cap, hvv, _⟩ := hv2
        have hbw := bel_trans (bel_trans hb2 hbel) hbelW
        subst hvv
        generalize decide (n < 0) = bb at HV ⊢
        generalize (digs n.natAbs).length = ln at HV ⊢
        go_wp2_with fail
        refine bodyPost_ret (by simp (maxDischargeDepth := 3) [results, Tryz.results69, go_sem, *]; try rfl) rfl ?_
        exact ⟨_, rfl, (by repeat (first | exact Below.refl _ _ | (with_reducible assumption) | refine bel_alloc ?_ _ | refine bel_drew ?_ | refine bel_drewN ?_ _ | refine Below.setCell ?_ (by dsimp only; omega) _ | refine bel_trans (by assumption) ?_)), ((HV.out.setFar (by omega) _ _).setFar (by omega) _ _).le (by omega)⟩
      · have hm1 : (0 : Int) < (m : Int) := by omega
        have hst := digs_step HD.out hz
        have HST := Lib.hid hst; clear hst
        have hlx : xs.length ≤ 5 := by have := congrArg List.length HD.out; rw [List.length_append] at this; omega
        have hown' : wr.ownsRow W.heap.size 3 1 _ xs.length (xs.map (Value.int .i64)) := hown
        go_wp2_with (first | (at_builtin; refine wpList_append_own _ rfl _ _ 24 rfl W.heap.size 3 i0 (.int .i64 0) 1 8 Tryz.underlying24 hi hz0 hz1 hz2 rfl (by decide) _ _ _ rfl (hown'.alloc _) ⟨wr.heap.size, 0, none⟩ 1 1 [.int .i64 ((m : Int) % 10000)] rfl rfl (cell_one_new _ _ _) ?_ ?_ ?_ ?_ ?_))
        · first | rfl | (intro u hu; simp at hu; subst hu; rfl)
        · unfold maxLen; omega
        · omega
        · have := hbel.size; simp; omega
        · intro v' w5 hown5 hgrow _
          obtain ⟨hb5, ho5⟩ := own_snoc hbel hown hown5 hgrow
          clear hown5 hgrow hown hown' hbel
          go_wp2_with fail
          go_roundw
          case rel => exact ⟨m / 10000, xs ++ [(m : Int) % 10000], by go_num, by omega, by unfold Hid; rw [HST.out]; rfl, hb5, ho5⟩
          case measure => simp [intOf]; omega
theorem bgLimb_any (v : Value) (xs : List Int) (i : Int) (w : World) (h : Rd w v xs) (h0 : 0 ≤ i) (h1 : i ≤ 1000000) (hl : xs.length ≤ 1000000) :
    Calls Tryz.prog 121 #[v, .int .i64 i] w fun e w' => e = .returned (.int .i64 (xs.getD i.toNat 0)) ∧ w = w' := by
  obtain ⟨ad, cap, rfl, hlm, hcs⟩ := h
  clear hlm
  obtain ⟨k, rfl⟩ : ∃ k : Nat, i = k := ⟨i.toNat, by omega⟩
  rw [Int.toNat_natCast]
  by_cases hk : k < xs.length
  · obtain ⟨b, off, rfl, hlt, hcell⟩ := hcs (by omega)
    have hck := hcell k hk
    clear hcell hcs
    have hk' : (k : Int) < (xs.length : Int) := by omega
    generalize xs.getD k 0 = x at hck ⊢
    generalize xs.length = n at *
    go_enter Tryz.func121, Tryz.ntmps121
    go_wp2_with fail
    go_ret
    exact ⟨rfl, rfl⟩
  · have e := getD_over (xs := xs) (i := k) (by omega)
    rw [e]
    have hk' : ¬ (k : Int) < (xs.length : Int) := by omega
    clear hcs e
    generalize xs.length = n at *
    go_enter Tryz.func121, Tryz.ntmps121
    go_wp2_with fail
    go_ret
    exact ⟨rfl, rfl⟩
end Go.Proofs.YtakilincclnpdaaGreatDoor
