/- Wb: contracts: the whole number of an int; the other sign. No conditions. -/
import Derived.Test.YtakilincclnpdaaGreatDoorPMy
import Derived.Test.YtakilincclnpdaaGreatDoorPGy
namespace Go.Proofs.YtakilincclnpdaaGreatDoor
open Go.RowKit

theorem digs_step {n m : Nat} {xs : List Int} (h : digs n = xs ++ digs m) (hm : m ≠ 0) : digs n = (xs ++ [((m % 10000 : Nat) : Int)]) ++ digs (m / 10000) := by
  rw [h, digs_pos hm, List.append_assoc]; rfl
theorem digs_int_len {n : Nat} (h : n < 100000000000000000000) : (digs n).length ≤ 5 := digs_lt (by omega)
set_option maxRecDepth 4000 in
set_option maxHeartbeats 2000000 in
theorem wholeOf_any (n : Int) (w : World) (h0 : -4000000000000000000 ≤ n) (h1 : n ≤ 4000000000000000000) :
    Calls Tryz.prog 83 #[.int .i64 n] w (RetW n w) := by
  obtain ⟨i0, hi, hz0, hz1, hz2⟩ := info_parts Tryz.info_int
  obtain ⟨N, hN⟩ : ∃ N, n.natAbs = N := ⟨_, rfl⟩
  have hmx : max n (-n) = (N : Int) := by omega
  have hl5 := digs_int_len (n := N) (by omega)
  have hNb : N ≤ 4000000000000000000 := by omega
  have HN := Lib.hid hN; clear hN
  by_cases hneg : n < 0
  all_goals
    go_enter Tryz.func83, Tryz.ntmps83
    go_wp2_with fail
    generalize hW : w.alloc (.cells #[.bool false, .slice none 0 0] 26) = W
    obtain ⟨B0, hB0⟩ : ∃ B0, w.heap.size = B0 := ⟨_, rfl⟩
    obtain ⟨hbelW, hsz, hca, hcb, hfa, hfb⟩ : Below w.heap.size w W ∧ B0 < W.heap.size ∧ W.cell? ⟨B0, 0, none⟩ = some (.bool false) ∧ W.cell? ⟨B0, 1, none⟩ = some (.slice none 0 0) ∧ W.frozen? ⟨B0, 0, none⟩ = false ∧ W.frozen? ⟨B0, 1, none⟩ = false := by
      subst hW; subst hB0
      exact ⟨(by repeat (first | exact Below.refl _ _ | (with_reducible assumption) | refine bel_alloc ?_ _ | refine bel_drew ?_ | refine bel_drewN ?_ _ | refine Below.setCell ?_ (by dsimp only; omega) _ | refine bel_trans (by assumption) ?_)), by simp, by simp [go_sem], by simp [go_sem], by simp [go_sem], by simp [go_sem]⟩
    clear hW
    (try rw [hB0])
    go_loopw [0, 4] (fun x y wr => ∃ (m : Nat) (xs : List Int), x = .int .i64 m ∧ m ≤ 4000000000000000000 ∧ Hid (digs N = xs ++ digs m) ∧ Below W.heap.size W wr ∧ Own wr W.heap.size y xs) (fun x _ _ => (intOf x).toNat)
    case atStart => exact ⟨N, [], by first | (rw [← HN.out]; done) | (rw [← HN.out]; rfl) | (rw [← HN.out]; congr 1; omega), hNb, rfl, Below.refl _ _, Own.nil _ _⟩
    case round =>
      obtain ⟨m, xs, rfl, hmb, HD, hbel, hown⟩ := hrel
      have hm0 : (0 : Int) ≤ (m : Int) := Int.natCast_nonneg _
      by_cases hz : m = 0
      · subst hz
        have hx : xs = digs N := by rw [HD.out, digs_zero, List.append_nil]
        have hsg := sgn_val (neg := decide (n < 0)) (xs := xs) (by rw [hx]; exact digs_dig N) (by rw [hx]; exact digs_last)
        have hval : (if decide (n < 0) = true then -(val xs) else val xs) = n := by
          rw [hx, val_digs, ← HN.out]
          by_cases hn : n < 0
          · rw [if_pos (by simpa using hn)]; omega
          · rw [if_neg (by simpa using hn)]; omega
        have hdd : Dig xs := by rw [hx]; exact digs_dig N
        have hxl : xs.length ≤ 1000000 := by rw [hx]; omega
        have htr := trimmed_any (decide (n < 0)) u4 xs wr hown.rd hown.slok hdd hxl
        rw [hval] at htr
        clear hsg hval hdd hxl hx
        first | rw [decide_eq_true hneg] at htr | rw [decide_eq_false (by omega)] at htr
        have HTR := Lib.hid htr; clear htr
        have kca := (hbel.cell (p := ⟨B0, 0, none⟩) hsz).trans hca
        have kcb := (hbel.cell (p := ⟨B0, 1, none⟩) hsz).trans hcb
        have kfa := (hbel.frozen (p := ⟨B0, 0, none⟩) hsz).trans hfa
        have kfb := (hbel.frozen (p := ⟨B0, 1, none⟩) hsz).trans hfb
        have kz := hbel.size
        clear hown
        go_wp2_with fail
        refine HTR.out.mono ?_; rintro e w2 ⟨v, rfl, hb2, hv2⟩
        have hkb : B0 < wr.heap.size := by omega
        have lca := (hb2.cell (p := ⟨B0, 0, none⟩) hkb).trans kca
        have lcb := (hb2.cell (p := ⟨B0, 1, none⟩) hkb).trans kcb
        have lfa := (hb2.frozen (p := ⟨B0, 0, none⟩) hkb).trans kfa
        have lfb := (hb2.frozen (p := ⟨B0, 1, none⟩) hkb).trans kfb
        have lz := hb2.size
        have HV := Lib.hid hv2
        obtain ⟨ad, cap, hvv, _⟩ := hv2
        have hbw := bel_trans (bel_trans hb2 hbel) hbelW
        subst hvv
        generalize decide (n < 0) = bb at HV ⊢
        generalize (digs n.natAbs).length = ln at HV ⊢
        go_wp2_with fail
        refine bodyPost_ret (by simp (maxDischargeDepth := 3) [results, Tryz.results83, go_sem, *]; try rfl) rfl ?_
        exact ⟨_, rfl, (by repeat (first | exact Below.refl _ _ | (with_reducible assumption) | refine bel_alloc ?_ _ | refine bel_drew ?_ | refine bel_drewN ?_ _ | refine Below.setCell ?_ (by dsimp only; omega) _ | refine bel_trans (by assumption) ?_)), ((HV.out.setFar (by omega) _ _).setFar (by omega) _ _).le (by omega)⟩
      · have hm1 : (0 : Int) < (m : Int) := by omega
        have hst := digs_step HD.out hz
        have HST := Lib.hid hst; clear hst
        have hlx : xs.length ≤ 5 := by have := congrArg List.length HD.out; rw [List.length_append] at this; omega
        have hown' : wr.ownsRow W.heap.size 3 1 _ xs.length (xs.map (Value.int .i64)) := hown
        go_wp2_with (first | (at_builtin; refine wpList_append_own _ rfl _ _ 24 rfl W.heap.size 3 i0 (.int .i64 0) 1 8 Tryz.underlying24 hi hz0 hz1 hz2 rfl (by decide) _ _ _ rfl (hown'.alloc _) ⟨wr.heap.size, 0, none⟩ 1 1 [.int .i64 ((m : Int) % 10000)] rfl rfl (cell_one_new _ _ _) ?_ ?_ ?_ ?_ ?_))
        · first | rfl | (intro u hu; simp at hu; subst hu; rfl)
        · unfold maxLen; omega
        · omega
        · have := hbel.size; simp; omega
        · intro v' w5 hown5 hgrow _
          obtain ⟨hb5, ho5⟩ := own_snoc hbel hown hown5 hgrow
          clear hown5 hgrow hown hown' hbel
          go_wp2_with fail
          go_roundw
          case rel => exact ⟨m / 10000, xs ++ [(m : Int) % 10000], by go_num, by omega, by unfold Hid; rw [HST.out]; rfl, hb5, ho5⟩
          case measure => simp [intOf]; omega
end Go.Proofs.YtakilincclnpdaaGreatDoor
