/- Lsw: contracts: the laws' helpers big and sameInts (as Ls, without Ad, whose names Cl has too). No conditions. -/
import Derived.Test.YtakilincclnpdaaGreatDoorYgy
namespace Go.Proofs.YtakilincclnpdaaGreatDoor
open Go.RowKit

set_option maxHeartbeats 1000000 in
theorem big_any (ad ad' : Option Addr) (n n' c c' : Nat) (w : World) :
    Calls Tryz.prog 5 #[.slice ad n c, .slice ad' n' c'] w (Ret (.bool (decide (1048576 < n + n'))) w) := by
  by_cases h1 : n > 1048576
  · have hb : decide (1048576 < n + n') = true := by simp; omega
    rw [hb]
    have g1 : (n : Int) > 1048576 := by omega
    go_enter Tryz.func5, Tryz.ntmps5
    go_wp2_with fail
    go_ret
    exact ret_eq rfl (by repeat (first | exact Below.refl _ _ | (with_reducible assumption) | refine bel_alloc ?_ _ | refine bel_drew ?_ | refine bel_drewN ?_ _ | refine Below.setCell ?_ (by dsimp only; omega) _ | refine bel_trans (by assumption) ?_))
  · have g1 : ¬ (n : Int) > 1048576 := by omega
    have g2 : IntKind.i64.wrap (1048576 - (n : Int)) = 1048576 - (n : Int) := wrapi (by omega) (by omega)
    have hd : (decide ((n' : Int) > 1048576 - (n : Int))) = decide (1048576 < n + n') := by rw [decide_eq_decide]; omega
    generalize decide (1048576 < n + n') = d at hd ⊢
    go_enter Tryz.func5, Tryz.ntmps5
    go_wp2_with fail
    go_ret
    exact ret_eq (by simp [*]) (by repeat (first | exact Below.refl _ _ | (with_reducible assumption) | refine bel_alloc ?_ _ | refine bel_drew ?_ | refine bel_drewN ?_ _ | refine Below.setCell ?_ (by dsimp only; omega) _ | refine bel_trans (by assumption) ?_))
theorem wrapLen {n j : Nat} (h : n ≤ maxLen) (hj : j < n) : wrap64 ((j : Int) + 1) = ((j + 1 : Nat) : Int) := by
  have h1 : n ≤ 9223372036854775807 := h
  clear h
  unfold wrap64
  omega
set_option maxHeartbeats 2000000 in
theorem sameInts_any (v u : Value) (xs ys : List Int) (w : World) (h : Rd w v xs) (h' : Rd w u ys) :
    Calls Tryz.prog 58 #[v, u] w (Ret (.bool (decide (xs = ys))) w) := by
  have H := Lib.hid h; have H' := Lib.hid h'
  obtain ⟨ad, c, rfl, hl, hc⟩ := h
  obtain ⟨ad', c', rfl, hl', hc'⟩ := h'
  have HC := Lib.hid hc; have HC' := Lib.hid hc'; have HL := Lib.hid hl; clear hc hc' hl hl'
  by_cases hne : xs.length = ys.length
  · have hL : (ys.length : Int) = xs.length := by omega
    rw [show ys.length = xs.length from hne.symm]
    by_cases hz : xs.length = 0
    · have e1 := List.eq_nil_of_length_eq_zero hz
      have e2 := List.eq_nil_of_length_eq_zero (hne ▸ hz)
      subst e1; subst e2
      go_enter Tryz.func58, Tryz.ntmps58
      go_wp2_with fail
      refine wp_loop_rounds 1 ?_; rw [rounds_succ]
      go_wp2_with fail
      go_ret
      exact ret_eq rfl (by repeat (first | exact Below.refl _ _ | (with_reducible assumption) | refine bel_alloc ?_ _ | refine bel_drew ?_ | refine bel_drewN ?_ _ | refine Below.setCell ?_ (by dsimp only; omega) _ | refine bel_trans (by assumption) ?_))
    · obtain ⟨b, off, rfl, hlt, hcell⟩ := HC.out (by omega)
      obtain ⟨b', off', rfl, hlt', hcell'⟩ := HC'.out (by omega)
      have K := Lib.hid hcell; have K' := Lib.hid hcell'; clear hcell hcell' HC HC'
      go_enter Tryz.func58, Tryz.ntmps58
      go_wp2_with fail
      go_loopw [13] (fun x wr => ∃ j : Nat, x = .int .i64 j ∧ j ≤ xs.length ∧ Below w.heap.size w wr ∧ ∀ i, i < j → xs.getD i 0 = ys.getD i 0) (fun x _ => xs.length - (intOf x).toNat)
      case atStart => exact ⟨0, rfl, Nat.zero_le _, Below.refl _ _, fun i h => absurd h (Nat.not_lt_zero _)⟩
      case round =>
        obtain ⟨j, rfl, hj, hbel, heq⟩ := hrel
        have HE := Lib.hid heq; clear heq
        by_cases hlt2 : j < xs.length
        · have c0 := (hbel.cell (p := ⟨b, off + j, none⟩) hlt).trans (K.out j hlt2)
          have c1 := (hbel.cell (p := ⟨b', off' + j, none⟩) hlt').trans (K'.out j (by omega))
          have hj1 : (j : Int) < (xs.length : Int) := by omega
          have hj0 : (0 : Int) ≤ (j : Int) := Int.natCast_nonneg _
          obtain ⟨p, hp⟩ : ∃ p, xs.getD j 0 = p := ⟨_, rfl⟩
          obtain ⟨q, hq⟩ : ∃ q, ys.getD j 0 = q := ⟨_, rfl⟩
          rw [hp] at c0; rw [hq] at c1
          by_cases hpq : p = q
          · have hpb : (p != q) = false := by simp [hpq]
            go_wp2_with fail
            go_quiet (fail)
            go_wp2_with fail
            have hw : wrap64 ((j : Int) + 1) = ((j + 1 : Nat) : Int) := wrapLen HL.out hlt2
            rw [hw]
            refine ⟨⟨j + 1, rfl, hlt2, bel_drewN hbel _, fun i hi => ?_⟩, by simp only [intOf, Int.toNat_natCast]; exact Nat.sub_lt_sub_left hlt2 (Nat.lt_succ_self j)⟩
            by_cases hij : i = j
            · subst hij; rw [hp, hq, hpq]
            · exact HE.out i (Nat.lt_of_le_of_ne (Nat.le_of_lt_succ hi) hij)
          · have hpb : (p != q) = true := by simp [hpq]
            go_wp2_with fail
            go_quiet (fail)
            go_wp2_with fail
            go_ret
            have hxy : decide (xs = ys) = false := decide_eq_false fun e => hpq (by rw [← hp, ← hq, e])
            exact ret_eq (by rw [hxy]; rfl) (bel_drewN hbel _)
        · go_wp2_with fail
          go_ret
          have hjl : j = xs.length := by omega
          subst hjl
          have e : xs = ys := List.ext_getElem hne fun i h1 h2 => by
            have := HE.out i h1
            simpa [List.getD_eq_getElem?_getD, h1, h2] using this
          exact ret_eq (by rw [decide_eq_true e]; rfl) hbel
  · have hb : decide (xs = ys) = false := by simp; intro e; exact hne (by rw [e])
    have hni : ¬ (xs.length : Int) = ys.length := by omega
    rw [hb]
    go_enter Tryz.func58, Tryz.ntmps58
    go_wp2_with fail
    go_ret
    exact ret_eq rfl (by repeat (first | exact Below.refl _ _ | (with_reducible assumption) | refine bel_alloc ?_ _ | refine bel_drew ?_ | refine bel_drewN ?_ _ | refine Below.setCell ?_ (by dsimp only; omega) _ | refine bel_trans (by assumption) ?_))
end Go.Proofs.YtakilincclnpdaaGreatDoor
