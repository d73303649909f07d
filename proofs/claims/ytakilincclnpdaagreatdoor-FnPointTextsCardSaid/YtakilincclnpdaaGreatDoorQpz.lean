/- Qp: contract: qPoints of equal rows. No conditions. -/
import Derived.Test.YtakilincclnpdaaGreatDoorPXz
import Derived.Test.YtakilincclnpdaaGreatDoorDrz
import Derived.BigQuiet
namespace Go.Proofs.YtakilincclnpdaaGreatDoor
open Go.RowKit

set_option maxHeartbeats 2000000 in
theorem qPoints_same (v u : Value) (xs : List Int) (n m : Nat) (w : World) (h : RdPN n w v xs) (h' : RdPN m w u xs) :
    Calls Tryz.prog 43 #[v, u] w (Ret (.bool true) w) := by
  obtain ⟨hn0, ad, l, cap, rfl, hl, hlm, hcs⟩ := h
  obtain ⟨hm0, ad', l', cap', rfl, hl', _, hcs'⟩ := h'
  obtain rfl : l' = l := by omega
  unfold maxLen at hlm
  by_cases hn : l' = 0
  · subst hn
    go_enter Tryz.func43, Tryz.ntmps43
    go_wp2_with fail
    refine wp_loop_rounds 1 ?_; rw [rounds_succ]
    go_wp2_with fail
    go_ret
    exact ret_eq rfl (by repeat (first | exact Below.refl _ _ | (with_reducible assumption) | refine bel_alloc ?_ _ | refine bel_drew ?_ | refine bel_drewN ?_ _ | refine Below.setCell ?_ (by dsimp only; omega) _ | refine bel_trans (by assumption) ?_))
  · obtain ⟨b, off, rfl, hb, hcell⟩ := hcs (by omega)
    obtain ⟨b', off', rfl, hb', hcell'⟩ := hcs' (by omega)
    have HC := Lib.hid hcell; clear hcell
    have HC' := Lib.hid hcell'; clear hcell'
    clear hn hcs hcs'
    go_enter Tryz.func43, Tryz.ntmps43
    go_wp2_with fail
    go_loopw [13] (fun i wr => ∃ k : Nat, k ≤ l' ∧ i = .int .i64 k ∧ Below w.heap.size w wr) (fun i _ => l' - (intOf i).toNat)
    case atStart => exact ⟨0, Nat.zero_le _, rfl, Below.refl _ _⟩
    case round =>
      obtain ⟨k, hk, rfl, hbel⟩ := hrel
      by_cases hlt : k < l'
      · have hbr : b < wr.heap.size := Nat.lt_of_lt_of_le (by omega) hbel.size
        have hbr' : b' < wr.heap.size := Nat.lt_of_lt_of_le (by omega) hbel.size
        obtain ⟨X, hX⟩ : ∃ X, xs.getD (k * 3) 0 = X := ⟨_, rfl⟩
        obtain ⟨Y, hY⟩ : ∃ Y, xs.getD (k * 3 + 1) 0 = Y := ⟨_, rfl⟩
        obtain ⟨Z, hZ⟩ : ∃ Z, xs.getD (k * 3 + 2) 0 = Z := ⟨_, rfl⟩
        have q0 := (hbel.cell (p := ⟨b, off + k * 3, none⟩) (by dsimp only; omega)).trans (HC.out (k * 3) (by omega))
        have q1 := (hbel.cell (p := ⟨b, off + k * 3 + 1, none⟩) (by dsimp only; omega)).trans (HC.out (k * 3 + 1) (by omega))
        have q2 := (hbel.cell (p := ⟨b, off + k * 3 + 2, none⟩) (by dsimp only; omega)).trans (HC.out (k * 3 + 2) (by omega))
        have r0 := (hbel.cell (p := ⟨b', off' + k * 3, none⟩) (by dsimp only; omega)).trans (HC'.out (k * 3) (by omega))
        have r1 := (hbel.cell (p := ⟨b', off' + k * 3 + 1, none⟩) (by dsimp only; omega)).trans (HC'.out (k * 3 + 1) (by omega))
        have r2 := (hbel.cell (p := ⟨b', off' + k * 3 + 2, none⟩) (by dsimp only; omega)).trans (HC'.out (k * 3 + 2) (by omega))
        rw [hX] at q0 r0
        rw [hY] at q1 r1
        rw [hZ] at q2 r2
        clear hX hY hZ
        have hk0 : (0 : Int) ≤ (k : Int) := Int.natCast_nonneg _
        have hk1 : (k : Int) < (l' : Int) := by omega
        go_wp2_with fail
        go_quiet (fail)
        go_wp2_with fail
        go_roundw
        case rel => exact ⟨k + 1, by omega, by go_num, bel_drewN hbel _⟩
        case measure => simp [intOf]; omega
      · go_wp2_with fail
        go_ret
        exact ret_eq rfl hbel
end Go.Proofs.YtakilincclnpdaaGreatDoor
