/- The walk of FnExactPrimesOfKind. No conditions. -/
import Derived.Test.YtfcjmbaepgmknaaPk
import Derived.Test.YtfcjmbaepgmknaaMk
namespace Go.Proofs.Ytfcjmbaepgmknaa.fnExactPrimesOfKind
open Go.RowKit
set_option maxHeartbeats 1000000 in
theorem walk (a b : Int) (s : ByteArray) (w : World) (_ha : I64 a) (_hb : I64 b) (_hs : s.size ≤ maxLen) :
    Calls Try.prog 3 #[.agg #[.int .i64 a, .int .i64 b], .string s] w (Ret (.bool true) w) := by
  obtain ⟨xs, hxs⟩ : ∃ xs, (pkX a b (kindOf s)) = xs := ⟨_, rfl⟩
  obtain ⟨ok, hok⟩ : ∃ ok, (pkOk a b (kindOf s)) = ok := ⟨_, rfl⟩
  have hlen : xs.length ≤ 10000000000 := by rw [← hxs]; exact pkX_len a b (kindOf s)
  have h64 : I64 (1 + (xs.length : Int)) := by unfold I64; omega
  have hsp := fun z => sPrimesOfKind_any a b s z
  have him := fun z => iPrimesOfKind_any a b s z
  rw [hxs, hok] at hsp him
  clear hxs hok
  by_cases hbig : (1048576 : Int) < (s.size : Int)
  · go_enter Try.func3, Try.ntmps3
    go_wp2_with fail
    go_ret
    exact ret_mk (by repeat (first | exact Below.refl _ _ | (with_reducible assumption) | refine bel_alloc ?_ _ | refine bel_drew ?_ | refine bel_drewN ?_ _ | refine Below.setCell ?_ (by dsimp only; omega) _ | refine bel_trans (by assumption) ?_))
  go_enter Try.func3, Try.ntmps3
  go_wp2_with fail
  generalize hW : w.alloc (.cells #[.int .i64 a, .int .i64 b] 23) = W
  obtain ⟨B0, hB0⟩ : ∃ B0, w.heap.size = B0 := ⟨_, rfl⟩
  obtain ⟨hbelW, hsz, hcA0, hcA1⟩ : Below w.heap.size w W ∧ B0 < W.heap.size ∧ W.cell? ⟨B0, 0, none⟩ = some (.int .i64 a) ∧ W.cell? ⟨B0, 1, none⟩ = some (.int .i64 b) := by
    subst hW; subst hB0
    exact ⟨(by repeat (first | exact Below.refl _ _ | (with_reducible assumption) | refine bel_alloc ?_ _ | refine bel_drew ?_ | refine bel_drewN ?_ _ | refine Below.setCell ?_ (by dsimp only; omega) _ | refine bel_trans (by assumption) ?_)), by simp, by simp [go_sem], by simp [go_sem]⟩
  clear hW
  (try rw [hB0])
  refine (toCurve_any _ _ _).mono ?_; rintro e w1 ⟨rfl, hb1⟩
  go_wp2_with fail
  refine (hsp _).mono ?_; rintro e w2 ⟨v, rfl, hb2, hv⟩
  replace hv := hv.rd.n
  replace hb2 := aft2 hb2 hb1; clear hb1
  have hd0 : w2.cell? ⟨B0, 0, none⟩ = some (.int .i64 a) := (hb2.cell (p := ⟨B0, 0, none⟩) hsz).trans hcA0
  have hd1 : w2.cell? ⟨B0, 1, none⟩ = some (.int .i64 b) := (hb2.cell (p := ⟨B0, 1, none⟩) hsz).trans hcA1
  go_wp2_with fail
  clear hd0 hd1
  refine (toCurve_any _ _ _).mono ?_; rintro e w3 ⟨rfl, hb3⟩
  replace hv := hv.keep hb3
  replace hb3 := aft2 hb3 hb2; clear hb2
  go_wp2_with fail
  refine (him _).mono ?_; rintro e w4 ⟨u, rfl, hb4, hu⟩
  have hBv2 := hv.1
  have hBW : W.heap.size ≤ w3.heap.size := hb3.size
  replace hv := hv.keep hb4
  replace hb4 := aft2 hb4 hb3; clear hb3
  go_wp2_with fail
  refine (eqIntS_same _ _ _ _ hu.rd hv.rd).mono ?_; rintro e w5 ⟨rfl, hb5⟩
  replace hu := hu.keep hb5
  replace hv := hv.keep hb5
  replace hb5 := aft2 hb5 hb4; clear hb4
  go_wp2_with fail
  have hbz : W.heap.size ≤ w5.heap.size := hb5.size
  have hvz := hv.1
  refine (markIntS_any _ _ 1 _ _ hu (by omega) (by omega) (by omega)).mono ?_; rintro e w6 ⟨rfl, hgr, hu6⟩
  have hb6 : Below W.heap.size w5 w6 := Marked.below hgr hu hBW hbz
  replace hv := hv.step (Marked.below hgr hu hBv2 hvz) (Nat.le_refl _)
  replace hb6 : Below W.heap.size W w6 := hb5.trans hb6; clear hgr hu hb5
  have hm := hu6.rd.n; clear hu6
  have hd0 : w6.cell? ⟨B0, 0, none⟩ = some (.int .i64 a) := (hb6.cell (p := ⟨B0, 0, none⟩) hsz).trans hcA0
  have hd1 : w6.cell? ⟨B0, 1, none⟩ = some (.int .i64 b) := (hb6.cell (p := ⟨B0, 1, none⟩) hsz).trans hcA1
  go_wp2_with fail
  refine (heldIntS_any _ _ 1 _ hm.rd (by omega) (by omega) (by omega)).mono ?_; rintro e w7 ⟨rfl, hb7⟩
  replace hv := hv.keep hb7
  replace hm := hm.keep hb7
  replace hb7 := aft2 hb7 hb6; clear hb6
  clear hd0 hd1
  have hd0 : w7.cell? ⟨B0, 0, none⟩ = some (.int .i64 a) := (hb7.cell (p := ⟨B0, 0, none⟩) hsz).trans hcA0
  have hd1 : w7.cell? ⟨B0, 1, none⟩ = some (.int .i64 b) := (hb7.cell (p := ⟨B0, 1, none⟩) hsz).trans hcA1
  go_wp2_with fail
  clear hd0 hd1
  refine (toCurve_any _ _ _).mono ?_; rintro e w8 ⟨rfl, hb8⟩
  replace hv := hv.keep hb8
  replace hm := hm.keep hb8
  replace hb8 := aft2 hb8 hb7; clear hb7
  go_wp2_with fail
  refine (him _).mono ?_; rintro e w9 ⟨u2, rfl, hb9, hu2⟩
  replace hv := hv.keep hb9
  replace hm := hm.keep hb9
  replace hb9 := aft2 hb9 hb8; clear hb8
  go_wp2_with fail
  refine (eqIntS_same _ _ _ _ hu2.rd hv.rd).mono ?_; rintro e w10 ⟨rfl, hb10⟩
  replace hm := hm.keep hb10
  replace hb10 := aft2 hb10 hb9; clear hb9
  go_wp2_with fail
  refine (heldIntS_any _ _ 1 _ hm.rd (by omega) (by omega) (by omega)).mono ?_; rintro e w11 ⟨rfl, hb11⟩
  replace hb11 := aft2 hb11 hb10; clear hb10
  go_wp2_with fail
  go_ret
  exact ret_mk (bel_trans hb11 hbelW)
end Go.Proofs.Ytfcjmbaepgmknaa.fnExactPrimesOfKind
