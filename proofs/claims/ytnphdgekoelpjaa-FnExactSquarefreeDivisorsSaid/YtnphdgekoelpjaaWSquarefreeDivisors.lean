/- The walk of FnExactSquarefreeDivisors. No conditions. -/
import Derived.Test.YtnphdgekoelpjaaSx
import Derived.Test.YtnphdgekoelpjaaMk
namespace Go.Proofs.Ytnphdgekoelpjaa.fnExactSquarefreeDivisors
open Go.RowKit
set_option maxHeartbeats 1000000 in
theorem walk (n : Int) (W : World) (_hn : I64 n) :
    Calls Try.prog 10 #[.int .i64 n] W (Ret (.bool true) W) := by
  obtain ⟨xs, hxs⟩ : ∃ xs, sdL n = xs := ⟨_, rfl⟩
  obtain ⟨ok, hok⟩ : ∃ ok, sdB n = ok := ⟨_, rfl⟩
  have hlen : xs.length ≤ 10000000000 := by rw [← hxs]; have := sdL_len n; omega
  have h64 : I64 (1 + (xs.length : Int)) := by unfold I64; omega
  have hsp := fun z => sSquarefreeDivisors_any n z
  have him := fun z => iSquarefreeDivisors_any n z
  rw [hxs, hok] at hsp him
  clear hxs hok
  go_enter Try.func10, Try.ntmps10
  go_wp2_with fail
  refine (hsp _).mono ?_; rintro e w2 ⟨v, rfl, hb2, hv⟩
  replace hv := hv.rd.n
  go_wp2_with fail
  refine (him _).mono ?_; rintro e w4 ⟨u, rfl, hb4, hu⟩
  have hBv2 := hv.1
  have hBW : W.heap.size ≤ w2.heap.size := hb2.size
  replace hv := hv.keep hb4
  replace hb4 := aft2 hb4 hb2; clear hb2
  go_wp2_with fail
  refine (eqIntS_same _ _ _ _ hu.rd hv.rd).mono ?_; rintro e w5 ⟨rfl, hb5⟩
  replace hu := hu.keep hb5
  replace hv := hv.keep hb5
  replace hb5 := aft2 hb5 hb4; clear hb4
  go_wp2_with fail
  have hbz : W.heap.size ≤ w5.heap.size := hb5.size
  have hvz := hv.1
  refine (markIntS_any _ _ 1 _ _ hu (by omega) (by omega) (by omega)).mono ?_; rintro e w6 ⟨rfl, hgr, hu6⟩
  have hb6 : Below W.heap.size w5 w6 := Marked.below hgr hu hBW hbz
  replace hv := hv.step (Marked.below hgr hu hBv2 hvz) (Nat.le_refl _)
  replace hb6 : Below W.heap.size W w6 := hb5.trans hb6; clear hgr hu hb5
  have hm := hu6.rd.n; clear hu6
  go_wp2_with fail
  refine (heldIntS_any _ _ 1 _ hm.rd (by omega) (by omega) (by omega)).mono ?_; rintro e w7 ⟨rfl, hb7⟩
  replace hv := hv.keep hb7
  replace hm := hm.keep hb7
  replace hb7 := aft2 hb7 hb6; clear hb6
  go_wp2_with fail
  refine (him _).mono ?_; rintro e w9 ⟨u2, rfl, hb9, hu2⟩
  replace hv := hv.keep hb9
  replace hm := hm.keep hb9
  replace hb9 := aft2 hb9 hb7; clear hb7
  go_wp2_with fail
  refine (eqIntS_same _ _ _ _ hu2.rd hv.rd).mono ?_; rintro e w10 ⟨rfl, hb10⟩
  replace hm := hm.keep hb10
  replace hb10 := aft2 hb10 hb9; clear hb9
  go_wp2_with fail
  refine (heldIntS_any _ _ 1 _ hm.rd (by omega) (by omega) (by omega)).mono ?_; rintro e w11 ⟨rfl, hb11⟩
  replace hb11 := aft2 hb11 hb10; clear hb10
  go_wp2_with fail
  go_ret
  exact ret_mk hb11
end Go.Proofs.Ytnphdgekoelpjaa.fnExactSquarefreeDivisors
