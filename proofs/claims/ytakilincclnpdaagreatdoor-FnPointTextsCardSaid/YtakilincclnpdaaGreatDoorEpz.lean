/- Ep: contract: spec.ecPart: a fraction in lowest terms. No conditions. -/
import Derived.Test.YtakilincclnpdaaGreatDoorPHz
namespace Go.Proofs.YtakilincclnpdaaGreatDoor
open Go.RowKit

theorem ecPart_any (n d : Int) (w : World) (n0 : -1000000000000000000 ≤ n) (n1 : n ≤ 1000000000000000000) (d0 : -1000000000000000000 ≤ d) (d1 : d ≤ 1000000000000000000) (hd : d ≠ 0) :
    Calls Tryz.prog 158 #[.int .i64 n, .int .i64 d] w (Ret (.tuple #[.int .i64 (lowN n d), .int .i64 (lowD n d)]) w) := by
  obtain ⟨G, hG⟩ : ∃ G, gcdI n d = G := ⟨_, rfl⟩
  have hgb := gcdI_bd (n := n) hd
  rw [hG] at hgb
  obtain ⟨g, hg⟩ : ∃ g, sgcd n d = g := ⟨_, rfl⟩
  have hgne := sgcd_ne (n := n) hd
  rw [hg] at hgne
  have hgg : g = if d < 0 then -G else G := by rw [← hg, ← hG]; rfl
  have hv1 : lowN n d = n.tdiv g := by unfold lowN; rw [hg]
  have hv2 : lowD n d = d.tdiv g := by unfold lowD; rw [hg]
  have b1 := tdiv_bd (g := g) n0 n1
  have b2 := tdiv_bd (g := g) d0 d1
  have w1 : IntKind.i64.wrap (n.tdiv g) = n.tdiv g := wrapf (by omega) (by omega)
  have w2 : IntKind.i64.wrap (d.tdiv g) = d.tdiv g := wrapf (by omega) (by omega)
  rw [hv1, hv2]; clear hv1 hv2 hg
  have hgb0 : (g == 0) = false := by simp [hgne]
  have hgn0 : ¬ g = 0 := hgne
  have HG := Lib.hid hG; clear hG
  by_cases hneg : d < 0
  all_goals
    first | rw [if_pos hneg] at hgg | rw [if_neg hneg] at hgg
    have HGG := Lib.hid hgg; clear hgg
    go_enter Tryz.func158, Tryz.ntmps158
    go_wp2_with (go_at_call 123; refine (l1Abs_any _ _ (by omega) (by omega)).mono ?_; rintro e w' ⟨rfl, rfl⟩)
    refine (bgCommon_any _ _ _ (by omega) (by omega) (by omega) (by omega)).mono ?_; rintro e W ⟨rfl, hb1⟩
    rw [gcdI_natAbs, HG.out]
    go_wp2_with fail
    rw [← HGG.out]
    refine wp_region_grow (by kernel_rfl) (by kernel_rfl) ?_
    repeat (go_big_quiet_step ((fail)))
    refine wpQuiet_nil ?_
    rintro wg hbg
    (try replace hbg := aft2 hbg (by assumption))
    obtain ⟨hcg, hfg, hg1, hg2, hg3, hg4⟩ := aftz hbg
    go_wp2_with fail
    go_returns
    exact ret_eq rfl (by repeat (first | exact Below.refl _ _ | (with_reducible assumption) | refine bel_alloc ?_ _ | refine bel_drew ?_ | refine bel_drewN ?_ _ | refine Below.setCell ?_ (by dsimp only; omega) _ | refine bel_trans (by assumption) ?_))
end Go.Proofs.YtakilincclnpdaaGreatDoor
