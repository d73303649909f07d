/- The walk of FnExactPointText: where the table of powers of ten lies as the text lays it. -/
import Derived.Test.YtgcoodfjdcfnpaaDoorPq
import Derived.Test.YtgcoodfjdcfnpaaDoorHt
namespace Go.Proofs.YtgcoodfjdcfnpaaDoor.fnExactPointText
open Go.RowKit
set_option maxHeartbeats 2000000 in
theorem walk (a b x y e : Int) (w : World) (_ha : I64 a) (_hb : I64 b) (_hx : I64 x) (_hy : I64 y) (_he : I64 e) (ht : PowT w) :
    Calls Tryd.prog 3 #[.agg #[.int .i64 a, .int .i64 b], .agg #[.int .i64 x, .int .i64 y, .int .i64 e]] w (Ret (.bool true) w) := by
  have hs := fun w => sPointText_any a b x y e w
  have hi : ∀ z, Below w.heap.size w z → Calls Tryd.prog 7 #[.agg #[.int .i64 a, .int .i64 b], .agg #[.int .i64 x, .int .i64 y, .int .i64 e]] z (Ret (ptV a b x y e) z) := fun z h => iPointText_any a b x y e z (ht.keep h)
  obtain ⟨s, ok, hv⟩ : ∃ s ok, ptV a b x y e = .tuple #[.string s, .bool ok] := by
    unfold ptV
    split
    · exact ⟨_, _, rfl⟩
    · exact ⟨_, _, rfl⟩
  rw [hv] at hs
  simp only [hv] at hi
  clear hv
  have HI := Lib.hid hi; have HS := Lib.hid hs; clear hi hs
  go_enter Tryd.func3, Tryd.ntmps3
  go_wp2_with fail
  refine wp_region_grow (by kernel_rfl) (by kernel_rfl) ?_
  repeat (go_big_quiet_step (((first | (go_at_call 5; exact grow_ret (toCurve_any _ _ _)) | (go_at_call 6; exact grow_ret (toPoint_any _ _ _ _)) | (go_at_call 4; exact grow_ret (HS.out _))))))
  refine wpQuiet_nil ?_
  rintro wg hbg
  (try replace hbg := aft2 hbg (by assumption))
  obtain ⟨hcg, hfg, hg1, hg2, hg3, hg4⟩ := aftz hbg
  have hbw : Below w.heap.size w wg := (by repeat (first | exact Below.refl _ _ | (with_reducible assumption) | refine bel_alloc ?_ _ | refine bel_drew ?_ | refine bel_drewN ?_ _ | refine Below.setCell ?_ (by dsimp only; omega) _ | refine bel_trans (by assumption) ?_))
  have hi2 : ∀ g : Grow wg, Calls Tryd.prog 7 #[.agg #[.int .i64 a, .int .i64 b], .agg #[.int .i64 x, .int .i64 y, .int .i64 e]] g.wd (Ret (.tuple #[.string s, .bool ok]) g.wd) := fun g => HI.out g.wd (bel_trans g.2 hbw)
  have HI2 := Lib.hid hi2; clear hi2
  have HBW := Lib.hid hbw; clear hbw
  go_wp2_with fail
  refine wp_region_grow (by kernel_rfl) (by kernel_rfl) ?_
  repeat (go_big_quiet_step (((first | (go_at_call 5; exact grow_ret (toCurve_any _ _ _)) | (go_at_call 6; exact grow_ret (toPoint_any _ _ _ _)) | (go_at_call 7; exact grow_ret (HI2.out _))))))
  refine wpQuiet_nil ?_
  rintro wg hbg
  (try replace hbg := aft2 hbg (by assumption))
  obtain ⟨hcg, hfg, hg1, hg2, hg3, hg4⟩ := aftz hbg
  go_wp2_with fail
  go_ret
  exact ret_mk (by repeat (first | exact Below.refl _ _ | (with_reducible assumption) | refine bel_alloc ?_ _ | refine bel_drew ?_ | refine bel_drewN ?_ _ | refine Below.setCell ?_ (by dsimp only; omega) _ | refine bel_trans (by assumption) ?_))
end Go.Proofs.YtgcoodfjdcfnpaaDoor.fnExactPointText
