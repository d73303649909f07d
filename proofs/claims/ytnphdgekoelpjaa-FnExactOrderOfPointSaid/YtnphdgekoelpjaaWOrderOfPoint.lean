/- The walk of FnExactOrderOfPoint. No conditions. -/
import Derived.Test.YtnphdgekoelpjaaSv
namespace Go.Proofs.Ytnphdgekoelpjaa.fnExactOrderOfPoint
open Go.RowKit
set_option maxHeartbeats 4000000 in
theorem walk (a b x y e : Int) (w : World) (_ha : I64 a) (_hb : I64 b) (_hx : I64 x) (_hy : I64 y) (_he : I64 e) :
    Calls Try.prog 6 #[.agg #[.int .i64 a, .int .i64 b], .agg #[.int .i64 x, .int .i64 y, .int .i64 e]] w (Ret (.bool true) w) := by
  obtain ⟨n1, ok, hval⟩ := ordW_shape (ordP a b x y e)
  have hsp := fun z => sOrderOfPoint_any a b x y e z
  have him := fun z => iOrderOfPoint_any a b x y e z
  rw [hval] at hsp him
  clear hval
  go_enter Try.func6, Try.ntmps6
  go_wp2_with fail
  refine wp_region_grow (by kernel_rfl) (by kernel_rfl) ?_
  repeat (go_big_quiet_step (((first | (go_at_call 16; exact grow_ret (toCurve_any _ _ _)) | (go_at_call 17; exact grow_ret (toPoint_any _ _ _ _)) | (go_at_call 24; exact grow_ret (hsp _)) | (go_at_call 25; exact grow_ret (him _))))))
  refine wpQuiet_nil ?_
  rintro wg hbg
  (try replace hbg := aft2 hbg (by assumption))
  obtain ⟨hcg, hfg, hg1, hg2, hg3, hg4⟩ := aftz hbg
  go_wp2_with fail
  refine wp_region_grow (by kernel_rfl) (by kernel_rfl) ?_
  repeat (go_big_quiet_step (((first | (go_at_call 16; exact grow_ret (toCurve_any _ _ _)) | (go_at_call 17; exact grow_ret (toPoint_any _ _ _ _)) | (go_at_call 24; exact grow_ret (hsp _)) | (go_at_call 25; exact grow_ret (him _))))))
  refine wpQuiet_nil ?_
  rintro wg hbg
  (try replace hbg := aft2 hbg (by assumption))
  obtain ⟨hcg, hfg, hg1, hg2, hg3, hg4⟩ := aftz hbg
  go_wp2_with fail
  go_ret
  exact ret_mk (by repeat (first | exact Below.refl _ _ | (with_reducible assumption) | refine bel_alloc ?_ _ | refine bel_drew ?_ | refine bel_drewN ?_ _ | refine Below.setCell ?_ (by dsimp only; omega) _ | refine bel_trans (by assumption) ?_))
end Go.Proofs.Ytnphdgekoelpjaa.fnExactOrderOfPoint
