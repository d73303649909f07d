/- The walk of FnExactAreCollinear. No conditions. -/
import Derived.Test.YtnphdgekoelpjaaSv
namespace Go.Proofs.Ytnphdgekoelpjaa.fnExactAreCollinear
open Go.RowKit
set_option maxHeartbeats 4000000 in
theorem walk (a b x y e x2 y2 e2 x3 y3 e3 : Int) (w : World) (_ha : I64 a) (_hb : I64 b) (_hx : I64 x) (_hy : I64 y) (_he : I64 e) (_hx2 : I64 x2) (_hy2 : I64 y2) (_he2 : I64 e2) (_hx3 : I64 x3) (_hy3 : I64 y3) (_he3 : I64 e3) :
    Calls Try.prog 5 #[.agg #[.int .i64 a, .int .i64 b], .agg #[.int .i64 x, .int .i64 y, .int .i64 e], .agg #[.int .i64 x2, .int .i64 y2, .int .i64 e2], .agg #[.int .i64 x3, .int .i64 y3, .int .i64 e3]] w (Ret (.bool true) w) := by
  obtain ⟨n1, ok, hval⟩ := colV_shape a b x y e x2 y2 e2 x3 y3 e3
  have hsp := fun z => sAreCollinear_any a b x y e x2 y2 e2 x3 y3 e3 z
  have him := fun z => iAreCollinear_any a b x y e x2 y2 e2 x3 y3 e3 z
  rw [hval] at hsp him
  clear hval
  go_enter Try.func5, Try.ntmps5
  go_wp2_with fail
  refine wp_region_grow (by kernel_rfl) (by kernel_rfl) ?_
  repeat (go_big_quiet_step (((first | (go_at_call 16; exact grow_ret (toCurve_any _ _ _)) | (go_at_call 17; exact grow_ret (toPoint_any _ _ _ _)) | (go_at_call 22; exact grow_ret (hsp _)) | (go_at_call 23; exact grow_ret (him _))))))
  refine wpQuiet_nil ?_
  rintro wg hbg
  (try replace hbg := aft2 hbg (by assumption))
  obtain ⟨hcg, hfg, hg1, hg2, hg3, hg4⟩ := aftz hbg
  go_wp2_with fail
  refine wp_region_grow (by kernel_rfl) (by kernel_rfl) ?_
  repeat (go_big_quiet_step (((first | (go_at_call 16; exact grow_ret (toCurve_any _ _ _)) | (go_at_call 17; exact grow_ret (toPoint_any _ _ _ _)) | (go_at_call 22; exact grow_ret (hsp _)) | (go_at_call 23; exact grow_ret (him _))))))
  refine wpQuiet_nil ?_
  rintro wg hbg
  (try replace hbg := aft2 hbg (by assumption))
  obtain ⟨hcg, hfg, hg1, hg2, hg3, hg4⟩ := aftz hbg
  go_wp2_with fail
  go_ret
  exact ret_mk (by repeat (first | exact Below.refl _ _ | (with_reducible assumption) | refine bel_alloc ?_ _ | refine bel_drew ?_ | refine bel_drewN ?_ _ | refine Below.setCell ?_ (by dsimp only; omega) _ | refine bel_trans (by assumption) ?_))
end Go.Proofs.Ytnphdgekoelpjaa.fnExactAreCollinear
