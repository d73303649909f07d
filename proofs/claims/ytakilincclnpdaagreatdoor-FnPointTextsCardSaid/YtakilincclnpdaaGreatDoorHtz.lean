/- Ht: contracts: the height of a point. No conditions. -/
import Derived.Test.YtakilincclnpdaaGreatDoorPXz
namespace Go.Proofs.YtakilincclnpdaaGreatDoor
open Go.RowKit
def heightI (x e : Int) : Int := max (max (x.natAbs : Int) (e * e)) 1
theorem pointB_bd {a b x y e : Int} (h : pointB a b x y e = true) : -10000 ≤ x ∧ x ≤ 10000 ∧ 0 ≤ e ∧ e ≤ 20 ∧ -1800000 ≤ y ∧ y ≤ 1800000 ∧ curveB a b = true ∧ onB a b x y e = true := by
  unfold pointB at h
  rw [Bool.and_eq_true] at h
  obtain ⟨h1, h2, h3, h4, _⟩ := curveB_true.1 h.1
  rcases onB_true.1 h.2 with ⟨rfl, rfl, rfl⟩ | ⟨k1, k2, k3, k4, k5, k6⟩
  · exact ⟨by omega, by omega, by omega, by omega, by omega, by omega, h.1, h.2⟩
  · have := y_small h1 h2 h3 h4 k1 k2 k3 k4 k6
    exact ⟨k1, k2, by omega, k4, this.1, this.2, h.1, h.2⟩
theorem ptHeight_any (x y e : Int) (w : World) (h1 : -10000 ≤ x) (h2 : x ≤ 10000) (h3 : 0 ≤ e) (h4 : e ≤ 20) (h0 : e = 0 → x = 0) :
    Calls Tryz.prog 89 #[.agg #[.int .i64 x, .int .i64 y, .int .i64 e]] w (Ret (.int .i64 (heightI x e)) w) := by
  by_cases he : e = 0
  · have hx := h0 he
    subst he; subst hx
    clear h0
    go_enter Tryz.func89, Tryz.ntmps89
    go_wp2_with fail
    go_ret
    exact ret_eq (by rw [show heightI 0 0 = 1 by decide]; rfl) (by repeat (first | exact Below.refl _ _ | (with_reducible assumption) | refine bel_alloc ?_ _ | refine bel_drew ?_ | refine bel_drewN ?_ _ | refine Below.setCell ?_ (by dsimp only; omega) _ | refine bel_trans (by assumption) ?_))
  · have heb : (e == 0) = false := by simp [he]
    have ee := mul_bd (a := e) (b := e) (A := 20) (B := 20) (by omega) (by omega) (by omega) (by omega)
    have ee1 : 1 * 1 ≤ e * e := Int.mul_le_mul (by omega) (by omega) (by omega) (by omega)
    have hm : max (x.natAbs : Int) (e * e) = heightI x e := by unfold heightI; omega
    have HM := Lib.hid hm; clear hm h0 he
    go_enter Tryz.func89, Tryz.ntmps89
    go_wp2_with fail
    refine wp_region_grow (by kernel_rfl) (by kernel_rfl) ?_
    repeat (go_big_quiet_step (((first | (go_at_call 123; exact grow_same (l1Abs_any _ _ (by omega) (by omega))) | (go_at_call 81; exact grow_same (l1Most_any _ _ _))))))
    refine wpQuiet_nil ?_
    rintro wg hbg
    (try replace hbg := aft2 hbg (by assumption))
    obtain ⟨hcg, hfg, hg1, hg2, hg3, hg4⟩ := aftz hbg
    go_wp2_with fail
    go_ret
    exact ret_eq (by rw [← HM.out]; rfl) (by repeat (first | exact Below.refl _ _ | (with_reducible assumption) | refine bel_alloc ?_ _ | refine bel_drew ?_ | refine bel_drewN ?_ _ | refine Below.setCell ?_ (by dsimp only; omega) _ | refine bel_trans (by assumption) ?_))
theorem sPointHeight_any (a b x y e : Int) (w : World) :
    Calls Tryz.prog 36 #[.agg #[.int .i64 a, .int .i64 b], .agg #[.int .i64 x, .int .i64 y, .int .i64 e]] w (Ret (bif pointB a b x y e then .tuple #[.int .i64 (heightI x e), .bool true] else .tuple #[.int .i64 0, .bool false]) w) := by
  cases hp : pointB a b x y e
  · go_enter Tryz.func36, Tryz.ntmps36
    go_wp2_with (go_at_call 87; refine (sIsPointOf_any _ _ _ _ _ _).mono ?_; rintro e w' ⟨rfl, hb⟩; (try replace hb := aft2 hb (by assumption)); obtain ⟨hc, hf⟩ := aft hb)
    go_returns
    exact ret_mk (by repeat (first | exact Below.refl _ _ | (with_reducible assumption) | refine bel_alloc ?_ _ | refine bel_drew ?_ | refine bel_drewN ?_ _ | refine Below.setCell ?_ (by dsimp only; omega) _ | refine bel_trans (by assumption) ?_))
  · obtain ⟨h1, h2, h3, h4, _, _, _, hon⟩ := pointB_bd hp
    have h0 : e = 0 → x = 0 := by rcases onB_true.1 hon with h | h <;> omega
    clear hon
    go_enter Tryz.func36, Tryz.ntmps36
    go_wp2_with (first | (go_at_call 87; refine (sIsPointOf_any _ _ _ _ _ _).mono ?_; rintro e w' ⟨rfl, hb⟩; (try replace hb := aft2 hb (by assumption)); obtain ⟨hc, hf, hs1, hs2, hs3, hs4⟩ := aftz hb) | (go_at_call 89; refine (ptHeight_any _ _ _ _ h1 h2 h3 h4 h0).mono ?_; rintro e w' ⟨rfl, hb⟩; (try replace hb := aft2 hb (by assumption)); obtain ⟨hc, hf⟩ := aft hb))
    go_returns
    exact ret_mk (by repeat (first | exact Below.refl _ _ | (with_reducible assumption) | refine bel_alloc ?_ _ | refine bel_drew ?_ | refine bel_drewN ?_ _ | refine Below.setCell ?_ (by dsimp only; omega) _ | refine bel_trans (by assumption) ?_))
theorem iPointHeight_any (a b x y e : Int) (w : World) :
    Calls Tryz.prog 35 #[.agg #[.int .i64 a, .int .i64 b], .agg #[.int .i64 x, .int .i64 y, .int .i64 e]] w (Ret (bif pointB a b x y e then .tuple #[.int .i64 (heightI x e), .bool true] else .tuple #[.int .i64 0, .bool false]) w) := by
  cases hp : pointB a b x y e
  · go_enter Tryz.func35, Tryz.ntmps35
    go_wp2_with (go_at_call 85; refine (isPoint_any _ _ _ _ _ _).mono ?_; rintro e w' ⟨rfl, hb⟩; (try replace hb := aft2 hb (by assumption)); obtain ⟨hc, hf⟩ := aft hb)
    go_returns
    exact ret_mk (by repeat (first | exact Below.refl _ _ | (with_reducible assumption) | refine bel_alloc ?_ _ | refine bel_drew ?_ | refine bel_drewN ?_ _ | refine Below.setCell ?_ (by dsimp only; omega) _ | refine bel_trans (by assumption) ?_))
  · obtain ⟨h1, h2, h3, h4, _, _, _, hon⟩ := pointB_bd hp
    clear hon
    have ee := mul_bd (a := e) (b := e) (A := 20) (B := 20) (by omega) (by omega) (by omega) (by omega)
    go_enter Tryz.func35, Tryz.ntmps35
    have hm : max x (max (-x) (max (e * e) 1)) = heightI x e := by unfold heightI; omega
    have HM := Lib.hid hm; clear hm
    go_wp2_with (go_at_call 85; refine (isPoint_any _ _ _ _ _ _).mono ?_; rintro e w' ⟨rfl, hb⟩; (try replace hb := aft2 hb (by assumption)); obtain ⟨hc, hf, hs1, hs2, hs3, hs4⟩ := aftz hb)
    go_returns
    exact ret_eq (by rw [← HM.out]; rfl) (by repeat (first | exact Below.refl _ _ | (with_reducible assumption) | refine bel_alloc ?_ _ | refine bel_drew ?_ | refine bel_drewN ?_ _ | refine Below.setCell ?_ (by dsimp only; omega) _ | refine bel_trans (by assumption) ?_))
end Go.Proofs.YtakilincclnpdaaGreatDoor
