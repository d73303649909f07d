/- So: contracts: the slope of a line through two points. No conditions. -/
import Derived.Test.YtnhlcgbknkdbiaaMf
import Derived.Test.YtnhlcgbknkdbiaaHt
import Derived.Test.YtnhlcgbknkdbiaaEp
namespace Go.Proofs.Ytnhlcgbknkdbiaa
open Go.RowKit

def upI (a x y e x2 y2 e2 : Int) : Int := if x = x2 ∧ y = y2 ∧ e = e2 then 3 * x * x + a * e * e * e * e else y2 * e * e * e - y * e2 * e2 * e2
def farI (x y e x2 y2 e2 : Int) : Int := if x = x2 ∧ y = y2 ∧ e = e2 then 2 * y * e else e * e2 * (x2 * e * e - x * e2 * e2)
def PtBd (x y e : Int) : Prop := -10000 ≤ x ∧ x ≤ 10000 ∧ -1800000 ≤ y ∧ y ≤ 1800000 ∧ 0 ≤ e ∧ e ≤ 20
theorem PtBd.of {a b x y e : Int} (h : pointB a b x y e = true) : PtBd x y e := by
  obtain ⟨h1, h2, h3, h4, h5, h6, _, _⟩ := pointB_bd h
  exact ⟨h1, h2, h5, h6, h3, h4⟩
theorem up_bd {a x y e x2 y2 e2 : Int} (h1 : -1000 ≤ a) (h2 : a ≤ 1000) (hp : PtBd x y e) (hq : PtBd x2 y2 e2) : -1000000000000000000 ≤ upI a x y e x2 y2 e2 ∧ upI a x y e x2 y2 e2 ≤ 1000000000000000000 ∧ -1000000000000000000 ≤ farI x y e x2 y2 e2 ∧ farI x y e x2 y2 e2 ≤ 1000000000000000000 := by
  obtain ⟨a1, a2, a3, a4, a5, a6⟩ := hp
  obtain ⟨b1, b2, b3, b4, b5, b6⟩ := hq
  have q1 := mul_bd (a := y2) (b := e) (A := 1800000) (B := 20) (by omega) (by omega) (by omega) (by omega)
  have q2 := mul_bd (b := e) (B := 20) q1.1 q1.2 (by omega) (by omega)
  have q3 := mul_bd (b := e) (B := 20) q2.1 q2.2 (by omega) (by omega)
  have r1 := mul_bd (a := y) (b := e2) (A := 1800000) (B := 20) (by omega) (by omega) (by omega) (by omega)
  have r2 := mul_bd (b := e2) (B := 20) r1.1 r1.2 (by omega) (by omega)
  have r3 := mul_bd (b := e2) (B := 20) r2.1 r2.2 (by omega) (by omega)
  have t1 := mul_bd (a := e) (b := e2) (A := 20) (B := 20) (by omega) (by omega) (by omega) (by omega)
  have s1 := mul_bd (a := x2) (b := e) (A := 10000) (B := 20) (by omega) (by omega) (by omega) (by omega)
  have s2 := mul_bd (b := e) (B := 20) s1.1 s1.2 (by omega) (by omega)
  have u1 := mul_bd (a := x) (b := e2) (A := 10000) (B := 20) (by omega) (by omega) (by omega) (by omega)
  have u2 := mul_bd (b := e2) (B := 20) u1.1 u1.2 (by omega) (by omega)
  have v1 := mul_bd (a := e * e2) (b := x2 * e * e - x * e2 * e2) (A := 400) (B := 8000000) (by omega) (by omega) (by omega) (by omega)
  have z1 := mul_bd (a := 3 * x) (b := x) (A := 30000) (B := 10000) (by omega) (by omega) (by omega) (by omega)
  have z2 := mul_bd (a := a) (b := e) (A := 1000) (B := 20) (by omega) (by omega) (by omega) (by omega)
  have z3 := mul_bd (b := e) (B := 20) z2.1 z2.2 (by omega) (by omega)
  have z4 := mul_bd (b := e) (B := 20) z3.1 z3.2 (by omega) (by omega)
  have z5 := mul_bd (b := e) (B := 20) z4.1 z4.2 (by omega) (by omega)
  have z6 := mul_bd (a := 2 * y) (b := e) (A := 3600000) (B := 20) (by omega) (by omega) (by omega) (by omega)
  unfold upI farI
  split <;> omega
theorem up_same (a x y e : Int) : upI a x y e x y e = 3 * x * x + a * e * e * e * e ∧ farI x y e x y e = 2 * y * e := by
  unfold upI farI; rw [if_pos ⟨rfl, rfl, rfl⟩, if_pos ⟨rfl, rfl, rfl⟩]; exact ⟨rfl, rfl⟩
theorem up_diff {a x y e x2 y2 e2 : Int} (h : ¬ (x = x2 ∧ y = y2 ∧ e = e2)) : upI a x y e x2 y2 e2 = y2 * e * e * e - y * e2 * e2 * e2 ∧ farI x y e x2 y2 e2 = e * e2 * (x2 * e * e - x * e2 * e2) := by
  unfold upI farI; rw [if_neg h, if_neg h]; exact ⟨rfl, rfl⟩
theorem ptEq_no {x y e x2 y2 e2 : Int} (h : ¬ (x = x2 ∧ y = y2 ∧ e = e2)) (w : World) : (binOp .eql 41 (.agg #[.int .i64 x, .int .i64 y, .int .i64 e]) (.agg #[.int .i64 x2, .int .i64 y2, .int .i64 e2])).run Try.prog w = .ok (.bool false) w := by
  have e1 : (binOp .eql 41 (.agg #[.int .i64 x, .int .i64 y, .int .i64 e]) (.agg #[.int .i64 x2, .int .i64 y2, .int .i64 e2])).run Try.prog w = .ok (.bool (decide (x = x2 ∧ y = y2 ∧ e = e2))) w := by
    simp [go_sem]
    by_cases h1 : x = x2 <;> by_cases h2 : y = y2 <;> by_cases h3 : e = e2 <;> simp [h1, h2, h3]
  rw [e1, decide_eq_false h]
set_option maxHeartbeats 2000000 in
theorem slope_any (a b x y e x2 y2 e2 : Int) (w : World) (h1 : -1000 ≤ a) (h2 : a ≤ 1000) (hp : PtBd x y e) (hq : PtBd x2 y2 e2) :
    Calls Try.prog 65 #[.agg #[.int .i64 a, .int .i64 b], .agg #[.int .i64 x, .int .i64 y, .int .i64 e], .agg #[.int .i64 x2, .int .i64 y2, .int .i64 e2]] w (Ret (.tuple #[.int .i64 (upI a x y e x2 y2 e2), .int .i64 (farI x y e x2 y2 e2)]) w) := by
  obtain ⟨a1, a2, a3, a4, a5, a6⟩ := hp
  obtain ⟨b1, b2, b3, b4, b5, b6⟩ := hq
  by_cases hs : x = x2 ∧ y = y2 ∧ e = e2
  · obtain ⟨rfl, rfl, rfl⟩ := hs
    rw [(up_same a x y e).1, (up_same a x y e).2]
    have q1 := mul_bd (a := 3 * x) (b := x) (A := 30000) (B := 10000) (by omega) (by omega) (by omega) (by omega)
    have r1 := mul_bd (a := a) (b := e) (A := 1000) (B := 20) (by omega) (by omega) (by omega) (by omega)
    have r2 := mul_bd (b := e) (B := 20) r1.1 r1.2 (by omega) (by omega)
    have r3 := mul_bd (b := e) (B := 20) r2.1 r2.2 (by omega) (by omega)
    have r4 := mul_bd (b := e) (B := 20) r3.1 r3.2 (by omega) (by omega)
    have t1 := mul_bd (a := 2 * y) (b := e) (A := 3600000) (B := 20) (by omega) (by omega) (by omega) (by omega)
    go_enter Try.func65, Try.ntmps65
    go_wp2_with fail
    refine wp_region_grow (by kernel_rfl) (by kernel_rfl) ?_
    repeat (go_big_quiet_step ((fail)))
    refine wpQuiet_nil ?_
    rintro wg hbg
    (try replace hbg := aft2 hbg (by assumption))
    obtain ⟨hcg, hfg, hg1, hg2, hg3, hg4⟩ := aftz hbg
    go_wp2_with fail
    go_returns
    exact ret_eq rfl (by repeat (first | exact Below.refl _ _ | (with_reducible assumption) | refine bel_alloc ?_ _ | refine bel_drew ?_ | refine bel_drewN ?_ _ | refine Below.setCell ?_ (by dsimp only; omega) _ | refine bel_trans (by assumption) ?_))
  · have hsb := ptEq_no hs
    rw [(up_diff hs).1, (up_diff (a := a) hs).2]
    clear hs
    have q1 := mul_bd (a := y2) (b := e) (A := 1800000) (B := 20) (by omega) (by omega) (by omega) (by omega)
    have q2 := mul_bd (b := e) (B := 20) q1.1 q1.2 (by omega) (by omega)
    have q3 := mul_bd (b := e) (B := 20) q2.1 q2.2 (by omega) (by omega)
    have r1 := mul_bd (a := y) (b := e2) (A := 1800000) (B := 20) (by omega) (by omega) (by omega) (by omega)
    have r2 := mul_bd (b := e2) (B := 20) r1.1 r1.2 (by omega) (by omega)
    have r3 := mul_bd (b := e2) (B := 20) r2.1 r2.2 (by omega) (by omega)
    have t1 := mul_bd (a := e) (b := e2) (A := 20) (B := 20) (by omega) (by omega) (by omega) (by omega)
    have s1 := mul_bd (a := x2) (b := e) (A := 10000) (B := 20) (by omega) (by omega) (by omega) (by omega)
    have s2 := mul_bd (b := e) (B := 20) s1.1 s1.2 (by omega) (by omega)
    have u1 := mul_bd (a := x) (b := e2) (A := 10000) (B := 20) (by omega) (by omega) (by omega) (by omega)
    have u2 := mul_bd (b := e2) (B := 20) u1.1 u1.2 (by omega) (by omega)
    have v1 := mul_bd (a := e * e2) (b := x2 * e * e - x * e2 * e2) (A := 400) (B := 8000000) (by omega) (by omega) (by omega) (by omega)
    go_enter Try.func65, Try.ntmps65
    go_wp2_with fail
    go_returns
    exact ret_eq rfl (by repeat (first | exact Below.refl _ _ | (with_reducible assumption) | refine bel_alloc ?_ _ | refine bel_drew ?_ | refine bel_drewN ?_ _ | refine Below.setCell ?_ (by dsimp only; omega) _ | refine bel_trans (by assumption) ?_))
set_option maxHeartbeats 2000000 in
theorem ptSlope_any (a b x y e x2 y2 e2 : Int) (w : World) (h1 : -1000 ≤ a) (h2 : a ≤ 1000) (hp : PtBd x y e) (hq : PtBd x2 y2 e2) :
    Calls Try.prog 67 #[.agg #[.int .i64 a, .int .i64 b], .agg #[.int .i64 x, .int .i64 y, .int .i64 e], .agg #[.int .i64 x2, .int .i64 y2, .int .i64 e2]] w
      (Ret (if farI x y e x2 y2 e2 = 0 then .tuple #[.int .i64 1, .int .i64 0] else .tuple #[.int .i64 (lowN (upI a x y e x2 y2 e2) (farI x y e x2 y2 e2)), .int .i64 (lowD (upI a x y e x2 y2 e2) (farI x y e x2 y2 e2))]) w) := by
  obtain ⟨m1, m2, m3, m4⟩ := up_bd h1 h2 hp hq
  obtain ⟨a1, a2, a3, a4, a5, a6⟩ := hp
  obtain ⟨b1, b2, b3, b4, b5, b6⟩ := hq
  obtain ⟨far, hfar⟩ : ∃ far, farI x y e x2 y2 e2 = far := ⟨_, rfl⟩
  obtain ⟨up, hup⟩ : ∃ up, upI a x y e x2 y2 e2 = up := ⟨_, rfl⟩
  rw [hfar] at m3 m4 ⊢
  rw [hup] at m1 m2 ⊢
  have q1 := mul_bd (a := y2) (b := e) (A := 1800000) (B := 20) (by omega) (by omega) (by omega) (by omega)
  have q2 := mul_bd (b := e) (B := 20) q1.1 q1.2 (by omega) (by omega)
  have q3 := mul_bd (b := e) (B := 20) q2.1 q2.2 (by omega) (by omega)
  have r1 := mul_bd (a := y) (b := e2) (A := 1800000) (B := 20) (by omega) (by omega) (by omega) (by omega)
  have r2 := mul_bd (b := e2) (B := 20) r1.1 r1.2 (by omega) (by omega)
  have r3 := mul_bd (b := e2) (B := 20) r2.1 r2.2 (by omega) (by omega)
  have t1 := mul_bd (a := e) (b := e2) (A := 20) (B := 20) (by omega) (by omega) (by omega) (by omega)
  have s1 := mul_bd (a := x2) (b := e) (A := 10000) (B := 20) (by omega) (by omega) (by omega) (by omega)
  have s2 := mul_bd (b := e) (B := 20) s1.1 s1.2 (by omega) (by omega)
  have u1 := mul_bd (a := x) (b := e2) (A := 10000) (B := 20) (by omega) (by omega) (by omega) (by omega)
  have u2 := mul_bd (b := e2) (B := 20) u1.1 u1.2 (by omega) (by omega)
  have v1 := mul_bd (a := e * e2) (b := x2 * e * e - x * e2 * e2) (A := 400) (B := 8000000) (by omega) (by omega) (by omega) (by omega)
  by_cases hs : x = x2 ∧ y = y2 ∧ e = e2
  · obtain ⟨rfl, rfl, rfl⟩ := hs
    rw [(up_same a x y e).2] at hfar
    rw [(up_same a x y e).1] at hup
    have z1 := mul_bd (a := 3 * x) (b := x) (A := 30000) (B := 10000) (by omega) (by omega) (by omega) (by omega)
    have z2 := mul_bd (a := a) (b := e) (A := 1000) (B := 20) (by omega) (by omega) (by omega) (by omega)
    have z3 := mul_bd (b := e) (B := 20) z2.1 z2.2 (by omega) (by omega)
    have z4 := mul_bd (b := e) (B := 20) z3.1 z3.2 (by omega) (by omega)
    have z5 := mul_bd (b := e) (B := 20) z4.1 z4.2 (by omega) (by omega)
    have z6 := mul_bd (a := 2 * y) (b := e) (A := 3600000) (B := 20) (by omega) (by omega) (by omega) (by omega)
    have HF := Lib.hid hfar; clear hfar
    have HU := Lib.hid hup; clear hup
    by_cases hz : far = 0
    · subst hz
      have hz0 := HF.out
      rw [if_pos rfl]
      go_enter Try.func67, Try.ntmps67
      go_wp2_with fail
      go_returns
      exact ret_eq rfl (by repeat (first | exact Below.refl _ _ | (with_reducible assumption) | refine bel_alloc ?_ _ | refine bel_drew ?_ | refine bel_drewN ?_ _ | refine Below.setCell ?_ (by dsimp only; omega) _ | refine bel_trans (by assumption) ?_))
    · rw [if_neg hz]
      have hzx : (2 * y * e == 0) = false := by rw [HF.out]; simp [hz]
      have hec : ∀ w, Calls Try.prog 93 #[.int .i64 (3 * x * x + a * e * e * e * e), .int .i64 (2 * y * e)] w (Ret (.tuple #[.int .i64 (lowN up far), .int .i64 (lowD up far)]) w) := fun w => by rw [HU.out, HF.out]; exact ecPart_any up far w m1 m2 m3 m4 hz
      go_enter Try.func67, Try.ntmps67
      go_wp2_with (go_at_call 93; refine (hec _).mono ?_; rintro e w' ⟨rfl, hb⟩; (try replace hb := aft2 hb (by assumption)); obtain ⟨hc, hf⟩ := aft hb)
      go_returns
      exact ret_eq rfl (by repeat (first | exact Below.refl _ _ | (with_reducible assumption) | refine bel_alloc ?_ _ | refine bel_drew ?_ | refine bel_drewN ?_ _ | refine Below.setCell ?_ (by dsimp only; omega) _ | refine bel_trans (by assumption) ?_))
  · have hsb := ptEq_no hs
    rw [(up_diff (a := a) hs).2] at hfar
    rw [(up_diff hs).1] at hup
    clear hs
    have HF := Lib.hid hfar; clear hfar
    have HU := Lib.hid hup; clear hup
    by_cases hz : far = 0
    · subst hz
      have hz0 := HF.out
      rw [if_pos rfl]
      go_enter Try.func67, Try.ntmps67
      go_wp2_with fail
      go_returns
      exact ret_eq rfl (by repeat (first | exact Below.refl _ _ | (with_reducible assumption) | refine bel_alloc ?_ _ | refine bel_drew ?_ | refine bel_drewN ?_ _ | refine Below.setCell ?_ (by dsimp only; omega) _ | refine bel_trans (by assumption) ?_))
    · rw [if_neg hz]
      have hzx : (e * e2 * (x2 * e * e - x * e2 * e2) == 0) = false := by rw [HF.out]; simp [hz]
      have hec : ∀ w, Calls Try.prog 93 #[.int .i64 (y2 * e * e * e - y * e2 * e2 * e2), .int .i64 (e * e2 * (x2 * e * e - x * e2 * e2))] w (Ret (.tuple #[.int .i64 (lowN up far), .int .i64 (lowD up far)]) w) := fun w => by rw [HU.out, HF.out]; exact ecPart_any up far w m1 m2 m3 m4 hz
      go_enter Try.func67, Try.ntmps67
      go_wp2_with (go_at_call 93; refine (hec _).mono ?_; rintro e w' ⟨rfl, hb⟩; (try replace hb := aft2 hb (by assumption)); obtain ⟨hc, hf⟩ := aft hb)
      go_returns
      exact ret_eq rfl (by repeat (first | exact Below.refl _ _ | (with_reducible assumption) | refine bel_alloc ?_ _ | refine bel_drew ?_ | refine bel_drewN ?_ _ | refine Below.setCell ?_ (by dsimp only; omega) _ | refine bel_trans (by assumption) ?_))
/-- the curve and both points are valid and the line is not upright. -/
noncomputable def slB (a b x y e x2 y2 e2 : Int) : Bool := pointB a b x y e && pointB a b x2 y2 e2 && !(e == 0) && !(e2 == 0) && !(farI x y e x2 y2 e2 == 0)
def zeroV : Value := .tuple #[.agg #[.int .i64 0, .int .i64 0], .bool false]
set_option maxHeartbeats 2000000 in
theorem iSlopeOf_any (a b x y e x2 y2 e2 : Int) (w : World) :
    Calls Try.prog 31 #[.agg #[.int .i64 a, .int .i64 b], .agg #[.int .i64 x, .int .i64 y, .int .i64 e], .agg #[.int .i64 x2, .int .i64 y2, .int .i64 e2]] w (Ret (if slB a b x y e x2 y2 e2 = true then makV (upI a x y e x2 y2 e2) (farI x y e x2 y2 e2) else zeroV) w) := by
  have hsl : slB a b x y e x2 y2 e2 = (pointB a b x y e && pointB a b x2 y2 e2 && !(e == 0) && !(e2 == 0) && !(farI x y e x2 y2 e2 == 0)) := rfl
  have HSL := Lib.hid hsl; clear hsl
  cases hpt : pointB a b x y e
  · rw [if_neg (by rw [HSL.out, hpt]; simp)]
    go_enter Try.func31, Try.ntmps31
    go_wp2_with (go_at_call 59; refine (isPoint_any _ _ _ _ _ _).mono ?_; rintro e w' ⟨rfl, hb⟩; (try replace hb := aft2 hb (by assumption)); obtain ⟨hc, hf, hs1, hs2, hs3, hs4⟩ := aftz hb)
    refine bodyPost_ret (by simp (maxDischargeDepth := 3) [results, Try.results31, go_sem, *]; try rfl) rfl ?_
    exact ret_eq rfl (by repeat (first | exact Below.refl _ _ | (with_reducible assumption) | refine bel_alloc ?_ _ | refine bel_drew ?_ | refine bel_drewN ?_ _ | refine Below.setCell ?_ (by dsimp only; omega) _ | refine bel_trans (by assumption) ?_))
  · cases hqt : pointB a b x2 y2 e2
    · rw [if_neg (by rw [HSL.out, hpt, hqt]; simp)]
      go_enter Try.func31, Try.ntmps31
      go_wp2_with (go_at_call 59; refine (isPoint_any _ _ _ _ _ _).mono ?_; rintro e w' ⟨rfl, hb⟩; (try replace hb := aft2 hb (by assumption)); obtain ⟨hc, hf, hs1, hs2, hs3, hs4⟩ := aftz hb)
      refine bodyPost_ret (by simp (maxDischargeDepth := 3) [results, Try.results31, go_sem, *]; try rfl) rfl ?_
      exact ret_eq rfl (by repeat (first | exact Below.refl _ _ | (with_reducible assumption) | refine bel_alloc ?_ _ | refine bel_drew ?_ | refine bel_drewN ?_ _ | refine Below.setCell ?_ (by dsimp only; omega) _ | refine bel_trans (by assumption) ?_))
    · by_cases he : e = 0
      · subst he
        rw [if_neg (by rw [HSL.out]; simp)]
        go_enter Try.func31, Try.ntmps31
        go_wp2_with (go_at_call 59; refine (isPoint_any _ _ _ _ _ _).mono ?_; rintro e w' ⟨rfl, hb⟩; (try replace hb := aft2 hb (by assumption)); obtain ⟨hc, hf, hs1, hs2, hs3, hs4⟩ := aftz hb)
        refine bodyPost_ret (by simp (maxDischargeDepth := 3) [results, Try.results31, go_sem, *]; try rfl) rfl ?_
        exact ret_eq rfl (by repeat (first | exact Below.refl _ _ | (with_reducible assumption) | refine bel_alloc ?_ _ | refine bel_drew ?_ | refine bel_drewN ?_ _ | refine Below.setCell ?_ (by dsimp only; omega) _ | refine bel_trans (by assumption) ?_))
      · have heb : (e == 0) = false := by simp [he]
        by_cases he2 : e2 = 0
        · subst he2
          rw [if_neg (by rw [HSL.out]; simp)]
          go_enter Try.func31, Try.ntmps31
          go_wp2_with (go_at_call 59; refine (isPoint_any _ _ _ _ _ _).mono ?_; rintro e w' ⟨rfl, hb⟩; (try replace hb := aft2 hb (by assumption)); obtain ⟨hc, hf, hs1, hs2, hs3, hs4⟩ := aftz hb)
          refine bodyPost_ret (by simp (maxDischargeDepth := 3) [results, Try.results31, go_sem, *]; try rfl) rfl ?_
          exact ret_eq rfl (by repeat (first | exact Below.refl _ _ | (with_reducible assumption) | refine bel_alloc ?_ _ | refine bel_drew ?_ | refine bel_drewN ?_ _ | refine Below.setCell ?_ (by dsimp only; omega) _ | refine bel_trans (by assumption) ?_))
        · have heb2 : (e2 == 0) = false := by simp [he2]
          have hbp := PtBd.of hpt
          have hbq := PtBd.of hqt
          have hcur : curveB a b = true := by obtain ⟨_, _, _, _, _, _, h, _⟩ := pointB_bd hpt; exact h
          obtain ⟨h1, h2, h3, h4, _⟩ := curveB_true.1 hcur
          obtain ⟨m1, m2, m3, m4⟩ := up_bd (a := a) h1 h2 hbp hbq
          have hsl := fun w => slope_any a b x y e x2 y2 e2 w h1 h2 hbp hbq
          obtain ⟨far, hfar⟩ : ∃ far, farI x y e x2 y2 e2 = far := ⟨_, rfl⟩
          obtain ⟨up, hup⟩ : ∃ up, upI a x y e x2 y2 e2 = up := ⟨_, rfl⟩
          rw [hfar] at m3 m4 hsl ⊢
          rw [hup] at m1 m2 hsl ⊢
          have hok : slB a b x y e x2 y2 e2 = !(far == 0) := by rw [HSL.out, hpt, hqt, heb, heb2, hfar]; rfl
          rw [hok]
          clear HSL hok hfar hup hbp hbq
          by_cases hz : far = 0
          · subst hz
            rw [if_neg (by simp)]
            go_enter Try.func31, Try.ntmps31
            go_wp2_with (first | (go_at_call 59; refine (isPoint_any _ _ _ _ _ _).mono ?_; rintro e w' ⟨rfl, hb⟩; (try replace hb := aft2 hb (by assumption)); obtain ⟨hc, hf, hs1, hs2, hs3, hs4⟩ := aftz hb) | (go_at_call 65; refine (hsl _).mono ?_; rintro e w' ⟨rfl, hb⟩; (try replace hb := aft2 hb (by assumption)); obtain ⟨hc, hf, hs1, hs2, hs3, hs4⟩ := aftz hb))
            refine bodyPost_ret (by simp (maxDischargeDepth := 3) [results, Try.results31, go_sem, *]; try rfl) rfl ?_
            exact ret_eq rfl (by repeat (first | exact Below.refl _ _ | (with_reducible assumption) | refine bel_alloc ?_ _ | refine bel_drew ?_ | refine bel_drewN ?_ _ | refine Below.setCell ?_ (by dsimp only; omega) _ | refine bel_trans (by assumption) ?_))
          · have hzb : (far == 0) = false := by simp [hz]
            rw [hzb, if_pos (by simp)]
            have hmk := fun w => makeFraction_any up far w m1 m2 m3 m4 hz
            have hmv : makV up far = bif fracB (lowN up far) (lowD up far) then .tuple #[.agg #[.int .i64 (lowN up far), .int .i64 (lowD up far)], .bool true] else .tuple #[.agg #[.int .i64 0, .int .i64 0], .bool false] := rfl
            rw [hmv] at hmk ⊢
            clear hmv
            cases hfr : fracB (lowN up far) (lowD up far)
            all_goals
              rw [hfr] at hmk
              go_enter Try.func31, Try.ntmps31
              go_wp2_with (first | (go_at_call 59; refine (isPoint_any _ _ _ _ _ _).mono ?_; rintro e w' ⟨rfl, hb⟩; (try replace hb := aft2 hb (by assumption)); obtain ⟨hc, hf, hs1, hs2, hs3, hs4⟩ := aftz hb) | (go_at_call 65; refine (hsl _).mono ?_; rintro e w' ⟨rfl, hb⟩; (try replace hb := aft2 hb (by assumption)); obtain ⟨hc, hf, hs1, hs2, hs3, hs4⟩ := aftz hb) | (go_at_call 66; refine (hmk _).mono ?_; rintro e w' ⟨rfl, hb⟩; (try replace hb := aft2 hb (by assumption)); obtain ⟨hc, hf, hs1, hs2, hs3, hs4⟩ := aftz hb))
              refine bodyPost_ret (by simp (maxDischargeDepth := 3) [results, Try.results31, go_sem, *]; try rfl) rfl ?_
              exact ret_eq rfl (by repeat (first | exact Below.refl _ _ | (with_reducible assumption) | refine bel_alloc ?_ _ | refine bel_drew ?_ | refine bel_drewN ?_ _ | refine Below.setCell ?_ (by dsimp only; omega) _ | refine bel_trans (by assumption) ?_))
set_option maxHeartbeats 2000000 in
theorem sSlopeOf_any (a b x y e x2 y2 e2 : Int) (w : World) :
    Calls Try.prog 32 #[.agg #[.int .i64 a, .int .i64 b], .agg #[.int .i64 x, .int .i64 y, .int .i64 e], .agg #[.int .i64 x2, .int .i64 y2, .int .i64 e2]] w (Ret (if slB a b x y e x2 y2 e2 = true then makV (upI a x y e x2 y2 e2) (farI x y e x2 y2 e2) else zeroV) w) := by
  have hsl : slB a b x y e x2 y2 e2 = (pointB a b x y e && pointB a b x2 y2 e2 && !(e == 0) && !(e2 == 0) && !(farI x y e x2 y2 e2 == 0)) := rfl
  have HSL := Lib.hid hsl; clear hsl
  cases hpt : pointB a b x y e
  · rw [if_neg (by rw [HSL.out, hpt]; simp)]
    go_enter Try.func32, Try.ntmps32
    go_wp2_with (go_at_call 61; refine (sIsPointOf_any _ _ _ _ _ _).mono ?_; rintro e w' ⟨rfl, hb⟩; (try replace hb := aft2 hb (by assumption)); obtain ⟨hc, hf, hs1, hs2, hs3, hs4⟩ := aftz hb)
    refine bodyPost_ret (by simp (maxDischargeDepth := 3) [results, Try.results32, go_sem, *]; try rfl) rfl ?_
    exact ret_eq rfl (by repeat (first | exact Below.refl _ _ | (with_reducible assumption) | refine bel_alloc ?_ _ | refine bel_drew ?_ | refine bel_drewN ?_ _ | refine Below.setCell ?_ (by dsimp only; omega) _ | refine bel_trans (by assumption) ?_))
  · cases hqt : pointB a b x2 y2 e2
    · rw [if_neg (by rw [HSL.out, hpt, hqt]; simp)]
      go_enter Try.func32, Try.ntmps32
      go_wp2_with (go_at_call 61; refine (sIsPointOf_any _ _ _ _ _ _).mono ?_; rintro e w' ⟨rfl, hb⟩; (try replace hb := aft2 hb (by assumption)); obtain ⟨hc, hf, hs1, hs2, hs3, hs4⟩ := aftz hb)
      refine bodyPost_ret (by simp (maxDischargeDepth := 3) [results, Try.results32, go_sem, *]; try rfl) rfl ?_
      exact ret_eq rfl (by repeat (first | exact Below.refl _ _ | (with_reducible assumption) | refine bel_alloc ?_ _ | refine bel_drew ?_ | refine bel_drewN ?_ _ | refine Below.setCell ?_ (by dsimp only; omega) _ | refine bel_trans (by assumption) ?_))
    · by_cases he : e = 0
      · subst he
        rw [if_neg (by rw [HSL.out]; simp)]
        go_enter Try.func32, Try.ntmps32
        go_wp2_with (go_at_call 61; refine (sIsPointOf_any _ _ _ _ _ _).mono ?_; rintro e w' ⟨rfl, hb⟩; (try replace hb := aft2 hb (by assumption)); obtain ⟨hc, hf, hs1, hs2, hs3, hs4⟩ := aftz hb)
        refine bodyPost_ret (by simp (maxDischargeDepth := 3) [results, Try.results32, go_sem, *]; try rfl) rfl ?_
        exact ret_eq rfl (by repeat (first | exact Below.refl _ _ | (with_reducible assumption) | refine bel_alloc ?_ _ | refine bel_drew ?_ | refine bel_drewN ?_ _ | refine Below.setCell ?_ (by dsimp only; omega) _ | refine bel_trans (by assumption) ?_))
      · have heb : (e == 0) = false := by simp [he]
        by_cases he2 : e2 = 0
        · subst he2
          rw [if_neg (by rw [HSL.out]; simp)]
          go_enter Try.func32, Try.ntmps32
          go_wp2_with (go_at_call 61; refine (sIsPointOf_any _ _ _ _ _ _).mono ?_; rintro e w' ⟨rfl, hb⟩; (try replace hb := aft2 hb (by assumption)); obtain ⟨hc, hf, hs1, hs2, hs3, hs4⟩ := aftz hb)
          refine bodyPost_ret (by simp (maxDischargeDepth := 3) [results, Try.results32, go_sem, *]; try rfl) rfl ?_
          exact ret_eq rfl (by repeat (first | exact Below.refl _ _ | (with_reducible assumption) | refine bel_alloc ?_ _ | refine bel_drew ?_ | refine bel_drewN ?_ _ | refine Below.setCell ?_ (by dsimp only; omega) _ | refine bel_trans (by assumption) ?_))
        · have heb2 : (e2 == 0) = false := by simp [he2]
          have hbp := PtBd.of hpt
          have hbq := PtBd.of hqt
          have hcur : curveB a b = true := by obtain ⟨_, _, _, _, _, _, h, _⟩ := pointB_bd hpt; exact h
          obtain ⟨h1, h2, h3, h4, _⟩ := curveB_true.1 hcur
          obtain ⟨m1, m2, m3, m4⟩ := up_bd (a := a) h1 h2 hbp hbq
          have hsl := fun w => ptSlope_any a b x y e x2 y2 e2 w h1 h2 hbp hbq
          obtain ⟨far, hfar⟩ : ∃ far, farI x y e x2 y2 e2 = far := ⟨_, rfl⟩
          obtain ⟨up, hup⟩ : ∃ up, upI a x y e x2 y2 e2 = up := ⟨_, rfl⟩
          rw [hfar] at m3 m4 hsl ⊢
          rw [hup] at m1 m2 hsl ⊢
          have hok : slB a b x y e x2 y2 e2 = !(far == 0) := by rw [HSL.out, hpt, hqt, heb, heb2, hfar]; rfl
          rw [hok]
          clear HSL hok hfar hup hbp hbq
          by_cases hz : far = 0
          · subst hz
            rw [if_neg (by simp)]
            simp only [if_true] at hsl
            go_enter Try.func32, Try.ntmps32
            go_wp2_with (first | (go_at_call 61; refine (sIsPointOf_any _ _ _ _ _ _).mono ?_; rintro e w' ⟨rfl, hb⟩; (try replace hb := aft2 hb (by assumption)); obtain ⟨hc, hf, hs1, hs2, hs3, hs4⟩ := aftz hb) | (go_at_call 67; refine (hsl _).mono ?_; rintro e w' ⟨rfl, hb⟩; (try replace hb := aft2 hb (by assumption)); obtain ⟨hc, hf, hs1, hs2, hs3, hs4⟩ := aftz hb))
            refine bodyPost_ret (by simp (maxDischargeDepth := 3) [results, Try.results32, go_sem, *]; try rfl) rfl ?_
            exact ret_eq rfl (by repeat (first | exact Below.refl _ _ | (with_reducible assumption) | refine bel_alloc ?_ _ | refine bel_drew ?_ | refine bel_drewN ?_ _ | refine Below.setCell ?_ (by dsimp only; omega) _ | refine bel_trans (by assumption) ?_))
          · have hzb : (far == 0) = false := by simp [hz]
            rw [hzb, if_pos (by simp)]
            rw [if_neg hz] at hsl
            obtain ⟨l1, l2⟩ := low_low (n := up) hz
            have ld := lowD_pos (n := up) hz
            have lb1 := tdiv_bd (g := sgcd up far) m1 m2
            have lb2 := tdiv_bd (g := sgcd up far) m3 m4
            have hmk := fun w => frMake_any (lowN up far) (lowD up far) w lb1.1 lb1.2 lb2.1 lb2.2 (by omega)
            have hmv : makV (lowN up far) (lowD up far) = makV up far := by
              have h : ∀ n d n' d' : Int, n = n' → d = d' → (bif fracB n d then Value.tuple #[.agg #[.int .i64 n, .int .i64 d], .bool true] else .tuple #[.agg #[.int .i64 0, .int .i64 0], .bool false]) = (bif fracB n' d' then .tuple #[.agg #[.int .i64 n', .int .i64 d'], .bool true] else .tuple #[.agg #[.int .i64 0, .int .i64 0], .bool false]) := by
                rintro n d n' d' rfl rfl; rfl
              exact h _ _ _ _ l1 l2
            rw [hmv] at hmk
            have hlz : (lowD up far == 0) = false := by simp; omega
            clear l1 l2 lb1 lb2 hmv
            generalize lowN up far = n1 at *
            generalize lowD up far = d1 at *
            have hmv : makV up far = bif fracB (lowN up far) (lowD up far) then .tuple #[.agg #[.int .i64 (lowN up far), .int .i64 (lowD up far)], .bool true] else .tuple #[.agg #[.int .i64 0, .int .i64 0], .bool false] := rfl
            rw [hmv] at hmk ⊢
            clear hmv
            cases hfr : fracB (lowN up far) (lowD up far)
            all_goals
              rw [hfr] at hmk
              go_enter Try.func32, Try.ntmps32
              go_wp2_with (first | (go_at_call 61; refine (sIsPointOf_any _ _ _ _ _ _).mono ?_; rintro e w' ⟨rfl, hb⟩; (try replace hb := aft2 hb (by assumption)); obtain ⟨hc, hf, hs1, hs2, hs3, hs4⟩ := aftz hb) | (go_at_call 67; refine (hsl _).mono ?_; rintro e w' ⟨rfl, hb⟩; (try replace hb := aft2 hb (by assumption)); obtain ⟨hc, hf, hs1, hs2, hs3, hs4⟩ := aftz hb) | (go_at_call 68; refine (hmk _).mono ?_; rintro e w' ⟨rfl, hb⟩; (try replace hb := aft2 hb (by assumption)); obtain ⟨hc, hf, hs1, hs2, hs3, hs4⟩ := aftz hb))
              refine bodyPost_ret (by simp (maxDischargeDepth := 3) [results, Try.results32, go_sem, *]; try rfl) rfl ?_
              exact ret_eq rfl (by repeat (first | exact Below.refl _ _ | (with_reducible assumption) | refine bel_alloc ?_ _ | refine bel_drew ?_ | refine bel_drewN ?_ _ | refine Below.setCell ?_ (by dsimp only; omega) _ | refine bel_trans (by assumption) ?_))
end Go.Proofs.Ytnhlcgbknkdbiaa
