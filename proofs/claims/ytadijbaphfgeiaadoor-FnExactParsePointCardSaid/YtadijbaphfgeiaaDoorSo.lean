/- So: contracts: the slope of a line through two points. No conditions. -/
import Derived.Test.YtadijbaphfgeiaaDoorMf
import Derived.Test.YtadijbaphfgeiaaDoorHt
import Derived.Test.YtadijbaphfgeiaaDoorEp
namespace Go.Proofs.YtadijbaphfgeiaaDoor
open Go.RowKit

def upI (a x y e x2 y2 e2 : Int) : Int := if x = x2 ∧ y = y2 ∧ e = e2 then 3 * x * x + a * e * e * e * e else y2 * e * e * e - y * e2 * e2 * e2
def farI (x y e x2 y2 e2 : Int) : Int := if x = x2 ∧ y = y2 ∧ e = e2 then 2 * y * e else e * e2 * (x2 * e * e - x * e2 * e2)
def PtBd (x y e : Int) : Prop := -10000 ≤ x ∧ x ≤ 10000 ∧ -1800000 ≤ y ∧ y ≤ 1800000 ∧ 0 ≤ e ∧ e ≤ 20
theorem PtBd.of {a b x y e : Int} (h : pointB a b x y e = true) : PtBd x y e := by
  obtain ⟨h1, h2, h3, h4, h5, h6, _, _⟩ := pointB_bd h
  exact ⟨h1, h2, h5, h6, h3, h4⟩
theorem up_bd {a x y e x2 y2 e2 : Int} (h1 : -1000 ≤ a) (h2 : a ≤ 1000) (hp : PtBd x y e) (hq : PtBd x2 y2 e2) : -1000000000000000000 ≤ upI a x y e x2 y2 e2 ∧ upI a x y e x2 y2 e2 ≤ 1000000000000000000 ∧ -1000000000000000000 ≤ farI x y e x2 y2 e2 ∧ farI x y e x2 y2 e2 ≤ 1000000000000000000 := by
  obtain ⟨a1, a2, a3, a4, a5, a6⟩ := hp
  obtain ⟨b1, b2, b3, b4, b5, b6⟩ := hq
  have q1 := mul_bd (a := y2) (b := e) (A := 1800000) (B := 20) (by omega) (by omega) (by omega) (by omega)
  have q2 := mul_bd (b := e) (B := 20) q1.1 q1.2 (by omega) (by omega)
  have q3 := mul_bd (b := e) (B := 20) q2.1 q2.2 (by omega) (by omega)
  have r1 := mul_bd (a := y) (b := e2) (A := 1800000) (B := 20) (by omega) (by omega) (by omega) (by omega)
  have r2 := mul_bd (b := e2) (B := 20) r1.1 r1.2 (by omega) (by omega)
  have r3 := mul_bd (b := e2) (B := 20) r2.1 r2.2 (by omega) (by omega)
  have t1 := mul_bd (a := e) (b := e2) (A := 20) (B := 20) (by omega) (by omega) (by omega) (by omega)
  have s1 := mul_bd (a := x2) (b := e) (A := 10000) (B := 20) (by omega) (by omega) (by omega) (by omega)
  have s2 := mul_bd (b := e) (B := 20) s1.1 s1.2 (by omega) (by omega)
  have u1 := mul_bd (a := x) (b := e2) (A := 10000) (B := 20) (by omega) (by omega) (by omega) (by omega)
  have u2 := mul_bd (b := e2) (B := 20) u1.1 u1.2 (by omega) (by omega)
  have v1 := mul_bd (a := e * e2) (b := x2 * e * e - x * e2 * e2) (A := 400) (B := 8000000) (by omega) (by omega) (by omega) (by omega)
  have z1 := mul_bd (a := 3 * x) (b := x) (A := 30000) (B := 10000) (by omega) (by omega) (by omega) (by omega)
  have z2 := mul_bd (a := a) (b := e) (A := 1000) (B := 20) (by omega) (by omega) (by omega) (by omega)
  have z3 := mul_bd (b := e) (B := 20) z2.1 z2.2 (by omega) (by omega)
  have z4 := mul_bd (b := e) (B := 20) z3.1 z3.2 (by omega) (by omega)
  have z5 := mul_bd (b := e) (B := 20) z4.1 z4.2 (by omega) (by omega)
  have z6 := mul_bd (a := 2 * y) (b := e) (A := 3600000) (B := 20) (by omega) (by omega) (by omega) (by omega)
  unfold upI farI
  split <;> omega
theorem up_same (a x y e : Int) : upI a x y e x y e = 3 * x * x + a * e * e * e * e ∧ farI x y e x y e = 2 * y * e := by
  unfold upI farI; rw [if_pos ⟨rfl, rfl, rfl⟩, if_pos ⟨rfl, rfl, rfl⟩]; exact ⟨rfl, rfl⟩
theorem up_diff {a x y e x2 y2 e2 : Int} (h : ¬ (x = x2 ∧ y = y2 ∧ e = e2)) : upI a x y e x2 y2 e2 = y2 * e * e * e - y * e2 * e2 * e2 ∧ farI x y e x2 y2 e2 = e * e2 * (x2 * e * e - x * e2 * e2) := by
  unfold upI farI; rw [if_neg h, if_neg h]; exact ⟨rfl, rfl⟩
theorem ptEq_no {x y e x2 y2 e2 : Int} (h : ¬ (x = x2 ∧ y = y2 ∧ e = e2)) (w : World) : (binOp .eql 30 (.agg #[.int .i64 x, .int .i64 y, .int .i64 e]) (.agg #[.int .i64 x2, .int .i64 y2, .int .i64 e2])).run Tryd.prog w = .ok (.bool false) w := by
  have e1 : (binOp .eql 30 (.agg #[.int .i64 x, .int .i64 y, .int .i64 e]) (.agg #[.int .i64 x2, .int .i64 y2, .int .i64 e2])).run Tryd.prog w = .ok (.bool (decide (x = x2 ∧ y = y2 ∧ e = e2))) w := by
    simp [go_sem]
    by_cases h1 : x = x2 <;> by_cases h2 : y = y2 <;> by_cases h3 : e = e2 <;> simp [h1, h2, h3]
  rw [e1, decide_eq_false h]
/-- the curve and both points are valid and the line is not upright. -/
noncomputable def slB (a b x y e x2 y2 e2 : Int) : Bool := pointB a b x y e && pointB a b x2 y2 e2 && !(e == 0) && !(e2 == 0) && !(farI x y e x2 y2 e2 == 0)
def zeroV : Value := .tuple #[.agg #[.int .i64 0, .int .i64 0], .bool false]
end Go.Proofs.YtadijbaphfgeiaaDoor
