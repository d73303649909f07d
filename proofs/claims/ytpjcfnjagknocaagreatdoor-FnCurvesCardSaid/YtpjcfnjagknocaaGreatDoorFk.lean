/- Fk: the values of the calls of FnCurves, as packages. No conditions. -/
import Derived.Test.YtpjcfnjagknocaaGreatDoorDu
import Derived.Test.YtpjcfnjagknocaaGreatDoorCx
import Derived.Test.YtpjcfnjagknocaaGreatDoorCu
import Derived.Test.YtpjcfnjagknocaaGreatDoorWParseCurve
import Derived.Test.YtpjcfnjagknocaaGreatDoorLs
namespace Go.Proofs.YtpjcfnjagknocaaGreatDoor
open Go.RowKit

structure SY (a b u a2 b2 num den D E p3 p6 p12 : Int) : Prop where
  iso : ∀ w, Calls Tryz.prog 10 #[.agg #[.int .i64 a, .int .i64 b], .agg #[.int .i64 a2, .int .i64 b2]] w (Ret (.tuple #[.bool true, .bool true]) w)
  i0 : ∀ w, Calls Tryz.prog 11 #[.agg #[.int .i64 a, .int .i64 b]] w (Ret (.tuple #[.int .i64 num, .int .i64 den, .bool true]) w)
  i1 : ∀ w, Calls Tryz.prog 12 #[.agg #[.int .i64 a, .int .i64 b]] w (Ret (.tuple #[.int .i64 num, .int .i64 den, .bool true]) w)
  i2 : ∀ w, Calls Tryz.prog 11 #[.agg #[.int .i64 a2, .int .i64 b2]] w (Ret (.tuple #[.int .i64 num, .int .i64 den, .bool true]) w)
  d0 : ∀ w, Calls Tryz.prog 13 #[.agg #[.int .i64 a, .int .i64 b]] w (Ret (.tuple #[.int .i64 D, .bool true]) w)
  d1 : ∀ w, Calls Tryz.prog 13 #[.agg #[.int .i64 a2, .int .i64 b2]] w (Ret (.tuple #[.int .i64 E, .bool true]) w)
  d2 : ∀ w, Calls Tryz.prog 14 #[.agg #[.int .i64 a, .int .i64 b]] w (Ret (.tuple #[.int .i64 D, .bool true]) w)
  cur : ∀ w, Calls Tryz.prog 15 #[.agg #[.int .i64 a2, .int .i64 b2]] w (Ret (.bool true) w)
  h1 : IntKind.i64.wrap (u * u) = u * u
  h2 : IntKind.i64.wrap (u * u * u) = p3
  h3 : IntKind.i64.wrap (p3 * p3) = p6
  h4 : IntKind.i64.wrap (p6 * p6) = p12
  h5 : IntKind.i64.wrap (D * p12) = E
theorem isCurve_yes (a b : Int) (w : World) : Calls Tryz.prog 15 #[.agg #[.int .i64 a, .int .i64 b]] w (Ret (.bool (curveB a b)) w) := by
  go_enter Tryz.func15, Tryz.ntmps15
  go_wp2_with (go_at_call 69; refine (isCurve_any _ _ _).mono ?_; rintro e w' ⟨rfl, hb⟩; (try replace hb := aft2 hb (by assumption)); obtain ⟨hc, hf, hs1, hs2, hs3, hs4⟩ := aftz hb)
  go_ret
  exact ret_eq (by rfl) (by repeat (first | exact Below.refl _ _ | (with_reducible assumption) | refine bel_alloc ?_ _ | refine bel_drew ?_ | refine bel_drewN ?_ _ | refine Below.setCell ?_ (by dsimp only; omega) _ | refine bel_trans (by assumption) ?_))
theorem p12_eq (u : Int) : u * u * u * (u * u * u) * (u * u * u * (u * u * u)) = u * u * u * u * u * u * u * u * u * u * u * u := by grind
structure SK (a b u a2 b2 : Int) (ok : Bool) : Prop where
  s0 : ∀ w, Calls Tryz.prog 8 #[.agg #[.int .i64 a, .int .i64 b], .int .i64 u] w (Ret (.tuple #[.agg #[.int .i64 a2, .int .i64 b2], .bool ok]) w)
  s1 : ∀ w, Calls Tryz.prog 9 #[.agg #[.int .i64 a, .int .i64 b], .int .i64 u] w (Ret (.tuple #[.agg #[.int .i64 a2, .int .i64 b2], .bool ok]) w)
  yes : ok = true → ∃ num den D E p3 p6 p12, SY a b u a2 b2 num den D E p3 p6 p12
theorem scfacts (a b u : Int) : ∃ a2 b2 ok, SK a b u a2 b2 ok := by
  have s0 := fun w => iScaleCurve_any a b u w
  have s1 := fun w => sScaleCurve_any a b u w
  unfold scV at s0 s1
  cases h : scB a b u
  · rw [if_neg (by rw [h]; decide)] at s0 s1
    exact ⟨_, _, _, s0, s1, fun h => (by cases h)⟩
  · rw [if_pos h] at s0 s1
    unfold scB at h
    rw [Bool.and_eq_true, Bool.and_eq_true] at h
    obtain ⟨hc, hu, hs⟩ := h
    obtain ⟨u1, u2⟩ := inB_true.1 hu
    obtain ⟨k1, k2, k3, k4, k5⟩ := curveB_true.1 hc
    have i0 := fun w => iInvariantOf_any a b w
    have i1 := fun w => sInvariantOf_any a b w
    have i2 := fun w => iInvariantOf_any (a * u * u * u * u) (b * u * u * u * u * u * u) w
    have d0 := fun w => iDiscriminantOf_any a b w
    have d1 := fun w => iDiscriminantOf_any (a * u * u * u * u) (b * u * u * u * u * u * u) w
    have d2 := fun w => sDiscriminantOf_any a b w
    rw [if_pos hc] at i0 i1 d0 d2
    rw [if_pos hs] at i2 d1
    rw [(inv_scale u1).1, (inv_scale u1).2] at i2
    have iso := fun w => iAreIsomorphic_any a b (a * u * u * u * u) (b * u * u * u * u * u * u) w
    obtain ⟨e1, e2⟩ := sm_scale hc u1 u2 hs
    unfold isoV isoB at iso
    rw [hc, hs, Bool.and_true, if_pos rfl, e1, e2, decide_eq_true ⟨rfl, rfl⟩] at iso
    have cur := fun w => isCurve_yes (a * u * u * u * u) (b * u * u * u * u * u * u) w
    rw [hs] at cur
    have hb := disc_bd k1 k2 k3 k4
    obtain ⟨q1, q2, q3, q4, q5⟩ := curveB_true.1 hs
    have hb2 := disc_bd q1 q2 q3 q4
    refine ⟨_, _, true, s0, s1, fun _ => ⟨_, _, _, _, u * u * u, u * u * u * (u * u * u), u * u * u * (u * u * u) * (u * u * u * (u * u * u)), iso, i0, i1, i2, d0, d1, d2, cur, ?_, ?_, ?_, ?_, ?_⟩⟩
    · exact wrapf (by rcases five u1 u2 with rfl | rfl | rfl | rfl | rfl <;> decide) (by rcases five u1 u2 with rfl | rfl | rfl | rfl | rfl <;> decide)
    · exact wrapf (by rcases five u1 u2 with rfl | rfl | rfl | rfl | rfl <;> decide) (by rcases five u1 u2 with rfl | rfl | rfl | rfl | rfl <;> decide)
    · exact wrapf (by rcases five u1 u2 with rfl | rfl | rfl | rfl | rfl <;> decide) (by rcases five u1 u2 with rfl | rfl | rfl | rfl | rfl <;> decide)
    · exact wrapf (by rcases five u1 u2 with rfl | rfl | rfl | rfl | rfl <;> decide) (by rcases five u1 u2 with rfl | rfl | rfl | rfl | rfl <;> decide)
    · rw [p12_eq, Int.mul_assoc, ← disc_scale2]
      exact wrapf (by omega) (by omega)
structure MK (a b x y k : Int) (ok : Bool) : Prop where
  m0 : ∀ w, Calls Tryz.prog 17 #[.agg #[.int .i64 a, .int .i64 b]] w (Ret (.tuple #[.agg #[.int .i64 x, .int .i64 y], .int .i64 k, .bool ok]) w)
  m1 : ∀ w, Calls Tryz.prog 18 #[.agg #[.int .i64 a, .int .i64 b]] w (Ret (.tuple #[.agg #[.int .i64 x, .int .i64 y], .int .i64 k, .bool ok]) w)
  k1 : ok = true → 1 ≤ k
  sc : ok = true → ∀ w, Calls Tryz.prog 8 #[.agg #[.int .i64 x, .int .i64 y], .int .i64 k] w (Ret (.tuple #[.agg #[.int .i64 a, .int .i64 b], .bool true]) w)
  m2 : ok = true → ∀ w, Calls Tryz.prog 17 #[.agg #[.int .i64 x, .int .i64 y]] w (Ret (.tuple #[.agg #[.int .i64 x, .int .i64 y], .int .i64 1, .bool true]) w)
theorem mfacts (a b : Int) : ∃ x y k ok, MK a b x y k ok := by
  have m0 := fun w => iSmallestModel_any a b w
  have m1 := fun w => sSmallestModel_any a b w
  unfold smV at m0 m1
  cases h : curveB a b
  · rw [if_neg (by rw [h]; decide)] at m0 m1
    exact ⟨_, _, _, _, m0, m1, fun h => (by cases h), fun h => (by cases h), fun h => (by cases h)⟩
  · rw [if_pos h] at m0 m1
    obtain ⟨v1, v2, -, -⟩ := smU_is a b
    obtain ⟨e1, e2⟩ := sm_parts a b
    obtain ⟨o1, o2, o3⟩ := sm_own h
    have hs := sm_curve h
    have f1 : smA a b * smU a b * smU a b * smU a b * smU a b = a := by
      conv => rhs; rw [e1]
      generalize smU a b = v
      generalize smA a b = A
      simp only [Int.mul_assoc]
    have f2 : smC a b * smU a b * smU a b * smU a b * smU a b * smU a b * smU a b = b := by
      conv => rhs; rw [e2]
      generalize smU a b = v
      generalize smC a b = A
      simp only [Int.mul_assoc]
    have sc := fun w => iScaleCurve_any (smA a b) (smC a b) (smU a b) w
    unfold scV scB at sc
    rw [f1, f2, hs, h, inB_true.2 ⟨v1, v2⟩, if_pos (by rfl)] at sc
    have m2 := fun w => iSmallestModel_any (smA a b) (smC a b) w
    unfold smV at m2
    rw [if_pos hs, o1, o2, o3] at m2
    exact ⟨_, _, _, true, m0, m1, fun _ => v1, fun _ => sc, fun _ => m2⟩
structure TK (a b : Int) (T : ByteArray) (ok : Bool) : Prop where
  t0 : ∀ w, PowT w → Calls Tryz.prog 20 #[.agg #[.int .i64 a, .int .i64 b]] w (Ret (.tuple #[.string T, .bool ok]) w)
  t1 : ∀ w, Calls Tryz.prog 21 #[.agg #[.int .i64 a, .int .i64 b]] w (Ret (.tuple #[.string T, .bool ok]) w)
  c : ∀ w, Calls Tryz.prog 15 #[.agg #[.int .i64 a, .int .i64 b]] w (Ret (.bool ok) w)
  p : ok = true → ∀ w, LibT w → Calls Tryz.prog 22 #[.string T] w (Ret (.tuple #[.agg #[.int .i64 a, .int .i64 b], .bool true]) w)
theorem tfacts (a b : Int) : ∃ T ok, TK a b T ok := by
  have t0 := fun w h => iCurveText_any a b w h
  have t1 := fun w => sCurveText_any a b w
  have c := fun w => isCurve_yes a b w
  unfold cvV at t0 t1
  cases h : curveB a b
  · rw [h] at c t0 t1
    rw [if_neg (by decide)] at t0 t1
    exact ⟨_, _, t0, t1, c, fun h => (by cases h)⟩
  · obtain ⟨k1, k2, k3, k4, _⟩ := curveB_true.1 h
    have hs := cvT_sz k1 k2 k3 k4
    have p := fun w ht => iParseCurve_any (cvT a b) w (by omega) ht
    rw [pcV_yes h] at p
    rw [h] at c t0 t1
    rw [if_pos rfl] at t0 t1
    exact ⟨_, true, t0, t1, c, fun _ => p⟩
structure PK (s : ByteArray) (x y : Int) (ok : Bool) : Prop where
  p0 : ∀ w, LibT w → Calls Tryz.prog 22 #[.string s] w (Ret (.tuple #[.agg #[.int .i64 x, .int .i64 y], .bool ok]) w)
  p1 : ∀ w, Calls Tryz.prog 24 #[.string s] w (Ret (.tuple #[.agg #[.int .i64 x, .int .i64 y], .bool ok]) w)
theorem pkfacts (s : ByteArray) (hs : s.size ≤ 1048576) : ∃ x y ok, PK s x y ok := by
  have p0 := fun w ht => iParseCurve_any s w hs ht
  have p1 := fun w => sParseCurve_any s w hs
  obtain ⟨x, y, ok, hv⟩ := pcV_parts s
  rw [hv] at p0 p1
  exact ⟨x, y, ok, p0, p1⟩
structure IK (a b c d : Int) (i t : Bool) : Prop where
  i0 : ∀ w, Calls Tryz.prog 10 #[.agg #[.int .i64 a, .int .i64 b], .agg #[.int .i64 c, .int .i64 d]] w (Ret (.tuple #[.bool i, .bool t]) w)
  i1 : ∀ w, Calls Tryz.prog 26 #[.agg #[.int .i64 a, .int .i64 b], .agg #[.int .i64 c, .int .i64 d]] w (Ret (.tuple #[.bool i, .bool t]) w)
theorem ikfacts (a b c d : Int) : ∃ i t, IK a b c d i t := by
  have i0 := fun w => iAreIsomorphic_any a b c d w
  have i1 := fun w => sAreIsomorphic_any a b c d w
  unfold isoV at i0 i1
  by_cases h : (curveB a b && curveB c d) = true
  · rw [if_pos h] at i0 i1; exact ⟨_, _, i0, i1⟩
  · rw [if_neg h] at i0 i1; exact ⟨_, _, i0, i1⟩
/-- a box of two numbers. -/
def Bc (n : Nat) (a b : Int) (w : World) : Prop := n < w.heap.size ∧ w.cell? ⟨n, 0, none⟩ = some (.int .i64 a) ∧ w.cell? ⟨n, 1, none⟩ = some (.int .i64 b)
theorem Bc.new (a b : Int) (w : World) (t : TypeId) : Bc w.heap.size a b (w.alloc (.cells #[.int .i64 a, .int .i64 b] t)) := ⟨by simp, by simp [go_sem], by simp [go_sem]⟩
theorem Bc.keep {n : Nat} {a b : Int} {w w' : World} (h : Bc n a b w) (hb : Below w.heap.size w w') : Bc n a b w' :=
  ⟨Nat.lt_of_lt_of_le h.1 hb.size, (hb.cell (p := ⟨n, 0, none⟩) h.1).trans h.2.1, (hb.cell (p := ⟨n, 1, none⟩) h.1).trans h.2.2⟩
end Go.Proofs.YtpjcfnjagknocaaGreatDoor
