/- The walk of FnExactCurveText: where the table of powers of ten lies as the text lays it. -/
import Derived.Test.YtjiembdflnjocaaDoorCu
namespace Go.Proofs.YtjiembdflnjocaaDoor.fnExactCurveText
open Go.RowKit
theorem below_allocC (w : World) (o : Obj) : Below w.heap.size w (w.alloc o) := Below.alloc (Below.refl _ _) (Nat.le_refl _) _
def BxS (n : Nat) (a b : Int) (w : World) : Prop := n < w.heap.size ∧ w.cell? ⟨n, 0, none⟩ = some (.int .i64 a) ∧ w.cell? ⟨n, 1, none⟩ = some (.int .i64 b)
theorem BxS.keep {n : Nat} {a b : Int} {w w' : World} (h : BxS n a b w) (hb : Below w.heap.size w w') : BxS n a b w' :=
  ⟨Nat.lt_of_lt_of_le h.1 hb.size, (hb.cell (p := ⟨n, 0, none⟩) h.1).trans h.2.1, (hb.cell (p := ⟨n, 1, none⟩) h.1).trans h.2.2⟩
theorem walk (a b : Int) (w : World) (_ha : I64 a) (_hb : I64 b) (ht : PowT w) :
    Calls Tryd.prog 3 #[.agg #[.int .i64 a, .int .i64 b]] w (Ret (.bool true) w) := by
  have hi := fun w h => iCurveText_any a b w h
  have hs := fun w => sCurveText_any a b w
  obtain ⟨s, ok, hv⟩ : ∃ s ok, cvV a b = .tuple #[.string s, .bool ok] := by
    unfold cvV
    split
    · exact ⟨_, _, rfl⟩
    · exact ⟨_, _, rfl⟩
  rw [hv] at hs
  have hi2 : ∀ w, PowT w → Calls Tryd.prog 8 #[.agg #[.int .i64 a, .int .i64 b]] w (Ret (.tuple #[.string s, .bool ok]) w) := fun w h => hv ▸ hi w h
  clear hv hi
  have HT := Lib.hid ht; clear ht
  have HI := Lib.hid hi2; have HS := Lib.hid hs; clear hi2 hs
  go_enter Tryd.func3, Tryd.ntmps3
  go_wp2_with fail
  have c5 : w.heap.size < (w.alloc (.cells #[.int .i64 a, .int .i64 b] 23)).heap.size := by simp
  have c6 : (w.alloc (.cells #[.int .i64 a, .int .i64 b] 23)).cell? ⟨w.heap.size, 0, none⟩ = some (.int .i64 a) := by simp [go_sem]
  have c7 : (w.alloc (.cells #[.int .i64 a, .int .i64 b] 23)).cell? ⟨w.heap.size, 1, none⟩ = some (.int .i64 b) := by simp [go_sem]
  have hbW : Below w.heap.size w (w.alloc (.cells #[.int .i64 a, .int .i64 b] 23)) := Below.alloc (Below.refl _ _) (Nat.le_refl _) _
  generalize w.alloc (.cells #[.int .i64 a, .int .i64 b] 23) = W at c5 c6 c7 hbW ⊢
  generalize hB0 : w.heap.size = B0 at c5 c6 c7 ⊢
  have BX := Lib.hid (show BxS B0 a b W from ⟨c5, c6, c7⟩); clear c5 c6 c7 hB0
  refine (toCurve_any _ _ _).mono ?_; rintro e w1 ⟨rfl, hb1⟩
  go_wp2_with fail
  refine (HS.out _).mono ?_; rintro e w2 ⟨rfl, hb2⟩
  have hb3 := bel_trans hb2 hb1
  have BX2 := Lib.hid (BX.out.keep hb3)
  have HB2 := Lib.hid (bel_trans hb3 hbW)
  clear hb1 hb2 hb3 BX hbW
  obtain ⟨c5, c6, c7⟩ := BX2.out
  go_wp2_with fail
  refine (toCurve_any _ _ _).mono ?_; rintro e w3 ⟨rfl, hb4⟩
  have HB3 := Lib.hid (bel_trans hb4 HB2.out)
  clear hb4 c5 c6 c7 BX2 HB2
  go_wp2_with fail
  refine (HI.out _ (HT.out.keep HB3.out)).mono ?_; rintro e w4 ⟨rfl, hb5⟩
  have HB4 := Lib.hid (bel_trans hb5 HB3.out)
  clear hb5 HB3
  go_wp2_with fail
  go_ret
  exact ret_eq (by rfl) HB4.out
end Go.Proofs.YtjiembdflnjocaaDoor.fnExactCurveText
