/- Op: contracts: the opposite of a point modulo a prime. No conditions. -/
import Derived.Test.YtpjcfnjagknocaaGreatDoorFld
import Derived.Test.YtpjcfnjagknocaaGreatDoorMk
import Derived.Test.YtpjcfnjagknocaaGreatDoorRg
import Derived.Laws.OwnMore
namespace Go.Proofs.YtpjcfnjagknocaaGreatDoor
open Go.RowKit

theorem own_pair (w : World) (B : Nat) (hB : B ≤ w.heap.size) (a b : Int) : Own (w.alloc (.cells #[.int .i64 a, .int .i64 b] 3)) B (.slice (some ⟨w.heap.size, 0, none⟩) 2 2) [a, b] := by
  have h := World.ownsRow_lit (base := B) (e := 3) (size := 1) w #[.int .i64 a, .int .i64 b] 2 hB (by unfold maxLen; omega) (by simp)
  unfold Own
  simpa using h
/-- a list that is a point modulo p. -/
theorem onF_cases {a b p : Int} {xs : List Int} (h : onF a b p xs = true) : xs = [] ∨ ∃ x y, xs = [x, y] ∧ 0 ≤ x ∧ x < p ∧ 0 ≤ y ∧ y < p ∧ y * y % p = rsI a b p x := by
  match xs, h with
  | [], _ => exact .inl rfl
  | [x, y], h =>
    simp only [onF, Bool.and_eq_true, decide_eq_true_eq, beq_iff_eq] at h
    exact .inr ⟨x, y, rfl, by omega, by omega, by omega, by omega, h.2⟩
  | [_], h => simp [onF] at h
  | _ :: _ :: _ :: _, h => simp [onF] at h
theorem wrap_neg {y : Int} (h0 : 0 ≤ y) (h1 : y ≤ 997) : IntKind.i64.wrap (-y) = -y := by
  simp only [IntKind.wrap, IntKind.bits, IntKind.signed]
  simp
  omega
/-- the opposite. -/
def negL (p : Int) : List Int → List Int
  | [x, y] => [x, (-y) % p]
  | _ => []
theorem held2 {W w' : World} {B o : Nat} {u0 u1 : Value} (h : Below W.heap.size W w') (hB : B < W.heap.size) (c0 : W.cell? ⟨B, o, none⟩ = some u0) (c1 : W.cell? ⟨B, o + 1, none⟩ = some u1) :
    Below W.heap.size W w' ∧ w'.cell? ⟨B, o, none⟩ = some u0 ∧ w'.cell? ⟨B, o + 1, none⟩ = some u1 := ⟨h, (h.cell (p := ⟨B, o, none⟩) hB).trans c0, (h.cell (p := ⟨B, o + 1, none⟩) hB).trans c1⟩
noncomputable def askB (a b p : Int) (xs : List Int) : Bool := smallB a b p && onF a b p xs
theorem negL_len (a b p : Int) (xs : List Int) : (if askB a b p xs = true then negL p xs else []).length ≤ 1048576 := by
  split
  · unfold negL; split <;> simp
  · simp
end Go.Proofs.YtpjcfnjagknocaaGreatDoor
