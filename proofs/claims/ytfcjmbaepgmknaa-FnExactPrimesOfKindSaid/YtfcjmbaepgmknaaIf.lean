/- If: contracts: searching a list with a function. No conditions. -/
import Derived.Test.YtfcjmbaepgmknaaKi
import Derived.Test.YtfcjmbaepgmknaaMk
namespace Go.Proofs.Ytfcjmbaepgmknaa
open Go.RowKit

def addB (a b p : Int) : Bool := kindN (minA a b p) b p == 1
/-- the first place at which P holds, from k on; -1 if there is none. -/
def idxF (P : Int → Bool) : List Int → Nat → Int
  | [], _ => -1
  | x :: r, k => if P x = true then (k : Int) else idxF P r (k + 1)
theorem idxF_step {P : Int → Bool} {xs : List Int} {k : Nat} (hk : k < xs.length) : idxF P (xs.drop k) k = if P (xs.getD k 0) = true then (k : Int) else idxF P (xs.drop (k + 1)) (k + 1) := by
  rw [List.drop_eq_getElem_cons hk]
  simp only [idxF, List.getD_eq_getElem?_getD, List.getElem?_eq_getElem hk, Option.getD_some]
theorem idxF_any (P : Int → Bool) : ∀ (xs : List Int) (k : Nat), decide (0 ≤ idxF P xs k) = xs.any P
  | [], k => by simp [idxF]
  | x :: r, k => by
    rw [idxF, List.any_cons]
    cases h : P x
    · rw [if_neg (by simp), Bool.false_or]; exact idxF_any P r (k + 1)
    · rw [if_pos rfl, Bool.true_or]; simp
end Go.Proofs.Ytfcjmbaepgmknaa
