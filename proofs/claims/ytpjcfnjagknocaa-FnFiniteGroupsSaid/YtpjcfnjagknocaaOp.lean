/- Op: contracts: the opposite of a point modulo a prime. No conditions. -/
import Derived.Test.YtpjcfnjagknocaaFld
import Derived.Test.YtpjcfnjagknocaaMk
import Derived.Test.YtpjcfnjagknocaaRg
import Derived.Laws.OwnMore
namespace Go.Proofs.Ytpjcfnjagknocaa
open Go.RowKit

theorem own_pair (w : World) (B : Nat) (hB : B ≤ w.heap.size) (a b : Int) : Own (w.alloc (.cells #[.int .i64 a, .int .i64 b] 3)) B (.slice (some ⟨w.heap.size, 0, none⟩) 2 2) [a, b] := by
  have h := World.ownsRow_lit (base := B) (e := 3) (size := 1) w #[.int .i64 a, .int .i64 b] 2 hB (by unfold maxLen; omega) (by simp)
  unfold Own
  simpa using h
/-- a list that is a point modulo p. -/
theorem onF_cases {a b p : Int} {xs : List Int} (h : onF a b p xs = true) : xs = [] ∨ ∃ x y, xs = [x, y] ∧ 0 ≤ x ∧ x < p ∧ 0 ≤ y ∧ y < p ∧ y * y % p = rsI a b p x := by
  match xs, h with
  | [], _ => exact .inl rfl
  | [x, y], h =>
    simp only [onF, Bool.and_eq_true, decide_eq_true_eq, beq_iff_eq] at h
    exact .inr ⟨x, y, rfl, by omega, by omega, by omega, by omega, h.2⟩
  | [_], h => simp [onF] at h
  | _ :: _ :: _ :: _, h => simp [onF] at h
theorem wrap_neg {y : Int} (h0 : 0 ≤ y) (h1 : y ≤ 997) : IntKind.i64.wrap (-y) = -y := by
  simp only [IntKind.wrap, IntKind.bits, IntKind.signed]
  simp
  omega
/-- the opposite. -/
def negL (p : Int) : List Int → List Int
  | [x, y] => [x, (-y) % p]
  | _ => []
theorem held2 {W w' : World} {B o : Nat} {u0 u1 : Value} (h : Below W.heap.size W w') (hB : B < W.heap.size) (c0 : W.cell? ⟨B, o, none⟩ = some u0) (c1 : W.cell? ⟨B, o + 1, none⟩ = some u1) :
    Below W.heap.size W w' ∧ w'.cell? ⟨B, o, none⟩ = some u0 ∧ w'.cell? ⟨B, o + 1, none⟩ = some u1 := ⟨h, (h.cell (p := ⟨B, o, none⟩) hB).trans c0, (h.cell (p := ⟨B, o + 1, none⟩) hB).trans c1⟩
noncomputable def askB (a b p : Int) (xs : List Int) : Bool := smallB a b p && onF a b p xs
/-- the curve, the prime and the point are valid. -/
theorem fmAsked_any (a b p : Int) (v : Value) (xs : List Int) (w : World) (hrd : Rd w v xs) :
    Calls Try.prog 94 #[.agg #[.int .i64 a, .int .i64 b], .int .i64 p, v] w (Ret (.bool (askB a b p xs)) w) := by
  cases hsm : smallB a b p
  · go_enter Try.func94, Try.ntmps94
    go_wp2_with (go_at_call 80; refine (fmSmall_any _ _ _ _).mono ?_; rintro e w' ⟨rfl, hb⟩; (try replace hb := aft2 hb (by assumption)); obtain ⟨hc, hf, hs1, hs2, hs3, hs4⟩ := aftz hb)
    go_ret
    exact ret_eq (by unfold askB; rw [hsm]; rfl) (by repeat (first | exact Below.refl _ _ | (with_reducible assumption) | refine bel_alloc ?_ _ | refine bel_drew ?_ | refine bel_drewN ?_ _ | refine Below.setCell ?_ (by dsimp only; omega) _ | refine bel_trans (by assumption) ?_))
  · obtain ⟨hcur, _, p1, p2⟩ := small_bd hsm
    obtain ⟨h1, h2, h3, h4, _⟩ := curveB_true.1 hcur
    go_enter Try.func94, Try.ntmps94
    go_wp2_with (go_at_call 80; refine (fmSmall_any _ _ _ _).mono ?_; rintro e w' ⟨rfl, hb⟩; (try replace hb := aft2 hb (by assumption)); obtain ⟨hc, hf, hs1, hs2, hs3, hs4⟩ := aftz hb)
    refine (fmOn_any _ _ _ v xs _ (hrd.keep (by repeat (first | exact Below.refl _ _ | (with_reducible assumption) | refine bel_alloc ?_ _ | refine bel_drew ?_ | refine bel_drewN ?_ _ | refine Below.setCell ?_ (by dsimp only; omega) _ | refine bel_trans (by assumption) ?_))) h1 h2 h3 h4 (by omega) (by omega)).mono ?_; rintro e w2 ⟨rfl, hb2⟩
    go_wp2_with fail
    go_ret
    exact ret_eq (by unfold askB; rw [hsm]; rfl) (by repeat (first | exact Below.refl _ _ | (with_reducible assumption) | refine bel_alloc ?_ _ | refine bel_drew ?_ | refine bel_drewN ?_ _ | refine Below.setCell ?_ (by dsimp only; omega) _ | refine bel_trans (by assumption) ?_))
theorem negL_len (a b p : Int) (xs : List Int) : (if askB a b p xs = true then negL p xs else []).length ≤ 1048576 := by
  split
  · unfold negL; split <;> simp
  · simp
end Go.Proofs.Ytpjcfnjagknocaa
