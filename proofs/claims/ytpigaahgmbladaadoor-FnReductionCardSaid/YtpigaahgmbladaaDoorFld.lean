/- Fld: contracts: small good primes, the right side of the equation modulo a prime, points modulo a prime. No conditions. -/
import Derived.Test.YtpigaahgmbladaaDoorRed
import Derived.Test.YtpigaahgmbladaaDoorSl
namespace Go.Proofs.YtpigaahgmbladaaDoor
open Go.RowKit

noncomputable def smallB (a b p : Int) : Bool := curveB a b && (goodB a b p && decide (p ≤ 199))
theorem small_bd {a b p : Int} (h : smallB a b p = true) : curveB a b = true ∧ goodB a b p = true ∧ 5 ≤ p ∧ p ≤ 199 := by
  unfold smallB at h
  simp only [Bool.and_eq_true, decide_eq_true_eq] at h
  obtain ⟨h1, h2, h3⟩ := h
  have hg := h2
  unfold goodB at h2
  rw [Bool.and_eq_true] at h2
  exact ⟨h1, hg, (p5_bd h2.1).1, h3⟩

/-- the residue of x^3 + A x + B. -/
def rsI (a b p x : Int) : Int := (x * x * x + a * x + b) % p
theorem rs_alt (a b p x : Int) : (x * x % p * x + a * x + b) % p = rsI a b p x := by
  unfold rsI
  have h := Int.mul_ediv_add_emod (x * x) p
  have h2 : x * x * x = p * (x * x / p * x) + x * x % p * x := by
    calc x * x * x = (p * (x * x / p) + x * x % p) * x := by rw [h]
      _ = p * (x * x / p * x) + x * x % p * x := by rw [Int.add_mul, Int.mul_assoc]
  rw [h2, show p * (x * x / p * x) + x * x % p * x + a * x + b = (x * x % p * x + a * x + b) + p * (x * x / p * x) by omega, Int.add_mul_emod_self_left]
theorem rs_bd {a b p x : Int} (hp : 1 ≤ p) : 0 ≤ rsI a b p x ∧ rsI a b p x < p := ⟨Int.emod_nonneg _ (by omega), Int.emod_lt_of_pos _ (by omega)⟩
theorem rightSide_any (a b p x : Int) (w : World) (h1 : -1000 ≤ a) (h2 : a ≤ 1000) (h3 : -10000 ≤ b) (h4 : b ≤ 10000) (h5 : 2 ≤ p) (h6 : p ≤ 997) (h7 : 0 ≤ x) (h8 : x ≤ 997) :
    Calls Tryd.prog 82 #[.agg #[.int .i64 a, .int .i64 b], .int .i64 p, .int .i64 x] w (Ret (.int .i64 (rsI a b p x)) w) := by
  have hr := rs_alt a b p x
  have HR := Lib.hid hr; clear hr
  have xx := mul_bd (a := x) (b := x) (A := 997) (B := 997) (by omega) (by omega) (by omega) (by omega)
  have xx0 : 0 ≤ x * x := Int.mul_nonneg h7 h7
  have hm1 := Int.emod_nonneg (x * x) (show p ≠ 0 by omega)
  have hm2 := Int.emod_lt_of_pos (x * x) (show 0 < p by omega)
  have xm := mul_bd (a := x * x % p) (b := x) (A := 997) (B := 997) (by omega) (by omega) (by omega) (by omega)
  have ax := mul_bd (a := a) (b := x) (A := 1000) (B := 997) (by omega) (by omega) (by omega) (by omega)
  have hp0 : (p == 0) = false := by simp; omega
  go_enter Tryd.func82, Tryd.ntmps82
  go_wp2_with fail
  refine wp_region_grow (by kernel_rfl) (by kernel_rfl) ?_
  repeat (go_big_quiet_step (((go_at_call 84; exact grow_ret (modulo_any _ _ _ (by omega) (by omega))))))
  refine wpQuiet_nil ?_
  rintro wg hbg
  (try replace hbg := aft2 hbg (by assumption))
  obtain ⟨hcg, hfg, hg1, hg2, hg3, hg4⟩ := aftz hbg
  go_wp2_with fail
  go_ret
  exact ret_eq (congrArg (Value.int .i64) HR.out) (by repeat (first | exact Below.refl _ _ | (with_reducible assumption) | refine bel_alloc ?_ _ | refine bel_drew ?_ | refine bel_drewN ?_ _ | refine Below.setCell ?_ (by dsimp only; omega) _ | refine bel_trans (by assumption) ?_))
theorem fmValue_any (a b p x : Int) (w : World) (h1 : -1000 ≤ a) (h2 : a ≤ 1000) (h3 : -10000 ≤ b) (h4 : b ≤ 10000) (h5 : 2 ≤ p) (h6 : p ≤ 997) (h7 : 0 ≤ x) (h8 : x ≤ 997) :
    Calls Tryd.prog 83 #[.agg #[.int .i64 a, .int .i64 b], .int .i64 p, .int .i64 x] w (Ret (.int .i64 (rsI a b p x)) w) := by
  have xx := mul_bd (a := x) (b := x) (A := 997) (B := 997) (by omega) (by omega) (by omega) (by omega)
  have xxx := mul_bd (b := x) (B := 997) xx.1 xx.2 (by omega) (by omega)
  have ax := mul_bd (a := a) (b := x) (A := 1000) (B := 997) (by omega) (by omega) (by omega) (by omega)
  go_enter Tryd.func83, Tryd.ntmps83
  go_wp2_with (go_at_call 59; refine (mdMod_any _ _ _ (by omega) (by omega)).mono ?_; rintro e w' ⟨rfl, hb⟩; (try replace hb := aft2 hb (by assumption)); obtain ⟨hc, hf⟩ := aft hb)
  go_ret
  exact ret_eq rfl (by repeat (first | exact Below.refl _ _ | (with_reducible assumption) | refine bel_alloc ?_ _ | refine bel_drew ?_ | refine bel_drewN ?_ _ | refine Below.setCell ?_ (by dsimp only; omega) _ | refine bel_trans (by assumption) ?_))

/-- the lists that are points modulo a prime. -/
def onF (a b p : Int) (xs : List Int) : Bool :=
  match xs with
  | [] => true
  | [x, y] => decide (0 ≤ x ∧ x ≤ p - 1) && decide (0 ≤ y ∧ y ≤ p - 1) && (y * y % p == rsI a b p x)
  | _ => false
theorem below_alloc (w : World) (o : Obj) : Below w.heap.size w (w.alloc o) := (Below.refl _ _).alloc (Nat.le_refl _) o
end Go.Proofs.YtpigaahgmbladaaDoor
