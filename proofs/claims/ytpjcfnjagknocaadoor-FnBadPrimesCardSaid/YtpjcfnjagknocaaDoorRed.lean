/- Red: contracts: good primes, minimal models, valuations. No conditions. -/
import Derived.Test.YtpjcfnjagknocaaDoorPri
namespace Go.Proofs.YtpjcfnjagknocaaDoor
open Go.RowKit

noncomputable def p5B (p : Int) : Bool := inB p 5 997 && primeB p
noncomputable def goodB (a b p : Int) : Bool := p5B p && (discI a b % p != 0)
theorem p5_bd {p : Int} (h : p5B p = true) : 5 ≤ p ∧ p ≤ 997 := by
  unfold p5B at h; rw [Bool.and_eq_true] at h; exact inB_true.1 h.1
theorem p5_alt (p : Int) : ((inB p 2 997 && primeB p) && decide (5 ≤ p)) = p5B p := by
  rw [Bool.eq_iff_iff]; simp only [p5B, Bool.and_eq_true, inB_true, decide_eq_true_eq]
  constructor
  · rintro ⟨⟨⟨h1, h2⟩, h3⟩, h4⟩; exact ⟨⟨h4, h2⟩, h3⟩
  · rintro ⟨⟨h1, h2⟩, h3⟩; exact ⟨⟨⟨by omega, h2⟩, h3⟩, h1⟩

theorem fromFive_any (p : Int) (w : World) : Calls Tryd.prog 44 #[.int .i64 p] w (Ret (.bool (p5B p)) w) := by
  by_cases h : 5 ≤ p ∧ p ≤ 997
  · have i1 := inB_true.2 h
    have hv : p5B p = primeB p := by unfold p5B; rw [i1]; rfl
    have HV := Lib.hid hv; clear hv
    go_enter Tryd.func44, Tryd.ntmps44
    go_wp2_with (first | (go_at_call 53; refine (inside_any _ _ _ _).mono ?_; rintro e w' ⟨rfl, rfl⟩) | (go_at_call 67; refine (isPrime_any _ _ (by omega) (by omega)).mono ?_; rintro e w' ⟨rfl, hb⟩; (try replace hb := aft2 hb (by assumption)); obtain ⟨hc, hf⟩ := aft hb))
    go_ret
    exact ret_eq (by rw [HV.out]; rfl) (by repeat (first | exact Below.refl _ _ | (with_reducible assumption) | refine bel_alloc ?_ _ | refine bel_drew ?_ | refine bel_drewN ?_ _ | refine Below.setCell ?_ (by dsimp only; omega) _ | refine bel_trans (by assumption) ?_))
  · have i1 := inB_false.2 h
    have hv : p5B p = false := by unfold p5B; rw [i1]; rfl
    have HV := Lib.hid hv; clear hv
    go_enter Tryd.func44, Tryd.ntmps44
    go_wp2_with (go_at_call 53; refine (inside_any _ _ _ _).mono ?_; rintro e w' ⟨rfl, rfl⟩)
    go_ret
    exact ret_eq (by rw [HV.out]; rfl) (by repeat (first | exact Below.refl _ _ | (with_reducible assumption) | refine bel_alloc ?_ _ | refine bel_drew ?_ | refine bel_drewN ?_ _ | refine Below.setCell ?_ (by dsimp only; omega) _ | refine bel_trans (by assumption) ?_))
theorem rtPrime_any (p : Int) (w : World) : Calls Tryd.prog 69 #[.int .i64 p] w (Ret (.bool (p5B p)) w) := by
  have hv := p5_alt p
  have HV := Lib.hid hv; clear hv
  cases hp : (inB p 2 997 && primeB p)
  · go_enter Tryd.func69, Tryd.ntmps69
    go_wp2_with fail
    refine (mdPrime_any p _).mono ?_; rintro e w1 ⟨rfl, hb1⟩
    rw [hp]
    go_wp2_with fail
    go_ret
    exact ret_eq (by rw [← HV.out, hp]; rfl) (by repeat (first | exact Below.refl _ _ | (with_reducible assumption) | refine bel_alloc ?_ _ | refine bel_drew ?_ | refine bel_drewN ?_ _ | refine Below.setCell ?_ (by dsimp only; omega) _ | refine bel_trans (by assumption) ?_))
  · go_enter Tryd.func69, Tryd.ntmps69
    go_wp2_with fail
    refine (mdPrime_any p _).mono ?_; rintro e w1 ⟨rfl, hb1⟩
    rw [hp]
    go_wp2_with fail
    go_ret
    exact ret_eq (by rw [← HV.out, hp]; rfl) (by repeat (first | exact Below.refl _ _ | (with_reducible assumption) | refine bel_alloc ?_ _ | refine bel_drew ?_ | refine bel_drewN ?_ _ | refine Below.setCell ?_ (by dsimp only; omega) _ | refine bel_trans (by assumption) ?_))

/-! ### IsGoodPrime -/

/-! ### valuations -/
/-- how often p divides a, by fuel. -/
def valF : Nat → Int → Int → Int
  | 0, _, _ => 0
  | f + 1, a, p => if a.tmod p = 0 then valF f (a.tdiv p) p + 1 else 0
def valP (a p : Int) : Int := valF a.natAbs a p
theorem natAbs_tdiv_lt {u p : Int} (hu : u ≠ 0) (hp : 2 ≤ p) : (u.tdiv p).natAbs < u.natAbs := by
  rw [Int.natAbs_tdiv]
  exact Nat.div_lt_self (by omega) (by omega)
theorem tdiv_ne_zero {u p : Int} (hu : u ≠ 0) (hm : u.tmod p = 0) : u.tdiv p ≠ 0 := by
  intro h
  have := Int.mul_tdiv_add_tmod u p
  rw [h, hm] at this
  simp at this
  exact hu this.symm

theorem valuation_any (a p : Int) (w : World) (ha : a ≠ 0) (ha1 : -9000000000000000000 ≤ a) (ha2 : a ≤ 9000000000000000000) (hp : 2 ≤ p) (hp2 : p ≤ 9000000000000000000) :
    Calls Tryd.prog 63 #[.int .i64 a, .int .i64 p] w (Ret (.int .i64 (valP a p)) w) := by
  have hp0 : (p == 0) = false := by simp; omega
  have hp1 : (p == -1) = false := by simp; omega
  go_enter Tryd.func63, Tryd.ntmps63
  go_wp2
  go_loop [0, 5] (fun x y => ∃ (u n : Int) (f : Nat), x = .int .i64 u ∧ y = .int .i64 n ∧ -9000000000000000000 ≤ u ∧ u ≤ 9000000000000000000 ∧ 0 ≤ n ∧ n + u.natAbs ≤ a.natAbs ∧ Hid (u ≠ 0) ∧ u.natAbs ≤ f ∧ Hid (n + valF f u p = valP a p))
    (fun x _ => (intOf x).natAbs)
  case atStart => exact ⟨a, 0, a.natAbs, rfl, rfl, ha1, ha2, by omega, by omega, ha, Nat.le_refl _, by unfold Hid valP; omega⟩
  case round =>
    obtain ⟨u, n, f, rfl, rfl, h1, h2, h3, h4, hu, hf, HV⟩ := hrel
    obtain ⟨g, hg⟩ : ∃ g, f = g + 1 := ⟨f - 1, by have := hu.out; omega⟩
    subst hg
    by_cases hm : u.tmod p = 0
    · have hlt := natAbs_tdiv_lt hu.out hp
      have hne := tdiv_ne_zero hu.out hm
      have HV2 : Hid (n + 1 + valF g (u.tdiv p) p = valP a p) := by
        have := HV.out; unfold valF at this; rw [if_pos hm] at this; unfold Hid; omega
      have HNE := Lib.hid hne; clear hne
      have hmb : (u.tmod p == 0) = true := by simp [hm]
      clear hm HV
      go_wp2
      go_round
      case rel => exact ⟨u.tdiv p, n + 1, g, rfl, rfl, by omega, by omega, by omega, by omega, HNE, by omega, HV2⟩
      case measure => exact hlt
    · have hmb : (u.tmod p == 0) = false := by simp [hm]
      have HV2 : Hid (n = valP a p) := by
        have := HV.out; unfold valF at this; rw [if_neg hm] at this; unfold Hid; omega
      clear hm HV
      go_wp2
      go_ret
      exact ret_eq (by rw [← HV2.out]; rfl) (by repeat (first | exact Below.refl _ _ | (with_reducible assumption) | refine bel_alloc ?_ _ | refine bel_drew ?_ | refine bel_drewN ?_ _ | refine Below.setCell ?_ (by dsimp only; omega) _ | refine bel_trans (by assumption) ?_))
theorem mdValuation_any (a p : Int) (w : World) (ha : a ≠ 0) (ha1 : -9000000000000000000 ≤ a) (ha2 : a ≤ 9000000000000000000) (hp : 2 ≤ p) (hp2 : p ≤ 9000000000000000000) :
    Calls Tryd.prog 64 #[.int .i64 a, .int .i64 p] w (Ret (.int .i64 (valP a p)) w) := by
  have hp0 : (p == 0) = false := by simp; omega
  have hp1 : (p == -1) = false := by simp; omega
  go_enter Tryd.func64, Tryd.ntmps64
  go_wp2
  go_loop [0, 5] (fun x y => ∃ (u n : Int) (f : Nat), x = .int .i64 u ∧ y = .int .i64 n ∧ -9000000000000000000 ≤ u ∧ u ≤ 9000000000000000000 ∧ 0 ≤ n ∧ n + u.natAbs ≤ a.natAbs ∧ Hid (u ≠ 0) ∧ u.natAbs ≤ f ∧ Hid (n + valF f u p = valP a p))
    (fun x _ => (intOf x).natAbs)
  case atStart => exact ⟨a, 0, a.natAbs, rfl, rfl, ha1, ha2, by omega, by omega, ha, Nat.le_refl _, by unfold Hid valP; omega⟩
  case round =>
    obtain ⟨u, n, f, rfl, rfl, h1, h2, h3, h4, hu, hf, HV⟩ := hrel
    obtain ⟨g, hg⟩ : ∃ g, f = g + 1 := ⟨f - 1, by have := hu.out; omega⟩
    subst hg
    by_cases hm : u.tmod p = 0
    · have hlt := natAbs_tdiv_lt hu.out hp
      have hne := tdiv_ne_zero hu.out hm
      have HV2 : Hid (n + 1 + valF g (u.tdiv p) p = valP a p) := by
        have := HV.out; unfold valF at this; rw [if_pos hm] at this; unfold Hid; omega
      have HNE := Lib.hid hne; clear hne
      have hmb : (u.tmod p == 0) = true := by simp [hm]
      clear hm HV
      go_wp2
      go_round
      case rel => exact ⟨u.tdiv p, n + 1, g, rfl, rfl, by omega, by omega, by omega, by omega, HNE, by omega, HV2⟩
      case measure => exact hlt
    · have hmb : (u.tmod p == 0) = false := by simp [hm]
      have HV2 : Hid (n = valP a p) := by
        have := HV.out; unfold valF at this; rw [if_neg hm] at this; unfold Hid; omega
      clear hm HV
      go_wp2
      go_ret
      exact ret_eq (by rw [← HV2.out]; rfl) (by repeat (first | exact Below.refl _ _ | (with_reducible assumption) | refine bel_alloc ?_ _ | refine bel_drew ?_ | refine bel_drewN ?_ _ | refine Below.setCell ?_ (by dsimp only; omega) _ | refine bel_trans (by assumption) ?_))
end Go.Proofs.YtpjcfnjagknocaaDoor
