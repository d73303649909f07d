/- Red: contracts: good primes, minimal models, valuations. No conditions. -/
import Derived.Test.YtpjcfnjagknocaaPri
namespace Go.Proofs.Ytpjcfnjagknocaa
open Go.RowKit

noncomputable def p5B (p : Int) : Bool := inB p 5 997 && primeB p
noncomputable def goodB (a b p : Int) : Bool := p5B p && (discI a b % p != 0)
theorem p5_bd {p : Int} (h : p5B p = true) : 5 ≤ p ∧ p ≤ 997 := by
  unfold p5B at h; rw [Bool.and_eq_true] at h; exact inB_true.1 h.1
theorem p5_alt (p : Int) : ((inB p 2 997 && primeB p) && decide (5 ≤ p)) = p5B p := by
  rw [Bool.eq_iff_iff]; simp only [p5B, Bool.and_eq_true, inB_true, decide_eq_true_eq]
  constructor
  · rintro ⟨⟨⟨h1, h2⟩, h3⟩, h4⟩; exact ⟨⟨h4, h2⟩, h3⟩
  · rintro ⟨⟨h1, h2⟩, h3⟩; exact ⟨⟨⟨by omega, h2⟩, h3⟩, h1⟩

theorem isGood_any (a b p : Int) (w : World) (h1 : -1000 ≤ a) (h2 : a ≤ 1000) (h3 : -10000 ≤ b) (h4 : b ≤ 10000) :
    Calls Try.prog 84 #[.agg #[.int .i64 a, .int .i64 b], .int .i64 p] w (Ret (.bool (goodB a b p)) w) := by
  by_cases h : 5 ≤ p ∧ p ≤ 997
  · have i1 := inB_true.2 h
    cases hp : primeB p
    · have hv : goodB a b p = false := by unfold goodB p5B; rw [hp]; simp
      have HV := Lib.hid hv; clear hv
      go_enter Try.func84, Try.ntmps84
      go_wp2_with (first | (go_at_call 70; refine (inside_any _ _ _ _).mono ?_; rintro e w' ⟨rfl, rfl⟩) | (go_at_call 88; refine (isPrime_any _ _ (by omega) (by omega)).mono ?_; rintro e w' ⟨rfl, hb⟩; (try replace hb := aft2 hb (by assumption)); obtain ⟨hc, hf⟩ := aft hb))
      go_ret
      exact ret_eq (by rw [HV.out]; rfl) (by repeat (first | exact Below.refl _ _ | (with_reducible assumption) | refine bel_alloc ?_ _ | refine bel_drew ?_ | refine bel_drewN ?_ _ | refine Below.setCell ?_ (by dsimp only; omega) _ | refine bel_trans (by assumption) ?_))
    · have hp0 : (p == 0) = false := by simp; omega
      by_cases hz : discI a b % p = 0
      · have hv : goodB a b p = false := by unfold goodB p5B; rw [hz]; simp
        have HV := Lib.hid hv; clear hv
        have ht : (Int.tmod (discI a b) p != 0) = false := by rw [tmod_zero_iff.2 hz]; rfl
        clear hz
        go_enter Try.func84, Try.ntmps84
        go_wp2_with (first | (go_at_call 70; refine (inside_any _ _ _ _).mono ?_; rintro e w' ⟨rfl, rfl⟩) | (go_at_call 88; refine (isPrime_any _ _ (by omega) (by omega)).mono ?_; rintro e w' ⟨rfl, hb⟩; (try replace hb := aft2 hb (by assumption)); obtain ⟨hc, hf⟩ := aft hb) | (go_at_call 129; refine (core_any _ _ _ h1 h2 h3 h4).mono ?_; rintro e w' ⟨rfl, hb⟩; (try replace hb := aft2 hb (by assumption)); obtain ⟨hc, hf⟩ := aft hb))
        go_ret
        exact ret_eq (by rw [HV.out]; rfl) (by repeat (first | exact Below.refl _ _ | (with_reducible assumption) | refine bel_alloc ?_ _ | refine bel_drew ?_ | refine bel_drewN ?_ _ | refine Below.setCell ?_ (by dsimp only; omega) _ | refine bel_trans (by assumption) ?_))
      · have hv : goodB a b p = true := by unfold goodB p5B; rw [hp, i1]; simp [hz]
        have HV := Lib.hid hv; clear hv
        have ht : (Int.tmod (discI a b) p != 0) = true := by simp only [bne_iff_ne]; exact fun k => hz (tmod_zero_iff.1 k)
        clear hz
        go_enter Try.func84, Try.ntmps84
        go_wp2_with (first | (go_at_call 70; refine (inside_any _ _ _ _).mono ?_; rintro e w' ⟨rfl, rfl⟩) | (go_at_call 88; refine (isPrime_any _ _ (by omega) (by omega)).mono ?_; rintro e w' ⟨rfl, hb⟩; (try replace hb := aft2 hb (by assumption)); obtain ⟨hc, hf⟩ := aft hb) | (go_at_call 129; refine (core_any _ _ _ h1 h2 h3 h4).mono ?_; rintro e w' ⟨rfl, hb⟩; (try replace hb := aft2 hb (by assumption)); obtain ⟨hc, hf⟩ := aft hb))
        go_ret
        exact ret_eq (by rw [HV.out]; rfl) (by repeat (first | exact Below.refl _ _ | (with_reducible assumption) | refine bel_alloc ?_ _ | refine bel_drew ?_ | refine bel_drewN ?_ _ | refine Below.setCell ?_ (by dsimp only; omega) _ | refine bel_trans (by assumption) ?_))
  · have i1 := inB_false.2 h
    have hv : goodB a b p = false := by unfold goodB p5B; rw [i1]; rfl
    have HV := Lib.hid hv; clear hv
    go_enter Try.func84, Try.ntmps84
    go_wp2_with (go_at_call 70; refine (inside_any _ _ _ _).mono ?_; rintro e w' ⟨rfl, rfl⟩)
    go_ret
    exact ret_eq (by rw [HV.out]; rfl) (by repeat (first | exact Below.refl _ _ | (with_reducible assumption) | refine bel_alloc ?_ _ | refine bel_drew ?_ | refine bel_drewN ?_ _ | refine Below.setCell ?_ (by dsimp only; omega) _ | refine bel_trans (by assumption) ?_))
theorem fmGood_any (a b p : Int) (w : World) :
    Calls Try.prog 86 #[.agg #[.int .i64 a, .int .i64 b], .int .i64 p] w (Ret (.bool (curveB a b && goodB a b p)) w) := by
  cases hc : curveB a b
  · go_enter Try.func86, Try.ntmps86
    go_wp2_with (go_at_call 89; refine (ecGood_any _ _ _).mono ?_; rintro e w' ⟨rfl, hb⟩; (try replace hb := aft2 hb (by assumption)); obtain ⟨hc, hf⟩ := aft hb)
    go_ret
    exact ret_mk (by repeat (first | exact Below.refl _ _ | (with_reducible assumption) | refine bel_alloc ?_ _ | refine bel_drew ?_ | refine bel_drewN ?_ _ | refine Below.setCell ?_ (by dsimp only; omega) _ | refine bel_trans (by assumption) ?_))
  · obtain ⟨h1, h2, h3, h4, _⟩ := curveB_true.1 hc
    have hv := p5_alt p
    have hgv : goodB a b p = (p5B p && (discI a b % p != 0)) := rfl
    have HV := Lib.hid hv; clear hv
    have HG := Lib.hid hgv; clear hgv
    cases hp : (inB p 2 997 && primeB p)
    · go_enter Try.func86, Try.ntmps86
      go_wp2_with (go_at_call 89; refine (ecGood_any _ _ _).mono ?_; rintro e w' ⟨rfl, hb⟩; (try replace hb := aft2 hb (by assumption)); obtain ⟨hc, hf, hs1, hs2, hs3, hs4⟩ := aftz hb)
      refine (mdPrime_any p _).mono ?_; rintro e w1 ⟨rfl, hb1⟩
      rw [hp]
      go_wp2_with fail
      go_ret
      exact ret_eq (by rw [HG.out, ← HV.out, hp]; rfl) (by repeat (first | exact Below.refl _ _ | (with_reducible assumption) | refine bel_alloc ?_ _ | refine bel_drew ?_ | refine bel_drewN ?_ _ | refine Below.setCell ?_ (by dsimp only; omega) _ | refine bel_trans (by assumption) ?_))
    · have hpb : 2 ≤ p ∧ p ≤ 997 := by rw [Bool.and_eq_true] at hp; exact inB_true.1 hp.1
      by_cases h5 : 5 ≤ p
      · go_enter Try.func86, Try.ntmps86
        go_wp2_with (go_at_call 89; refine (ecGood_any _ _ _).mono ?_; rintro e w' ⟨rfl, hb⟩; (try replace hb := aft2 hb (by assumption)); obtain ⟨hc, hf, hs1, hs2, hs3, hs4⟩ := aftz hb)
        refine (mdPrime_any p _).mono ?_; rintro e w1 ⟨rfl, hb1⟩
        rw [hp]
        (try replace hb1 := aft2 hb1 (by assumption))
        obtain ⟨hc1, hf1, hs11, hs12, hs13, hs14⟩ := aftz hb1
        go_wp2_with (first | (go_at_call 132; refine (ecDisc_any _ _ _ h1 h2 h3 h4).mono ?_; rintro e w' ⟨rfl, hb⟩; (try replace hb := aft2 hb (by assumption)); obtain ⟨hc, hf⟩ := aft hb) | (go_at_call 131; refine (mdMod_any _ _ _ (by omega) (by omega)).mono ?_; rintro e w' ⟨rfl, hb⟩; (try replace hb := aft2 hb (by assumption)); obtain ⟨hc, hf⟩ := aft hb))
        go_ret
        exact ret_eq (by rw [HG.out, ← HV.out, hp]; simp [h5]) (by repeat (first | exact Below.refl _ _ | (with_reducible assumption) | refine bel_alloc ?_ _ | refine bel_drew ?_ | refine bel_drewN ?_ _ | refine Below.setCell ?_ (by dsimp only; omega) _ | refine bel_trans (by assumption) ?_))
      · go_enter Try.func86, Try.ntmps86
        go_wp2_with (go_at_call 89; refine (ecGood_any _ _ _).mono ?_; rintro e w' ⟨rfl, hb⟩; (try replace hb := aft2 hb (by assumption)); obtain ⟨hc, hf, hs1, hs2, hs3, hs4⟩ := aftz hb)
        refine (mdPrime_any p _).mono ?_; rintro e w1 ⟨rfl, hb1⟩
        rw [hp]
        go_wp2_with fail
        go_ret
        exact ret_eq (by rw [HG.out, ← HV.out, hp, decide_eq_false (show ¬ 5 ≤ p by omega)]; rfl) (by repeat (first | exact Below.refl _ _ | (with_reducible assumption) | refine bel_alloc ?_ _ | refine bel_drew ?_ | refine bel_drewN ?_ _ | refine Below.setCell ?_ (by dsimp only; omega) _ | refine bel_trans (by assumption) ?_))

/-! ### IsGoodPrime -/
theorem iIsGoodPrime_any (a b p : Int) (w : World) :
    Calls Try.prog 27 #[.agg #[.int .i64 a, .int .i64 b], .int .i64 p] w (Ret (bif curveB a b && (inB p 2 997 && primeB p) then .tuple #[.bool (goodB a b p), .bool true] else .tuple #[.bool false, .bool false]) w) := by
  cases hc : curveB a b
  · go_enter Try.func27, Try.ntmps27
    go_wp2_with (go_at_call 83; refine (isCurve_any _ _ _).mono ?_; rintro e w' ⟨rfl, hb⟩; (try replace hb := aft2 hb (by assumption)); obtain ⟨hc, hf⟩ := aft hb)
    go_returns
    exact ret_mk (by repeat (first | exact Below.refl _ _ | (with_reducible assumption) | refine bel_alloc ?_ _ | refine bel_drew ?_ | refine bel_drewN ?_ _ | refine Below.setCell ?_ (by dsimp only; omega) _ | refine bel_trans (by assumption) ?_))
  · obtain ⟨h1, h2, h3, h4, _⟩ := curveB_true.1 hc
    by_cases h : 2 ≤ p ∧ p ≤ 997
    · have i1 := inB_true.2 h
      cases hp : primeB p
      · go_enter Try.func27, Try.ntmps27
        go_wp2_with (first | (go_at_call 83; refine (isCurve_any _ _ _).mono ?_; rintro e w' ⟨rfl, hb⟩; (try replace hb := aft2 hb (by assumption)); obtain ⟨hc, hf, hs1, hs2, hs3, hs4⟩ := aftz hb) | (go_at_call 70; refine (inside_any _ _ _ _).mono ?_; rintro e w' ⟨rfl, rfl⟩) | (go_at_call 88; refine (isPrime_any _ _ (by omega) (by omega)).mono ?_; rintro e w' ⟨rfl, hb⟩; (try replace hb := aft2 hb (by assumption)); obtain ⟨hc, hf⟩ := aft hb))
        go_returns
        exact ret_eq (by first | rfl | (rw [i1]; rfl)) (by repeat (first | exact Below.refl _ _ | (with_reducible assumption) | refine bel_alloc ?_ _ | refine bel_drew ?_ | refine bel_drewN ?_ _ | refine Below.setCell ?_ (by dsimp only; omega) _ | refine bel_trans (by assumption) ?_))
      · go_enter Try.func27, Try.ntmps27
        go_wp2_with (first | (go_at_call 83; refine (isCurve_any _ _ _).mono ?_; rintro e w' ⟨rfl, hb⟩; (try replace hb := aft2 hb (by assumption)); obtain ⟨hc, hf, hs1, hs2, hs3, hs4⟩ := aftz hb) | (go_at_call 70; refine (inside_any _ _ _ _).mono ?_; rintro e w' ⟨rfl, rfl⟩) | (go_at_call 88; refine (isPrime_any _ _ (by omega) (by omega)).mono ?_; rintro e w' ⟨rfl, hb⟩; (try replace hb := aft2 hb (by assumption)); obtain ⟨hc, hf, hs1, hs2, hs3, hs4⟩ := aftz hb) | (go_at_call 84; refine (isGood_any _ _ _ _ h1 h2 h3 h4).mono ?_; rintro e w' ⟨rfl, hb⟩; (try replace hb := aft2 hb (by assumption)); obtain ⟨hc, hf⟩ := aft hb))
        go_returns
        exact ret_eq (by first | rfl | (rw [i1]; rfl)) (by repeat (first | exact Below.refl _ _ | (with_reducible assumption) | refine bel_alloc ?_ _ | refine bel_drew ?_ | refine bel_drewN ?_ _ | refine Below.setCell ?_ (by dsimp only; omega) _ | refine bel_trans (by assumption) ?_))
    · have i1 := inB_false.2 h
      go_enter Try.func27, Try.ntmps27
      go_wp2_with (first | (go_at_call 83; refine (isCurve_any _ _ _).mono ?_; rintro e w' ⟨rfl, hb⟩; (try replace hb := aft2 hb (by assumption)); obtain ⟨hc, hf, hs1, hs2, hs3, hs4⟩ := aftz hb) | (go_at_call 70; refine (inside_any _ _ _ _).mono ?_; rintro e w' ⟨rfl, rfl⟩))
      go_returns
      exact ret_eq (by first | rfl | (rw [i1]; rfl)) (by repeat (first | exact Below.refl _ _ | (with_reducible assumption) | refine bel_alloc ?_ _ | refine bel_drew ?_ | refine bel_drewN ?_ _ | refine Below.setCell ?_ (by dsimp only; omega) _ | refine bel_trans (by assumption) ?_))
theorem sIsGoodPrime_any (a b p : Int) (w : World) :
    Calls Try.prog 28 #[.agg #[.int .i64 a, .int .i64 b], .int .i64 p] w (Ret (bif curveB a b && (inB p 2 997 && primeB p) then .tuple #[.bool (goodB a b p), .bool true] else .tuple #[.bool false, .bool false]) w) := by
  cases hc : curveB a b
  · go_enter Try.func28, Try.ntmps28
    go_wp2_with (go_at_call 89; refine (ecGood_any _ _ _).mono ?_; rintro e w' ⟨rfl, hb⟩; (try replace hb := aft2 hb (by assumption)); obtain ⟨hc, hf⟩ := aft hb)
    go_returns
    exact ret_mk (by repeat (first | exact Below.refl _ _ | (with_reducible assumption) | refine bel_alloc ?_ _ | refine bel_drew ?_ | refine bel_drewN ?_ _ | refine Below.setCell ?_ (by dsimp only; omega) _ | refine bel_trans (by assumption) ?_))
  · cases hp : (inB p 2 997 && primeB p)
    · go_enter Try.func28, Try.ntmps28
      go_wp2_with (go_at_call 89; refine (ecGood_any _ _ _).mono ?_; rintro e w' ⟨rfl, hb⟩; (try replace hb := aft2 hb (by assumption)); obtain ⟨hc, hf, hs1, hs2, hs3, hs4⟩ := aftz hb)
      refine (mdPrime_any p _).mono ?_; rintro e w1 ⟨rfl, hb1⟩
      rw [hp]
      go_wp2_with fail
      go_returns
      exact ret_eq (by first | rfl | (rw [hp]; rfl)) (by repeat (first | exact Below.refl _ _ | (with_reducible assumption) | refine bel_alloc ?_ _ | refine bel_drew ?_ | refine bel_drewN ?_ _ | refine Below.setCell ?_ (by dsimp only; omega) _ | refine bel_trans (by assumption) ?_))
    · have hgc : (curveB a b && goodB a b p) = goodB a b p := by rw [hc]; rfl
      have HC := Lib.hid hgc; clear hgc
      go_enter Try.func28, Try.ntmps28
      go_wp2_with (go_at_call 89; refine (ecGood_any _ _ _).mono ?_; rintro e w' ⟨rfl, hb⟩; (try replace hb := aft2 hb (by assumption)); obtain ⟨hc, hf, hs1, hs2, hs3, hs4⟩ := aftz hb)
      refine (mdPrime_any p _).mono ?_; rintro e w1 ⟨rfl, hb1⟩
      rw [hp]
      (try replace hb1 := aft2 hb1 (by assumption))
      obtain ⟨hc1, hf1, hs11, hs12, hs13, hs14⟩ := aftz hb1
      go_wp2_with fail
      refine (fmGood_any a b p _).mono ?_; rintro e w2 ⟨rfl, hb2⟩
      rw [HC.out]
      go_wp2_with fail
      go_returns
      exact ret_eq (by first | rfl | (rw [hp]; rfl)) (by repeat (first | exact Below.refl _ _ | (with_reducible assumption) | refine bel_alloc ?_ _ | refine bel_drew ?_ | refine bel_drewN ?_ _ | refine Below.setCell ?_ (by dsimp only; omega) _ | refine bel_trans (by assumption) ?_))

/-! ### valuations -/
/-- how often p divides a, by fuel. -/
def valF : Nat → Int → Int → Int
  | 0, _, _ => 0
  | f + 1, a, p => if a.tmod p = 0 then valF f (a.tdiv p) p + 1 else 0
def valP (a p : Int) : Int := valF a.natAbs a p
theorem natAbs_tdiv_lt {u p : Int} (hu : u ≠ 0) (hp : 2 ≤ p) : (u.tdiv p).natAbs < u.natAbs := by
  rw [Int.natAbs_tdiv]
  exact Nat.div_lt_self (by omega) (by omega)
theorem tdiv_ne_zero {u p : Int} (hu : u ≠ 0) (hm : u.tmod p = 0) : u.tdiv p ≠ 0 := by
  intro h
  have := Int.mul_tdiv_add_tmod u p
  rw [h, hm] at this
  simp at this
  exact hu this.symm

end Go.Proofs.Ytpjcfnjagknocaa
