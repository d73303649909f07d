/- Min: contracts: minimal models at a prime, their valuations. No conditions. -/
import Derived.Test.YtpjcfnjagknocaaDoorRed
namespace Go.Proofs.YtpjcfnjagknocaaDoor
open Go.RowKit

/-- the one case in which a curve is not its own minimal model at a prime from 5 on. -/
def bigB (a b p : Int) : Bool := decide (p = 5 ∧ b = 0 ∧ (a = 625 ∨ a = -625))
def minA (a b p : Int) : Int := bif bigB a b p then a.tdiv 625 else a
def minN (a b p : Int) : Int := bif bigB a b p then 1 else 0
theorem big_true {a b p : Int} : bigB a b p = true ↔ p = 5 ∧ b = 0 ∧ (a = 625 ∨ a = -625) := by simp [bigB]
theorem p4_bd {p : Int} (h1 : 5 ≤ p) (h2 : p ≤ 997) : 25 ≤ p * p ∧ p * p ≤ 994009 ∧ 125 ≤ p * p * p ∧ p * p * p ≤ 991026973 ∧ 625 ≤ p * p * p * p ∧ p * p * p * p ≤ 988053892081 := by
  have a1 : 5 * 5 ≤ p * p := Int.mul_le_mul h1 h1 (by omega) (by omega)
  have a2 : p * p ≤ 997 * 997 := Int.mul_le_mul h2 h2 (by omega) (by omega)
  have b1 : 25 * 5 ≤ p * p * p := Int.mul_le_mul a1 h1 (by omega) (by omega)
  have b2 : p * p * p ≤ (997 * 997) * 997 := Int.mul_le_mul a2 h2 (by omega) (by omega)
  have c1 : 125 * 5 ≤ p * p * p * p := Int.mul_le_mul b1 h1 (by omega) (by omega)
  have c2 : p * p * p * p ≤ (997 * 997) * 997 * 997 := Int.mul_le_mul b2 h2 (by omega) (by omega)
  omega
theorem p6_bd {p : Int} (h1 : 5 ≤ p) (h2 : p ≤ 997) : 3125 ≤ p * p * p * p * p ∧ p * p * p * p * p ≤ 985089730404757 ∧ 15625 ≤ p * p * p * p * p * p ∧ p * p * p * p * p * p ≤ 982134461213542729 := by
  obtain ⟨_, _, _, _, c1, c2⟩ := p4_bd h1 h2
  have d1 : 625 * 5 ≤ p * p * p * p * p := Int.mul_le_mul c1 h1 (by omega) (by omega)
  have d2 : p * p * p * p * p ≤ 988053892081 * 997 := Int.mul_le_mul c2 h2 (by omega) (by omega)
  have e1 : 3125 * 5 ≤ p * p * p * p * p * p := Int.mul_le_mul d1 h1 (by omega) (by omega)
  have e2 : p * p * p * p * p * p ≤ 985089730404757 * 997 := Int.mul_le_mul d2 h2 (by omega) (by omega)
  omega
/-- a small number that a greater one divides is 0. -/
theorem tmod_small {a m : Int} (h : a.natAbs < m.natAbs) (hz : a.tmod m = 0) : a = 0 := by
  have h1 := Int.natAbs_tmod a m
  rw [hz, Nat.mod_eq_of_lt h] at h1
  simp at h1
  omega
theorem small_notp4 {a b p : Int} (h1 : -1000 ≤ a) (h2 : a ≤ 1000) (h3 : -10000 ≤ b) (h4 : b ≤ 10000) (hd : discI a b ≠ 0) (h5 : 5 ≤ p) (h6 : p ≤ 997) (hn : bigB a b p = false)
    (hm : a.tmod (p * p * p * p) = 0) : b.tmod (p * p * p * p * p * p) ≠ 0 := by
  intro hb
  obtain ⟨_, _, _, _, c1, c2⟩ := p4_bd h5 h6
  obtain ⟨d1, d2, e1, e2⟩ := p6_bd h5 h6
  have hb0 : b = 0 := tmod_small (by omega) hb
  subst hb0
  have ha : a ≠ 0 := by rintro rfl; exact hd (by decide)
  have hp5 : p = 5 := by
    rcases Int.lt_or_le p 6 with h | h
    · omega
    · have f1 : 6 * 6 ≤ p * p := Int.mul_le_mul h h (by omega) (by omega)
      have f2 : 36 * 6 ≤ p * p * p := Int.mul_le_mul f1 h (by omega) (by omega)
      have f3 : 216 * 6 ≤ p * p * p * p := Int.mul_le_mul f2 h (by omega) (by omega)
      exact absurd (tmod_small (by omega) hm) ha
  subst hp5
  have hdv := Int.dvd_of_tmod_eq_zero hm
  obtain ⟨k, hk⟩ := hdv
  have : bigB a 0 5 = true := big_true.2 ⟨rfl, rfl, by omega⟩
  rw [hn] at this
  cases this
theorem min_disc {a b p : Int} (hc : curveB a b = true) : -1000 ≤ minA a b p ∧ minA a b p ≤ 1000 ∧ discI (minA a b p) b ≠ 0 := by
  obtain ⟨h1, h2, _, _, h5⟩ := curveB_true.1 hc
  unfold minA
  cases h : bigB a b p
  · exact ⟨h1, h2, h5⟩
  · obtain ⟨rfl, rfl, h | h⟩ := big_true.1 h <;> subst h <;> simp [discI]
theorem min_curve {a b p : Int} (hc : curveB a b = true) : curveB (minA a b p) b = true := by
  obtain ⟨h1, h2, h3, h4, h5⟩ := curveB_true.1 hc
  obtain ⟨k1, k2, k3⟩ := min_disc (p := p) hc
  exact curveB_true.2 ⟨k1, k2, h3, h4, k3⟩

theorem minimal_any (a b p : Int) (w : World) (hc : curveB a b = true) (hp : p5B p = true) :
    Calls Tryd.prog 59 #[.agg #[.int .i64 a, .int .i64 b], .int .i64 p] w (Ret (.tuple #[.agg #[.int .i64 (minA a b p), .int .i64 b], .int .i64 (minN a b p)]) w) := by
  obtain ⟨h1, h2, h3, h4, hd⟩ := curveB_true.1 hc
  obtain ⟨h5, h6⟩ := p5_bd hp
  clear hc hp
  cases hbig : bigB a b p
  · have hA : minA a b p = a := by unfold minA; rw [hbig]; rfl
    have hN : minN a b p = 0 := by unfold minN; rw [hbig]; rfl
    rw [hA, hN]
    clear hA hN
    obtain ⟨c1, c2, c3, c4, c5, c6⟩ := p4_bd h5 h6
    obtain ⟨d1, d2, d3, d4⟩ := p6_bd h5 h6
    have hq0 : (p * p * p * p == 0) = false := by simp only [beq_eq_false_iff_ne]; omega
    have hq6 : (p * p * p * p * p * p == 0) = false := by simp only [beq_eq_false_iff_ne]; omega
    by_cases hm : a.tmod (p * p * p * p) = 0
    · have hb := small_notp4 h1 h2 h3 h4 hd h5 h6 hbig hm
      have hmb : (a.tmod (p * p * p * p) == 0) = true := by simp [hm]
      have hbb : (b.tmod (p * p * p * p * p * p) == 0) = false := by simp [hb]
      clear hm hb hd hbig
      go_enter Tryd.func59, Tryd.ntmps59
      go_wp2_with fail
      refine wp_loop_rounds 1 ?_; rw [rounds_succ]
      go_wp2_with fail
      refine bodyPost_ret (by simp (maxDischargeDepth := 3) [results, Tryd.results59, go_sem, *]; try rfl) rfl ?_
      exact ret_mk (by repeat (first | exact Below.refl _ _ | (with_reducible assumption) | refine bel_alloc ?_ _ | refine bel_drew ?_ | refine bel_drewN ?_ _ | refine Below.setCell ?_ (by dsimp only; omega) _ | refine bel_trans (by assumption) ?_))
    · have hmb : (a.tmod (p * p * p * p) == 0) = false := by simp [hm]
      clear hm hd hbig
      go_enter Tryd.func59, Tryd.ntmps59
      go_wp2_with fail
      refine wp_loop_rounds 1 ?_; rw [rounds_succ]
      go_wp2_with fail
      refine bodyPost_ret (by simp (maxDischargeDepth := 3) [results, Tryd.results59, go_sem, *]; try rfl) rfl ?_
      exact ret_mk (by repeat (first | exact Below.refl _ _ | (with_reducible assumption) | refine bel_alloc ?_ _ | refine bel_drew ?_ | refine bel_drewN ?_ _ | refine Below.setCell ?_ (by dsimp only; omega) _ | refine bel_trans (by assumption) ?_))
  · obtain ⟨rfl, rfl, h | h⟩ := big_true.1 hbig
    all_goals
      subst h
      clear hbig hd
      go_enter Tryd.func59, Tryd.ntmps59
      go_wp2_with fail
      refine wp_loop_rounds 2 ?_; rw [rounds_succ]
      go_wp2_with fail
      refine wp_region_tail 13 (by kernel_rfl) (by kernel_rfl) ?_
      simp only [List.take_succ_cons, List.take_zero, List.drop_succ_cons, List.drop_zero]
      repeat (go_big_quiet_step (fail))
      refine wpQuiet_nil ?_
      go_wp2_with fail
      rw [rounds_succ]
      go_wp2_with fail
      refine bodyPost_ret (by simp (maxDischargeDepth := 3) [results, Tryd.results59, go_sem, *]; try rfl) rfl ?_
      exact ret_mk (by repeat (first | exact Below.refl _ _ | (with_reducible assumption) | refine bel_alloc ?_ _ | refine bel_drew ?_ | refine bel_drewN ?_ _ | refine Below.setCell ?_ (by dsimp only; omega) _ | refine bel_trans (by assumption) ?_))
theorem rtMinimal_any (a b p : Int) (w : World) (hc : curveB a b = true) (hp : p5B p = true) :
    Calls Tryd.prog 37 #[.agg #[.int .i64 a, .int .i64 b], .int .i64 p] w (Ret (.tuple #[.agg #[.int .i64 (minA a b p), .int .i64 b], .int .i64 (minN a b p)]) w) := by
  obtain ⟨h1, h2, h3, h4, hd⟩ := curveB_true.1 hc
  obtain ⟨h5, h6⟩ := p5_bd hp
  clear hc hp
  cases hbig : bigB a b p
  · have hA : minA a b p = a := by unfold minA; rw [hbig]; rfl
    have hN : minN a b p = 0 := by unfold minN; rw [hbig]; rfl
    rw [hA, hN]
    clear hA hN
    obtain ⟨c1, c2, c3, c4, c5, c6⟩ := p4_bd h5 h6
    obtain ⟨d1, d2, d3, d4⟩ := p6_bd h5 h6
    have hq0 : (p * p * p * p == 0) = false := by simp only [beq_eq_false_iff_ne]; omega
    have hq6 : (p * p * p * p * p * p == 0) = false := by simp only [beq_eq_false_iff_ne]; omega
    by_cases hm : a.tmod (p * p * p * p) = 0
    · have hb := small_notp4 h1 h2 h3 h4 hd h5 h6 hbig hm
      have hmb : (a.tmod (p * p * p * p) == 0) = true := by simp [hm]
      have hbb : (b.tmod (p * p * p * p * p * p) == 0) = false := by simp [hb]
      clear hm hb hd hbig
      go_enter Tryd.func37, Tryd.ntmps37
      go_wp2_with fail
      refine wp_loop_rounds 1 ?_; rw [rounds_succ]
      go_wp2_with fail
      refine bodyPost_ret (by simp (maxDischargeDepth := 3) [results, Tryd.results37, go_sem, *]; try rfl) rfl ?_
      exact ret_mk (by repeat (first | exact Below.refl _ _ | (with_reducible assumption) | refine bel_alloc ?_ _ | refine bel_drew ?_ | refine bel_drewN ?_ _ | refine Below.setCell ?_ (by dsimp only; omega) _ | refine bel_trans (by assumption) ?_))
    · have hmb : (a.tmod (p * p * p * p) == 0) = false := by simp [hm]
      clear hm hd hbig
      go_enter Tryd.func37, Tryd.ntmps37
      go_wp2_with fail
      refine wp_loop_rounds 1 ?_; rw [rounds_succ]
      go_wp2_with fail
      refine bodyPost_ret (by simp (maxDischargeDepth := 3) [results, Tryd.results37, go_sem, *]; try rfl) rfl ?_
      exact ret_mk (by repeat (first | exact Below.refl _ _ | (with_reducible assumption) | refine bel_alloc ?_ _ | refine bel_drew ?_ | refine bel_drewN ?_ _ | refine Below.setCell ?_ (by dsimp only; omega) _ | refine bel_trans (by assumption) ?_))
  · obtain ⟨rfl, rfl, h | h⟩ := big_true.1 hbig
    all_goals
      subst h
      clear hbig hd
      go_enter Tryd.func37, Tryd.ntmps37
      go_wp2_with fail
      refine wp_loop_rounds 2 ?_; rw [rounds_succ]
      go_wp2_with fail
      refine wp_region_tail 13 (by kernel_rfl) (by kernel_rfl) ?_
      simp only [List.take_succ_cons, List.take_zero, List.drop_succ_cons, List.drop_zero]
      repeat (go_big_quiet_step (fail))
      refine wpQuiet_nil ?_
      go_wp2_with fail
      rw [rounds_succ]
      go_wp2_with fail
      refine bodyPost_ret (by simp (maxDischargeDepth := 3) [results, Tryd.results37, go_sem, *]; try rfl) rfl ?_
      exact ret_mk (by repeat (first | exact Below.refl _ _ | (with_reducible assumption) | refine bel_alloc ?_ _ | refine bel_drew ?_ | refine bel_drewN ?_ _ | refine Below.setCell ?_ (by dsimp only; omega) _ | refine bel_trans (by assumption) ?_))
theorem rtAsked_any (a b p : Int) (w : World) :
    Calls Tryd.prog 48 #[.agg #[.int .i64 a, .int .i64 b], .int .i64 p] w (Ret (.bool (curveB a b && p5B p)) w) := by
  cases hcur : curveB a b
  · go_enter Tryd.func48, Tryd.ntmps48
    go_wp2_with (go_at_call 26; refine (ecGood_any _ _ _).mono ?_; rintro e w' ⟨rfl, hb⟩; (try replace hb := aft2 hb (by assumption)); obtain ⟨hc, hf⟩ := aft hb)
    go_ret
    exact ret_mk (by repeat (first | exact Below.refl _ _ | (with_reducible assumption) | refine bel_alloc ?_ _ | refine bel_drew ?_ | refine bel_drewN ?_ _ | refine Below.setCell ?_ (by dsimp only; omega) _ | refine bel_trans (by assumption) ?_))
  · go_enter Tryd.func48, Tryd.ntmps48
    go_wp2_with (first | (go_at_call 26; refine (ecGood_any _ _ _).mono ?_; rintro e w' ⟨rfl, hb⟩; (try replace hb := aft2 hb (by assumption)); obtain ⟨hc, hf⟩ := aft hb) | (go_at_call 69; refine (rtPrime_any _ _).mono ?_; rintro e w' ⟨rfl, hb⟩; (try replace hb := aft2 hb (by assumption)); obtain ⟨hc, hf⟩ := aft hb))
    go_ret
    exact ret_mk (by repeat (first | exact Below.refl _ _ | (with_reducible assumption) | refine bel_alloc ?_ _ | refine bel_drew ?_ | refine bel_drewN ?_ _ | refine Below.setCell ?_ (by dsimp only; omega) _ | refine bel_trans (by assumption) ?_))
end Go.Proofs.YtpjcfnjagknocaaDoor
