/- Pri: contracts of primality tests and residues. No conditions. -/
import Derived.Test.YtpjcfnjagknocaaCur
namespace Go.Proofs.Ytpjcfnjagknocaa
open Go.RowKit

theorem isPrime_any (n : Int) (w : World) (h1 : 2 ≤ n) (h2 : n ≤ 997) :
    Calls Try.prog 88 #[.int .i64 n] w (Ret (.bool (primeB n)) w) := by
  go_enter Try.func88, Try.ntmps88
  go_wp2
  go_loop [3] (fun x => ∃ d : Int, x = .int .i64 d ∧ 2 ≤ d ∧ d ≤ 32 ∧ Hid (∀ k : Int, 2 ≤ k → k < d → n % k ≠ 0)) (fun x => (40 - intOf x).toNat)
  case atStart => exact ⟨2, rfl, by omega, by omega, fun k h h' => by omega⟩
  case round =>
    obtain ⟨d, rfl, hd, hd2, hno⟩ := hrel
    have hdd := mul_bd (a := d) (b := d) (A := 32) (B := 32) (by omega) (by omega) (by omega) (by omega)
    by_cases hle : d * d ≤ n
    · have hd31 : d ≤ 31 := by
        rcases Int.lt_or_le 31 d with h | h
        · have : 32 * 32 ≤ d * d := Int.mul_le_mul (by omega) (by omega) (by omega) (by omega)
          omega
        · exact h
      by_cases hz : n % d = 0
      · have hf := primeB_false.2 (not_pr_of_dvd hd hle hz)
        have HF := Lib.hid hf; clear hf
        have hz' : (n % d == 0) = true := by simp [hz]
        clear hz
        go_wp2
        go_ret
        exact ret_eq (congrArg Value.bool HF.out.symm) (by repeat (first | exact Below.refl _ _ | (with_reducible assumption) | refine bel_alloc ?_ _ | refine bel_drew ?_ | refine bel_drewN ?_ _ | refine Below.setCell ?_ (by dsimp only; omega) _ | refine bel_trans (by assumption) ?_))
      · have hz' : (n % d == 0) = false := by simp [hz]
        go_wp2
        go_round
        case rel => exact ⟨d + 1, rfl, by omega, by omega, fun k h h' => by
          rcases Int.lt_or_le k d with h3 | h3
          · exact hno.out k h h3
          · have : k = d := by omega
            subst this; exact hz⟩
        case measure => simp [intOf]; omega
    · have ht := primeB_true.2 (pr_of_root h1 (by omega) hd hno.out)
      have HT := Lib.hid ht; clear ht
      go_wp2
      go_ret
      exact ret_eq (congrArg Value.bool (by rw [HT.out])) (by repeat (first | exact Below.refl _ _ | (with_reducible assumption) | refine bel_alloc ?_ _ | refine bel_drew ?_ | refine bel_drewN ?_ _ | refine Below.setCell ?_ (by dsimp only; omega) _ | refine bel_trans (by assumption) ?_))
theorem mdPrime_any (n : Int) (w : World) :
    Calls Try.prog 90 #[.int .i64 n] w (Ret (.bool (inB n 2 997 && primeB n)) w) := by
  by_cases hin : 2 ≤ n ∧ n ≤ 997
  · have i1 := inB_true.2 hin
    obtain ⟨h1, h2⟩ := hin
    go_enter Try.func90, Try.ntmps90
    go_wp2_with (go_at_call 74; refine (l1In_any _ _ _ _).mono ?_; rintro e w' ⟨rfl, rfl⟩)
    go_loop [3] (fun x => ∃ d : Int, x = .int .i64 d ∧ 2 ≤ d ∧ d ≤ 32 ∧ Hid (∀ k : Int, 2 ≤ k → k < d → n % k ≠ 0)) (fun x => (40 - intOf x).toNat)
    case atStart => exact ⟨2, rfl, by omega, by omega, fun k h h' => by omega⟩
    case round =>
      obtain ⟨d, rfl, hd, hd2, hno⟩ := hrel
      have hdd := mul_bd (a := d) (b := d) (A := 32) (B := 32) (by omega) (by omega) (by omega) (by omega)
      by_cases hle : d * d ≤ n
      · have hd31 : d ≤ 31 := by
          rcases Int.lt_or_le 31 d with h | h
          · have : 32 * 32 ≤ d * d := Int.mul_le_mul (by omega) (by omega) (by omega) (by omega)
            omega
          · exact h
        by_cases hz : n % d = 0
        · have hf := primeB_false.2 (not_pr_of_dvd hd hle hz)
          have HF := Lib.hid hf; clear hf
          have hz' : (n % d == 0) = true := by simp [hz]
          clear hz
          go_wp2
          go_ret
          exact ret_eq (congrArg Value.bool (by rw [HF.out])) (by repeat (first | exact Below.refl _ _ | (with_reducible assumption) | refine bel_alloc ?_ _ | refine bel_drew ?_ | refine bel_drewN ?_ _ | refine Below.setCell ?_ (by dsimp only; omega) _ | refine bel_trans (by assumption) ?_))
        · have hz' : (n % d == 0) = false := by simp [hz]
          go_wp2
          go_round
          case rel => exact ⟨d + 1, rfl, by omega, by omega, fun k h h' => by
            rcases Int.lt_or_le k d with h3 | h3
            · exact hno.out k h h3
            · have : k = d := by omega
              subst this; exact hz⟩
          case measure => simp [intOf]; omega
      · have ht := primeB_true.2 (pr_of_root h1 (by omega) hd hno.out)
        have HT := Lib.hid ht; clear ht
        go_wp2
        go_ret
        exact ret_eq (congrArg Value.bool (by rw [HT.out])) (by repeat (first | exact Below.refl _ _ | (with_reducible assumption) | refine bel_alloc ?_ _ | refine bel_drew ?_ | refine bel_drewN ?_ _ | refine Below.setCell ?_ (by dsimp only; omega) _ | refine bel_trans (by assumption) ?_))
  · have i1 := inB_false.2 hin
    go_enter Try.func90, Try.ntmps90
    go_wp2_with (go_at_call 74; refine (l1In_any _ _ _ _).mono ?_; rintro e w' ⟨rfl, rfl⟩)
    go_ret
    exact ret_eq (congrArg Value.bool (by rw [i1]; rfl)) (by repeat (first | exact Below.refl _ _ | (with_reducible assumption) | refine bel_alloc ?_ _ | refine bel_drew ?_ | refine bel_drewN ?_ _ | refine Below.setCell ?_ (by dsimp only; omega) _ | refine bel_trans (by assumption) ?_))
theorem modulo_any (a m : Int) (w : World) (h1 : 1 ≤ m) (h2 : m ≤ 1000000000000) :
    Calls Try.prog 134 #[.int .i64 a, .int .i64 m] w (Ret (.int .i64 (a % m)) w) := by
  have ht := tmod_bd a h1
  have hm := tmod_fix a h1
  have HM := Lib.hid hm; clear hm
  have h0 : (m == 0) = false := by simp; omega
  go_enter Try.func134, Try.ntmps134
  go_wp2
  go_ret
  exact ret_eq (congrArg (Value.int .i64) HM.out) (by repeat (first | exact Below.refl _ _ | (with_reducible assumption) | refine bel_alloc ?_ _ | refine bel_drew ?_ | refine bel_drewN ?_ _ | refine Below.setCell ?_ (by dsimp only; omega) _ | refine bel_trans (by assumption) ?_))
theorem mdMod_any (a m : Int) (w : World) (h1 : 1 ≤ m) (h2 : m ≤ 1000000000000) :
    Calls Try.prog 131 #[.int .i64 a, .int .i64 m] w (Ret (.int .i64 (a % m)) w) := by
  have ht := tmod_bd a h1
  have hm := tmod_fix a h1
  have HM := Lib.hid hm; clear hm
  have h0 : (m == 0) = false := by simp; omega
  go_enter Try.func131, Try.ntmps131
  go_wp2
  go_ret
  exact ret_eq (congrArg (Value.int .i64) HM.out) (by repeat (first | exact Below.refl _ _ | (with_reducible assumption) | refine bel_alloc ?_ _ | refine bel_drew ?_ | refine bel_drewN ?_ _ | refine Below.setCell ?_ (by dsimp only; omega) _ | refine bel_trans (by assumption) ?_))
end Go.Proofs.Ytpjcfnjagknocaa
