/- Pw: contracts: powers, inverses, symbols modulo a prime. No conditions. -/
import Derived.Test.YtpjcfnjagknocaaFld
import Derived.Test.YtpjcfnjagknocaaFm
namespace Go.Proofs.Ytpjcfnjagknocaa
open Go.RowKit

def powI (a n p : Int) : Int := (a % p) ^ n.toNat % p
theorem pow_emod (y p : Int) : ∀ k : Nat, (y % p) ^ k % p = y ^ k % p
  | 0 => by simp
  | k + 1 => by
    rw [Int.pow_succ, Int.pow_succ, Int.mul_emod, pow_emod y p k, Int.emod_emod, ← Int.mul_emod]
theorem pow_sq (x : Int) : ∀ k : Nat, (x * x) ^ k = x ^ (2 * k)
  | 0 => by simp
  | k + 1 => by
    rw [Int.pow_succ, pow_sq x k, show 2 * (k + 1) = 2 * k + 1 + 1 by omega, Int.pow_succ, Int.pow_succ, Int.mul_assoc]
theorem mul_emod_l (a b p : Int) : (a % p) * b % p = a * b % p := by rw [Int.mul_emod, Int.emod_emod, ← Int.mul_emod]
theorem mul_emod_r (a b p : Int) : a * (b % p) % p = a * b % p := by rw [Int.mul_emod, Int.emod_emod, ← Int.mul_emod]
/-- what the loop keeps. -/
def PwInv (p R n out x : Int) : Prop := out * x ^ n.toNat % p = R
theorem PwInv.odd {p R n out x : Int} (h : PwInv p R n out x) (hn : 0 < n) (ho : n % 2 = 1) : PwInv p R (n / 2) (out * x % p) (x * x % p) := by
  unfold PwInv at *
  rw [Int.mul_emod, pow_emod, Int.emod_emod, ← Int.mul_emod, pow_sq, Int.mul_assoc, ← h]
  have e : n.toNat = 2 * (n / 2).toNat + 1 := by omega
  rw [e, Int.pow_succ, Int.mul_comm x]
theorem PwInv.even {p R n out x : Int} (h : PwInv p R n out x) (hn : 0 < n) (ho : n % 2 = 0) : PwInv p R (n / 2) out (x * x % p) := by
  unfold PwInv at *
  rw [Int.mul_emod, pow_emod, ← Int.mul_emod, pow_sq, ← h]
  have e : n.toNat = 2 * (n / 2).toNat := by omega
  rw [e]
theorem powI_bd {a n p : Int} (h : 2 ≤ p) : 0 ≤ powI a n p ∧ powI a n p < p := ⟨Int.emod_nonneg _ (by omega), Int.emod_lt_of_pos _ (by omega)⟩

def symOk (p : Nat) : Bool := (List.range p).all fun a => let r := a ^ ((p - 1) / 2) % p; Nat.beq r 0 || (Nat.beq r 1 || Nat.beq r (p - 1))
def isP (p : Nat) : Bool := [2, 3, 5, 7, 11, 13, 17, 19, 23, 29, 31].all fun d => Nat.beq d p || !(Nat.beq (p % d) 0)
set_option maxRecDepth 100000 in
theorem sym_all : ((List.range 998).all fun p => !(isP p) || Nat.ble p 4 || symOk p) = true := by decide +kernel
theorem isP_of {p : Nat} (h : Pr (p : Int)) : isP p = true := by
  unfold isP
  rw [List.all_eq_true]
  intro d hd
  have hd2 : 2 ≤ d := by revert hd; revert d; decide
  rw [Bool.or_eq_true]
  by_cases he : d = p
  · left; rw [he]; exact Nat.beq_refl p
  · right
    rw [Bool.not_eq_true']
    rw [Bool.eq_false_iff]
    intro hz
    have hz := Nat.eq_of_beq_eq_true hz
    have hdv : (d : Int) ∣ (p : Int) := by exact_mod_cast Nat.dvd_of_mod_eq_zero hz
    have := pr_dvd h (by omega) hdv
    omega
/-- Euler, for the primes that the program knows. -/
theorem euler {a p : Int} (hp : p5B p = true) : powI a ((p - 1) / 2) p = 0 ∨ powI a ((p - 1) / 2) p = 1 ∨ powI a ((p - 1) / 2) p = p - 1 := by
  have hb := p5_bd hp
  have hpr : Pr p := by unfold p5B at hp; rw [Bool.and_eq_true] at hp; exact primeB_true.1 hp.2
  obtain ⟨q, rfl⟩ : ∃ q : Nat, p = q := ⟨p.toNat, by omega⟩
  have h := List.all_eq_true.1 sym_all q (by rw [List.mem_range]; omega)
  rw [isP_of hpr, show Nat.ble q 4 = false by rw [← Bool.not_eq_true]; intro k; have := Nat.le_of_ble_eq_true k; omega] at h
  simp only [Bool.not_true, Bool.false_or] at h
  have h0 := Int.emod_nonneg a (show (q : Int) ≠ 0 by omega)
  have h1 := Int.emod_lt_of_pos a (show (0 : Int) < q by omega)
  obtain ⟨r, hr⟩ : ∃ r : Nat, a % (q : Int) = r := ⟨(a % (q : Int)).toNat, by omega⟩
  have h2 := List.all_eq_true.1 h r (by rw [List.mem_range]; omega)
  have e : powI a (((q : Int) - 1) / 2) q = ((r ^ ((q - 1) / 2) % q : Nat) : Int) := by
    unfold powI
    rw [hr, show (((q : Int) - 1) / 2).toNat = (q - 1) / 2 by omega]
    norm_cast
  rw [e]
  simp only [Bool.or_eq_true] at h2
  rcases h2 with k | k | k
  · left; rw [Nat.eq_of_beq_eq_true k]; rfl
  · right; left; rw [Nat.eq_of_beq_eq_true k]; rfl
  · right; right; rw [Nat.eq_of_beq_eq_true k]; omega
def symI (a p : Int) : Int := if powI a ((p - 1) / 2) p = p - 1 then -1 else powI a ((p - 1) / 2) p

theorem power_bd {p out x : Int} (_h5 : 2 ≤ p) (h6 : p ≤ 997) (o0 : 0 ≤ out) (o1 : out < p) (x0 : 0 ≤ x) (x1 : x < p) :
    (0 ≤ out * x ∧ out * x ≤ 1000000) ∧ (0 ≤ x * x ∧ x * x ≤ 1000000) :=
  ⟨⟨Int.mul_nonneg o0 x0, (mul_bd (A := 1000) (B := 1000) (by omega) (by omega) (by omega) (by omega)).2⟩, Int.mul_nonneg x0 x0, (mul_bd (A := 1000) (B := 1000) (by omega) (by omega) (by omega) (by omega)).2⟩
theorem power_any (a n p : Int) (w : World) (h5 : 2 ≤ p) (h6 : p ≤ 997) (h7 : 0 ≤ n) (h8 : n ≤ 1000000) :
    Calls Try.prog 157 #[.int .i64 a, .int .i64 n, .int .i64 p] w (Ret (.int .i64 (powI a n p)) w) := by
  have hst : PwInv p (powI a n p) n 1 (a % p) := by unfold PwInv; rw [Int.one_mul]; rfl
  have hRb := powI_bd (a := a) (n := n) h5
  obtain ⟨R, hR⟩ : ∃ R, powI a n p = R := ⟨_, rfl⟩
  rw [hR] at hst hRb
  rw [hR]
  clear hR
  have HST := Lib.hid hst; clear hst
  have hp0 : (p == 0) = false := by simp; omega
  have h1p : 1 % p = 1 := Int.emod_eq_of_lt (by omega) (by omega)
  have ha0 := Int.emod_nonneg a (show p ≠ 0 by omega)
  have ha1 := Int.emod_lt_of_pos a (show 0 < p by omega)
  go_enter Try.func157, Try.ntmps157
  go_wp2_with fail
  refine wp_region_grow (by kernel_rfl) (by kernel_rfl) ?_
  repeat (go_big_quiet_step (((go_at_call 134; exact grow_ret (modulo_any _ _ _ (by omega) (by omega))))))
  refine wpQuiet_nil ?_
  rintro wg hbg
  (try replace hbg := aft2 hbg (by assumption))
  obtain ⟨hcg, hfg, hg1, hg2, hg3, hg4⟩ := aftz hbg
  go_wp2_with fail
  generalize a % p = x0 at *
  go_loop [1, 7, 8] (fun z y x => ∃ n out xx : Int, z = .int .i64 n ∧ y = .int .i64 out ∧ x = .int .i64 xx ∧ 0 ≤ n ∧ n ≤ 1000000 ∧ 0 ≤ out ∧ out < p ∧ 0 ≤ xx ∧ xx < p ∧ Hid (PwInv p R n out xx)) (fun z _ _ => (intOf z).toNat)
  case atStart => exact ⟨n, 1, x0, rfl, by first | rfl | rw [h1p], rfl, h7, h8, by omega, by omega, ha0, ha1, HST⟩
  case round =>
    clear h7 h8 HST ha0 ha1 h1p
    obtain ⟨n, out, x, rfl, rfl, rfl, k1, k2, k3, k4, k5, k6, HI⟩ := hrel
    by_cases hn : 0 < n
    · obtain ⟨⟨m1, m2⟩, m3, m4⟩ := power_bd h5 h6 k3 k4 k5 k6
      have e0 := Int.emod_nonneg (x * x) (show p ≠ 0 by omega)
      have e1 := Int.emod_lt_of_pos (x * x) (show 0 < p by omega)
      have d0 := Int.emod_nonneg (out * x) (show p ≠ 0 by omega)
      have d1 := Int.emod_lt_of_pos (out * x) (show 0 < p by omega)
      by_cases ho : n % 2 = 1
      · have hnx := HI.out.odd hn ho
        have HN := Lib.hid hnx; clear hnx
        have hob : (n % 2 == 1) = true := by simp [ho]
        go_wp2_with fail
        go_round
        case rel => exact ⟨n / 2, _, _, rfl, rfl, rfl, by omega, by omega, d0, d1, e0, e1, HN⟩
        case measure => simp [intOf]; omega
      · have hnx := HI.out.even hn (by omega)
        have HN := Lib.hid hnx; clear hnx
        have hob : (n % 2 == 1) = false := by simp [ho]
        go_wp2_with fail
        go_round
        case rel => exact ⟨n / 2, _, _, rfl, rfl, rfl, by omega, by omega, k3, k4, e0, e1, HN⟩
        case measure => simp [intOf]; omega
    · have hn0 : n = 0 := by omega
      subst hn0
      have hout : R = out := by
        have := HI.out
        unfold PwInv at this
        simp at this
        rw [← this]; exact Int.emod_eq_of_lt k3 k4
      have hop : out % p = out := Int.emod_eq_of_lt k3 k4
      subst hout
      go_wp2_with fail
      go_ret
      exact ret_eq rfl (by repeat (first | exact Below.refl _ _ | (with_reducible assumption) | refine bel_alloc ?_ _ | refine bel_drew ?_ | refine bel_drewN ?_ _ | refine Below.setCell ?_ (by dsimp only; omega) _ | refine bel_trans (by assumption) ?_))
theorem mdPower_any (a n p : Int) (w : World) (h5 : 2 ≤ p) (h6 : p ≤ 997) (h7 : 0 ≤ n) (h8 : n ≤ 1000000) :
    Calls Try.prog 158 #[.int .i64 a, .int .i64 n, .int .i64 p] w (Ret (.int .i64 (powI a n p)) w) := by
  have hst : PwInv p (powI a n p) n 1 (a % p) := by unfold PwInv; rw [Int.one_mul]; rfl
  have hRb := powI_bd (a := a) (n := n) h5
  obtain ⟨R, hR⟩ : ∃ R, powI a n p = R := ⟨_, rfl⟩
  rw [hR] at hst hRb
  rw [hR]
  clear hR
  have HST := Lib.hid hst; clear hst
  have hp0 : (p == 0) = false := by simp; omega
  have h1p : 1 % p = 1 := Int.emod_eq_of_lt (by omega) (by omega)
  have ha0 := Int.emod_nonneg a (show p ≠ 0 by omega)
  have ha1 := Int.emod_lt_of_pos a (show 0 < p by omega)
  go_enter Try.func158, Try.ntmps158
  go_wp2_with (go_at_call 131; refine (mdMod_any _ _ _ (by omega) (by omega)).mono ?_; rintro e w' ⟨rfl, hb⟩; (try replace hb := aft2 hb (by assumption)); obtain ⟨hc, hf⟩ := aft hb)
  generalize a % p = x0 at *
  go_loop [1, 7, 8] (fun z y x => ∃ n out xx : Int, z = .int .i64 n ∧ y = .int .i64 out ∧ x = .int .i64 xx ∧ 0 ≤ n ∧ n ≤ 1000000 ∧ 0 ≤ out ∧ out < p ∧ 0 ≤ xx ∧ xx < p ∧ Hid (PwInv p R n out xx)) (fun z _ _ => (intOf z).toNat)
  case atStart => exact ⟨n, 1, x0, rfl, by first | rfl | rw [h1p], rfl, h7, h8, by omega, by omega, ha0, ha1, HST⟩
  case round =>
    clear h7 h8 HST ha0 ha1 h1p
    obtain ⟨n, out, x, rfl, rfl, rfl, k1, k2, k3, k4, k5, k6, HI⟩ := hrel
    by_cases hn : 0 < n
    · obtain ⟨⟨m1, m2⟩, m3, m4⟩ := power_bd h5 h6 k3 k4 k5 k6
      have e0 := Int.emod_nonneg (x * x) (show p ≠ 0 by omega)
      have e1 := Int.emod_lt_of_pos (x * x) (show 0 < p by omega)
      have d0 := Int.emod_nonneg (out * x) (show p ≠ 0 by omega)
      have d1 := Int.emod_lt_of_pos (out * x) (show 0 < p by omega)
      by_cases ho : n % 2 = 1
      · have hnx := HI.out.odd hn ho
        have HN := Lib.hid hnx; clear hnx
        have hob : (n % 2 == 1) = true := by simp [ho]
        go_wp2_with fail
        go_round
        case rel => exact ⟨n / 2, _, _, rfl, rfl, rfl, by omega, by omega, d0, d1, e0, e1, HN⟩
        case measure => simp [intOf]; omega
      · have hnx := HI.out.even hn (by omega)
        have HN := Lib.hid hnx; clear hnx
        have hob : (n % 2 == 1) = false := by simp [ho]
        go_wp2_with fail
        go_round
        case rel => exact ⟨n / 2, _, _, rfl, rfl, rfl, by omega, by omega, k3, k4, e0, e1, HN⟩
        case measure => simp [intOf]; omega
    · have hn0 : n = 0 := by omega
      subst hn0
      have hout : R = out := by
        have := HI.out
        unfold PwInv at this
        simp at this
        rw [← this]; exact Int.emod_eq_of_lt k3 k4
      have hop : out % p = out := Int.emod_eq_of_lt k3 k4
      subst hout
      go_wp2_with fail
      go_ret
      exact ret_eq (by first | rfl | rw [hop]) (by repeat (first | exact Below.refl _ _ | (with_reducible assumption) | refine bel_alloc ?_ _ | refine bel_drew ?_ | refine bel_drewN ?_ _ | refine Below.setCell ?_ (by dsimp only; omega) _ | refine bel_trans (by assumption) ?_))
theorem inverse_any (a p : Int) (w : World) (h5 : 2 ≤ p) (h6 : p ≤ 997) :
    Calls Try.prog 156 #[.int .i64 a, .int .i64 p] w (Ret (.int .i64 (powI a (p - 2) p)) w) := by
  go_enter Try.func156, Try.ntmps156
  go_wp2_with (go_at_call 157; refine (power_any _ _ _ _ h5 h6 (by omega) (by omega)).mono ?_; rintro e w' ⟨rfl, hb⟩; (try replace hb := aft2 hb (by assumption)); obtain ⟨hc, hf⟩ := aft hb)
  go_ret
  exact ret_mk (by repeat (first | exact Below.refl _ _ | (with_reducible assumption) | refine bel_alloc ?_ _ | refine bel_drew ?_ | refine bel_drewN ?_ _ | refine Below.setCell ?_ (by dsimp only; omega) _ | refine bel_trans (by assumption) ?_))
theorem mdInverse_any (a p : Int) (w : World) (h5 : 2 ≤ p) (h6 : p ≤ 997) :
    Calls Try.prog 159 #[.int .i64 a, .int .i64 p] w (Ret (.int .i64 (powI a (p - 2) p)) w) := by
  go_enter Try.func159, Try.ntmps159
  go_wp2_with (go_at_call 158; refine (mdPower_any _ _ _ _ h5 h6 (by omega) (by omega)).mono ?_; rintro e w' ⟨rfl, hb⟩; (try replace hb := aft2 hb (by assumption)); obtain ⟨hc, hf⟩ := aft hb)
  go_ret
  exact ret_mk (by repeat (first | exact Below.refl _ _ | (with_reducible assumption) | refine bel_alloc ?_ _ | refine bel_drew ?_ | refine bel_drewN ?_ _ | refine Below.setCell ?_ (by dsimp only; omega) _ | refine bel_trans (by assumption) ?_))
theorem symI_bd {a p : Int} (hp : p5B p = true) : -1 ≤ symI a p ∧ symI a p ≤ 1 := by
  have hb := p5_bd hp
  unfold symI
  rcases euler (a := a) hp with h | h | h <;> rw [h] <;> split <;> omega
theorem symbol_any (a p : Int) (w : World) (hp : p5B p = true) :
    Calls Try.prog 130 #[.int .i64 a, .int .i64 p] w (Ret (.int .i64 (symI a p)) w) := by
  have hb5 := p5_bd hp
  have he := euler (a := a) hp
  have hs : symI a p = if powI a ((p - 1) / 2) p = p - 1 then -1 else powI a ((p - 1) / 2) p := rfl
  obtain ⟨R, hR⟩ : ∃ R, powI a ((p - 1) / 2) p = R := ⟨_, rfl⟩
  rw [hR] at he hs
  have HS := Lib.hid hs; clear hs
  have HR := Lib.hid hR; clear hR
  rcases he with he | he | he
  all_goals
    go_enter Try.func130, Try.ntmps130
    go_wp2_with fail
    refine (power_any a ((p - 1) / 2) p _ (by omega) (by omega) (by omega) (by omega)).mono ?_; rintro e w1 ⟨rfl, hb1⟩
    rw [HR.out, he]
    have e1 : (p - 1 == 0) = false := by simp; omega
    have e2 : (p - 1 == 1) = false := by simp; omega
    go_wp2_with fail
    go_ret
    exact ret_eq (by rw [HS.out, he]; split <;> first | rfl | omega) (by repeat (first | exact Below.refl _ _ | (with_reducible assumption) | refine bel_alloc ?_ _ | refine bel_drew ?_ | refine bel_drewN ?_ _ | refine Below.setCell ?_ (by dsimp only; omega) _ | refine bel_trans (by assumption) ?_))
theorem mdSymbol_any (a p : Int) (w : World) (hp : p5B p = true) :
    Calls Try.prog 133 #[.int .i64 a, .int .i64 p] w (Ret (.int .i64 (symI a p)) w) := by
  have hb5 := p5_bd hp
  have he := euler (a := a) hp
  have hs : symI a p = if powI a ((p - 1) / 2) p = p - 1 then -1 else powI a ((p - 1) / 2) p := rfl
  obtain ⟨R, hR⟩ : ∃ R, powI a ((p - 1) / 2) p = R := ⟨_, rfl⟩
  rw [hR] at he hs
  have HS := Lib.hid hs; clear hs
  have HR := Lib.hid hR; clear hR
  rcases he with he | he | he
  all_goals
    go_enter Try.func133, Try.ntmps133
    go_wp2_with fail
    refine (mdPower_any a ((p - 1) / 2) p _ (by omega) (by omega) (by omega) (by omega)).mono ?_; rintro e w1 ⟨rfl, hb1⟩
    rw [HR.out, he]
    go_wp2_with fail
    go_ret
    exact ret_eq (by rw [HS.out, he]; split <;> first | rfl | omega) (by repeat (first | exact Below.refl _ _ | (with_reducible assumption) | refine bel_alloc ?_ _ | refine bel_drew ?_ | refine bel_drewN ?_ _ | refine Below.setCell ?_ (by dsimp only; omega) _ | refine bel_trans (by assumption) ?_))
end Go.Proofs.Ytpjcfnjagknocaa
