/- Kj: contracts: exponents of the conductor, kinds, nodes, numbers of nonsingular points. No conditions. -/
import Derived.Test.YtakilincclnpdaaGreatDoorPAy
import Derived.Test.YtakilincclnpdaaGreatDoorPBy
/- Red: contracts: good primes, minimal models, valuations. No conditions. -/
namespace Go.Proofs.YtakilincclnpdaaGreatDoor
open Go.RowKit

noncomputable def p5B (p : Int) : Bool := inB p 5 997 && primeB p
noncomputable def goodB (a b p : Int) : Bool := p5B p && (discI a b % p != 0)
theorem p5_bd {p : Int} (h : p5B p = true) : 5 ≤ p ∧ p ≤ 997 := by
  unfold p5B at h; rw [Bool.and_eq_true] at h; exact inB_true.1 h.1
theorem p5_alt (p : Int) : ((inB p 2 997 && primeB p) && decide (5 ≤ p)) = p5B p := by
  rw [Bool.eq_iff_iff]; simp only [p5B, Bool.and_eq_true, inB_true, decide_eq_true_eq]
  constructor
  · rintro ⟨⟨⟨h1, h2⟩, h3⟩, h4⟩; exact ⟨⟨h4, h2⟩, h3⟩
  · rintro ⟨⟨h1, h2⟩, h3⟩; exact ⟨⟨⟨by omega, h2⟩, h3⟩, h1⟩


/-! ### IsGoodPrime -/

/-! ### valuations -/
/-- how often p divides a, by fuel. -/
def valF : Nat → Int → Int → Int
  | 0, _, _ => 0
  | f + 1, a, p => if a.tmod p = 0 then valF f (a.tdiv p) p + 1 else 0
def valP (a p : Int) : Int := valF a.natAbs a p
theorem natAbs_tdiv_lt {u p : Int} (hu : u ≠ 0) (hp : 2 ≤ p) : (u.tdiv p).natAbs < u.natAbs := by
  rw [Int.natAbs_tdiv]
  exact Nat.div_lt_self (by omega) (by omega)
theorem tdiv_ne_zero {u p : Int} (hu : u ≠ 0) (hm : u.tmod p = 0) : u.tdiv p ≠ 0 := by
  intro h
  have := Int.mul_tdiv_add_tmod u p
  rw [h, hm] at this
  simp at this
  exact hu this.symm

end Go.Proofs.YtakilincclnpdaaGreatDoor
/- Fld: contracts: small good primes, the right side of the equation modulo a prime, points modulo a prime. No conditions. -/
namespace Go.Proofs.YtakilincclnpdaaGreatDoor
open Go.RowKit

noncomputable def smallB (a b p : Int) : Bool := curveB a b && (goodB a b p && decide (p ≤ 199))
theorem small_bd {a b p : Int} (h : smallB a b p = true) : curveB a b = true ∧ goodB a b p = true ∧ 5 ≤ p ∧ p ≤ 199 := by
  unfold smallB at h
  simp only [Bool.and_eq_true, decide_eq_true_eq] at h
  obtain ⟨h1, h2, h3⟩ := h
  have hg := h2
  unfold goodB at h2
  rw [Bool.and_eq_true] at h2
  exact ⟨h1, hg, (p5_bd h2.1).1, h3⟩

/-- the residue of x^3 + A x + B. -/
def rsI (a b p x : Int) : Int := (x * x * x + a * x + b) % p
theorem rs_alt (a b p x : Int) : (x * x % p * x + a * x + b) % p = rsI a b p x := by
  unfold rsI
  have h := Int.mul_ediv_add_emod (x * x) p
  have h2 : x * x * x = p * (x * x / p * x) + x * x % p * x := by
    calc x * x * x = (p * (x * x / p) + x * x % p) * x := by rw [h]
      _ = p * (x * x / p * x) + x * x % p * x := by rw [Int.add_mul, Int.mul_assoc]
  rw [h2, show p * (x * x / p * x) + x * x % p * x + a * x + b = (x * x % p * x + a * x + b) + p * (x * x / p * x) by omega, Int.add_mul_emod_self_left]
theorem rs_bd {a b p x : Int} (hp : 1 ≤ p) : 0 ≤ rsI a b p x ∧ rsI a b p x < p := ⟨Int.emod_nonneg _ (by omega), Int.emod_lt_of_pos _ (by omega)⟩

/-- the lists that are points modulo a prime. -/
def onF (a b p : Int) (xs : List Int) : Bool :=
  match xs with
  | [] => true
  | [x, y] => decide (0 ≤ x ∧ x ≤ p - 1) && decide (0 ≤ y ∧ y ≤ p - 1) && (y * y % p == rsI a b p x)
  | _ => false
theorem below_alloc (w : World) (o : Obj) : Below w.heap.size w (w.alloc o) := (Below.refl _ _).alloc (Nat.le_refl _) o
end Go.Proofs.YtakilincclnpdaaGreatDoor
/- Fm: plain facts on primes, on the primes that divide a number, on valuations. No conditions. -/
namespace Go.Proofs.YtakilincclnpdaaGreatDoor

theorem pr_two_le {p : Int} (h : Pr p) : 2 ≤ p := h.1
/-- a divisor of a prime number from 2 on is it. -/
theorem pr_dvd {p d : Int} (hp : Pr p) (hd : 2 ≤ d) (h : d ∣ p) : d = p := by
  have hle : d ≤ p := Int.le_of_dvd (by have := hp.1; omega) h
  rcases Int.lt_or_le d p with hlt | hge
  · exact absurd (Int.emod_eq_zero_of_dvd h) (hp.2 d hd hlt)
  · omega
/-- Euclid. -/
theorem pr_dvd_mul {p a b : Int} (hp : Pr p) (h : p ∣ a * b) : p ∣ a ∨ p ∣ b := by
  by_cases ha : p ∣ a
  · exact .inl ha
  · right
    have h2 := hp.1
    have hg : Int.gcd p a = 1 := by
      have g1 : (Int.gcd p a : Int) ∣ p := Int.gcd_dvd_left p a
      have g2 : (Int.gcd p a : Int) ∣ a := Int.gcd_dvd_right p a
      have hpos : 0 < Int.gcd p a := Int.gcd_pos_of_ne_zero_left a (by omega)
      rcases Nat.lt_or_ge (Int.gcd p a) 2 with hl | hg2
      · omega
      · have := pr_dvd hp (by omega) g1
        rw [this] at g2
        exact absurd g2 ha
    have hn : p.natAbs ∣ a.natAbs * b.natAbs := by rw [← Int.natAbs_mul]; exact Int.natAbs_dvd_natAbs.2 h
    exact Int.natAbs_dvd_natAbs.1 (Nat.Coprime.dvd_of_dvd_mul_left hg hn)
theorem pr_dvd_pr {p q : Int} (hp : Pr p) (hq : Pr q) (h : q ∣ p) : q = p := pr_dvd hp hq.1 h
/-- the least divisor from 2 on is a prime. -/
theorem pr_of_least {n p : Int} (hp : 2 ≤ p) (h : p ∣ n) (hno : ∀ d : Int, 2 ≤ d → d < p → ¬ d ∣ n) : Pr p :=
  ⟨hp, fun d h1 h2 h3 => hno d h1 h2 (Int.dvd_trans (Int.dvd_of_emod_eq_zero h3) h)⟩
/-- no divisor up to the root: a prime. -/
theorem pr_of_noDiv {n p : Int} (hn : 2 ≤ n) (hp : 2 ≤ p) (hs : n < p * p) (hno : ∀ d : Int, 2 ≤ d → d < p → ¬ d ∣ n) : Pr n :=
  pr_of_root hn hs hp (fun d h1 h2 h3 => hno d h1 h2 (Int.dvd_of_emod_eq_zero h3))

/-- strictly increasing. -/
def Inc (l : List Int) : Prop := l.Pairwise (· < ·)
/-- the primes that divide N, increasing. -/
def PrimeDivs (N : Int) (l : List Int) : Prop := Inc l ∧ ∀ q : Int, q ∈ l ↔ (Pr q ∧ q ∣ N)
theorem inc_ext : ∀ {l l' : List Int}, Inc l → Inc l' → (∀ q, q ∈ l ↔ q ∈ l') → l = l'
  | [], [], _, _, _ => rfl
  | [], b :: r, _, _, h => by have := (h b).2 (by simp); simp at this
  | a :: r, [], _, _, h => by have := (h a).1 (by simp); simp at this
  | a :: r, b :: s, h1, h2, h => by
    unfold Inc at h1 h2
    rw [List.pairwise_cons] at h1 h2
    have hab : a = b := by
      have ha := (h a).1 (by simp)
      have hb := (h b).2 (by simp)
      rw [List.mem_cons] at ha hb
      rcases ha with ha | ha
      · exact ha
      · rcases hb with hb | hb
        · exact hb.symm
        · have k1 := h2.1 a ha; have k2 := h1.1 b hb; omega
    subst hab
    congr 1
    refine inc_ext h1.2 h2.2 fun q => ⟨fun hq => ?_, fun hq => ?_⟩
    · have := (h q).1 (List.mem_cons_of_mem _ hq)
      rw [List.mem_cons] at this
      rcases this with rfl | this
      · have := h1.1 _ hq; omega
      · exact this
    · have := (h q).2 (List.mem_cons_of_mem _ hq)
      rw [List.mem_cons] at this
      rcases this with rfl | this
      · have := h2.1 _ hq; omega
      · exact this
theorem inc_snoc {l : List Int} {p : Int} (h : Inc l) (hl : ∀ q ∈ l, q < p) : Inc (l ++ [p]) := by
  unfold Inc at *
  rw [List.pairwise_append]
  exact ⟨h, by simp, fun a ha b hb => by simp at hb; subst hb; exact hl a ha⟩
open Classical in
/-- the primes that divide N, increasing. -/
noncomputable def primesL (N : Int) : List Int := ((List.range (N.natAbs + 1)).map (fun k : Nat => (k : Int))).filter fun q => decide (Pr q ∧ q ∣ N)
theorem primesL_spec {N : Int} (hN : N ≠ 0) : PrimeDivs N (primesL N) := by
  constructor
  · unfold primesL Inc
    refine List.Pairwise.filter _ ?_
    rw [List.pairwise_map]
    exact (List.pairwise_lt_range (n := N.natAbs + 1)).imp (fun h => by omega)
  · intro q
    unfold primesL
    simp only [List.mem_filter, List.mem_map, List.mem_range, decide_eq_true_eq]
    constructor
    · rintro ⟨_, h⟩; exact h
    · intro h
      refine ⟨⟨q.toNat, ?_, ?_⟩, h⟩
      · have h2 := h.1.1
        have := Nat.le_of_dvd (by omega) (Int.natAbs_dvd_natAbs.2 h.2)
        omega
      · have := h.1.1; omega
theorem primesL_eq {N : Int} {l : List Int} (hN : N ≠ 0) (h : PrimeDivs N l) : l = primesL N :=
  inc_ext h.1 (primesL_spec hN).1 fun q => (h.2 q).trans ((primesL_spec hN).2 q).symm

/-- what is true ahead of a round of the factoring loop: n is what is left, p the next divisor to try, l the primes found. -/
def FacInv (N n p : Int) (l : List Int) : Prop :=
  2 ≤ p ∧ 1 ≤ n ∧ n ≤ N ∧ (∀ d : Int, 2 ≤ d → d < p → ¬ d ∣ n) ∧ Inc l ∧ (∀ q ∈ l, Pr q ∧ q ∣ N ∧ q < p) ∧ (∀ q : Int, Pr q → q ∣ N → q ∈ l ∨ q ∣ n) ∧
  ∃ m : Int, N = n * m ∧ ∀ q : Int, Pr q → p ≤ q → ¬ q ∣ m
theorem FacInv.start {N : Int} (h : 1 ≤ N) : FacInv N N 2 [] :=
  ⟨by omega, h, by omega, fun d h1 h2 => by omega, List.Pairwise.nil, fun q h => by simp at h, fun q _ h => .inr h, 1, by omega, fun q hq _ hd => by
    have := Int.le_of_dvd (by omega) hd; have := hq.1; omega⟩
theorem FacInv.done {N p : Int} {l : List Int} (hN : 1 ≤ N) (h : FacInv N 1 p l) : l = primesL N := by
  obtain ⟨_, _, _, _, h5, h6, h7, _⟩ := h
  refine primesL_eq (by omega) ⟨h5, fun q => ⟨fun hq => ⟨(h6 q hq).1, (h6 q hq).2.1⟩, fun hq => ?_⟩⟩
  rcases h7 q hq.1 hq.2 with h | h
  · exact h
  · have := Int.le_of_dvd (by omega) h; have := hq.1.1; omega
/-- n is prime where p * p > n. -/
theorem FacInv.last {N n p : Int} {l : List Int} (h : FacInv N n p l) (hn : 1 < n) (hp : n < p * p) : Pr n ∧ p ≤ n := by
  obtain ⟨h1, h2, h3, h4, _⟩ := h
  refine ⟨pr_of_noDiv (by omega) h1 hp h4, ?_⟩
  rcases Int.lt_or_le n p with hl | hg
  · exact absurd (Int.dvd_refl n) (h4 n (by omega) hl)
  · exact hg
/-- the found prime: the divisor that is tried, where it divides. -/
theorem FacInv.prime {N n p : Int} {l : List Int} (h : FacInv N n p l) (hd : p ∣ n) : Pr p := pr_of_least h.1 hd h.2.2.2.1
/-- behind a divisor that does not divide. -/
theorem FacInv.skip {N n p : Int} {l : List Int} (h : FacInv N n p l) (hd : ¬ p ∣ n) : FacInv N n (p + 1) l := by
  obtain ⟨h1, h2, h3, h4, h5, h6, h7, m, h8, h9⟩ := h
  refine ⟨by omega, h2, h3, fun d k1 k2 => ?_, h5, fun q hq => ?_, h7, m, h8, fun q hq k => h9 q hq (by omega)⟩
  · rcases Int.lt_or_le d p with k | k
    · exact h4 d k1 k
    · have : d = p := by omega
      subst this; exact hd
  · have := h6 q hq; exact ⟨this.1, this.2.1, by omega⟩
/-- behind a prime p' from p on (p itself, or n where nothing else is left): u is n without it. -/
theorem FacInv.take {N n p p' u : Int} {l : List Int} (h : FacInv N n p l) (hp : Pr p') (hle : p ≤ p') (hd : p' ∣ n) (hlow : ∀ d : Int, 2 ≤ d → d < p' → ¬ d ∣ n)
    (hu : 1 ≤ u) (hnu : ¬ p' ∣ u) (hun : ∃ c : Int, n = u * c ∧ ∀ q : Int, Pr q → q ∣ c → q = p') : FacInv N u (p' + 1) (l ++ [p']) := by
  obtain ⟨h1, h2, h3, h4, h5, h6, h7, m, h8, h9⟩ := h
  obtain ⟨c, hc, hcq⟩ := hun
  have hN0 : 0 < N := by omega
  have hcpos : 0 < c := by
    rcases Int.lt_or_le 0 c with k | k
    · exact k
    · have : u * c ≤ 0 := Int.mul_nonpos_of_nonneg_of_nonpos (by omega) k
      omega
  have huN : u ∣ n := ⟨c, hc⟩
  refine ⟨by have := hp.1; omega, hu, by have := Int.le_of_dvd (by omega) huN; omega, fun d k1 k2 k3 => ?_, inc_snoc h5 (fun q hq => by have := (h6 q hq).2.2; omega), fun q hq => ?_, fun q k1 k2 => ?_, c * m, by rw [h8, hc, Int.mul_assoc], fun q k1 k2 k3 => ?_⟩
  · rcases Int.lt_or_le d p' with k | k
    · exact hlow d k1 k (Int.dvd_trans k3 huN)
    · have : d = p' := by omega
      subst this; exact hnu k3
  · rw [List.mem_append, List.mem_singleton] at hq
    rcases hq with hq | rfl
    · have := h6 q hq; exact ⟨this.1, this.2.1, by omega⟩
    · exact ⟨hp, by rw [h8]; exact Int.dvd_trans hd ⟨m, rfl⟩, by omega⟩
  · rcases h7 q k1 k2 with k | k
    · exact .inl (List.mem_append_left _ k)
    · rw [hc] at k
      rcases pr_dvd_mul k1 k with k' | k'
      · exact .inr k'
      · rw [hcq q k1 k']; exact .inl (by simp)
  · rcases pr_dvd_mul k1 k3 with k' | k'
    · have := hcq q k1 k'; omega
    · exact h9 q k1 (by omega) k'

/-! ### valuations -/
theorem valF_fuel {p : Int} (hp : 2 ≤ p) : ∀ (f g : Nat) (a : Int), a ≠ 0 → a.natAbs ≤ f → a.natAbs ≤ g → valF f a p = valF g a p
  | 0, _, a, ha, h, _ => by omega
  | _, 0, a, ha, _, h => by omega
  | f + 1, g + 1, a, ha, h1, h2 => by
    unfold valF
    by_cases hm : a.tmod p = 0
    · rw [if_pos hm, if_pos hm]
      have hlt := natAbs_tdiv_lt ha hp
      rw [valF_fuel hp f g (a.tdiv p) (tdiv_ne_zero ha hm) (by omega) (by omega)]
    · rw [if_neg hm, if_neg hm]
theorem valP_pos {a p : Int} (hp : 2 ≤ p) (ha : a ≠ 0) (hm : a.tmod p = 0) : valP a p = valP (a.tdiv p) p + 1 := by
  have hlt := natAbs_tdiv_lt ha hp
  have hne := tdiv_ne_zero ha hm
  unfold valP
  obtain ⟨k, hk⟩ : ∃ k, a.natAbs = k + 1 := ⟨a.natAbs - 1, by omega⟩
  rw [hk]
  conv => lhs; unfold valF
  rw [if_pos hm, valF_fuel hp k (a.tdiv p).natAbs (a.tdiv p) hne (by omega) (Nat.le_refl _)]
theorem valP_zero {a p : Int} (hm : a.tmod p ≠ 0) : valP a p = 0 := by
  unfold valP
  cases a.natAbs with
  | zero => rfl
  | succ k => unfold valF; rw [if_neg hm]
theorem valF_nonneg : ∀ (f : Nat) (a p : Int), 0 ≤ valF f a p
  | 0, _, _ => Int.le_refl _
  | f + 1, a, p => by
    unfold valF; split
    · have := valF_nonneg f (a.tdiv p) p; omega
    · exact Int.le_refl _
theorem valP_nonneg (a p : Int) : 0 ≤ valP a p := valF_nonneg _ _ _
theorem mul_tdiv_self {p c : Int} (hp : 2 ≤ p) : (p * c).tdiv p = c := Int.mul_tdiv_cancel_left c (by omega)
theorem mul_tmod_self {p c : Int} : (p * c).tmod p = 0 := Int.mul_tmod_right p c
/-- p times c: once more. -/
theorem valP_mul_self {p c : Int} (hp : 2 ≤ p) (hc : c ≠ 0) : valP (p * c) p = valP c p + 1 := by
  rw [valP_pos hp (Int.mul_ne_zero (by omega) hc) mul_tmod_self, mul_tdiv_self hp]
theorem valP_not {p c : Int} (h : ¬ p ∣ c) : valP c p = 0 := valP_zero (fun k => h (Int.dvd_of_tmod_eq_zero k))
/-- a factor that the prime does not divide does not count. -/
theorem valP_coprime {p m : Int} (hp : Pr p) (hm : ¬ p ∣ m) : ∀ (k : Nat) (n : Int), n.natAbs ≤ k → n ≠ 0 → valP (n * m) p = valP n p
  | 0, n, h, h0 => by omega
  | k + 1, n, h, h0 => by
    by_cases hd : p ∣ n
    · obtain ⟨c, rfl⟩ := hd
      have hc : c ≠ 0 := by rintro rfl; simp at h0
      have hm0 : m ≠ 0 := by rintro rfl; exact hm (Int.dvd_zero p)
      have hlt : c.natAbs < (p * c).natAbs := by
        rw [Int.natAbs_mul]
        have h2 := hp.1
        have : 1 * c.natAbs < p.natAbs * c.natAbs := Nat.mul_lt_mul_of_pos_right (by omega) (by omega)
        omega
      rw [Int.mul_assoc, valP_mul_self hp.1 (Int.mul_ne_zero hc hm0), valP_mul_self hp.1 hc, valP_coprime hp hm k c (by omega) hc]
    · rw [valP_not hd, valP_not (fun h => (pr_dvd_mul hp h).elim hd hm)]
theorem valF_neg : ∀ (f : Nat) (a p : Int), valF f (-a) p = valF f a p
  | 0, _, _ => rfl
  | f + 1, a, p => by
    unfold valF
    rw [Int.neg_tmod, Int.neg_tdiv, valF_neg f]
    by_cases h : a.tmod p = 0
    · rw [if_pos h, if_pos (by omega)]
    · rw [if_neg h, if_neg (by omega)]
theorem valP_natAbs (a p : Int) : valP (a.natAbs : Int) p = valP a p := by
  unfold valP
  rcases Int.natAbs_eq a with h | h
  · rw [← h]
  · have : (a.natAbs : Int) = -a := by omega
    rw [this, valF_neg, Int.natAbs_neg]
end Go.Proofs.YtakilincclnpdaaGreatDoor
/- Pw: contracts: powers, inverses, symbols modulo a prime. No conditions. -/
namespace Go.Proofs.YtakilincclnpdaaGreatDoor
open Go.RowKit

def powI (a n p : Int) : Int := (a % p) ^ n.toNat % p
theorem pow_emod (y p : Int) : ∀ k : Nat, (y % p) ^ k % p = y ^ k % p
  | 0 => by simp
  | k + 1 => by
    rw [Int.pow_succ, Int.pow_succ, Int.mul_emod, pow_emod y p k, Int.emod_emod, ← Int.mul_emod]
theorem pow_sq (x : Int) : ∀ k : Nat, (x * x) ^ k = x ^ (2 * k)
  | 0 => by simp
  | k + 1 => by
    rw [Int.pow_succ, pow_sq x k, show 2 * (k + 1) = 2 * k + 1 + 1 by omega, Int.pow_succ, Int.pow_succ, Int.mul_assoc]
theorem mul_emod_l (a b p : Int) : (a % p) * b % p = a * b % p := by rw [Int.mul_emod, Int.emod_emod, ← Int.mul_emod]
theorem mul_emod_r (a b p : Int) : a * (b % p) % p = a * b % p := by rw [Int.mul_emod, Int.emod_emod, ← Int.mul_emod]
/-- what the loop keeps. -/
def PwInv (p R n out x : Int) : Prop := out * x ^ n.toNat % p = R
theorem PwInv.odd {p R n out x : Int} (h : PwInv p R n out x) (hn : 0 < n) (ho : n % 2 = 1) : PwInv p R (n / 2) (out * x % p) (x * x % p) := by
  unfold PwInv at *
  rw [Int.mul_emod, pow_emod, Int.emod_emod, ← Int.mul_emod, pow_sq, Int.mul_assoc, ← h]
  have e : n.toNat = 2 * (n / 2).toNat + 1 := by omega
  rw [e, Int.pow_succ, Int.mul_comm x]
theorem PwInv.even {p R n out x : Int} (h : PwInv p R n out x) (hn : 0 < n) (ho : n % 2 = 0) : PwInv p R (n / 2) out (x * x % p) := by
  unfold PwInv at *
  rw [Int.mul_emod, pow_emod, ← Int.mul_emod, pow_sq, ← h]
  have e : n.toNat = 2 * (n / 2).toNat := by omega
  rw [e]
theorem powI_bd {a n p : Int} (h : 2 ≤ p) : 0 ≤ powI a n p ∧ powI a n p < p := ⟨Int.emod_nonneg _ (by omega), Int.emod_lt_of_pos _ (by omega)⟩

def symOk (p : Nat) : Bool := (List.range p).all fun a => let r := a ^ ((p - 1) / 2) % p; Nat.beq r 0 || (Nat.beq r 1 || Nat.beq r (p - 1))
def isP (p : Nat) : Bool := [2, 3, 5, 7, 11, 13, 17, 19, 23, 29, 31].all fun d => Nat.beq d p || !(Nat.beq (p % d) 0)
set_option maxRecDepth 100000 in
theorem sym_all : ((List.range 998).all fun p => !(isP p) || Nat.ble p 4 || symOk p) = true := by decide +kernel
theorem isP_of {p : Nat} (h : Pr (p : Int)) : isP p = true := by
  unfold isP
  rw [List.all_eq_true]
  intro d hd
  have hd2 : 2 ≤ d := by revert hd; revert d; decide
  rw [Bool.or_eq_true]
  by_cases he : d = p
  · left; rw [he]; exact Nat.beq_refl p
  · right
    rw [Bool.not_eq_true']
    rw [Bool.eq_false_iff]
    intro hz
    have hz := Nat.eq_of_beq_eq_true hz
    have hdv : (d : Int) ∣ (p : Int) := by exact_mod_cast Nat.dvd_of_mod_eq_zero hz
    have := pr_dvd h (by omega) hdv
    omega
/-- Euler, for the primes that the program knows. -/
theorem euler {a p : Int} (hp : p5B p = true) : powI a ((p - 1) / 2) p = 0 ∨ powI a ((p - 1) / 2) p = 1 ∨ powI a ((p - 1) / 2) p = p - 1 := by
  have hb := p5_bd hp
  have hpr : Pr p := by unfold p5B at hp; rw [Bool.and_eq_true] at hp; exact primeB_true.1 hp.2
  obtain ⟨q, rfl⟩ : ∃ q : Nat, p = q := ⟨p.toNat, by omega⟩
  have h := List.all_eq_true.1 sym_all q (by rw [List.mem_range]; omega)
  rw [isP_of hpr, show Nat.ble q 4 = false by rw [← Bool.not_eq_true]; intro k; have := Nat.le_of_ble_eq_true k; omega] at h
  simp only [Bool.not_true, Bool.false_or] at h
  have h0 := Int.emod_nonneg a (show (q : Int) ≠ 0 by omega)
  have h1 := Int.emod_lt_of_pos a (show (0 : Int) < q by omega)
  obtain ⟨r, hr⟩ : ∃ r : Nat, a % (q : Int) = r := ⟨(a % (q : Int)).toNat, by omega⟩
  have h2 := List.all_eq_true.1 h r (by rw [List.mem_range]; omega)
  have e : powI a (((q : Int) - 1) / 2) q = ((r ^ ((q - 1) / 2) % q : Nat) : Int) := by
    unfold powI
    rw [hr, show (((q : Int) - 1) / 2).toNat = (q - 1) / 2 by omega]
    norm_cast
  rw [e]
  simp only [Bool.or_eq_true] at h2
  rcases h2 with k | k | k
  · left; rw [Nat.eq_of_beq_eq_true k]; rfl
  · right; left; rw [Nat.eq_of_beq_eq_true k]; rfl
  · right; right; rw [Nat.eq_of_beq_eq_true k]; omega
def symI (a p : Int) : Int := if powI a ((p - 1) / 2) p = p - 1 then -1 else powI a ((p - 1) / 2) p

theorem power_bd {p out x : Int} (_h5 : 2 ≤ p) (h6 : p ≤ 997) (o0 : 0 ≤ out) (o1 : out < p) (x0 : 0 ≤ x) (x1 : x < p) :
    (0 ≤ out * x ∧ out * x ≤ 1000000) ∧ (0 ≤ x * x ∧ x * x ≤ 1000000) :=
  ⟨⟨Int.mul_nonneg o0 x0, (mul_bd (A := 1000) (B := 1000) (by omega) (by omega) (by omega) (by omega)).2⟩, Int.mul_nonneg x0 x0, (mul_bd (A := 1000) (B := 1000) (by omega) (by omega) (by omega) (by omega)).2⟩
theorem symI_bd {a p : Int} (hp : p5B p = true) : -1 ≤ symI a p ∧ symI a p ≤ 1 := by
  have hb := p5_bd hp
  unfold symI
  rcases euler (a := a) hp with h | h | h <;> rw [h] <;> split <;> omega
end Go.Proofs.YtakilincclnpdaaGreatDoor
/- Cp: contracts: the number of points modulo a prime. No conditions. -/
namespace Go.Proofs.YtakilincclnpdaaGreatDoor
open Go.RowKit

noncomputable def cntN (a b p : Int) : Nat → Int
  | 0 => 0
  | n + 1 => cntN a b p n + symI (rsI a b p n) p
noncomputable def cntI (a b p : Int) : Int := p + 1 + cntN a b p p.toNat
theorem cntN_bd {a b p : Int} (hp : p5B p = true) : ∀ n : Nat, -(n : Int) ≤ cntN a b p n ∧ cntN a b p n ≤ n
  | 0 => by simp [cntN]
  | n + 1 => by
    have h1 := cntN_bd (a := a) (b := b) hp n
    have h2 := symI_bd (a := rsI a b p n) hp
    simp only [cntN]; omega
theorem cntN_succ (a b p x : Int) (h : 0 ≤ x) : cntN a b p (x + 1).toNat = cntN a b p x.toNat + symI (rsI a b p x) p := by
  obtain ⟨n, rfl⟩ : ∃ n : Nat, x = n := ⟨x.toNat, by omega⟩
  rw [show ((n : Int) + 1).toNat = n + 1 by omega, show (n : Int).toNat = n by omega]
  rfl
theorem cntI_bd {a b p : Int} (hp : p5B p = true) : 0 ≤ cntI a b p ∧ cntI a b p ≤ 2000 := by
  have := cntN_bd (a := a) (b := b) hp p.toNat
  have := p5_bd hp
  unfold cntI; omega
noncomputable def cpB (a b p : Int) : Bool := curveB a b && goodB a b p
end Go.Proofs.YtakilincclnpdaaGreatDoor
/- Min: contracts: minimal models at a prime, their valuations. No conditions. -/
namespace Go.Proofs.YtakilincclnpdaaGreatDoor
open Go.RowKit

/-- the one case in which a curve is not its own minimal model at a prime from 5 on. -/
def bigB (a b p : Int) : Bool := decide (p = 5 ∧ b = 0 ∧ (a = 625 ∨ a = -625))
def minA (a b p : Int) : Int := bif bigB a b p then a.tdiv 625 else a
def minN (a b p : Int) : Int := bif bigB a b p then 1 else 0
theorem big_true {a b p : Int} : bigB a b p = true ↔ p = 5 ∧ b = 0 ∧ (a = 625 ∨ a = -625) := by simp [bigB]
theorem p4_bd {p : Int} (h1 : 5 ≤ p) (h2 : p ≤ 997) : 25 ≤ p * p ∧ p * p ≤ 994009 ∧ 125 ≤ p * p * p ∧ p * p * p ≤ 991026973 ∧ 625 ≤ p * p * p * p ∧ p * p * p * p ≤ 988053892081 := by
  have a1 : 5 * 5 ≤ p * p := Int.mul_le_mul h1 h1 (by omega) (by omega)
  have a2 : p * p ≤ 997 * 997 := Int.mul_le_mul h2 h2 (by omega) (by omega)
  have b1 : 25 * 5 ≤ p * p * p := Int.mul_le_mul a1 h1 (by omega) (by omega)
  have b2 : p * p * p ≤ (997 * 997) * 997 := Int.mul_le_mul a2 h2 (by omega) (by omega)
  have c1 : 125 * 5 ≤ p * p * p * p := Int.mul_le_mul b1 h1 (by omega) (by omega)
  have c2 : p * p * p * p ≤ (997 * 997) * 997 * 997 := Int.mul_le_mul b2 h2 (by omega) (by omega)
  omega
theorem p6_bd {p : Int} (h1 : 5 ≤ p) (h2 : p ≤ 997) : 3125 ≤ p * p * p * p * p ∧ p * p * p * p * p ≤ 985089730404757 ∧ 15625 ≤ p * p * p * p * p * p ∧ p * p * p * p * p * p ≤ 982134461213542729 := by
  obtain ⟨_, _, _, _, c1, c2⟩ := p4_bd h1 h2
  have d1 : 625 * 5 ≤ p * p * p * p * p := Int.mul_le_mul c1 h1 (by omega) (by omega)
  have d2 : p * p * p * p * p ≤ 988053892081 * 997 := Int.mul_le_mul c2 h2 (by omega) (by omega)
  have e1 : 3125 * 5 ≤ p * p * p * p * p * p := Int.mul_le_mul d1 h1 (by omega) (by omega)
  have e2 : p * p * p * p * p * p ≤ 985089730404757 * 997 := Int.mul_le_mul d2 h2 (by omega) (by omega)
  omega
/-- a small number that a greater one divides is 0. -/
theorem tmod_small {a m : Int} (h : a.natAbs < m.natAbs) (hz : a.tmod m = 0) : a = 0 := by
  have h1 := Int.natAbs_tmod a m
  rw [hz, Nat.mod_eq_of_lt h] at h1
  simp at h1
  omega
theorem small_notp4 {a b p : Int} (h1 : -1000 ≤ a) (h2 : a ≤ 1000) (h3 : -10000 ≤ b) (h4 : b ≤ 10000) (hd : discI a b ≠ 0) (h5 : 5 ≤ p) (h6 : p ≤ 997) (hn : bigB a b p = false)
    (hm : a.tmod (p * p * p * p) = 0) : b.tmod (p * p * p * p * p * p) ≠ 0 := by
  intro hb
  obtain ⟨_, _, _, _, c1, c2⟩ := p4_bd h5 h6
  obtain ⟨d1, d2, e1, e2⟩ := p6_bd h5 h6
  have hb0 : b = 0 := tmod_small (by omega) hb
  subst hb0
  have ha : a ≠ 0 := by rintro rfl; exact hd (by decide)
  have hp5 : p = 5 := by
    rcases Int.lt_or_le p 6 with h | h
    · omega
    · have f1 : 6 * 6 ≤ p * p := Int.mul_le_mul h h (by omega) (by omega)
      have f2 : 36 * 6 ≤ p * p * p := Int.mul_le_mul f1 h (by omega) (by omega)
      have f3 : 216 * 6 ≤ p * p * p * p := Int.mul_le_mul f2 h (by omega) (by omega)
      exact absurd (tmod_small (by omega) hm) ha
  subst hp5
  have hdv := Int.dvd_of_tmod_eq_zero hm
  obtain ⟨k, hk⟩ := hdv
  have : bigB a 0 5 = true := big_true.2 ⟨rfl, rfl, by omega⟩
  rw [hn] at this
  cases this
theorem min_disc {a b p : Int} (hc : curveB a b = true) : -1000 ≤ minA a b p ∧ minA a b p ≤ 1000 ∧ discI (minA a b p) b ≠ 0 := by
  obtain ⟨h1, h2, _, _, h5⟩ := curveB_true.1 hc
  unfold minA
  cases h : bigB a b p
  · exact ⟨h1, h2, h5⟩
  · obtain ⟨rfl, rfl, h | h⟩ := big_true.1 h <;> subst h <;> simp [discI]
theorem min_curve {a b p : Int} (hc : curveB a b = true) : curveB (minA a b p) b = true := by
  obtain ⟨h1, h2, h3, h4, h5⟩ := curveB_true.1 hc
  obtain ⟨k1, k2, k3⟩ := min_disc (p := p) hc
  exact curveB_true.2 ⟨k1, k2, h3, h4, k3⟩

end Go.Proofs.YtakilincclnpdaaGreatDoor
/- Ki: contracts: the kind of a curve at a prime, its node, the exponent of the conductor. No conditions. -/
namespace Go.Proofs.YtakilincclnpdaaGreatDoor
open Go.RowKit

def nodeI (A B p : Int) : Int := (-3 * B) % p * powI (2 * A) (p - 2) p % p
def kindN (A B p : Int) : Nat := if discI A B % p ≠ 0 then 0 else if A % p = 0 then 1 else if symI (3 * nodeI A B p) p = 1 then 2 else 3
def kindV : Nat → Value
  | 0 => .string ⟨#[103, 111, 111, 100]⟩
  | 1 => .string ⟨#[97, 100, 100, 105, 116, 105, 118, 101]⟩
  | 2 => .string ⟨#[115, 112, 108, 105, 116]⟩
  | _ => .string ⟨#[110, 111, 110, 115, 112, 108, 105, 116]⟩
@[simp, go_sem] theorem kindV_0 : kindV 0 = .string ⟨#[103, 111, 111, 100]⟩ := rfl
@[simp, go_sem] theorem kindV_1 : kindV 1 = .string ⟨#[97, 100, 100, 105, 116, 105, 118, 101]⟩ := rfl
@[simp, go_sem] theorem kindV_2 : kindV 2 = .string ⟨#[115, 112, 108, 105, 116]⟩ := rfl
@[simp, go_sem] theorem kindV_3 : kindV 3 = .string ⟨#[110, 111, 110, 115, 112, 108, 105, 116]⟩ := rfl
theorem kind_cases (A B p : Int) : kindN A B p = 0 ∨ kindN A B p = 1 ∨ kindN A B p = 2 ∨ kindN A B p = 3 := by
  unfold kindN; split
  · exact .inl rfl
  · split
    · exact .inr (.inl rfl)
    · split
      · exact .inr (.inr (.inl rfl))
      · exact .inr (.inr (.inr rfl))
theorem p5_pr {p : Int} (h : p5B p = true) : Pr p := by unfold p5B at h; rw [Bool.and_eq_true] at h; exact primeB_true.1 h.2
theorem pr_dvd_pow {p x : Int} (hp : Pr p) : ∀ {k : Nat}, p ∣ x ^ k → p ∣ x
  | 0, h => by
    have := hp.1
    rw [Int.pow_zero] at h
    have := Int.le_of_dvd (by omega) h
    omega
  | k + 1, h => by
    rw [Int.pow_succ] at h
    rcases pr_dvd_mul hp h with h | h
    · exact pr_dvd_pow hp h
    · exact h
theorem dvd_emod {p x : Int} (h : p ∣ x % p) : p ∣ x := by
  have := Int.mul_ediv_add_emod x p
  obtain ⟨k, hk⟩ := h
  exact ⟨x / p + k, by rw [Int.mul_add]; omega⟩
theorem powI_zero {a n p : Int} (hp : Pr p) (h : powI a n p = 0) : p ∣ a := by
  unfold powI at h
  exact dvd_emod (pr_dvd_pow hp (Int.dvd_of_emod_eq_zero h))
theorem powI_dvd {a n p : Int} (hp : Pr p) (h : p ∣ powI a n p) : p ∣ a :=
  powI_zero (a := a) (n := n) hp (by
    have h1 : 0 ≤ powI a n p ∧ powI a n p < p := powI_bd hp.1
    rcases Int.lt_or_le 0 (powI a n p) with k | k
    · have := Int.le_of_dvd k h; omega
    · omega)
theorem symI_zero {a p : Int} (hp : p5B p = true) (h : symI a p = 0) : p ∣ a := by
  unfold symI at h
  split at h
  · omega
  · exact powI_zero (p5_pr hp) h
theorem not_dvd_small {p : Int} (h5 : 5 ≤ p) {k : Int} (h0 : 0 < k) (h1 : k < 5) : ¬ p ∣ k := fun h => by
  have := Int.le_of_dvd h0 h; omega
theorem node_bd {A B p : Int} (h : 2 ≤ p) : 0 ≤ nodeI A B p ∧ nodeI A B p < p := ⟨Int.emod_nonneg _ (by omega), Int.emod_lt_of_pos _ (by omega)⟩
theorem add_B {A B p : Int} (hp : p5B p = true) (hd : discI A B % p = 0) (hA : A % p = 0) : B % p = 0 := by
  have hpr := p5_pr hp
  have hb := p5_bd hp
  obtain ⟨u, hu⟩ := Int.dvd_of_emod_eq_zero hA
  obtain ⟨v, hv⟩ := Int.dvd_of_emod_eq_zero hd
  have hdv : p ∣ 3 * 3 * 3 * B * B := ⟨v - 4 * A * A * u, by
    unfold discI at hv
    have e : 4 * A * A * A = p * (4 * A * A * u) := by
      rw [Int.mul_assoc (4 * A), show A * A = A * (p * u) by rw [← hu], ← Int.mul_assoc, ← Int.mul_assoc, Int.mul_assoc (4 * A * A) p u, Int.mul_left_comm]
    rw [Int.mul_sub, ← e]
    rw [show (3 : Int) * 3 * 3 = 27 by rfl]
    omega⟩
  have h3 := not_dvd_small hb.1 (k := 3) (by omega) (by omega)
  rcases pr_dvd_mul hpr hdv with k | k
  · rcases pr_dvd_mul hpr k with k | k
    · rcases pr_dvd_mul hpr k with k | k
      · rcases pr_dvd_mul hpr k with k | k <;> exact absurd k h3
      · exact absurd k h3
    · exact Int.emod_eq_zero_of_dvd k
  · exact Int.emod_eq_zero_of_dvd k
theorem mul_B {A B p : Int} (hp : p5B p = true) (hd : discI A B % p = 0) (hA : A % p ≠ 0) : B % p ≠ 0 := by
  intro hB
  have hpr := p5_pr hp
  have hb := p5_bd hp
  obtain ⟨u, hu⟩ := Int.dvd_of_emod_eq_zero hB
  obtain ⟨v, hv⟩ := Int.dvd_of_emod_eq_zero hd
  have hdv : p ∣ 4 * A * A * A := ⟨v - 27 * B * u, by
    unfold discI at hv
    have e : 27 * B * B = p * (27 * B * u) := by
      rw [show (27 * B) * B = (27 * B) * (p * u) by rw [← hu], Int.mul_left_comm]
    rw [Int.mul_sub, ← e]
    omega⟩
  have h4 := not_dvd_small hb.1 (k := 4) (by omega) (by omega)
  have hAd : ¬ p ∣ A := fun h => hA (Int.emod_eq_zero_of_dvd h)
  rcases pr_dvd_mul hpr hdv with k | k
  · rcases pr_dvd_mul hpr k with k | k
    · rcases pr_dvd_mul hpr k with k | k
      · exact h4 k
      · exact hAd k
    · exact hAd k
  · exact hAd k
theorem node_sym {A B p : Int} (hp : p5B p = true) (hd : discI A B % p = 0) (hA : A % p ≠ 0) : symI (3 * nodeI A B p) p ≠ 0 := by
  intro h
  have hpr := p5_pr hp
  have hb := p5_bd hp
  have h3 := not_dvd_small hb.1 (k := 3) (by omega) (by omega)
  have h2 := not_dvd_small hb.1 (k := 2) (by omega) (by omega)
  have hB := mul_B hp hd hA
  rcases pr_dvd_mul hpr (symI_zero hp h) with k | k
  · exact h3 k
  · rcases pr_dvd_mul hpr (dvd_emod k) with k | k
    · have k2 := dvd_emod k
      rw [show -3 * B = 3 * -B by omega] at k2
      rcases pr_dvd_mul hpr k2 with k3 | k3
      · exact h3 k3
      · exact hB (Int.emod_eq_zero_of_dvd (Int.dvd_neg.1 k3))
    · rcases pr_dvd_mul hpr (powI_dvd hpr k) with k3 | k3
      · exact h2 k3
      · exact hA (Int.emod_eq_zero_of_dvd k3)
theorem sym_two {A B p : Int} (hp : p5B p = true) (hd : discI A B % p = 0) (hA : A % p ≠ 0) : symI (3 * nodeI A B p) p = 1 ∨ symI (3 * nodeI A B p) p = -1 := by
  have h1 := node_sym hp hd hA
  have h2 := symI_bd (a := 3 * nodeI A B p) hp
  omega
end Go.Proofs.YtakilincclnpdaaGreatDoor
namespace Go.Proofs.YtakilincclnpdaaGreatDoor
open Go.RowKit

def expK : Nat → Int
  | 0 => 0
  | 1 => 2
  | _ => 1
theorem kind_good {A B p : Int} (hpr : p5B p = true) (h : kindN A B p = 0) : goodB A B p = true := by
  unfold kindN at h
  split at h
  · rename_i hd
    unfold goodB; rw [hpr]; simp [hd]
  · split at h
    · omega
    · split at h <;> omega
def nodeT (k : Nat) (x p : Int) : Value := bif Nat.ble 2 k then .tuple #[.int .i64 x, .int .i64 (3 * x % p), .bool true] else .tuple #[.int .i64 0, .int .i64 0, .bool false]
def nsK (k : Nat) (c p : Int) : Int := match k with
  | 0 => c
  | 1 => p
  | 2 => p - 1
  | _ => p + 1
end Go.Proofs.YtakilincclnpdaaGreatDoor
