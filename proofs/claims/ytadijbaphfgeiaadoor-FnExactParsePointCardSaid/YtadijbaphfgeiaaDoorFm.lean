/- Fm: plain facts on primes, on the primes that divide a number, on valuations. No conditions. -/
import Derived.Test.YtadijbaphfgeiaaDoorRed
namespace Go.Proofs.YtadijbaphfgeiaaDoor

theorem pr_two_le {p : Int} (h : Pr p) : 2 ≤ p := h.1
/-- a divisor of a prime number from 2 on is it. -/
theorem pr_dvd {p d : Int} (hp : Pr p) (hd : 2 ≤ d) (h : d ∣ p) : d = p := by
  have hle : d ≤ p := Int.le_of_dvd (by have := hp.1; omega) h
  rcases Int.lt_or_le d p with hlt | hge
  · exact absurd (Int.emod_eq_zero_of_dvd h) (hp.2 d hd hlt)
  · omega
/-- Euclid. -/
theorem pr_dvd_mul {p a b : Int} (hp : Pr p) (h : p ∣ a * b) : p ∣ a ∨ p ∣ b := by
  by_cases ha : p ∣ a
  · exact .inl ha
  · right
    have h2 := hp.1
    have hg : Int.gcd p a = 1 := by
      have g1 : (Int.gcd p a : Int) ∣ p := Int.gcd_dvd_left p a
      have g2 : (Int.gcd p a : Int) ∣ a := Int.gcd_dvd_right p a
      have hpos : 0 < Int.gcd p a := Int.gcd_pos_of_ne_zero_left a (by omega)
      rcases Nat.lt_or_ge (Int.gcd p a) 2 with hl | hg2
      · omega
      · have := pr_dvd hp (by omega) g1
        rw [this] at g2
        exact absurd g2 ha
    have hn : p.natAbs ∣ a.natAbs * b.natAbs := by rw [← Int.natAbs_mul]; exact Int.natAbs_dvd_natAbs.2 h
    exact Int.natAbs_dvd_natAbs.1 (Nat.Coprime.dvd_of_dvd_mul_left hg hn)
theorem pr_dvd_pr {p q : Int} (hp : Pr p) (hq : Pr q) (h : q ∣ p) : q = p := pr_dvd hp hq.1 h
/-- the least divisor from 2 on is a prime. -/
theorem pr_of_least {n p : Int} (hp : 2 ≤ p) (h : p ∣ n) (hno : ∀ d : Int, 2 ≤ d → d < p → ¬ d ∣ n) : Pr p :=
  ⟨hp, fun d h1 h2 h3 => hno d h1 h2 (Int.dvd_trans (Int.dvd_of_emod_eq_zero h3) h)⟩
/-- no divisor up to the root: a prime. -/
theorem pr_of_noDiv {n p : Int} (hn : 2 ≤ n) (hp : 2 ≤ p) (hs : n < p * p) (hno : ∀ d : Int, 2 ≤ d → d < p → ¬ d ∣ n) : Pr n :=
  pr_of_root hn hs hp (fun d h1 h2 h3 => hno d h1 h2 (Int.dvd_of_emod_eq_zero h3))

/-- strictly increasing. -/
def Inc (l : List Int) : Prop := l.Pairwise (· < ·)
/-- the primes that divide N, increasing. -/
def PrimeDivs (N : Int) (l : List Int) : Prop := Inc l ∧ ∀ q : Int, q ∈ l ↔ (Pr q ∧ q ∣ N)
theorem inc_ext : ∀ {l l' : List Int}, Inc l → Inc l' → (∀ q, q ∈ l ↔ q ∈ l') → l = l'
  | [], [], _, _, _ => rfl
  | [], b :: r, _, _, h => by have := (h b).2 (by simp); simp at this
  | a :: r, [], _, _, h => by have := (h a).1 (by simp); simp at this
  | a :: r, b :: s, h1, h2, h => by
    unfold Inc at h1 h2
    rw [List.pairwise_cons] at h1 h2
    have hab : a = b := by
      have ha := (h a).1 (by simp)
      have hb := (h b).2 (by simp)
      rw [List.mem_cons] at ha hb
      rcases ha with ha | ha
      · exact ha
      · rcases hb with hb | hb
        · exact hb.symm
        · have k1 := h2.1 a ha; have k2 := h1.1 b hb; omega
    subst hab
    congr 1
    refine inc_ext h1.2 h2.2 fun q => ⟨fun hq => ?_, fun hq => ?_⟩
    · have := (h q).1 (List.mem_cons_of_mem _ hq)
      rw [List.mem_cons] at this
      rcases this with rfl | this
      · have := h1.1 _ hq; omega
      · exact this
    · have := (h q).2 (List.mem_cons_of_mem _ hq)
      rw [List.mem_cons] at this
      rcases this with rfl | this
      · have := h2.1 _ hq; omega
      · exact this
theorem inc_snoc {l : List Int} {p : Int} (h : Inc l) (hl : ∀ q ∈ l, q < p) : Inc (l ++ [p]) := by
  unfold Inc at *
  rw [List.pairwise_append]
  exact ⟨h, by simp, fun a ha b hb => by simp at hb; subst hb; exact hl a ha⟩
open Classical in
/-- the primes that divide N, increasing. -/
noncomputable def primesL (N : Int) : List Int := ((List.range (N.natAbs + 1)).map (fun k : Nat => (k : Int))).filter fun q => decide (Pr q ∧ q ∣ N)
theorem primesL_spec {N : Int} (hN : N ≠ 0) : PrimeDivs N (primesL N) := by
  constructor
  · unfold primesL Inc
    refine List.Pairwise.filter _ ?_
    rw [List.pairwise_map]
    exact (List.pairwise_lt_range (n := N.natAbs + 1)).imp (fun h => by omega)
  · intro q
    unfold primesL
    simp only [List.mem_filter, List.mem_map, List.mem_range, decide_eq_true_eq]
    constructor
    · rintro ⟨_, h⟩; exact h
    · intro h
      refine ⟨⟨q.toNat, ?_, ?_⟩, h⟩
      · have h2 := h.1.1
        have := Nat.le_of_dvd (by omega) (Int.natAbs_dvd_natAbs.2 h.2)
        omega
      · have := h.1.1; omega
theorem primesL_eq {N : Int} {l : List Int} (hN : N ≠ 0) (h : PrimeDivs N l) : l = primesL N :=
  inc_ext h.1 (primesL_spec hN).1 fun q => (h.2 q).trans ((primesL_spec hN).2 q).symm

/-- what is true ahead of a round of the factoring loop: n is what is left, p the next divisor to try, l the primes found. -/
def FacInv (N n p : Int) (l : List Int) : Prop :=
  2 ≤ p ∧ 1 ≤ n ∧ n ≤ N ∧ (∀ d : Int, 2 ≤ d → d < p → ¬ d ∣ n) ∧ Inc l ∧ (∀ q ∈ l, Pr q ∧ q ∣ N ∧ q < p) ∧ (∀ q : Int, Pr q → q ∣ N → q ∈ l ∨ q ∣ n) ∧
  ∃ m : Int, N = n * m ∧ ∀ q : Int, Pr q → p ≤ q → ¬ q ∣ m
theorem FacInv.start {N : Int} (h : 1 ≤ N) : FacInv N N 2 [] :=
  ⟨by omega, h, by omega, fun d h1 h2 => by omega, List.Pairwise.nil, fun q h => by simp at h, fun q _ h => .inr h, 1, by omega, fun q hq _ hd => by
    have := Int.le_of_dvd (by omega) hd; have := hq.1; omega⟩
theorem FacInv.done {N p : Int} {l : List Int} (hN : 1 ≤ N) (h : FacInv N 1 p l) : l = primesL N := by
  obtain ⟨_, _, _, _, h5, h6, h7, _⟩ := h
  refine primesL_eq (by omega) ⟨h5, fun q => ⟨fun hq => ⟨(h6 q hq).1, (h6 q hq).2.1⟩, fun hq => ?_⟩⟩
  rcases h7 q hq.1 hq.2 with h | h
  · exact h
  · have := Int.le_of_dvd (by omega) h; have := hq.1.1; omega
/-- n is prime where p * p > n. -/
theorem FacInv.last {N n p : Int} {l : List Int} (h : FacInv N n p l) (hn : 1 < n) (hp : n < p * p) : Pr n ∧ p ≤ n := by
  obtain ⟨h1, h2, h3, h4, _⟩ := h
  refine ⟨pr_of_noDiv (by omega) h1 hp h4, ?_⟩
  rcases Int.lt_or_le n p with hl | hg
  · exact absurd (Int.dvd_refl n) (h4 n (by omega) hl)
  · exact hg
/-- the found prime: the divisor that is tried, where it divides. -/
theorem FacInv.prime {N n p : Int} {l : List Int} (h : FacInv N n p l) (hd : p ∣ n) : Pr p := pr_of_least h.1 hd h.2.2.2.1
/-- behind a divisor that does not divide. -/
theorem FacInv.skip {N n p : Int} {l : List Int} (h : FacInv N n p l) (hd : ¬ p ∣ n) : FacInv N n (p + 1) l := by
  obtain ⟨h1, h2, h3, h4, h5, h6, h7, m, h8, h9⟩ := h
  refine ⟨by omega, h2, h3, fun d k1 k2 => ?_, h5, fun q hq => ?_, h7, m, h8, fun q hq k => h9 q hq (by omega)⟩
  · rcases Int.lt_or_le d p with k | k
    · exact h4 d k1 k
    · have : d = p := by omega
      subst this; exact hd
  · have := h6 q hq; exact ⟨this.1, this.2.1, by omega⟩
/-- behind a prime p' from p on (p itself, or n where nothing else is left): u is n without it. -/
theorem FacInv.take {N n p p' u : Int} {l : List Int} (h : FacInv N n p l) (hp : Pr p') (hle : p ≤ p') (hd : p' ∣ n) (hlow : ∀ d : Int, 2 ≤ d → d < p' → ¬ d ∣ n)
    (hu : 1 ≤ u) (hnu : ¬ p' ∣ u) (hun : ∃ c : Int, n = u * c ∧ ∀ q : Int, Pr q → q ∣ c → q = p') : FacInv N u (p' + 1) (l ++ [p']) := by
  obtain ⟨h1, h2, h3, h4, h5, h6, h7, m, h8, h9⟩ := h
  obtain ⟨c, hc, hcq⟩ := hun
  have hN0 : 0 < N := by omega
  have hcpos : 0 < c := by
    rcases Int.lt_or_le 0 c with k | k
    · exact k
    · have : u * c ≤ 0 := Int.mul_nonpos_of_nonneg_of_nonpos (by omega) k
      omega
  have huN : u ∣ n := ⟨c, hc⟩
  refine ⟨by have := hp.1; omega, hu, by have := Int.le_of_dvd (by omega) huN; omega, fun d k1 k2 k3 => ?_, inc_snoc h5 (fun q hq => by have := (h6 q hq).2.2; omega), fun q hq => ?_, fun q k1 k2 => ?_, c * m, by rw [h8, hc, Int.mul_assoc], fun q k1 k2 k3 => ?_⟩
  · rcases Int.lt_or_le d p' with k | k
    · exact hlow d k1 k (Int.dvd_trans k3 huN)
    · have : d = p' := by omega
      subst this; exact hnu k3
  · rw [List.mem_append, List.mem_singleton] at hq
    rcases hq with hq | rfl
    · have := h6 q hq; exact ⟨this.1, this.2.1, by omega⟩
    · exact ⟨hp, by rw [h8]; exact Int.dvd_trans hd ⟨m, rfl⟩, by omega⟩
  · rcases h7 q k1 k2 with k | k
    · exact .inl (List.mem_append_left _ k)
    · rw [hc] at k
      rcases pr_dvd_mul k1 k with k' | k'
      · exact .inr k'
      · rw [hcq q k1 k']; exact .inl (by simp)
  · rcases pr_dvd_mul k1 k3 with k' | k'
    · have := hcq q k1 k'; omega
    · exact h9 q k1 (by omega) k'

/-! ### valuations -/
theorem valF_fuel {p : Int} (hp : 2 ≤ p) : ∀ (f g : Nat) (a : Int), a ≠ 0 → a.natAbs ≤ f → a.natAbs ≤ g → valF f a p = valF g a p
  | 0, _, a, ha, h, _ => by omega
  | _, 0, a, ha, _, h => by omega
  | f + 1, g + 1, a, ha, h1, h2 => by
    unfold valF
    by_cases hm : a.tmod p = 0
    · rw [if_pos hm, if_pos hm]
      have hlt := natAbs_tdiv_lt ha hp
      rw [valF_fuel hp f g (a.tdiv p) (tdiv_ne_zero ha hm) (by omega) (by omega)]
    · rw [if_neg hm, if_neg hm]
theorem valP_pos {a p : Int} (hp : 2 ≤ p) (ha : a ≠ 0) (hm : a.tmod p = 0) : valP a p = valP (a.tdiv p) p + 1 := by
  have hlt := natAbs_tdiv_lt ha hp
  have hne := tdiv_ne_zero ha hm
  unfold valP
  obtain ⟨k, hk⟩ : ∃ k, a.natAbs = k + 1 := ⟨a.natAbs - 1, by omega⟩
  rw [hk]
  conv => lhs; unfold valF
  rw [if_pos hm, valF_fuel hp k (a.tdiv p).natAbs (a.tdiv p) hne (by omega) (Nat.le_refl _)]
theorem valP_zero {a p : Int} (hm : a.tmod p ≠ 0) : valP a p = 0 := by
  unfold valP
  cases a.natAbs with
  | zero => rfl
  | succ k => unfold valF; rw [if_neg hm]
theorem valF_nonneg : ∀ (f : Nat) (a p : Int), 0 ≤ valF f a p
  | 0, _, _ => Int.le_refl _
  | f + 1, a, p => by
    unfold valF; split
    · have := valF_nonneg f (a.tdiv p) p; omega
    · exact Int.le_refl _
theorem valP_nonneg (a p : Int) : 0 ≤ valP a p := valF_nonneg _ _ _
theorem mul_tdiv_self {p c : Int} (hp : 2 ≤ p) : (p * c).tdiv p = c := Int.mul_tdiv_cancel_left c (by omega)
theorem mul_tmod_self {p c : Int} : (p * c).tmod p = 0 := Int.mul_tmod_right p c
/-- p times c: once more. -/
theorem valP_mul_self {p c : Int} (hp : 2 ≤ p) (hc : c ≠ 0) : valP (p * c) p = valP c p + 1 := by
  rw [valP_pos hp (Int.mul_ne_zero (by omega) hc) mul_tmod_self, mul_tdiv_self hp]
theorem valP_not {p c : Int} (h : ¬ p ∣ c) : valP c p = 0 := valP_zero (fun k => h (Int.dvd_of_tmod_eq_zero k))
/-- a factor that the prime does not divide does not count. -/
theorem valP_coprime {p m : Int} (hp : Pr p) (hm : ¬ p ∣ m) : ∀ (k : Nat) (n : Int), n.natAbs ≤ k → n ≠ 0 → valP (n * m) p = valP n p
  | 0, n, h, h0 => by omega
  | k + 1, n, h, h0 => by
    by_cases hd : p ∣ n
    · obtain ⟨c, rfl⟩ := hd
      have hc : c ≠ 0 := by rintro rfl; simp at h0
      have hm0 : m ≠ 0 := by rintro rfl; exact hm (Int.dvd_zero p)
      have hlt : c.natAbs < (p * c).natAbs := by
        rw [Int.natAbs_mul]
        have h2 := hp.1
        have : 1 * c.natAbs < p.natAbs * c.natAbs := Nat.mul_lt_mul_of_pos_right (by omega) (by omega)
        omega
      rw [Int.mul_assoc, valP_mul_self hp.1 (Int.mul_ne_zero hc hm0), valP_mul_self hp.1 hc, valP_coprime hp hm k c (by omega) hc]
    · rw [valP_not hd, valP_not (fun h => (pr_dvd_mul hp h).elim hd hm)]
theorem valF_neg : ∀ (f : Nat) (a p : Int), valF f (-a) p = valF f a p
  | 0, _, _ => rfl
  | f + 1, a, p => by
    unfold valF
    rw [Int.neg_tmod, Int.neg_tdiv, valF_neg f]
    by_cases h : a.tmod p = 0
    · rw [if_pos h, if_pos (by omega)]
    · rw [if_neg h, if_neg (by omega)]
theorem valP_natAbs (a p : Int) : valP (a.natAbs : Int) p = valP a p := by
  unfold valP
  rcases Int.natAbs_eq a with h | h
  · rw [← h]
  · have : (a.natAbs : Int) = -a := by omega
    rw [this, valF_neg, Int.natAbs_neg]
end Go.Proofs.YtadijbaphfgeiaaDoor
