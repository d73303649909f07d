/- Ec: the sum of two points modulo a prime is a point. No conditions. -/
import Derived.Test.YtpjcfnjagknocaaAd
import Derived.Test.YtpjcfnjagknocaaKi
namespace Go.Proofs.Ytpjcfnjagknocaa
open Go.RowKit

section
variable {n : Nat} [NeZero n]
theorem rCancel {d i z : Fin n} (hi : d * i = 1) (h : d * z = 0) : z = 0 := by
  have e : z = i * (d * z) - (d * i - 1) * z := by clear h hi; grind
  rw [h, hi] at e; grind
theorem rSub {a b : Fin n} (h : a - b = 0) : a = b := by grind
theorem rSub' {a b : Fin n} (h : a = b) : a - b = 0 := by grind
theorem rTwo {u v a b : Fin n} (ha : a = 0) (hb : b = 0) : u * a + v * b = 0 := by grind
theorem rMove {a b c : Fin n} (h : a = b - c) : b = a + c := by grind
theorem chordR {A B s0 s1 t0 t1 m x y i : Fin n} (h1 : s1 * s1 = s0 * s0 * s0 + A * s0 + B) (h2 : t1 * t1 = t0 * t0 * t0 + A * t0 + B) (h3 : m * (t0 - s0) = t1 - s1) (hi : (t0 - s0) * i = 1) (hx : x = m * m - s0 - t0) (hy : y = m * (s0 - x) - s1) :
   y * y = x * x * x + A * x + B := by
  have e1 := rMove h3
  have id : (t0 - s0) * (y * y - (x * x * x + A * x + B)) = (t0 - x) * (s1 * s1 - (s0 * s0 * s0 + A * s0 + B)) + (x - s0) * (t1 * t1 - (t0 * t0 * t0 + A * t0 + B)) := by
    clear h1 h2 h3 hi
    subst e1; subst hy
    subst hx
    grind
  rw [rTwo (rSub' h1) (rSub' h2)] at id
  exact rSub (rCancel hi id)
/-- the tangent. -/
theorem tangR {A B s0 s1 m x y : Fin n} (h1 : s1 * s1 = s0 * s0 * s0 + A * s0 + B) (h3 : m * (2 * s1) = 3 * s0 * s0 + A) (hx : x = m * m - s0 - s0) (hy : y = m * (s0 - x) - s1) :
   y * y = x * x * x + A * x + B := by
  have id : y * y - (x * x * x + A * x + B) = 1 * (s1 * s1 - (s0 * s0 * s0 + A * s0 + B)) + (x - s0) * (m * (2 * s1) - (3 * s0 * s0 + A)) := by
    clear h1 h3
    subst hy; subst hx
    grind
  rw [rTwo (rSub' h1) (rSub' h3)] at id
  exact rSub id
/-- a chord that meets its first point twice is its tangent. -/
theorem chordTan {A B s0 s1 t0 t1 m i : Fin n} (h1 : s1 * s1 = s0 * s0 * s0 + A * s0 + B) (h2 : t1 * t1 = t0 * t0 * t0 + A * t0 + B) (h3 : m * (t0 - s0) = t1 - s1) (hi : (t0 - s0) * i = 1) (hx : s0 = m * m - s0 - t0) : m * (2 * s1) = 3 * s0 * s0 + A := by
  have e1 := rMove h3
  have e2 : t0 = m * m - s0 - s0 := by clear h1 h2 h3 hi e1; grind
  have id : (t0 - s0) * (m * (2 * s1) - (3 * s0 * s0 + A)) = 1 * (t1 * t1 - (t0 * t0 * t0 + A * t0 + B)) + (-1) * (s1 * s1 - (s0 * s0 * s0 + A * s0 + B)) := by
    clear h1 h2 h3 hi
    subst e1; clear hx; subst e2
    grind
  rw [rTwo (rSub' h2) (rSub' h1)] at id
  exact rSub (rCancel hi id)
end
theorem fin_eq {n : Nat} {a b : Fin n} (h : (a.val : Int) = b.val) : a = b := Fin.ext (by omega)
/-- residues. -/
def cf (n : Nat) [NeZero n] (x : Int) : Fin n := ⟨(x % n).toNat, by
  have h0 : 0 < n := Nat.pos_of_ne_zero (NeZero.ne n)
  have h1 := Int.emod_nonneg x (show (n : Int) ≠ 0 by omega)
  have h2 := Int.emod_lt_of_pos x (show (0 : Int) < n by omega)
  omega⟩
section
variable {n : Nat} [NeZero n]
theorem cf_val (x : Int) : ((cf n x).val : Int) = x % n := by
  have h0 : 0 < n := Nat.pos_of_ne_zero (NeZero.ne n)
  have h1 := Int.emod_nonneg x (show (n : Int) ≠ 0 by omega)
  simp only [cf]
  omega
theorem cf_add (x y : Int) : cf n (x + y) = cf n x + cf n y := by
  apply fin_eq
  rw [Fin.val_add, Int.natCast_emod, Int.natCast_add, cf_val, cf_val, cf_val, ← Int.add_emod]
theorem cf_mul (x y : Int) : cf n (x * y) = cf n x * cf n y := by
  apply fin_eq
  rw [Fin.val_mul, Int.natCast_emod, Int.natCast_mul, cf_val, cf_val, cf_val, ← Int.mul_emod]
theorem cf_eq {x y : Int} : cf n x = cf n y ↔ x % n = y % n := by
  constructor
  · intro h
    rw [← cf_val x, ← cf_val y, h]
  · intro h
    apply fin_eq
    rw [cf_val, cf_val, h]
theorem cf_zero : cf n 0 = 0 := by
  apply fin_eq; rw [cf_val]; simp
theorem cf_one : cf n 1 = 1 := by
  apply fin_eq; rw [cf_val]; show (1 : Int) % n = (((1 % n) : Nat) : Int); rw [Int.natCast_emod]; rfl
theorem cf_neg (x : Int) : cf n (-x) = - cf n x := by
  have h := cf_add (n := n) x (-x)
  rw [Int.add_right_neg, cf_zero] at h
  grind
theorem cf_sub (x y : Int) : cf n (x - y) = cf n x - cf n y := by
  rw [Int.sub_eq_add_neg, cf_add, cf_neg]; grind
theorem cf_mod (x : Int) : cf n (x % n) = cf n x := cf_eq.2 (Int.emod_emod _ _)
end

/-- Fermat, for the primes that the program knows. -/
theorem inv_mul {p a : Int} (hp : p5B p = true) (ha : ¬ p ∣ a) : (a * powI a (p - 2) p) % p = 1 := by
  have hb := p5_bd hp
  have hpr := p5_pr hp
  have ho := pr_odd hpr hb.1
  have e1 : (a * powI a (p - 2) p) % p = (powI a ((p - 1) / 2) p * powI a ((p - 1) / 2) p) % p := by
    unfold powI
    rw [mul_emod_r, ← mul_emod_l, ← Int.mul_emod, ← Int.pow_add, show ((p - 1) / 2).toNat + ((p - 1) / 2).toNat = (p - 2).toNat + 1 by omega, Int.pow_succ, Int.mul_comm]
  rw [e1]
  rcases euler (a := a) hp with h | h | h
  · exact absurd (powI_zero hpr h) ha
  · rw [h]; exact Int.emod_eq_of_lt (by omega) (by omega)
  · rw [h, show (p - 1) * (p - 1) = 1 + p * (p - 2) by grind, Int.add_mul_emod_self_left]
    exact Int.emod_eq_of_lt (by omega) (by omega)
theorem nat_p {p : Int} (hp : p5B p = true) : ∃ n : Nat, p = n ∧ n ≠ 0 := ⟨p.toNat, by have := p5_bd hp; omega, by have := p5_bd hp; omega⟩
section
variable {n : Nat} [NeZero n]
theorem cf_dvd {x : Int} (h : (n : Int) ∣ x) : cf n x = 0 := by
  rw [← cf_zero, cf_eq, Int.emod_eq_zero_of_dvd h, Int.zero_emod]
theorem cf_dvd' {x : Int} (h : cf n x = 0) : (n : Int) ∣ x := by
  rw [← cf_zero, cf_eq, Int.zero_emod] at h
  exact Int.dvd_of_emod_eq_zero h
theorem cf_rs {a b y x : Int} : y * y % n = rsI a b n x ↔ cf n y * cf n y = cf n x * cf n x * cf n x + cf n a * cf n x + cf n b := by
  rw [← cf_mul, ← cf_mul, ← cf_mul, ← cf_mul, ← cf_add, ← cf_add, cf_eq]
  rfl
theorem cf_inv {a : Int} (hp : p5B n = true) (ha : ¬ (n : Int) ∣ a) : cf n a * cf n (powI a (n - 2) n) = 1 := by
  have hb := p5_bd hp
  rw [← cf_mul, ← cf_one, cf_eq, inv_mul hp ha]
  exact (Int.emod_eq_of_lt (by omega) (by omega)).symm
/-- what is known of a slope. -/
theorem cf_slope {num den : Int} (hp : p5B n = true) (hd : ¬ (n : Int) ∣ den) : cf n (num % n * powI den (n - 2) n % n) * cf n den = cf n num := by
  have h := cf_inv hp hd
  rw [cf_mod, cf_mul, cf_mod]
  generalize cf n num = u at *
  generalize cf n den = v at *
  generalize cf n (powI den (n - 2) n) = z at *
  have e : u * z * v = u * (v * z) := by clear h; grind
  rw [e, h]; grind
theorem cf_sumX (m s0 t0 : Int) : cf n (sumX m n s0 t0) = cf n m * cf n m - cf n s0 - cf n t0 := by unfold sumX; rw [cf_mod, cf_sub, cf_sub, cf_mul]
theorem cf_sumY (m s0 s1 x : Int) : cf n (sumY m n s0 s1 x) = cf n m * (cf n s0 - cf n x) - cf n s1 := by unfold sumY; rw [cf_mod, cf_sub, cf_mul, cf_sub]
end
theorem not_dvd_diff {p s t : Int} (s0 : 0 ≤ s) (s1 : s < p) (t0 : 0 ≤ t) (t1 : t < p) (h : ¬ s = t) : ¬ p ∣ t - s := by
  rintro ⟨c, hc⟩
  rcases Int.lt_trichotomy c 0 with g | g | g
  · have : p * c ≤ p * (-1) := Int.mul_le_mul_of_nonneg_left (by omega) (by omega)
    omega
  · subst g; omega
  · have : p * 1 ≤ p * c := Int.mul_le_mul_of_nonneg_left (by omega) (by omega)
    omega
theorem not_dvd_two {p s : Int} (hp : Pr p) (h5 : 5 ≤ p) (s0 : 0 ≤ s) (s1 : s < p) (h : ¬ s = 0) : ¬ p ∣ 2 * s := by
  intro hd
  rcases pr_dvd_mul hp hd with k | k
  · have := Int.le_of_dvd (by omega) k; omega
  · have := Int.le_of_dvd (by omega) k; omega
theorem slope_chord {a p s0 s1 t0 t1 : Int} (h : ¬ s0 = t0) : slopeI a p s0 s1 t0 t1 = (t1 - s1) % p * powI (t0 - s0) (p - 2) p % p := by unfold slopeI numI denI; rw [if_neg h, if_neg h]
theorem slope_tan {a p s0 t1 : Int} : slopeI a p s0 t1 s0 t1 = (3 * s0 * s0 + a) % p * powI (2 * t1) (p - 2) p % p := by unfold slopeI numI denI; rw [if_pos rfl, if_pos rfl]
theorem on_pair {a b p x y : Int} (h0 : 0 ≤ x) (h1 : x < p) (h2 : 0 ≤ y) (h3 : y < p) (h : y * y % p = rsI a b p x) : onF a b p [x, y] = true := by
  simp only [onF, Bool.and_eq_true, decide_eq_true_eq, beq_iff_eq]
  omega
theorem on_sum {a b p m s0 s1 t0 : Int} (hp : p5B p = true) (h : sumY m p s0 s1 (sumX m p s0 t0) * sumY m p s0 s1 (sumX m p s0 t0) % p = rsI a b p (sumX m p s0 t0)) :
    onF a b p [sumX m p s0 t0, sumY m p s0 s1 (sumX m p s0 t0)] = true := by
  have hb := p5_bd hp
  exact on_pair (Int.emod_nonneg _ (by omega)) (Int.emod_lt_of_pos _ (by omega)) (Int.emod_nonneg _ (by omega)) (Int.emod_lt_of_pos _ (by omega)) h
/-- the sum of two points is a point. -/
theorem on_add {a b p : Int} {s t : List Int} (hp : p5B p = true) (hs : onF a b p s = true) (ht : onF a b p t = true) : onF a b p (addI a p s t) = true := by
  have hb := p5_bd hp
  have hpr := p5_pr hp
  rcases onF_cases hs with rfl | ⟨s0, s1, rfl, sa, sb, sc, sd, hsq⟩
  · rw [addI_nil]; exact ht
  · rcases onF_cases ht with rfl | ⟨t0, t1, rfl, ta, tb, tc, td, htq⟩
    · rw [addI_nil']; exact hs
    · clear hs ht
      have hpair : addI a p [s0, s1] [t0, t1] = if s0 = t0 ∧ (s1 + t1) % p = 0 then [] else
        [sumX (slopeI a p s0 s1 t0 t1) p s0 t0, sumY (slopeI a p s0 s1 t0 t1) p s0 s1 (sumX (slopeI a p s0 s1 t0 t1) p s0 t0)] := rfl
      rw [hpair]
      split
      · rfl
      · rename_i hne
        refine on_sum hp ?_
        obtain ⟨n, rfl, hn⟩ := nat_p hp
        have : NeZero n := ⟨hn⟩
        rw [cf_rs, cf_sumY, cf_sumX]
        rw [cf_rs] at hsq htq
        by_cases hx : s0 = t0
        · subst hx
          rcases sum_zero hpr hb.1 sc sd tc td (cf_rs.2 hsq |>.trans (cf_rs.2 htq).symm) with hz | ⟨rfl, hs1⟩
          · exact absurd ⟨rfl, hz⟩ hne
          · have h3 := cf_slope (num := 3 * s0 * s0 + a) hp (not_dvd_two hpr hb.1 tc td hs1)
            rw [← slope_tan] at h3
            generalize slopeI a n s0 t1 s0 t1 = m at *
            rw [cf_mul, cf_add, cf_mul, cf_mul] at h3
            have e2 : cf n 2 = 2 := by rw [show (2 : Int) = 1 + 1 by rfl, cf_add, cf_one]; grind
            have e3 : cf n 3 = 3 := by rw [show (3 : Int) = 1 + 1 + 1 by rfl, cf_add, cf_add, cf_one]; grind
            rw [e2, e3] at h3
            exact tangR htq h3 rfl rfl
        · have hd := not_dvd_diff sa sb ta tb hx
          have h3 := cf_slope (num := t1 - s1) hp hd
          have hi := cf_inv hp hd
          rw [← slope_chord hx] at h3
          generalize slopeI a n s0 s1 t0 t1 = m at *
          rw [cf_sub, cf_sub] at h3
          rw [cf_sub] at hi
          exact chordR hsq htq h3 hi rfl rfl
end Go.Proofs.Ytpjcfnjagknocaa
