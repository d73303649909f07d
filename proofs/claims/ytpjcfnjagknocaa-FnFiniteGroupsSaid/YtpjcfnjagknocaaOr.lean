/- Or: adding a point modulo a prime can be undone; each point has an order. No conditions. -/
import Derived.Test.YtpjcfnjagknocaaAl
import Derived.Test.YtpjcfnjagknocaaEc
namespace Go.Proofs.Ytpjcfnjagknocaa
open Go.RowKit

section
variable {n : Nat} [NeZero n]
theorem cf_inj {x y : Int} (x0 : 0 ≤ x) (x1 : x < n) (y0 : 0 ≤ y) (y1 : y < n) (h : cf n x = cf n y) : x = y := by
  have := cf_eq.1 h
  rwa [Int.emod_eq_of_lt x0 x1, Int.emod_eq_of_lt y0 y1] at this
theorem cf_unit {d : Int} (hp : p5B n = true) (hd : ¬ (n : Int) ∣ d) : ∃ i, cf n d * i = 1 := ⟨_, cf_inv hp hd⟩
theorem cf_two : cf n 2 = 2 := by rw [show (2 : Int) = 1 + 1 by rfl, cf_add, cf_one]; grind
theorem cf_three : cf n 3 = 3 := by rw [show (3 : Int) = 1 + 1 + 1 by rfl, cf_add, cf_add, cf_one]; grind
/-- the sum of two points that is no infinity. -/
theorem add_char {a b u0 u1 v0 v1 : Int} (hp : p5B n = true) (ua : 0 ≤ u0) (ub : u0 < n) (uc : 0 ≤ u1) (ud : u1 < n) (hu : u1 * u1 % n = rsI a b n u0)
    (va : 0 ≤ v0) (vb : v0 < n) (vc : 0 ≤ v1) (vd : v1 < n) (hv : v1 * v1 % n = rsI a b n v0) (hne : ¬ (u0 = v0 ∧ (u1 + v1) % n = 0)) :
    ∃ (m : Fin n) (x y : Int), addI a n [u0, u1] [v0, v1] = [x, y] ∧ 0 ≤ x ∧ x < n ∧ 0 ≤ y ∧ y < n ∧ cf n x = m * m - cf n u0 - cf n v0 ∧ cf n y = m * (cf n u0 - cf n x) - cf n u1 ∧
      ((u0 ≠ v0 ∧ m * (cf n v0 - cf n u0) = cf n v1 - cf n u1) ∨ (u0 = v0 ∧ v1 = u1 ∧ u1 ≠ 0 ∧ m * (2 * cf n u1) = 3 * cf n u0 * cf n u0 + cf n a)) := by
  have hb := p5_bd hp
  have hpr := p5_pr hp
  refine ⟨cf n (slopeI a n u0 u1 v0 v1), sumX (slopeI a n u0 u1 v0 v1) n u0 v0, sumY (slopeI a n u0 u1 v0 v1) n u0 u1 (sumX (slopeI a n u0 u1 v0 v1) n u0 v0), by rw [addI_pair, if_neg hne], Int.emod_nonneg _ (by omega), Int.emod_lt_of_pos _ (by omega), Int.emod_nonneg _ (by omega), Int.emod_lt_of_pos _ (by omega), cf_sumX _ _ _, cf_sumY _ _ _ _, ?_⟩
  by_cases hx : u0 = v0
  · subst hx
    rcases sum_zero hpr hb.1 uc ud vc vd (hu.trans hv.symm) with hz | ⟨rfl, h0⟩
    · exact absurd ⟨rfl, hz⟩ hne
    · have h3 := cf_slope (num := 3 * u0 * u0 + a) hp (not_dvd_two hpr hb.1 uc ud h0)
      rw [← slope_tan] at h3
      rw [cf_mul, cf_add, cf_mul, cf_mul, cf_two, cf_three] at h3
      exact .inr ⟨rfl, rfl, h0, h3⟩
  · have h3 := cf_slope (num := v1 - u1) hp (not_dvd_diff ua ub va vb hx)
    rw [← slope_chord hx] at h3
    rw [cf_sub, cf_sub] at h3
    exact .inl ⟨hx, h3⟩
theorem neg_slope {m m' d i : Fin n} (hi : d * i = 1) (h : m' * d = -(m * d)) : m' = -m := by
  have e : m' = (m' * d) * i + m' * (1 - d * i) := by clear h hi; grind
  rw [h, hi] at e
  have e2 : -(m * d) * i = -m * (d * i) := by clear h hi e; grind
  rw [e2, hi] at e
  clear h hi e2; grind
/-- a smooth curve's point of order two has a tangent that is upright. -/
theorem smooth {A B s0 : Fin n} (h1 : 0 = s0 * s0 * s0 + A * s0 + B) (h2 : 0 = 3 * s0 * s0 + A) : 4 * A * A * A + 27 * B * B = 0 := by
  have hA : A = -(3 * s0 * s0) := by clear h1; grind
  subst hA
  have hB : B = 2 * s0 * s0 * s0 := by clear h2; grind
  subst hB
  clear h1 h2; grind
/-- a chord: undone. -/
theorem undo_xy {m s0 t0 t1 x y x' y' : Fin n} (hx : x = m * m - t0 - s0) (hy : y = m * (t0 - x) - t1) (hx' : x' = (-m) * (-m) - x - s0) (hy' : y' = (-m) * (x - x') - y) : x' = t0 ∧ y' = t1 := by
  have e : x' = t0 := by rw [hx', hx]; grind
  refine ⟨e, ?_⟩
  rw [hy', e, hy]; grind
end
theorem onF_pair {a b p x y : Int} (h : onF a b p [x, y] = true) : 0 ≤ x ∧ x < p ∧ 0 ≤ y ∧ y < p ∧ y * y % p = rsI a b p x := by
  rcases onF_cases h with h | ⟨x', y', h, k⟩
  · cases h
  · injection h with e1 e2; injection e2 with e2 _; subst e1; subst e2; exact k
theorem on_neg2 {a b p : Int} {s : List Int} (hp : p5B p = true) (hs : onF a b p s = true) : onF a b p (negL p s) = true := by
  have hb := p5_bd hp
  rcases onF_cases hs with rfl | ⟨x, y, rfl, sa, sb, sc, sd, hsq⟩
  · rfl
  · refine on_pair sa sb (Int.emod_nonneg _ (by omega)) (Int.emod_lt_of_pos _ (by omega)) ?_
    rw [← hsq, ← Int.mul_emod, Int.neg_mul_neg]
/-- adding a point is undone by adding its opposite. -/
theorem add_neg {a b p : Int} {s t : List Int} (hp : p5B p = true) (hdisc : discI a b % p ≠ 0) (hs : onF a b p s = true) (ht : onF a b p t = true) : addI a p (addI a p t s) (negL p s) = t := by
  have hb := p5_bd hp
  have hpr := p5_pr hp
  have ho := pr_odd hpr hb.1
  rcases onF_cases hs with rfl | ⟨s0, s1, rfl, sa, sb, sc, sd, hsq⟩
  · rw [addI_nil']; show addI a p t [] = t; rw [addI_nil']
  · have hNon := on_neg2 hp hs
    show addI a p (addI a p t [s0, s1]) [s0, (-s1) % p] = t
    have hN0 : (s1 + (-s1) % p) % p = 0 := by rw [Int.add_emod, Int.emod_emod, ← Int.add_emod, Int.add_right_neg, Int.zero_emod]
    rcases onF_cases ht with rfl | ⟨t0, t1, rfl, ta, tb, tc, td, htq⟩
    · rw [addI_nil, addI_pair, if_pos ⟨rfl, hN0⟩]
    · obtain ⟨_, _, nc, nd, hnq⟩ := onF_pair hNon
      by_cases hz : t0 = s0 ∧ (t1 + s1) % p = 0
      · have e : addI a p [t0, t1] [s0, s1] = [] := by rw [addI_pair, if_pos hz]
        rw [e, addI_nil]
        obtain ⟨rfl, hz⟩ := hz
        have : (-s1) % p = t1 := by
          have h1 : (-s1) % p = (t1 + s1 + (-s1)) % p := by rw [Int.add_emod, hz, Int.zero_add, Int.emod_emod]
          rw [h1, show t1 + s1 + -s1 = t1 by omega, Int.emod_eq_of_lt tc td]
        rw [this]
      · have hson := hs
        have hton := ht
        have hRon := on_add hp hton hson
        obtain ⟨n, rfl, hn⟩ := nat_p hp
        have : NeZero n := ⟨hn⟩
        obtain ⟨m, x, y, hR, xa, xb, ya, yb, hx, hy, hm⟩ := add_char hp ta tb tc td htq sa sb sc sd hsq hz
        rw [hR] at hRon ⊢
        obtain ⟨_, _, _, _, hRq⟩ := onF_pair hRon
        have hcn : cf n ((-s1) % n) = - cf n s1 := by rw [cf_mod, cf_neg]
        have hS := cf_rs.1 hsq
        have hT := cf_rs.1 htq
        -- the sum is not s itself
        have hy2 : cf n y = m * (cf n s0 - cf n x) - cf n s1 := by
          rcases hm with ⟨_, hm⟩ | ⟨rfl, rfl, _, _⟩
          · rw [hy]
            have : m * (cf n t0 - cf n x) - cf n t1 = m * (cf n s0 - cf n x) - cf n s1 - (m * (cf n s0 - cf n t0) - (cf n s1 - cf n t1)) := by clear hm hx hy; grind
            rw [this, hm]; grind
          · exact hy
        have htan : x = s0 → m * (2 * cf n s1) = 3 * cf n s0 * cf n s0 + cf n a := by
          intro hxs
          rcases hm with ⟨hne, hm⟩ | ⟨rfl, rfl, _, hm⟩
          · obtain ⟨i, hi⟩ := cf_unit (d := t0 - s0) hp (not_dvd_diff sa sb ta tb (fun h => hne h.symm))
            rw [cf_sub] at hi
            refine chordTan hS hT ?_ hi ?_
            · clear hx hy hy2; grind
            · rw [hxs] at hx; rw [hx]; clear hy hy2 hm; grind
          · exact hm
        have hs1 : x = s0 → s1 ≠ 0 := by
          intro hxs h0
          have h2 := htan hxs
          subst h0
          rw [cf_zero] at h2 hS
          apply hdisc
          have h3 := smooth (A := cf n a) (B := cf n b) (s0 := cf n s0) (by rw [← hS]; grind) (by rw [← h2]; grind)
          have h4 : cf n (discI a b) = 0 := by
            unfold discI
            rw [cf_add, cf_mul, cf_mul, cf_mul, cf_mul, cf_mul]
            have e4 : cf n 4 = 4 := by rw [show (4 : Int) = 2 + 2 by rfl, cf_add, cf_two]; grind
            have e27 : cf n 27 = 27 := by rw [show (27 : Int) = 3 * 3 * 3 by rfl, cf_mul, cf_mul, cf_three]; grind
            rw [e4, e27]; exact h3
          exact Int.emod_eq_zero_of_dvd (cf_dvd' h4)
        have hnot : ¬ (x = s0 ∧ (y + (-s1) % n) % n = 0) := by
          rintro ⟨hxs, h0⟩
          have h5 : cf n y = cf n s1 := by
            have : cf n (y + (-s1) % n) = 0 := cf_dvd (Int.dvd_of_emod_eq_zero h0)
            rw [cf_add, hcn] at this
            clear hx hy hy2; grind
          have h6 : cf n y = - cf n s1 := by rw [hy2, hxs]; clear hx hy hy2 h5; grind
          have h7 : cf n (2 * s1) = 0 := by
            rw [cf_mul, cf_two]
            rw [h5] at h6
            clear hx hy hy2 h5; grind
          exact not_dvd_two hpr hb.1 sc sd (hs1 hxs) (cf_dvd' h7)
        obtain ⟨m', x', y', hR', xa', xb', ya', yb', hx', hy', hm'⟩ := add_char hp xa xb ya yb hRq sa sb nc nd hnq hnot
        rw [hR']
        have hmm : m' = -m := by
          rcases hm' with ⟨hne', hm'⟩ | ⟨hxs, hys, hy0, hm'⟩
          · obtain ⟨i, hi⟩ := cf_unit (d := s0 - x) hp (not_dvd_diff xa xb sa sb hne')
            rw [cf_sub] at hi
            refine neg_slope hi ?_
            rw [hm', hcn, hy2]; clear hx hy hy2 hx' hy'; grind
          · have h2 := htan hxs
            obtain ⟨i, hi⟩ := cf_unit (d := 2 * s1) hp (not_dvd_two hpr hb.1 sc sd (hs1 hxs))
            rw [cf_mul, cf_two] at hi
            refine neg_slope hi ?_
            rw [h2]
            have h6 : cf n y = - cf n s1 := by rw [hy2, hxs]; clear hx hy hy2; grind
            rw [h6, hxs] at hm'
            rw [← hm']; clear hx hy hy2 hx' hy' h2; grind
        rw [hmm] at hx' hy'
        obtain ⟨e1, e2⟩ := undo_xy hx hy hx' hy'
        rw [cf_inj xa' xb' ta tb e1, cf_inj ya' yb' tc td e2]
/-- the multiples of a point, one after the other. -/
def seqI (a p : Int) (s : List Int) : Nat → List Int
  | 0 => []
  | k + 1 => addI a p (seqI a p s k) s
theorem on_seq {a b p : Int} {s : List Int} (hp : p5B p = true) (hs : onF a b p s = true) : ∀ k, onF a b p (seqI a p s k) = true
  | 0 => rfl
  | k + 1 => on_add hp (on_seq hp hs k) hs
theorem seq_back {a b p : Int} {s : List Int} (hp : p5B p = true) (hdisc : discI a b % p ≠ 0) (hs : onF a b p s = true) {i j : Nat} (h : seqI a p s (i + 1) = seqI a p s (j + 1)) : seqI a p s i = seqI a p s j := by
  have h1 := add_neg hp hdisc hs (on_seq hp hs i)
  have h2 := add_neg hp hdisc hs (on_seq hp hs j)
  rw [← h1, ← h2]
  exact congrArg (fun z => addI a p z (negL p s)) h
theorem seq_back_all {a b p : Int} {s : List Int} (hp : p5B p = true) (hdisc : discI a b % p ≠ 0) (hs : onF a b p s = true) : ∀ {i j : Nat}, i ≤ j → seqI a p s i = seqI a p s j → seqI a p s (j - i) = []
  | 0, j, _, h => by rw [Nat.sub_zero, ← h]; rfl
  | i + 1, j, hij, h => by
    obtain ⟨j', rfl⟩ : ∃ j', j = j' + 1 := ⟨j - 1, by omega⟩
    have := seq_back_all hp hdisc hs (by omega) (seq_back hp hdisc hs h)
    rwa [show j' + 1 - (i + 1) = j' - i by omega]
/-- of more values than there is room for, two are the same. -/
theorem pigeon : ∀ (N : Nat) (f : Nat → Nat), (∀ i, i ≤ N → f i < N) → ∃ i j, i < j ∧ j ≤ N ∧ f i = f j
  | 0, f, h => absurd (h 0 (Nat.le_refl _)) (by omega)
  | N + 1, f, h => by
    by_cases hex : ∃ i, i ≤ N ∧ f i = f (N + 1)
    · obtain ⟨i, hi, he⟩ := hex
      exact ⟨i, N + 1, by omega, by omega, he⟩
    · have hne : ∀ i, i ≤ N → f i ≠ f (N + 1) := fun i hi he => hex ⟨i, hi, he⟩
      have hv := h (N + 1) (Nat.le_refl _)
      obtain ⟨i, j, hij, hj, he⟩ := pigeon N (fun i => if f i > f (N + 1) then f i - 1 else f i) (fun i hi => by
        have h1 := h i (by omega)
        have h2 := hne i hi
        (try dsimp only)
        split <;> omega)
      refine ⟨i, j, hij, by omega, ?_⟩
      have h1 := hne i (by omega)
      have h2 := hne j (by omega)
      (try dsimp only at he)
      split at he <;> split at he <;> omega
/-- a number for each point. -/
def codeI (p : Int) : List Int → Nat
  | [x, y] => (1 + x * p + y).toNat
  | _ => 0
theorem code_lt {a b p : Int} {s : List Int} (hp : p5B p = true) (hs : onF a b p s = true) : codeI p s < 1000000 := by
  have hb := p5_bd hp
  rcases onF_cases hs with rfl | ⟨x, y, rfl, sa, sb, sc, sd, hsq⟩
  · show (0 : Nat) < 1000000; omega
  · have h1 : x * p ≤ 996 * 997 := (mul_bd (a := x) (b := p) (A := 996) (B := 997) (by omega) (by omega) (by omega) (by omega)).2
    have h0 := Int.mul_nonneg sa (show 0 ≤ p by omega)
    show (1 + x * p + y).toNat < 1000000
    omega
theorem code_inj {a b p : Int} {s t : List Int} (hp : p5B p = true) (hs : onF a b p s = true) (ht : onF a b p t = true) (h : codeI p s = codeI p t) : s = t := by
  have hb := p5_bd hp
  rcases onF_cases hs with rfl | ⟨x, y, rfl, sa, sb, sc, sd, _⟩
  · rcases onF_cases ht with rfl | ⟨x', y', rfl, ta, tb, tc, td, _⟩
    · rfl
    · have h0 := Int.mul_nonneg ta (show 0 ≤ p by omega)
      have h1 : (0 : Nat) = (1 + x' * p + y').toNat := h
      omega
  · have h0 := Int.mul_nonneg sa (show 0 ≤ p by omega)
    rcases onF_cases ht with rfl | ⟨x', y', rfl, ta, tb, tc, td, _⟩
    · have h1 : (1 + x * p + y).toNat = 0 := h
      omega
    · have h0' := Int.mul_nonneg ta (show 0 ≤ p by omega)
      have h1 : (1 + x * p + y).toNat = (1 + x' * p + y').toNat := h
      have e : x = x' := by
        have h2 : (x - x') * p = y' - y := by rw [Int.sub_mul]; omega
        rcases Int.lt_trichotomy (x - x') 0 with g | g | g
        · have : (x - x') * p ≤ (-1) * p := Int.mul_le_mul_of_nonneg_right (by omega) (by omega)
          omega
        · omega
        · have : 1 * p ≤ (x - x') * p := Int.mul_le_mul_of_nonneg_right (by omega) (by omega)
          omega
      subst e
      have : y = y' := by omega
      rw [this]
theorem least_one (P : Nat → Prop) : ∀ N, 1 ≤ N → P N → ∃ K, 1 ≤ K ∧ K ≤ N ∧ P K ∧ ∀ j, 1 ≤ j → j < K → ¬ P j := by
  intro N
  induction N using Nat.strongRecOn with
  | ind N ih =>
    intro h1 hP
    by_cases hex : ∃ j, 1 ≤ j ∧ j < N ∧ P j
    · obtain ⟨j, hj1, hj2, hj3⟩ := hex
      obtain ⟨K, k1, k2, k3, k4⟩ := ih j hj2 hj1 hj3
      exact ⟨K, k1, by omega, k3, k4⟩
    · exact ⟨N, h1, Nat.le_refl _, hP, fun j hj1 hj2 hj3 => hex ⟨j, hj1, hj2, hj3⟩⟩
/-- K is the order of a point. -/
def IsOrd (a p : Int) (s : List Int) (K : Nat) : Prop := 1 ≤ K ∧ K ≤ 1000000 ∧ seqI a p s K = [] ∧ ∀ j, 1 ≤ j → j < K → seqI a p s j ≠ []
theorem ord_ex {a b p : Int} {s : List Int} (hp : p5B p = true) (hdisc : discI a b % p ≠ 0) (hs : onF a b p s = true) : ∃ K, IsOrd a p s K := by
  obtain ⟨i, j, hij, hj, he⟩ := pigeon 1000000 (fun k => codeI p (seqI a p s k)) (fun i _ => code_lt hp (on_seq hp hs i))
  have h1 := code_inj hp (on_seq hp hs i) (on_seq hp hs j) he
  have h2 := seq_back_all hp hdisc hs (by omega) h1
  obtain ⟨K, k1, k2, k3, k4⟩ := least_one (fun k => seqI a p s k = []) (j - i) (by omega) h2
  exact ⟨K, k1, by omega, k3, k4⟩
end Go.Proofs.Ytpjcfnjagknocaa
