/- He: plain: a certificate of a curve modulo a prime goes over to the scaled curves. No conditions. -/
import Derived.Test.YtpjcfnjagknocaaHd
namespace Go.Proofs.Ytpjcfnjagknocaa.Hs
open Go.Proofs.Ytpjcfnjagknocaa

def im (p u : Int) : List Int → List Int
  | [x, y] => [u * u * x % p, u * u * u * y % p]
  | _ => []
section
variable {n : Nat} [NeZero n]
omit [NeZero n] in
theorem im_bd (p5 : p5B n = true) (z : Int) : 0 ≤ z % n ∧ z % n < n := by
  have := p5_bd p5
  exact ⟨Int.emod_nonneg _ (by omega), Int.emod_lt_of_pos _ (by omega)⟩
theorem cf_sq2 (u x : Int) : cf n (u * u * x % n) = cf n u * cf n u * cf n x := by rw [cf_mod, cf_mul, cf_mul]
theorem cf_cu3 (u x : Int) : cf n (u * u * u * x % n) = cf n u * cf n u * cf n u * cf n x := by rw [cf_mod, cf_mul, cf_mul, cf_mul]
theorem on_im {a0 b0 a b u : Int} (hp : p5B n = true) (ha : cf n a = cf n u * cf n u * (cf n u * cf n u) * cf n a0) (hb : cf n b = cf n u * cf n u * cf n u * (cf n u * cf n u * cf n u) * cf n b0) {s : List Int} (hs : onF a0 b0 n s = true) : onF a b n (im n u s) = true := by
  rcases onF_cases hs with rfl | ⟨x, y, rfl, x0, x1, y0, y1, h⟩
  · rfl
  · have k1 := im_bd hp (u * u * x)
    have k2 := im_bd hp (u * u * u * y)
    refine on_pair k1.1 k1.2 k2.1 k2.2 (cf_rs.2 ?_)
    rw [cf_cu3, cf_sq2, ha, hb]
    exact sol_scale (cf_rs.1 h)
theorem im_pair (p u x y : Int) : im p u [x, y] = [u * u * x % p, u * u * u * y % p] := rfl
theorem slope_im {U V m m' S T S1 T1 i : Fin n} (_hu : U * V = 1) (h : m * (T - S) = T1 - S1) (h' : m' * (U * U * T - U * U * S) = U * U * U * T1 - U * U * U * S1) (hi : (U * U * T - U * U * S) * i = 1) : m' = U * m := by
  refine rCanc hi ?_
  have e1 : (U * U * T - U * U * S) * m' = U * U * U * (T1 - S1) := by
    have : (U * U * T - U * U * S) * m' = m' * (U * U * T - U * U * S) := by clear h h' hi; grind
    rw [this, h']; clear h h' hi this; grind
  rw [e1, ← h]
  clear h h' hi e1
  grind
theorem slope_im2 {U V m m' S S1 A A0 i : Fin n} (_hu : U * V = 1) (hA : A = U * U * (U * U) * A0) (h : m * (2 * S1) = 3 * S * S + A0) (h' : m' * (2 * (U * U * U * S1)) = 3 * (U * U * S) * (U * U * S) + A) (hi : 2 * (U * U * U * S1) * i = 1) : m' = U * m := by
  refine rCanc hi ?_
  have e1 : 2 * (U * U * U * S1) * m' = U * U * (U * U) * (3 * S * S + A0) := by
    have : 2 * (U * U * U * S1) * m' = m' * (2 * (U * U * U * S1)) := by clear h h' hi hA; grind
    rw [this, h', hA]; clear h h' hi this hA; grind
  rw [e1, ← h]
  clear h h' hi e1 hA
  grind
theorem xy_im {U m S T S1 x y x' y' : Fin n} (hx : x = m * m - S - T) (hy : y = m * (S - x) - S1) (hx' : x' = (U * m) * (U * m) - U * U * S - U * U * T) (hy' : y' = (U * m) * (U * U * S - x') - U * U * U * S1) : x' = U * U * x ∧ y' = U * U * U * y := by
  have e : x' = U * U * x := by rw [hx', hx]; clear hx hy hx' hy'; grind
  refine ⟨e, ?_⟩
  rw [hy', e, hy]; clear hx hy hx' hy' e; grind
theorem add_im {a0 b0 a b u : Int} {V : Fin n} (hp : p5B n = true) (hu : cf n u * V = 1) (ha : cf n a = cf n u * cf n u * (cf n u * cf n u) * cf n a0) (hb : cf n b = cf n u * cf n u * cf n u * (cf n u * cf n u * cf n u) * cf n b0)
    {s t : List Int} (hs : onF a0 b0 n s = true) (ht : onF a0 b0 n t = true) : addI a n (im n u s) (im n u t) = im n u (addI a0 n s t) := by
  have hs' := on_im hp ha hb hs
  have ht' := on_im hp ha hb ht
  rcases onF_cases hs with rfl | ⟨s0, s1, rfl, sa, sb, sc, sd, hsq⟩
  · rw [addI_nil]; exact addI_nil _ _ _
  rcases onF_cases ht with rfl | ⟨t0, t1, rfl, ta, tb, tc, td, htq⟩
  · rw [addI_nil']; exact addI_nil' _ _ _
  rw [im_pair] at hs' ht' ⊢
  rw [im_pair]
  obtain ⟨sa', sb', sc', sd', hsq'⟩ := onF_pair hs'
  obtain ⟨ta', tb', tc', td', htq'⟩ := onF_pair ht'
  have c1 := cf_sq2 (n := n) u s0
  have c2 := cf_cu3 (n := n) u s1
  have c3 := cf_sq2 (n := n) u t0
  have c4 := cf_cu3 (n := n) u t1
  have k0 : u * u * s0 % n = u * u * t0 % n ↔ s0 = t0 := by
    constructor
    · intro h
      rw [h, c3] at c1
      exact (cf_inj ta tb sa sb (unit_two hu c1)).symm
    · rintro rfl; rfl
  have kz : ∀ z : Int, z % n = 0 ↔ cf n z = 0 := fun z => by
    rw [← cf_zero, cf_eq]; simp
  have k1 : (u * u * u * s1 % n + u * u * u * t1 % n) % n = 0 ↔ (s1 + t1) % n = 0 := by
    rw [kz, kz, cf_add, cf_add, c2, c4]
    constructor
    · intro h
      refine unit_three hu ?_
      rw [← Fin.mul_zero (cf n u * cf n u * cf n u)] at h
      rw [← h]; clear h; grind
    · intro h
      have : cf n u * cf n u * cf n u * cf n s1 + cf n u * cf n u * cf n u * cf n t1 = cf n u * cf n u * cf n u * (cf n s1 + cf n t1) := by clear h; grind
      rw [this, h]; grind
  by_cases hz : s0 = t0 ∧ (s1 + t1) % n = 0
  · rw [addI_pair2, if_pos ⟨k0.2 hz.1, k1.2 hz.2⟩, addI_pair2, if_pos hz]; rfl
  have hz' : ¬ (u * u * s0 % n = u * u * t0 % n ∧ (u * u * u * s1 % n + u * u * u * t1 % n) % n = 0) := fun h => hz ⟨k0.1 h.1, k1.1 h.2⟩
  obtain ⟨m, x, y, hR, xa, xb, ya, yb, hx, hy, hm⟩ := add_char hp sa sb sc sd hsq ta tb tc td htq hz
  obtain ⟨m', x', y', hR', xa', xb', ya', yb', hx', hy', hm'⟩ := add_char hp sa' sb' sc' sd' hsq' ta' tb' tc' td' htq' hz'
  rw [hR, hR', im_pair]
  rw [c1, c2, c3, c4, ha] at hm'
  rw [c1, c3] at hx'
  rw [c1, c2] at hy'
  have hmm : m' = cf n u * m := by
    rcases hm with ⟨hne, hm⟩ | ⟨he, he1, h0, hm⟩
    · rcases hm' with ⟨hne', hm'⟩ | ⟨h, _⟩
      · obtain ⟨i, hi⟩ := cf_unit (d := u * u * t0 % n - u * u * s0 % n) hp (not_dvd_diff sa' sb' ta' tb' hne')
        rw [cf_sub, c1, c3] at hi
        exact slope_im hu hm hm' hi
      · exact absurd (k0.1 h) hne
    · rcases hm' with ⟨h, _⟩ | ⟨_, _, h0', hm'⟩
      · exact absurd (k0.2 he) h
      · obtain ⟨i, hi⟩ := cf_unit (d := 2 * (u * u * u * s1 % n)) hp (not_dvd_two (p5_pr hp) (p5_bd hp).1 sc' sd' h0')
        rw [cf_mul, cf_two, c2] at hi
        exact slope_im2 hu rfl hm hm' hi
  rw [hmm] at hx' hy'
  obtain ⟨ex, ey⟩ := xy_im hx hy hx' hy'
  have b1 := im_bd hp (u * u * x)
  have b2 := im_bd hp (u * u * u * y)
  rw [cf_inj xa' xb' b1.1 b1.2 (ex.trans (cf_sq2 u x).symm), cf_inj ya' yb' b2.1 b2.2 (ey.trans (cf_cu3 u y).symm)]
theorem seq_im {a0 b0 a b u : Int} {V : Fin n} (hp : p5B n = true) (hu : cf n u * V = 1) (ha : cf n a = cf n u * cf n u * (cf n u * cf n u) * cf n a0) (hb : cf n b = cf n u * cf n u * cf n u * (cf n u * cf n u * cf n u) * cf n b0)
    {s : List Int} (hs : onF a0 b0 n s = true) : ∀ k, seqI a n (im n u s) k = im n u (seqI a0 n s k)
  | 0 => rfl
  | k + 1 => by
    show addI a n (seqI a n (im n u s) k) (im n u s) = im n u (addI a0 n (seqI a0 n s k) s)
    rw [seq_im hp hu ha hb hs k, add_im hp hu ha hb (on_seq hp hs k) hs]
omit [NeZero n] in
theorem im_nil {a0 b0 u : Int} {s : List Int} (hs : onF a0 b0 n s = true) : im n u s = [] ↔ s = [] := by
  rcases onF_cases hs with rfl | ⟨s0, s1, rfl, _⟩
  · exact ⟨fun _ => rfl, fun _ => rfl⟩
  · rw [im_pair]; simp
theorem red_eq {a : Int} {x : Nat} (hx : x < n) (h : cf n a = nf x) : (a % n).toNat = x := by
  have := cf_eq.1 h
  rw [Int.emod_eq_of_lt (a := (x : Int)) (by omega) (by omega)] at this
  omega
theorem cert_scale {a0 b0 a b : Int} {u v : Nat} (hp : p5B n = true) (hd : discI a b % n ≠ 0) (huv : u * v % n = 1 % n) (ha : cf n a = cf n u * cf n u * (cf n u * cf n u) * cf n a0) (hb : cf n b = cf n u * cf n u * cf n u * (cf n u * cf n u * cf n u) * cf n b0)
    (h : Cert a0 b0 n) : Cert a b n := by
  have hbd := p5_bd hp
  have hn : 0 < n := by omega
  have hU : cf n (u : Int) * cf n (v : Int) = 1 := by
    have : (nf u : Fin n) * nf v = 1 := by rw [← nf_mul, ← nf_one, nf_eq]; exact huv
    exact this
  obtain ⟨s, K, f, hs, hK, hN, hfK, hfp, hf2⟩ := h
  refine ⟨im n u s, K, f, on_im hp ha hb hs, ⟨hK.1, hK.2.1, ?_, fun j h1 h2 h3 => ?_⟩, ?_, hfK, hfp, fun he => ?_⟩
  · rw [seq_im hp hU ha hb hs, hK.2.2.1]; rfl
  · rw [seq_im hp hU ha hb hs] at h3
    exact hK.2.2.2 j h1 h2 ((im_nil (on_seq hp hs j)).1 h3)
  · rw [hN, cnt_sol hp, cnt_sol hp]
    have e1 : (a % n).toNat = a4 n u (a0 % n).toNat := by
      refine red_eq (Nat.mod_lt _ hn) ?_
      unfold a4
      rw [nf_mod]
      simp only [nf_mul]
      rw [ha]
      have : (nf (a0 % n).toNat : Fin n) = cf n a0 := by
        unfold nf
        rw [Int.toNat_of_nonneg (Int.emod_nonneg _ (by omega)), cf_mod]
      rw [this]; rfl
    have e2 : (b % n).toNat = b6 n u (b0 % n).toNat := by
      refine red_eq (Nat.mod_lt _ hn) ?_
      unfold b6
      rw [nf_mod]
      simp only [nf_mul]
      rw [hb]
      have : (nf (b0 % n).toNat : Fin n) = cf n b0 := by
        unfold nf
        rw [Int.toNat_of_nonneg (Int.emod_nonneg _ (by omega)), cf_mod]
      rw [this]; rfl
    rw [e1, e2, scale_eq hn huv (red_lt hn a0) (show b6 n u (b0 % n).toNat < n from Nat.mod_lt _ hn), b6_back hn huv (red_lt hn b0)]
  · have h3 := hf2 he
    match hl : rtL a0 b0 n with
    | [] => rw [hl] at h3; cases h3
    | [x] => rw [hl] at h3; cases h3
    | x :: y :: l =>
      have hnd := rtL_nodup a0 b0 n
      rw [hl, List.nodup_cons] at hnd
      have hx : x ∈ rtL a0 b0 n := by rw [hl]; simp
      have hy : y ∈ rtL a0 b0 n := by rw [hl]; simp
      have hxy : x ≠ y := fun e => hnd.1 (by rw [e]; simp)
      have key : ∀ z ∈ rtL a0 b0 n, (u * u * z) % n ∈ rtL a b n := fun z hz => by
        obtain ⟨z1, hz⟩ := mem_rtL.1 hz
        refine mem_rtL.2 ⟨by rw [Int.toNat_natCast]; exact Nat.mod_lt _ hn, rt_cf.2 ?_⟩
        have e : cf n ((u * u * z % n : Nat) : Int) = cf n u * cf n u * cf n z := by
          have : (nf (u * u * z % n) : Fin n) = nf u * nf u * nf z := by rw [nf_mod, nf_mul, nf_mul]
          exact this
        rw [e, ha, hb]
        have := rt_cf.1 hz
        have h4 := sol_scale (U := cf n (u : Int)) (Y := 0) (X := cf n (z : Int)) (A := cf n a0) (B := cf n b0) (by rw [← this]; clear ha hb this e; grind)
        rw [← h4]; clear ha hb this e h4; grind
      refine rt_three hp hd (key x hx) (key y hy) fun e => hxy ?_
      have d1 := nf_eq.2 e
      rw [nf_mul, nf_mul, nf_mul, nf_mul] at d1
      have h5 := nf_eq.1 (unit_two (U := (nf u : Fin n)) (V := nf v) hU d1)
      have x1 := (mem_rtL.1 hx).1
      have y1 := (mem_rtL.1 hy).1
      rw [Int.toNat_natCast] at x1 y1
      rwa [Nat.mod_eq_of_lt x1, Nat.mod_eq_of_lt y1] at h5
end
end Go.Proofs.Ytpjcfnjagknocaa.Hs
