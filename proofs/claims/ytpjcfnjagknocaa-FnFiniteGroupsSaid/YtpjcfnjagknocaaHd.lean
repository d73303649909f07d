/- Hd: plain: the roots of the cubic modulo a prime are none, one or three; three of them make the shape's first number even. No conditions. -/
import Derived.Test.YtpjcfnjagknocaaHc
namespace Go.Proofs.Ytpjcfnjagknocaa.Hs
open Go.Proofs.Ytpjcfnjagknocaa

section
variable {n : Nat} [NeZero n]
theorem rt_sum {A B x y i : Fin n} (h1 : 0 = x * x * x + A * x + B) (h2 : 0 = y * y * y + A * y + B) (hi : (y - x) * i = 1) : x * x + x * y + y * y + A = 0 := by
  have h3 : (y - x) * (x * x + x * y + y * y + A) = 0 := by
    have e : (y - x) * (x * x + x * y + y * y + A) = (y * y * y + A * y + B) - (x * x * x + A * x + B) := by clear h1 h2 hi; grind
    rw [e, ← h1, ← h2]; grind
  exact rCancel hi h3
theorem rt_third {A B x y : Fin n} (h1 : 0 = x * x * x + A * x + B) (h : x * x + x * y + y * y + A = 0) : 0 = (-x - y) * (-x - y) * (-x - y) + A * (-x - y) + B := by grind
theorem rt_only {A x y z i : Fin n} (h : x * x + x * y + y * y + A = 0) (h' : x * x + x * z + z * z + A = 0) (hi : (z - y) * i = 1) : z = -x - y := by
  have h3 : (z - y) * (x + y + z) = 0 := by
    have e : (z - y) * (x + y + z) = (x * x + x * z + z * z + A) - (x * x + x * y + y * y + A) := by clear h h' hi; grind
    rw [e, h, h']; grind
  have h4 := rCancel hi h3
  clear h h' hi h3
  grind
theorem rt_dbl {A B x y : Fin n} (h1 : 0 = x * x * x + A * x + B) (h : x * x + x * y + y * y + A = 0) (he : -x - y = x) : 4 * A * A * A + 27 * B * B = 0 := by
  have h2 : y = -(2 * x) := by clear h1 h; grind
  have h3 : 0 = 3 * x * x + A := by rw [← h, h2]; clear h1 h he h2; grind
  exact smooth h1 h3
end
theorem rt_cf {n : Nat} [NeZero n] {a b x : Int} : rsI a b n x = 0 ↔ 0 = cf n x * cf n x * cf n x + cf n a * cf n x + cf n b := by
  have := cf_rs (n := n) (a := a) (b := b) (y := 0) (x := x)
  rw [cf_zero] at this
  constructor
  · intro h
    have h2 := this.1 (by rw [h]; simp)
    rw [← h2]; grind
  · intro h
    have h2 := this.2 (by rw [← h]; grind)
    rw [← h2]; simp
theorem cf_disc {n : Nat} [NeZero n] {a b : Int} (hd : discI a b % n ≠ 0) : 4 * cf n a * cf n a * cf n a + 27 * cf n b * cf n b ≠ 0 := by
  intro h
  apply hd
  have e : cf n (discI a b) = cf n 0 := by
    unfold discI
    have h4 : cf n 4 = 4 := by rw [show (4 : Int) = 1 + 1 + 1 + 1 by rfl]; simp only [cf_add, cf_one]; grind
    have h27 : cf n 27 = 27 := by rw [show (27 : Int) = 3 * 3 * 3 by rfl]; simp only [cf_mul, cf_three]; grind
    simp only [cf_add, cf_mul, h4, h27]
    rw [h, cf_zero]
  have := cf_eq.1 e
  rw [this]; simp
theorem rt_three {a b p : Int} (hp : p5B p = true) (hd : discI a b % p ≠ 0) {x y : Nat} (hx : x ∈ rtL a b p) (hy : y ∈ rtL a b p) (hne : x ≠ y) : (rtL a b p).length = 3 := by
  have hbd := p5_bd hp
  obtain ⟨n, rfl, hn⟩ := nat_p hp
  have : NeZero n := ⟨hn⟩
  obtain ⟨x1, hx'⟩ := mem_rtL.1 hx
  obtain ⟨y1, hy'⟩ := mem_rtL.1 hy
  rw [Int.toNat_natCast] at x1 y1
  have X := rt_cf.1 hx'
  have Y := rt_cf.1 hy'
  have unit : ∀ u v : Nat, u < n → v < n → u ≠ v → ∃ i, (cf n v - cf n u) * i = 1 := fun u v hu hv h => by
    obtain ⟨i, hi⟩ := cf_unit (d := (v : Int) - u) hp (not_dvd_diff (by omega) (by omega) (by omega) (by omega) (by omega))
    rw [cf_sub] at hi
    exact ⟨i, hi⟩
  obtain ⟨i, hi⟩ := unit x y x1 y1 hne
  have hs := rt_sum X Y hi
  have hs' : cf n y * cf n y + cf n y * cf n x + cf n x * cf n x + cf n a = 0 := by rw [← hs]; clear hs X Y hi; grind
  obtain ⟨z, hz, z1⟩ : ∃ z : Nat, (z : Int) = (-(x : Int) - y) % n ∧ z < n := by
    have h0 := Int.emod_nonneg (-(x : Int) - y) (show (n : Int) ≠ 0 by omega)
    have h1 := Int.emod_lt_of_pos (-(x : Int) - y) (show (0 : Int) < n by omega)
    exact ⟨((-(x : Int) - y) % n).toNat, by omega, by omega⟩
  have hzc : cf n z = - cf n x - cf n y := by rw [hz, cf_mod, cf_sub, cf_neg]
  have hzr : z ∈ rtL a b n := mem_rtL.2 ⟨by rw [Int.toNat_natCast]; exact z1, rt_cf.2 (by rw [hzc]; exact rt_third X hs)⟩
  have hD := cf_disc hd
  have hzx : z ≠ x := fun h => hD (rt_dbl X hs (by rw [← hzc, h]))
  have hzy : z ≠ y := fun h => hD (rt_dbl Y hs' (by rw [← h, hzc]; clear hs hs' X Y hi hD; grind))
  have := nodup_eq (rtL_nodup a b n) (show [x, y, z].Nodup by simp; omega) fun t => by
    simp only [List.mem_cons, List.not_mem_nil, or_false]
    constructor
    · intro ht
      by_cases h1 : t = x
      · exact .inl h1
      by_cases h2 : t = y
      · exact .inr (.inl h2)
      right; right
      obtain ⟨t1, ht'⟩ := mem_rtL.1 ht
      rw [Int.toNat_natCast] at t1
      obtain ⟨j, hj⟩ := unit x t x1 t1 (Ne.symm h1)
      obtain ⟨k, hk⟩ := unit y t y1 t1 (Ne.symm h2)
      have h3 := rt_only hs (rt_sum X (rt_cf.1 ht') hj) hk
      rw [← hzc] at h3
      have := cf_inj (by omega) (by omega) (by omega) (by omega) h3
      omega
    · rintro (rfl | rfl | rfl)
      · exact hx
      · exact hy
      · exact hzr
  rw [this]
  rfl
theorem rt_cases {a b p : Int} (hp : p5B p = true) (hd : discI a b % p ≠ 0) : (rtL a b p).length = 0 ∨ (rtL a b p).length = 1 ∨ (rtL a b p).length = 3 := by
  match h : rtL a b p with
  | [] => exact .inl rfl
  | [x] => exact .inr (.inl rfl)
  | x :: y :: l =>
    right; right
    have hnd := rtL_nodup a b p
    rw [h, List.nodup_cons] at hnd
    have := rt_three hp hd (x := x) (y := y) (by rw [h]; simp) (by rw [h]; simp) (fun e => hnd.1 (by rw [e]; simp))
    rwa [h] at this
/-- three roots: twice the greatest order divides the number of points. -/
theorem two_len3 {a b p : Int} (hp : p5B p = true) (hd : discI a b % p ≠ 0) {s : List Int} {M : Nat} (hs : onF a b p s = true) (hM : IsOrd a p s M) (h3 : (rtL a b p).length = 3) : 2 * M ∣ (ptsL a b p).length := by
  have hbd := p5_bd hp
  have hG := pts_group hp hd
  have hT : ∀ x ∈ rtL a b p, [(x : Int), 0] ∈ ptsL a b p ∧ addI a p [(x : Int), 0] [(x : Int), 0] = [] := fun x hx => by
    obtain ⟨x1, hx⟩ := mem_rtL.1 hx
    exact ⟨(pts_mem hp).2 (on_pair (by omega) (by omega) (by omega) (by omega) (by rw [hx]; simp)), (two_iff hp (by omega) (by omega)).2 rfl⟩
  have hc : ∀ x ∈ rtL a b p, [(x : Int), 0] ∈ cyc (addI a p) [] s M → ∃ k, 2 * k = M ∧ sq (addI a p) [] s k = [(x : Int), 0] := fun x hx hm => by
    obtain ⟨k, hk, e⟩ := mem_cyc.1 hm
    have h2 : sq (addI a p) [] s (k + k) = [] := by rw [hG.sq_add ((pts_mem hp).2 hs), e]; exact (hT x hx).2
    have h4 := (hG.or_dvd ((pts_mem hp).2 hs) (isOr_of hM)).1 h2
    have hk0 : k ≠ 0 := fun h => by rw [h] at e; cases e
    obtain ⟨c, hcc⟩ := h4
    refine ⟨k, ?_, e⟩
    rcases c with _ | _ | c
    · omega
    · omega
    · have : M * 2 ≤ M * (c + 1 + 1) := Nat.mul_le_mul_left M (by omega)
      omega
  match h : rtL a b p with
  | [] => rw [h] at h3; cases h3
  | [x] => rw [h] at h3; cases h3
  | x :: y :: l =>
    have hnd := rtL_nodup a b p
    rw [h, List.nodup_cons] at hnd
    have hx : x ∈ rtL a b p := by rw [h]; simp
    have hy : y ∈ rtL a b p := by rw [h]; simp
    have hxy : x ≠ y := fun e => hnd.1 (by rw [e]; simp)
    by_cases c1 : [(x : Int), 0] ∈ cyc (addI a p) [] s M
    · by_cases c2 : [(y : Int), 0] ∈ cyc (addI a p) [] s M
      · exfalso
        obtain ⟨k, k1, k2⟩ := hc x hx c1
        obtain ⟨j, j1, j2⟩ := hc y hy c2
        have : k = j := by omega
        subst this
        rw [k2] at j2
        simp only [List.cons.injEq, and_true] at j2
        omega
      · exact hG.two_len ((pts_mem hp).2 hs) (hT y hy).1 (isOr_of hM) (hT y hy).2 c2
    · exact hG.two_len ((pts_mem hp).2 hs) (hT x hx).1 (isOr_of hM) (hT x hx).2 c1
/-- what a certificate shows of a curve modulo a prime. -/
def Cert (a b p : Int) : Prop := ∃ (s : List Int) (K f : Nat), onF a b p s = true ∧ IsOrd a p s K ∧ ((K * f : Nat) : Int) = cntI a b p ∧ f ∣ K ∧ (f : Int) ∣ p - 1 ∧ (f % 2 = 0 → (rtL a b p).length = 3)
/-- what the law asks of a shape. -/
theorem shape_all {a b p : Int} (hp : p5B p = true) (hd : discI a b % p ≠ 0) (hc : Cert a b p) : ∃ few M : Nat, 1 ≤ few ∧ 1 ≤ M ∧ shM a b p = (M : Nat) ∧ cntI a b p = ((few * M : Nat) : Int) ∧ ((ptsL a b p).length : Int) / shM a b p = (few : Nat) ∧
    few ∣ M ∧ (few : Int) ∣ p - 1 ∧ coV a b p (M : Nat) = cntI a b p ∧ (coV a b p 2 = 1 ∨ coV a b p 2 = 2 ∨ coV a b p 2 = 4) ∧ (coV a b p 2 = 4 ↔ few % 2 = 0) := by
  obtain ⟨s, M, hs, hM, hsh, hall⟩ := max_ord hp hd
  obtain ⟨t, K, f, ht, hK, hN, hfK, hfp, hf2⟩ := hc
  have hG := pts_group hp hd
  have hKM : K ∣ M := by
    have h := hall t ht
    rwa [hG.or_unique ((pts_mem hp).2 ht) (isOr_of (ordN_is hp hd ht)) (isOr_of hK)] at h
  have hMN := hG.or_len ((pts_mem hp).2 hs) (isOr_of hM)
  have hcn := pts_cnt (a := a) (b := b) hp
  have hNN : (ptsL a b p).length = K * f := by rw [← hcn] at hN; exact (Int.ofNat.inj hN).symm
  obtain ⟨few, hfew⟩ := hMN
  have hM1 := hM.1
  have hK1 := hK.1
  have hpos : 1 ≤ few := by
    rcases Nat.eq_zero_or_pos few with h | h
    · rw [h, Nat.mul_zero] at hfew
      have := ptsL_pos a b p
      omega
    · exact h
  obtain ⟨c, hcM⟩ := hKM
  have hff : f = few * c := by
    have : K * f = K * (few * c) := by rw [← hNN, hfew, hcM, Nat.mul_assoc, Nat.mul_comm c few]
    exact Nat.eq_of_mul_eq_mul_left hK1 this
  have hfd : few ∣ f := ⟨c, hff⟩
  refine ⟨few, M, hpos, hM1, hsh, by rw [← hcn, hfew, Nat.mul_comm], ?_, ?_, ?_, cnt_all hp hd hall, ?_, ?_⟩
  · rw [hsh, hfew, ← Int.natCast_ediv, Nat.mul_div_cancel_left _ hM1]
  · exact Nat.dvd_trans hfd (Nat.dvd_trans hfK ⟨c, hcM⟩)
  · exact Int.dvd_trans (Int.natCast_dvd_natCast.2 hfd) hfp
  · rw [two_cnt hp hd]
    rcases rt_cases hp hd with h | h | h <;> rw [h]
    · left; rfl
    · right; left; rfl
    · right; right; rfl
  · rw [two_cnt hp hd]
    constructor
    · intro h
      have h3 : (rtL a b p).length = 3 := by omega
      have h2 := two_len3 hp hd hs hM h3
      rw [hfew] at h2
      obtain ⟨k, hk⟩ := h2
      have : M * few = M * (2 * k) := by rw [hk, Nat.mul_comm 2 M, Nat.mul_assoc]
      have := Nat.eq_of_mul_eq_mul_left hM1 this
      omega
    · intro h
      have h2 : f % 2 = 0 := by
        rw [hff, Nat.mul_mod, h]; simp
      rw [hf2 h2]
      rfl
end Go.Proofs.Ytpjcfnjagknocaa.Hs
