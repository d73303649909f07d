/- Bq: facts of FnBadPrimes: the list of bad primes, the conductor as a product. No conditions. -/
import Derived.Test.YtpjcfnjagknocaaDoorCn
import Derived.Test.YtpjcfnjagknocaaDoorPk
import Derived.Test.YtpjcfnjagknocaaDoorBp
namespace Go.Proofs.YtpjcfnjagknocaaDoor
open Go.RowKit

theorem bfX_inc {a b : Int} (hd : discI a b ≠ 0) : Inc (bfX a b) := by
  unfold bfX
  cases bfOk a b
  · exact List.Pairwise.nil
  · exact List.Pairwise.filter _ (primesL_spec (N := ((discI a b).natAbs : Int)) (by omega)).1
theorem bfX_bad {a b p : Int} (h : p ∈ bfX a b) : p ∈ badL a b := by
  have h1 : p ∈ primesL ((discI a b).natAbs : Int) := by
    unfold bfX at h
    cases hk : bfOk a b
    · rw [hk] at h; simp at h
    · rw [hk, cond_true] at h
      exact (List.mem_filter.1 h).1
  unfold badL bpF
  by_cases h2 : p = 2
  · subst h2; simp
  · exact List.mem_cons_of_mem _ (List.mem_filter.2 ⟨h1, by simpa using h2⟩)
/-- the power of a bad prime in the conductor. -/
def cpw (a b p : Int) : Int := if kindN (minA a b p) b p = 1 then p * p else p
def cprod (a b : Int) : List Int → Int
  | [] => 1
  | p :: l => cpw a b p * cprod a b l
theorem min_bad {a b p : Int} (hk : kindN (minA a b p) b p ≠ 0) : minA a b p = a := by
  unfold minA
  cases h : bigB a b p
  · rfl
  · exfalso
    apply hk
    obtain ⟨rfl, rfl, rfl | rfl⟩ := big_true.1 h
    · unfold minA; rw [h]; rfl
    · unfold minA; rw [h]; rfl
theorem cpw_dvd {a b p : Int} (hp : p5B p = true) (hk : kindN (minA a b p) b p ≠ 0) : cpw a b p ∣ discI a b := by
  have hm := min_bad hk
  have hk' := hk
  rw [hm] at hk'
  unfold cpw
  rw [hm]
  have hd : discI a b % p = 0 := by
    unfold kindN at hk'
    split at hk'
    · exact absurd rfl hk'
    · omega
  by_cases h1 : kindN a b p = 1
  · rw [if_pos h1]
    have hA : a % p = 0 := by
      unfold kindN at h1
      rw [if_neg (by omega)] at h1
      split at h1
      · assumption
      · split at h1 <;> omega
    have hB := add_B hp hd hA
    obtain ⟨x, rfl⟩ := Int.dvd_of_emod_eq_zero hA
    obtain ⟨y, rfl⟩ := Int.dvd_of_emod_eq_zero hB
    refine ⟨4 * p * x * x * x + 27 * y * y, ?_⟩
    unfold discI
    clear h1 hA hB hd hk hk' hm hp
    grind
  · rw [if_neg h1]
    exact Int.dvd_of_emod_eq_zero hd
theorem cpw_prime {a b p q : Int} (hq : Pr q) (hp : Pr p) (h : q ∣ cpw a b p) : q = p := by
  have key : q ∣ p := by
    unfold cpw at h
    split at h
    · rcases pr_dvd_mul hq h with h | h <;> exact h
    · exact h
  exact pr_dvd hp hq.1 key
theorem cprod_prime {a b q : Int} (hq : Pr q) : ∀ {l : List Int}, (∀ p ∈ l, Pr p) → q ∣ cprod a b l → q ∈ l
  | [], _, h => by
    have h1 : q ∣ 1 := h
    have := Int.le_of_dvd (by decide) h1
    have := hq.1
    omega
  | p :: l, hl, h => by
    rcases pr_dvd_mul hq (show q ∣ cpw a b p * cprod a b l from h) with h | h
    · exact List.mem_cons.2 (.inl (cpw_prime hq (hl p (List.mem_cons_self ..)) h))
    · exact List.mem_cons_of_mem _ (cprod_prime hq (fun x hx => hl x (List.mem_cons_of_mem _ hx)) h)
theorem cprod_dvd {a b D : Int} : ∀ {l : List Int}, Inc l → (∀ p ∈ l, Pr p ∧ cpw a b p ∣ D) → cprod a b l ∣ D
  | [], _, _ => ⟨D, by unfold cprod; omega⟩
  | p :: l, hi, hl => by
    have hi' := List.pairwise_cons.1 hi
    have ih := cprod_dvd (l := l) hi'.2 (fun x hx => hl x (List.mem_cons_of_mem _ hx))
    obtain ⟨hpr, hd⟩ := hl p (List.mem_cons_self ..)
    have hnot : ¬ p ∣ cprod a b l := fun h => by
      have := cprod_prime hpr (fun x hx => (hl x (List.mem_cons_of_mem _ hx)).1) h
      have := hi'.1 p this
      omega
    obtain ⟨c, hc⟩ := ih
    show cpw a b p * cprod a b l ∣ D
    unfold cpw at hd ⊢
    split at hd
    · rename_i h1
      rw [if_pos h1]
      have hp1 : p ∣ c := (pr_dvd_mul hpr (by rw [← hc]; exact Int.dvd_trans ⟨p, rfl⟩ hd)).resolve_left hnot
      obtain ⟨c', rfl⟩ := hp1
      have hp0 : p ≠ 0 := by have := hpr.1; omega
      have hp2 : p ∣ cprod a b l * c' := by
        obtain ⟨t, ht⟩ := hd
        refine ⟨t, ?_⟩
        apply Int.eq_of_mul_eq_mul_left hp0
        rw [← Int.mul_assoc p p t, ← ht, hc]
        grind
      obtain ⟨c'', rfl⟩ := (pr_dvd_mul hpr hp2).resolve_left hnot
      exact ⟨c'', by rw [hc]; grind⟩
    · rename_i h1
      rw [if_neg h1]
      obtain ⟨c', rfl⟩ := (pr_dvd_mul hpr (by rw [← hc]; exact hd)).resolve_left hnot
      exact ⟨c', by rw [hc]; grind⟩
theorem cpw_pos {a b p : Int} (h : 2 ≤ p) : 1 ≤ cpw a b p := by
  unfold cpw
  split
  · have := Int.mul_le_mul h h (by omega) (by omega); omega
  · omega
theorem cprod_pos {a b : Int} : ∀ {l : List Int}, (∀ p ∈ l, 2 ≤ p) → 1 ≤ cprod a b l
  | [], _ => by unfold cprod; omega
  | p :: l, h => by
    have h1 := cpw_pos (a := a) (b := b) (h p (List.mem_cons_self ..))
    have h2 := cprod_pos (a := a) (b := b) (l := l) (fun x hx => h x (List.mem_cons_of_mem _ hx))
    have := Int.mul_le_mul h1 h2 (by omega) (by omega)
    show 1 ≤ cpw a b p * cprod a b l
    omega
/-- the wraps do nothing where the whole product is small. -/
theorem cond_prod {a b : Int} : ∀ {l : List Int} {s : Int}, (∀ p ∈ l, 2 ≤ p) → 0 ≤ s → s * cprod a b l ≤ 6700000000 → l.foldl (fun s p => condS (kindN (minA a b p) b p) s p) s = s * cprod a b l
  | [], s, _, _, _ => by simp [cprod]
  | p :: l, s, h, h0, hb => by
    have hp := h p (List.mem_cons_self ..)
    have hl : ∀ x ∈ l, 2 ≤ x := fun x hx => h x (List.mem_cons_of_mem _ hx)
    have h2 := cprod_pos (a := a) (b := b) hl
    have e : s * cprod a b (p :: l) = s * cpw a b p * cprod a b l := by show s * (cpw a b p * cprod a b l) = _; rw [Int.mul_assoc]
    have hc0 : 0 ≤ s * cpw a b p := Int.mul_nonneg h0 (by have := cpw_pos (a := a) (b := b) hp; omega)
    have hle : s * cpw a b p ≤ s * cpw a b p * cprod a b l := by
      have := Int.mul_le_mul_of_nonneg_left h2 hc0
      omega
    have hcs : condS (kindN (minA a b p) b p) s p = s * cpw a b p := by
      rw [e] at hb
      unfold cpw at hle hc0 hb ⊢
      unfold condS
      by_cases h1 : kindN (minA a b p) b p = 1
      · rw [if_pos h1] at hle hc0 hb ⊢
        rw [h1]
        show wrap64 (wrap64 (s * p) * p) = _
        rw [← wrap_mul]
        unfold wrap64
        omega
      · rw [if_neg h1] at hle hc0 hb ⊢
        split
        · rename_i hk; exact absurd hk h1
        · unfold wrap64; omega
    rw [List.foldl_cons, hcs, cond_prod hl hc0 (by rw [← e]; exact hb), e]
theorem cond_is {a b : Int} (hcur : curveB a b = true) : condL a b (bfX a b) = cprod a b (bfX a b) ∧ 1 ≤ cprod a b (bfX a b) ∧ cprod a b (bfX a b) ≤ 6700000000 := by
  obtain ⟨h1, h2, h3, h4, hd⟩ := curveB_true.1 hcur
  have hm : ∀ p ∈ bfX a b, p5B p = true ∧ kindN (minA a b p) b p ≠ 0 := fun p hp => bfX_mem hcur hp
  have h2p : ∀ p ∈ bfX a b, 2 ≤ p := fun p hp => by have := p5_bd (hm p hp).1; omega
  have hdv : cprod a b (bfX a b) ∣ discI a b := cprod_dvd (bfX_inc hd) fun p hp => ⟨p5_pr (hm p hp).1, cpw_dvd (hm p hp).1 (hm p hp).2⟩
  have hpos := cprod_pos (a := a) (b := b) h2p
  have hbd := disc_bd h1 h2 h3 h4
  have hle : cprod a b (bfX a b) ≤ 6700000000 := by
    have := Int.le_of_dvd (b := ((discI a b).natAbs : Int)) (by omega) (Int.dvd_natAbs.2 hdv)
    omega
  refine ⟨?_, hpos, hle⟩
  unfold condL
  rw [cond_prod h2p (by decide) (by omega), Int.one_mul]
end Go.Proofs.YtpjcfnjagknocaaDoor
