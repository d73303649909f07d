/- Smp: plain: the smallest model of a curve, and what scaling does to it. No conditions. -/
import Derived.Test.YtpjcfnjagknocaaGreatDoorPlain
import Derived.Test.YtpjcfnjagknocaaGreatDoorMf
namespace Go.Proofs.YtpjcfnjagknocaaGreatDoor
open Go.RowKit

/-- u to the fourth divides a, and u to the sixth divides b. -/
def mB (a b u : Int) : Bool := a.tmod (u * u * u * u) == 0 && b.tmod (u * u * u * u * u * u) == 0
def smU (a b : Int) : Int := if mB a b 5 = true then 5 else if mB a b 4 = true then 4 else if mB a b 3 = true then 3 else if mB a b 2 = true then 2 else 1
def smA (a b : Int) : Int := a.tdiv (smU a b * smU a b * smU a b * smU a b)
def smC (a b : Int) : Int := b.tdiv (smU a b * smU a b * smU a b * smU a b * smU a b * smU a b)
theorem mB_iff {a b u : Int} : mB a b u = true ↔ u * u * u * u ∣ a ∧ u * u * u * u * u * u ∣ b := by
  unfold mB
  rw [Bool.and_eq_true, beq_iff_eq, beq_iff_eq]
  exact ⟨fun h => ⟨Int.dvd_of_tmod_eq_zero h.1, Int.dvd_of_tmod_eq_zero h.2⟩, fun h => ⟨Int.tmod_eq_zero_of_dvd h.1, Int.tmod_eq_zero_of_dvd h.2⟩⟩
theorem small_dvd {a m : Int} (h : m ∣ a) (hm : a.natAbs < m.natAbs) : a = 0 := by
  obtain ⟨k, rfl⟩ := h
  rw [Int.natAbs_mul] at hm
  have h1 : k.natAbs = 0 := by
    rcases Nat.eq_zero_or_pos k.natAbs with h | h
    · exact h
    · have := Nat.mul_le_mul_left m.natAbs h
      omega
  have h2 : k = 0 := Int.natAbs_eq_zero.1 h1
  rw [h2, Int.mul_zero]
theorem pow_big {u : Int} (h : 6 ≤ u) : 1296 ≤ u * u * u * u ∧ 46656 ≤ u * u * u * u * u * u := by
  have h1 : 36 ≤ u * u := by have := Int.mul_le_mul h h (by omega) (by omega); omega
  have h2 : 216 ≤ u * u * u := by have := Int.mul_le_mul h1 h (by omega) (by omega); omega
  have h3 : 1296 ≤ u * u * u * u := by have := Int.mul_le_mul h2 h (by omega) (by omega); omega
  have h4 : 7776 ≤ u * u * u * u * u := by have := Int.mul_le_mul h3 h (by omega) (by omega); omega
  have h5 := Int.mul_le_mul h4 h (by omega) (by omega)
  exact ⟨h3, by omega⟩
theorem mB_big {a b u : Int} (hc : curveB a b = true) (h : 6 ≤ u) : mB a b u = false := by
  obtain ⟨h1, h2, h3, h4, h5⟩ := curveB_true.1 hc
  cases hm : mB a b u
  · rfl
  · obtain ⟨d1, d2⟩ := mB_iff.1 hm
    obtain ⟨p1, p2⟩ := pow_big h
    have ha : a = 0 := small_dvd d1 (by omega)
    have hb : b = 0 := small_dvd d2 (by omega)
    subst ha; subst hb
    exact absurd rfl h5
theorem mB_one (a b : Int) : mB a b 1 = true := mB_iff.2 ⟨⟨a, by omega⟩, ⟨b, by omega⟩⟩
theorem smU_is (a b : Int) : 1 ≤ smU a b ∧ smU a b ≤ 5 ∧ mB a b (smU a b) = true ∧ ∀ u, smU a b < u → u ≤ 5 → mB a b u = false := by
  unfold smU
  split
  · rename_i h; exact ⟨by omega, by omega, h, fun u h1 h2 => by omega⟩
  · rename_i h5
    rw [Bool.not_eq_true] at h5
    split
    · rename_i h; exact ⟨by omega, by omega, h, fun u h1 h2 => (by omega : u = 5) ▸ h5⟩
    · rename_i h4
      rw [Bool.not_eq_true] at h4
      split
      · rename_i h; exact ⟨by omega, by omega, h, fun u h1 h2 => (by omega : u = 4 ∨ u = 5).elim (fun k => k ▸ h4) (fun k => k ▸ h5)⟩
      · rename_i h3
        rw [Bool.not_eq_true] at h3
        split
        · rename_i h; exact ⟨by omega, by omega, h, fun u h1 h2 => (by omega : u = 3 ∨ u = 4 ∨ u = 5).elim (fun k => k ▸ h3) fun k => k.elim (fun k => k ▸ h4) (fun k => k ▸ h5)⟩
        · rename_i h2
          rw [Bool.not_eq_true] at h2
          exact ⟨by omega, by omega, mB_one a b, fun u h1 h2' => (by omega : u = 2 ∨ u = 3 ∨ u = 4 ∨ u = 5).elim (fun k => k ▸ h2) fun k => k.elim (fun k => k ▸ h3) fun k => k.elim (fun k => k ▸ h4) (fun k => k ▸ h5)⟩
theorem smU_top {a b : Int} (hc : curveB a b = true) {u : Int} (h : smU a b < u) : mB a b u = false := by
  rcases Int.lt_or_le 5 u with h1 | h1
  · exact mB_big hc (by omega)
  · exact (smU_is a b).2.2.2 u h h1
/-- the greatest one is the only one of its kind. -/
theorem smU_eq {a b v : Int} (h5 : v ≤ 5) (hv : mB a b v = true) (hn : ∀ u, v < u → u ≤ 5 → mB a b u = false) : smU a b = v := by
  obtain ⟨k1, k2, k3, k4⟩ := smU_is a b
  rcases Int.lt_trichotomy (smU a b) v with h | h | h
  · rw [k4 v h h5] at hv; cases hv
  · exact h
  · rw [hn _ h k2] at k3; cases k3
theorem sm_parts (a b : Int) : a = smA a b * (smU a b * smU a b * smU a b * smU a b) ∧ b = smC a b * (smU a b * smU a b * smU a b * smU a b * smU a b * smU a b) := by
  obtain ⟨d1, d2⟩ := mB_iff.1 (smU_is a b).2.2.1
  unfold smA smC
  exact ⟨(Int.tdiv_mul_cancel d1).symm, (Int.tdiv_mul_cancel d2).symm⟩
theorem p4 (v u : Int) : v * u * (v * u) * (v * u) * (v * u) = v * v * v * v * (u * u * u * u) := by grind
theorem p6 (v u : Int) : v * u * (v * u) * (v * u) * (v * u) * (v * u) * (v * u) = v * v * v * v * v * v * (u * u * u * u * u * u) := by grind
theorem sh3 (U x V : Int) : U * x * V = V * U * x := by grind
theorem sh4 (A U V : Int) : A * V * U = V * U * A := by grind
theorem five {v : Int} (h1 : 1 ≤ v) (h5 : v ≤ 5) : v = 1 ∨ v = 2 ∨ v = 3 ∨ v = 4 ∨ v = 5 := by omega
theorem low_abs {A m a : Int} (h : a = A * m) (hm : 1 ≤ m) : A.natAbs ≤ a.natAbs := by
  rw [h, Int.natAbs_mul]
  exact Nat.le_mul_of_pos_right _ (by omega)
theorem disc_scale (A B v : Int) : discI (A * (v * v * v * v)) (B * (v * v * v * v * v * v)) = discI A B * (v * v * v * v * v * v * v * v * v * v * v * v) := by
  unfold discI; grind
theorem sm_curve {a b : Int} (hc : curveB a b = true) : curveB (smA a b) (smC a b) = true := by
  obtain ⟨h1, h2, h3, h4, h5⟩ := curveB_true.1 hc
  obtain ⟨k1, k2, _, _⟩ := smU_is a b
  obtain ⟨e1, e2⟩ := sm_parts a b
  generalize smU a b = v at *
  generalize smA a b = A at *
  generalize smC a b = B at *
  have hp : 1 ≤ v * v * v * v ∧ 1 ≤ v * v * v * v * v * v := by rcases five k1 k2 with rfl | rfl | rfl | rfl | rfl <;> decide
  have a1 := low_abs e1 hp.1
  have a2 := low_abs e2 hp.2
  refine curveB_true.2 ⟨by omega, by omega, by omega, by omega, fun k => h5 ?_⟩
  rw [e1, e2, disc_scale, k, Int.zero_mul]
/-- the smallest model is its own. -/
theorem sm_own {a b : Int} (hc : curveB a b = true) : smU (smA a b) (smC a b) = 1 ∧ smA (smA a b) (smC a b) = smA a b ∧ smC (smA a b) (smC a b) = smC a b := by
  have hu : smU (smA a b) (smC a b) = 1 := by
    refine smU_eq (by omega) (mB_one _ _) fun u h1 _ => ?_
    cases hm : mB (smA a b) (smC a b) u
    · rfl
    · obtain ⟨k1, k2, _, _⟩ := smU_is a b
      have ht := smU_top hc (u := smU a b * u) (by have := Int.mul_le_mul_of_nonneg_left (show 2 ≤ u by omega) (show 0 ≤ smU a b by omega); omega)
      obtain ⟨e1, e2⟩ := sm_parts a b
      obtain ⟨⟨x, hx⟩, ⟨y, hy⟩⟩ := mB_iff.1 hm
      rw [mB_iff.2 ⟨⟨x, ?_⟩, ⟨y, ?_⟩⟩] at ht
      · cases ht
      · rw [hx] at e1
        rw [p4, ← sh3]; exact e1
      · rw [hy] at e2
        rw [p6, ← sh3]; exact e2
  refine ⟨hu, ?_, ?_⟩
  · unfold smA; rw [show smU (a.tdiv (smU a b * smU a b * smU a b * smU a b)) (smC a b) = 1 from hu]; exact Int.tdiv_one _
  · unfold smC; rw [show smU (smA a b) (b.tdiv (smU a b * smU a b * smU a b * smU a b * smU a b * smU a b)) = 1 from hu]; exact Int.tdiv_one _
/-- a scaled curve has the same smallest model. -/
theorem sm_scale {a b u : Int} (hc : curveB a b = true) (u1 : 1 ≤ u) (u5 : u ≤ 5) (hs : curveB (a * u * u * u * u) (b * u * u * u * u * u * u) = true) :
    smA (a * u * u * u * u) (b * u * u * u * u * u * u) = smA a b ∧ smC (a * u * u * u * u) (b * u * u * u * u * u * u) = smC a b := by
  obtain ⟨k1, k2, k3, k4⟩ := smU_is a b
  obtain ⟨e1, e2⟩ := sm_parts a b
  have ra : a * u * u * u * u = a * (u * u * u * u) := by simp only [Int.mul_assoc]
  have rb : b * u * u * u * u * u * u = b * (u * u * u * u * u * u) := by simp only [Int.mul_assoc]
  rw [ra, rb] at hs ⊢
  have hmul : mB (a * (u * u * u * u)) (b * (u * u * u * u * u * u)) (smU a b * u) = true := by
    refine mB_iff.2 ⟨⟨smA a b, ?_⟩, ⟨smC a b, ?_⟩⟩
    · rw [p4, ← sh4 (smA a b) (u * u * u * u), ← e1]
    · rw [p6, ← sh4 (smC a b) (u * u * u * u * u * u), ← e2]
  have hle : smU a b * u ≤ 5 := by
    rcases Int.lt_or_le 5 (smU a b * u) with h | h
    · rw [mB_big hs (by omega)] at hmul; cases hmul
    · exact h
  have hpos : 1 ≤ smU a b * u := by have := Int.mul_le_mul k1 u1 (by omega) (by omega); omega
  have hU : smU (a * (u * u * u * u)) (b * (u * u * u * u * u * u)) = smU a b * u := by
    refine smU_eq hle hmul fun w h1 h5 => ?_
    cases hm : mB (a * (u * u * u * u)) (b * (u * u * u * u * u * u)) w
    · rfl
    · exfalso
      obtain ⟨d1, d2⟩ := mB_iff.1 hm
      have no : ∀ t, smU a b < t → t * t * t * t ∣ a → t * t * t * t * t * t ∣ b → False := fun t ht j1 j2 => by
        have := smU_top hc ht
        rw [mB_iff.2 ⟨j1, j2⟩] at this; cases this
      generalize smU a b = v at *
      clear hmul hm e1 e2 k3 k4 hs hc ra rb
      rcases five k1 k2 with rfl | rfl | rfl | rfl | rfl <;> rcases five u1 u5 with rfl | rfl | rfl | rfl | rfl <;> try omega
      all_goals
        rcases (by omega : w = 2 ∨ w = 3 ∨ w = 4 ∨ w = 5) with rfl | rfl | rfl | rfl <;> try omega
      all_goals
        first
        | exact no 2 (by omega) (by omega) (by omega)
        | exact no 3 (by omega) (by omega) (by omega)
        | exact no 4 (by omega) (by omega) (by omega)
        | exact no 5 (by omega) (by omega) (by omega)
  unfold smA smC
  rw [hU]
  have z1 : 0 < u * u * u * u := by rcases five u1 u5 with rfl | rfl | rfl | rfl | rfl <;> decide
  have z2 : 0 < u * u * u * u * u * u := by rcases five u1 u5 with rfl | rfl | rfl | rfl | rfl <;> decide
  constructor
  · rw [show smU a b * u * (smU a b * u) * (smU a b * u) * (smU a b * u) = smU a b * smU a b * smU a b * smU a b * (u * u * u * u) from p4 _ _]
    exact Int.mul_tdiv_mul_of_pos_left _ _ z1
  · rw [show smU a b * u * (smU a b * u) * (smU a b * u) * (smU a b * u) * (smU a b * u) * (smU a b * u) = smU a b * smU a b * smU a b * smU a b * smU a b * smU a b * (u * u * u * u * u * u) from p6 _ _]
    exact Int.mul_tdiv_mul_of_pos_left _ _ z2
/-- a fraction in lowest terms does not change when both parts are scaled. -/
theorem gcdI_scale {n d k : Int} (hk : 0 ≤ k) : gcdI (n * k) (d * k) = gcdI n d * k := by
  unfold gcdI
  rw [Int.gcd_mul_right, Int.natCast_mul, Int.natAbs_of_nonneg hk]
theorem low_scale {n d k : Int} (hk : 1 ≤ k) : lowN (n * k) (d * k) = lowN n d ∧ lowD (n * k) (d * k) = lowD n d := by
  have hs : sgcd (n * k) (d * k) = sgcd n d * k := by
    unfold sgcd
    rw [gcdI_scale (by omega)]
    by_cases h : d < 0
    · rw [if_pos h, if_pos (Int.mul_neg_of_neg_of_pos h (by omega)), Int.neg_mul]
    · rw [if_neg h, if_neg (by have := Int.mul_nonneg (show 0 ≤ d by omega) (show 0 ≤ k by omega); omega)]
  unfold lowN lowD
  rw [hs]
  exact ⟨Int.mul_tdiv_mul_of_pos_left _ _ (by omega), Int.mul_tdiv_mul_of_pos_left _ _ (by omega)⟩
theorem inv_scale {a b u : Int} (u1 : 1 ≤ u) : lowN (6912 * (a * u * u * u * u) * (a * u * u * u * u) * (a * u * u * u * u)) (discI (a * u * u * u * u) (b * u * u * u * u * u * u)) = lowN (6912 * a * a * a) (discI a b) ∧
    lowD (6912 * (a * u * u * u * u) * (a * u * u * u * u) * (a * u * u * u * u)) (discI (a * u * u * u * u) (b * u * u * u * u * u * u)) = lowD (6912 * a * a * a) (discI a b) := by
  have e1 : 6912 * (a * u * u * u * u) * (a * u * u * u * u) * (a * u * u * u * u) = 6912 * a * a * a * (u * u * u * u * u * u * u * u * u * u * u * u) := by grind
  have e2 : discI (a * u * u * u * u) (b * u * u * u * u * u * u) = discI a b * (u * u * u * u * u * u * u * u * u * u * u * u) := by unfold discI; grind
  have hp : 1 ≤ u * u * u * u * u * u * u * u * u * u * u * u := by
    have p : ∀ x : Int, 1 ≤ x → 1 ≤ x * u := fun x hx => by have := Int.mul_le_mul hx u1 (by omega) (by omega); omega
    exact p _ (p _ (p _ (p _ (p _ (p _ (p _ (p _ (p _ (p _ (p _ u1))))))))))
  rw [e1, e2]
  exact low_scale hp
theorem disc_scale2 (a b u : Int) : discI (a * u * u * u * u) (b * u * u * u * u * u * u) = discI a b * (u * u * u * u * u * u * u * u * u * u * u * u) := by unfold discI; grind
end Go.Proofs.YtpjcfnjagknocaaGreatDoor
