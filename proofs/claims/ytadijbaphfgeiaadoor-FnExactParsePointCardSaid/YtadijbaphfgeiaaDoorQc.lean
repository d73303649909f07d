/- Qc: plain: a point's text is read back. No conditions. -/
import Derived.Test.YtadijbaphfgeiaaDoorQb
import Derived.Test.YtadijbaphfgeiaaDoorPs
import Derived.Test.YtadijbaphfgeiaaDoorEr
namespace Go.Proofs.YtadijbaphfgeiaaDoor
open Go.RowKit

theorem root_eq {k e : Int} (k0 : 0 ≤ k) (e0 : 0 ≤ e) (h1 : k * k ≤ e * e) (h2 : e * e < (k + 1) * (k + 1)) : k = e := by
  rcases Int.lt_trichotomy k e with h | h | h
  · have := Int.mul_le_mul (show k + 1 ≤ e by omega) (show k + 1 ≤ e by omega) (by omega) (by omega)
    omega
  · exact h
  · have := Int.mul_le_mul (show e + 1 ≤ k by omega) (show e + 1 ≤ k by omega) (by omega) (by omega)
    have e1 : (e + 1) * (e + 1) = e * e + 2 * e + 1 := by grind
    omega
theorem gcd_y {a b x y e : Int} (hg : gcdI x e = 1) (hv : y * y = valI a b x e) : Int.gcd y e = 1 := by
  have hx : Int.gcd x e = 1 := by unfold gcdI at hg; omega
  have h1 : ((Int.gcd y e : Nat) : Int) ∣ y := Int.gcd_dvd_left ..
  have h2 : ((Int.gcd y e : Nat) : Int) ∣ e := Int.gcd_dvd_right ..
  generalize hG : Int.gcd y e = G at *
  have h3 : (G : Int) ∣ x * (x * x) := by
    have e1 : x * (x * x) = y * y - e * (a * x * e * (e * e) + b * e * (e * e) * (e * e)) := by
      rw [hv]; unfold valI; grind
    rw [e1]
    exact Int.dvd_sub (Int.dvd_mul_of_dvd_left h1) (Int.dvd_mul_of_dvd_left h2)
  have h4 : Int.gcd x (G : Int) = 1 := by
    obtain ⟨c, hc⟩ := h2
    have h5 : ((Int.gcd x (G : Int) : Nat) : Int) ∣ (Int.gcd x e : Nat) := by
      refine Int.dvd_coe_gcd (Int.gcd_dvd_left ..) ?_
      rw [hc]
      exact Int.dvd_mul_of_dvd_left (Int.gcd_dvd_right ..)
    rw [hx] at h5
    have := Int.natAbs_dvd_natAbs.2 h5
    simpa using this
  have h5 := cop_dvd h4 h3
  have h6 := cop_dvd h4 h5
  have h7 : (G : Int) ∣ (Int.gcd x (G : Int) : Nat) := Int.dvd_coe_gcd h6 (Int.dvd_refl _)
  rw [h4] at h7
  have := Int.natAbs_dvd_natAbs.2 h7
  simpa using this
theorem frac_x {x e : Int} (h1 : -10000 ≤ x) (h2 : x ≤ 10000) (h3 : 1 ≤ e) (h4 : e ≤ 20) (hg : gcdI x e = 1) : fracB x (e * e) = true := by
  have hb := mul_bd (a := e) (b := e) (A := 20) (B := 20) (by omega) (by omega) (by omega) (by omega)
  have h0 := Int.mul_pos (show 0 < e by omega) (show 0 < e by omega)
  have hx : Int.gcd x e = 1 := by unfold gcdI at hg; omega
  unfold fracB
  rw [inB_true.2 ⟨by omega, by omega⟩, inB_true.2 ⟨by omega, by omega⟩]
  unfold gcdI
  rw [gcd_sq hx]
  rfl
theorem frac_y {a b x y e : Int} (h1 : -1800000 ≤ y) (h2 : y ≤ 1800000) (h3 : 1 ≤ e) (h4 : e ≤ 20) (hg : gcdI x e = 1) (hv : y * y = valI a b x e) : fracB y (e * e * e) = true := by
  have hb := mul_bd (a := e) (b := e) (A := 20) (B := 20) (by omega) (by omega) (by omega) (by omega)
  have hb2 := mul_bd (a := e * e) (b := e) (A := 400) (B := 20) (by omega) (by omega) (by omega) (by omega)
  have h0 := Int.mul_pos (Int.mul_pos (show 0 < e by omega) (show 0 < e by omega)) (show 0 < e by omega)
  have hy := gcd_y hg hv
  have hy3 : Int.gcd y (e * e * e) = 1 := by
    have := gcd_sq hy
    rw [Int.gcd_eq_natAbs_gcd_natAbs] at hy this ⊢
    rw [Int.natAbs_mul]
    exact Nat.Coprime.mul_right this hy
  unfold fracB
  rw [inB_true.2 ⟨by omega, by omega⟩, inB_true.2 ⟨by omega, by omega⟩]
  unfold gcdI
  rw [hy3]
  rfl
theorem no44 (n d : Int) : (44 : UInt8) ∉ (frT n d).data.toList := by
  rw [frT_list]
  split
  · exact int_none (.inl (by decide)) n
  · rw [List.mem_append, List.mem_cons]
    rintro (h | h | h)
    · exact int_none (.inl (by decide)) n h
    · exact absurd h (by decide)
    · exact int_none (.inl (by decide)) d h
theorem ptT_list {x y e : Int} (he : e ≠ 0) : (ptT x y e).data.toList = 40 :: ((frT x (e * e)).data.toList ++ 44 :: (frT y (e * e * e)).data.toList ++ [41]) := by
  unfold ptT
  rw [if_neg he]
  simp
theorem trimP (c : UInt8) (r : List UInt8) : Lib.trimPrefix (c :: r) [c] = r := by
  unfold Lib.trimPrefix Lib.hasPrefix
  simp
theorem trimS (c : UInt8) (r : List UInt8) : Lib.trimSuffix (r ++ [c]) [c] = r := by
  unfold Lib.trimSuffix Lib.hasSuffix
  have : [c].isSuffixOf (r ++ [c]) = true := List.isSuffixOf_iff_suffix.2 ⟨r, rfl⟩
  rw [this]
  simp
theorem trimP_len (l p : List UInt8) : (Lib.trimPrefix l p).length ≤ l.length := by unfold Lib.trimPrefix; split <;> simp
theorem trimS_len (l p : List UInt8) : (Lib.trimSuffix l p).length ≤ l.length := by unfold Lib.trimSuffix; split <;> simp <;> omega
theorem frT_pos (n d : Int) : 1 ≤ (frT n d).data.toList.length := by
  have h : ∀ m, 1 ≤ (intS m).data.toList.length := fun m => by
    rw [intS_list]; unfold Lib.itoa
    split
    · simp
    · rcases Nat.eq_zero_or_pos (Lib.decDigits m.toNat).length with h' | h'
      · exact absurd (List.length_eq_zero_iff.1 h') (dec_ne _)
      · exact h'
  rw [frT_list]
  split
  · exact h n
  · have := h n
    rw [List.length_append]; omega
end Go.Proofs.YtadijbaphfgeiaaDoor
