/- Fl: the machine's square root of a whole number is small. No conditions. -/
import Derived.Test.YtadijbaphfgeiaaDoorBase
namespace Go.Proofs.YtadijbaphfgeiaaDoor
open Go.RowKit
open Ieee

theorem cut_le (way : Toward) (neg : Bool) (n drop : Nat) : way.cut neg n drop ≤ n / (1 <<< min drop (n.log2 + 2)) + 1 :=
  Nat.add_le_add_left (Bool.toNat_le _) _
theorem dbl_word (r : Nat) : double.word false r = r := rfl
theorem log2_bd {n : Nat} (h : 0 < n) : 2 ^ n.log2 ≤ n ∧ n < 2 ^ (n.log2 + 1) := ⟨Nat.log2_self_le (by omega), (Nat.log2_lt (by omega)).1 (by omega)⟩
theorem shl_bd {n : Nat} (h : 0 < n) (hl : n.log2 ≤ 52) : 2 ^ 52 ≤ n <<< (52 - n.log2) ∧ n <<< (52 - n.log2) < 2 ^ 53 := by
  obtain ⟨h1, h2⟩ := log2_bd h
  rw [Nat.shiftLeft_eq]
  constructor
  · calc 2 ^ 52 = 2 ^ n.log2 * 2 ^ (52 - n.log2) := by rw [← Nat.pow_add]; congr 1; omega
      _ ≤ n * 2 ^ (52 - n.log2) := Nat.mul_le_mul_right _ h1
  · calc n * 2 ^ (52 - n.log2) < 2 ^ (n.log2 + 1) * 2 ^ (52 - n.log2) := Nat.mul_lt_mul_of_pos_right h2 (Nat.two_pow_pos _)
      _ = 2 ^ 53 := by rw [← Nat.pow_add]; congr 1; omega
/-- whole numbers below 2 ^ 52 are exact. -/
theorem nearest_small {n : Nat} (h0 : 0 < n) (h1 : n < 2 ^ 52) : double.nearest false n 0 = (n.log2 + 1022) * 2 ^ 52 + n <<< (52 - n.log2) := by
  have hl : n.log2 < 52 := (Nat.log2_lt (by omega)).2 h1
  unfold Format.nearest
  rw [if_neg (by omega)]
  have e1 : max ((0 : Int) + n.log2 - (double.fractionBits : Nat)) double.leastPlace = (n.log2 : Int) - 52 := by
    show max ((0 : Int) + n.log2 - ((52 : Nat) : Int)) (-1074) = _
    omega
  simp only [e1]
  have e2 : ((0 : Int) - ((n.log2 : Int) - 52)).toNat = 52 - n.log2 := by omega
  have e3 : (((n.log2 : Int) - 52) - 0).toNat = 0 := by omega
  have e4 : (((n.log2 : Int) - 52) - double.leastPlace).toNat = n.log2 + 1022 := by
    show (((n.log2 : Int) - 52) - (-1074)).toNat = _
    omega
  rw [e2, e3, e4]
  have e5 : Toward.even.cut false (n <<< (52 - n.log2)) 0 = n <<< (52 - n.log2) := by
    unfold Toward.cut
    simp [Nat.mod_one]
  rw [e5, dbl_word]
  have hb := (shl_bd h0 (by omega)).2
  show min ((n.log2 + 1022) * 2 ^ 52 + n <<< (52 - n.log2)) (2047 * 2 ^ 52) = _
  omega
theorem read_rung {r : Nat} (h1 : 2 ^ 52 ≤ r) (h2 : r < 2047 * 2 ^ 52) : double.read r = .number false (2 ^ 52 + r % 2 ^ 52) ((r / 2 ^ 52 - 1 : Nat) - 1074) := by
  unfold Format.read
  have e1 : r / double.signWeight = 0 := by show r / 2 ^ 63 = 0; omega
  have e2 : r % double.signWeight = r := by show r % 2 ^ 63 = r; omega
  rw [e1, e2]
  dsimp only
  rw [if_neg (by show ¬ r < 2 ^ 52; omega), if_pos (by show r < 2047 * 2 ^ 52; exact h2)]
  show Datum.number false (2 ^ 52 + r % 2 ^ 52) ((-1074 : Int) + ((r / 2 ^ 52 - 1 : Nat) : Int)) = _
  rw [Int.add_comm]; rfl
theorem rootFrom_le (n : Nat) : ∀ (todo root : Nat), root * root ≤ n → Datum.rootFrom n todo root * Datum.rootFrom n todo root ≤ n
  | 0, root, h => h
  | todo + 1, root, h => by
    unfold Datum.rootFrom
    dsimp only
    apply rootFrom_le n todo
    split
    · assumption
    · exact h
theorem root_bd {m : Nat} {i : Int} (h1 : 2 ^ 52 ≤ m) (h2 : m < 2 ^ 53) (i1 : -52 ≤ i) (i2 : i ≤ -1) : ∃ mag p, (Datum.number false m i).root 54 = some (.number false mag p) ∧ mag < 2 ^ 56 ∧ -56 ≤ p ∧ p ≤ -30 := by
  have hl : m.log2 = 52 := by
    have a1 := (Nat.log2_lt (n := m) (k := 53) (by omega)).2 h2
    have a2 := (Nat.le_log2 (n := m) (k := 52) (by omega)).2 h1
    omega
  unfold Datum.root
  dsimp only
  rw [if_neg (by omega), if_neg (by simp)]
  rw [hl]
  obtain ⟨d, hd⟩ : ∃ d : Nat, ((i - ((2 * 54 - 52 : Nat) : Int)) % 2).toNat = d := ⟨_, rfl⟩
  have hd1 : d ≤ 1 := by omega
  rw [hd]
  refine ⟨_, _, rfl, ?_, ?_, ?_⟩
  · have hr := rootFrom_le (m <<< (2 * 54 - 52 + d)) ((m <<< (2 * 54 - 52 + d)).log2 / 2 + 1) 0 (Nat.zero_le _)
    generalize Datum.rootFrom (m <<< (2 * 54 - 52 + d)) ((m <<< (2 * 54 - 52 + d)).log2 / 2 + 1) 0 = w at *
    have hm : m <<< (2 * 54 - 52 + d) < 2 ^ 110 := by
      rw [Nat.shiftLeft_eq]
      calc m * 2 ^ (2 * 54 - 52 + d) ≤ m * 2 ^ 57 := Nat.mul_le_mul_left _ (Nat.pow_le_pow_right (by omega) (by omega))
        _ < 2 ^ 53 * 2 ^ 57 := Nat.mul_lt_mul_of_pos_right h2 (Nat.two_pow_pos _)
        _ = 2 ^ 110 := by rw [← Nat.pow_add]
    have hw : w < 2 ^ 55 := by
      rcases Nat.lt_or_ge w (2 ^ 55) with h | h
      · exact h
      · have := Nat.mul_le_mul h h
        rw [← Nat.pow_add] at this
        omega
    have hb := Bool.toNat_le (w * w != m <<< (2 * 54 - 52 + d))
    omega
  · omega
  · omega
/-- a number below 2 ^ 27 is read off. -/
theorem near_int {mag : Nat} {p : Int} (h : mag < 2 ^ 56) (p1 : -56 ≤ p) (p2 : p ≤ -30) : ∃ r : Nat, (double.read (double.nearest false mag p)).toInt .zero = some (r : Int) ∧ r ≤ 2 ^ 27 := by
  by_cases hz : mag = 0
  · subst hz
    have e : double.nearest false 0 p = 0 := by unfold Format.nearest; rw [if_pos rfl]; rfl
    rw [e]
    exact ⟨0, by decide +kernel, by omega⟩
  · obtain ⟨g1, g2⟩ := log2_bd (n := mag) (by omega)
    have hl : mag.log2 < 56 := (Nat.log2_lt hz).2 h
    obtain ⟨L, hL⟩ : ∃ L, mag.log2 = L := ⟨_, rfl⟩
    rw [hL] at g1 g2 hl
    have hn : ∃ kept, kept ≤ 2 ^ 53 ∧ double.nearest false mag p = (p + L - 52 + 1074).toNat * 2 ^ 52 + kept := by
      unfold Format.nearest
      rw [if_neg hz, hL]
      have e1 : max (p + (L : Nat) - (double.fractionBits : Nat)) double.leastPlace = p + L - 52 := by
        show max (p + (L : Nat) - ((52 : Nat) : Int)) (-1074) = _
        omega
      simp only [e1]
      have e4 : ((p + L - 52) - double.leastPlace).toNat = (p + L - 52 + 1074).toNat := by
        show ((p + L - 52) - (-1074)).toNat = _
        omega
      rw [e4, dbl_word]
      obtain ⟨kept, hk⟩ : ∃ kept, Toward.even.cut false (mag <<< (p - (p + L - 52)).toNat) ((p + L - 52) - p).toNat = kept := ⟨_, rfl⟩
      rw [hk]
      have hkb : kept ≤ 2 ^ 53 := by
        rw [← hk]
        refine Nat.le_trans (cut_le _ _ _ _) ?_
        rcases Nat.lt_or_ge 52 L with k | k
        · have e2 : (p - (p + L - 52)).toNat = 0 := by omega
          have e3 : ((p + L - 52) - p).toNat = L - 52 := by omega
          rw [e2, e3, Nat.shiftLeft_zero, hL, Nat.min_eq_left (by omega), Nat.one_shiftLeft]
          have : mag / 2 ^ (L - 52) < 2 ^ 53 := by
            rw [Nat.div_lt_iff_lt_mul (Nat.two_pow_pos _), ← Nat.pow_add, show 53 + (L - 52) = L + 1 by omega]
            exact g2
          omega
        · have e2 : (p - (p + L - 52)).toNat = 52 - L := by omega
          have e3 : ((p + L - 52) - p).toNat = 0 := by omega
          have hb := (shl_bd (n := mag) (by omega) (by omega)).2
          rw [hL] at hb
          rw [e2, e3, Nat.zero_min, Nat.shiftLeft_zero, Nat.div_one]
          omega
      refine ⟨kept, hkb, ?_⟩
      show min ((p + L - 52 + 1074).toNat * 2 ^ 52 + kept) (2047 * 2 ^ 52) = _
      have hA : (p + L - 52 + 1074).toNat ≤ 1100 := by omega
      generalize (p + L - 52 + 1074).toNat = A at *
      clear hk hl hL g1 g2 h p1 p2 e1 e4
      exact Nat.min_eq_left (by omega)
    obtain ⟨kept, hkb, hn⟩ := hn
    rw [hn]
    obtain ⟨A, hA⟩ : ∃ A, (p + L - 52 + 1074).toNat = A := ⟨_, rfl⟩
    have hAb : 960 ≤ A ∧ A ≤ 1047 := by omega
    rw [hA]
    clear hn hA
    obtain ⟨r, hr⟩ : ∃ r, A * 2 ^ 52 + kept = r := ⟨_, rfl⟩
    rw [hr]
    rw [read_rung (by omega) (by omega)]
    unfold Datum.toInt Datum.integral
    obtain ⟨M, hM⟩ : ∃ M, 2 ^ 52 + r % 2 ^ 52 = M := ⟨_, rfl⟩
    obtain ⟨D, hD⟩ : ∃ D : Nat, (-(((r / 2 ^ 52 - 1 : Nat) : Int) - 1074)).toNat = D := ⟨_, rfl⟩
    have hDb : 26 ≤ D := by omega
    have hMb : 2 ^ 52 ≤ M ∧ M < 2 ^ 53 := by omega
    have e0 : (((r / 2 ^ 52 - 1 : Nat) : Int) - 1074).toNat = 0 := by omega
    dsimp only
    rw [hM, hD, e0, Nat.shiftLeft_zero]
    have hlM : M.log2 = 52 := by
      have a1 := (Nat.log2_lt (n := M) (k := 53) (by omega)).2 hMb.2
      have a2 := (Nat.le_log2 (n := M) (k := 52) (by omega)).2 hMb.1
      omega
    refine ⟨M / (1 <<< min D (M.log2 + 2)), ?_, ?_⟩
    · unfold Toward.cut signed
      simp
    · rw [hlM, Nat.one_shiftLeft]
      have h27 : 2 ^ 26 ≤ 2 ^ min D (52 + 2) := Nat.pow_le_pow_right (by omega) (by omega)
      calc M / 2 ^ min D (52 + 2) ≤ M / 2 ^ 26 := Nat.div_le_div_left h27 (Nat.two_pow_pos _)
        _ ≤ 2 ^ 27 := by omega
/-- the square root of a whole number below 2 ^ 52, cut to a whole number, is small. -/
theorem sqrt_int {n : Nat} (h : n < 2 ^ 52) : ∃ y, double.sqrt (double.nearest false n 0) = some y ∧ ∃ r : Nat, (double.read y).toInt .zero = some (r : Int) ∧ r ≤ 2 ^ 27 := by
  by_cases hz : n = 0
  · subst hz
    exact ⟨0, by decide +kernel, 0, by decide +kernel, by omega⟩
  · rw [nearest_small (by omega) h]
    have hl : n.log2 < 52 := (Nat.log2_lt hz).2 h
    obtain ⟨b1, b2⟩ := shl_bd (n := n) (by omega) (by omega)
    obtain ⟨L, hL⟩ : ∃ L, n.log2 = L := ⟨_, rfl⟩
    rw [hL] at hl b1 b2 ⊢
    obtain ⟨m, hm⟩ : ∃ m, n <<< (52 - L) = m := ⟨_, rfl⟩
    rw [hm] at b1 b2 ⊢
    unfold Format.sqrt
    rw [read_rung (by omega) (by omega)]
    have e1 : 2 ^ 52 + ((L + 1022) * 2 ^ 52 + m) % 2 ^ 52 = m := by omega
    have e2 : (((((L + 1022) * 2 ^ 52 + m) / 2 ^ 52 - 1 : Nat) : Int) - 1074) = (L : Int) - 52 := by omega
    rw [e1, e2]
    obtain ⟨mag, p, h1, h2, h3, h4⟩ := root_bd b1 b2 (i := (L : Int) - 52) (by omega) (by omega)
    refine ⟨double.write (.number false mag p), ?_, near_int h2 h3 h4⟩
    show ((Datum.number false m ((L : Int) - 52)).root 54).map double.write = _
    rw [h1]; rfl
end Go.Proofs.YtadijbaphfgeiaaDoor
