/- Er: contracts: roots of whole numbers. No conditions. -/
import Derived.Test.YtadijbaphfgeiaaDoorFl
import Derived.Test.YtadijbaphfgeiaaDoorNum
import Derived.Laws.Externs
import Derived.Laws.FloatArith
namespace Go.Proofs.YtadijbaphfgeiaaDoor
open Go.RowKit

theorem sq_unique {r k n : Int} (r0 : 0 ≤ r) (k0 : 0 ≤ k) (a1 : r * r ≤ n) (a2 : n < (r + 1) * (r + 1)) (b1 : k * k ≤ n) (b2 : n < (k + 1) * (k + 1)) : r = k := by
  rcases Int.lt_trichotomy r k with h | h | h
  · have : (r + 1) * (r + 1) ≤ k * k := Int.mul_le_mul (by omega) (by omega) (by omega) (by omega)
    omega
  · exact h
  · have : (k + 1) * (k + 1) ≤ r * r := Int.mul_le_mul (by omega) (by omega) (by omega) (by omega)
    omega
theorem root_ex (n : Nat) : ∃ k : Nat, k * k ≤ n ∧ n < (k + 1) * (k + 1) := by
  induction n with
  | zero => exact ⟨0, by omega, by omega⟩
  | succ n ih =>
    obtain ⟨k, h1, h2⟩ := ih
    by_cases h : n + 1 < (k + 1) * (k + 1)
    · exact ⟨k, by omega, h⟩
    · refine ⟨k + 1, by omega, ?_⟩
      have : (k + 1) * (k + 1) < (k + 1 + 1) * (k + 1 + 1) := Nat.mul_lt_mul_of_lt_of_lt (by omega) (by omega)
      omega
/-- is a number a square? -/
noncomputable def sqB (n : Int) : Bool := @decide (∃ k : Int, 0 ≤ k ∧ k * k = n) (Classical.propDecidable _)
theorem sqB_true {n : Int} : sqB n = true ↔ ∃ k : Int, 0 ≤ k ∧ k * k = n := by unfold sqB; simp
theorem sqB_neg {n : Int} (h : n < 0) : sqB n = false := by
  rw [← Bool.not_eq_true, sqB_true]
  rintro ⟨k, k0, rfl⟩
  have := Int.mul_nonneg k0 k0
  omega
theorem sqB_root {n k : Int} (k0 : 0 ≤ k) (h1 : k * k ≤ n) (h2 : n < (k + 1) * (k + 1)) : sqB n = (k * k == n) := by
  rw [Bool.eq_iff_iff, sqB_true, beq_iff_eq]
  constructor
  · rintro ⟨j, j0, rfl⟩
    have e : (j + 1) * (j + 1) = j * j + 2 * j + 1 := by grind
    have : j = k := sq_unique j0 k0 (Int.le_refl _) (by omega) h1 h2
    rw [this]
  · intro h; exact ⟨k, k0, h⟩
theorem root_exI {n : Int} (h : 0 ≤ n) : ∃ k : Int, 0 ≤ k ∧ k * k ≤ n ∧ n < (k + 1) * (k + 1) := by
  obtain ⟨k, h1, h2⟩ := root_ex n.toNat
  refine ⟨k, by omega, ?_, ?_⟩
  · have : ((k * k : Nat) : Int) ≤ (n.toNat : Int) := by exact_mod_cast h1
    rw [Int.natCast_mul] at this
    omega
  · have : (n.toNat : Int) < (((k + 1) * (k + 1) : Nat) : Int) := by exact_mod_cast h2
    have e : ((k + 1 : Nat) : Int) = (k : Int) + 1 := by omega
    rw [Int.natCast_mul, e] at this
    omega
theorem sqrt_run (x y : Nat) (h : Ieee.double.sqrt x = some y) (w : World) : (callFunc 74 #[.float .f64 x]).run Tryd.prog w = .ok (.value (.float .f64 y)) w := by
  rw [run_callFunc_extern (e := Extern.MathSqrt.sqrt) Tryd.func74 (by kernel_rfl) (by kernel_rfl) (by kernel_rfl) (by kernel_rfl)]
  have e : (Extern.MathSqrt.sqrt #[.float .f64 x]).run Tryd.prog w = .ok (.float .f64 y) w := by
    unfold Extern.MathSqrt.sqrt
    have h' : FloatKind.f64.format.sqrt x = some y := h
    show Sem.run _ (match FloatKind.f64.format.sqrt x with | some r => pure (Value.float .f64 r) | none => _) w = _
    rw [h']; rfl
  rw [e]; rfl
set_option maxRecDepth 4000 in
theorem mathSqrt_any (x y : Nat) (w : World) (h : Ieee.double.sqrt x = some y) :
    Calls Tryd.prog 57 #[.float .f64 x] w (Ret (.float .f64 y) w) := by
  have hr := sqrt_run x y h
  clear h
  go_enter Tryd.func57, Tryd.ntmps57
  go_wp2_with fail
  go_ret
  exact ret_mk (by repeat (first | exact Below.refl _ _ | (with_reducible assumption) | refine bel_alloc ?_ _ | refine bel_drew ?_ | refine bel_drewN ?_ _ | refine Below.setCell ?_ (by dsimp only; omega) _ | refine bel_trans (by assumption) ?_))
theorem exactRoot_neg (n : Int) (w : World) (h : n < 0) : Calls Tryd.prog 36 #[.int .i64 n] w (Ret (.tuple #[.int .i64 0, .bool false]) w) := by
  go_enter Tryd.func36, Tryd.ntmps36
  go_wp2_with fail
  go_returns
  exact ret_mk (by repeat (first | exact Below.refl _ _ | (with_reducible assumption) | refine bel_alloc ?_ _ | refine bel_drew ?_ | refine bel_drewN ?_ _ | refine Below.setCell ?_ (by dsimp only; omega) _ | refine bel_trans (by assumption) ?_))
theorem exactRoot_any (n k : Int) (w : World) (n0 : 0 ≤ n) (n1 : n < 4503599627370496) (k0 : 0 ≤ k) (h1 : k * k ≤ n) (h2 : n < (k + 1) * (k + 1)) :
    Calls Tryd.prog 36 #[.int .i64 n] w (Ret (if k * k = n then .tuple #[.int .i64 k, .bool true] else .tuple #[.int .i64 0, .bool false]) w) := by
  obtain ⟨y, hy, r, hr, hr2⟩ := sqrt_int (n := n.natAbs) (by omega)
  have hfl : floatOfInt .f64 n = Ieee.double.nearest false n.natAbs 0 := by
    show FloatKind.f64.nearest n = _
    unfold FloatKind.nearest FloatKind.encode
    rw [decide_eq_false (by omega)]
    rfl
  rw [← hfl] at hy
  clear hfl
  obtain ⟨x, hx⟩ : ∃ x, floatOfInt .f64 n = x := ⟨_, rfl⟩
  have hcall : ∀ w, Calls Tryd.prog 57 #[.float .f64 (floatOfInt .f64 n)] w (Ret (.float .f64 y) w) := fun w => mathSqrt_any _ _ w hy
  obtain ⟨res, hres⟩ : ∃ res : Value, (if k * k = n then Value.tuple #[.int .i64 k, .bool true] else .tuple #[.int .i64 0, .bool false]) = res := ⟨_, rfl⟩
  rw [hres]
  have HRES := Lib.hid hres; clear hres hy hx
  have hcv : ∀ w, (convert 71 3 (.float .f64 y)).run Tryd.prog w = .ok (.int .i64 (r : Int)) w := fun w => by
    refine run_convert_float_int w 71 3 .f64 .i64 y r (by rw [Tryd.underlying71]; rfl) Tryd.underlying3 ?_
    unfold floatToIntVal
    rw [show (FloatKind.f64.decode y).toInt .zero = some (r : Int) from hr]
    have e1 : IntKind.i64.min = -9223372036854775808 := by decide
    have e2 : IntKind.i64.max = 9223372036854775807 := by decide
    simp only [e1, e2]
    rw [if_pos (by omega)]
  clear hr
  go_enter Tryd.func36, Tryd.ntmps36
  go_wp2_with fail
  refine (hcall _).mono ?_; rintro e w1 ⟨rfl, hb1⟩
  go_wp2_with fail
  clear hcv hcall
  have hr3 : (0 : Int) ≤ (r : Int) ∧ (r : Int) ≤ 134217728 := by omega
  generalize (r : Int) = r0 at *
  go_loop [4] (fun x => ∃ i : Int, x = .int .i64 i ∧ 0 ≤ i ∧ i ≤ 134217728) (fun x => (intOf x).toNat)
  case atStart => exact ⟨r0, rfl, hr3.1, hr3.2⟩
  case round =>
    obtain ⟨i, rfl, i0, i1⟩ := hrel
    have ii := mul_bd (a := i) (b := i) (A := 134217728) (B := 134217728) (by omega) (by omega) (by omega) (by omega)
    by_cases hgt : n < i * i
    · have hi1 : 1 ≤ i := by
        rcases Int.lt_or_le i 1 with h | h
        · have : i = 0 := by omega
          subst this
          omega
        · exact h
      go_wp2_with fail
      go_round
      case rel => exact ⟨i - 1, rfl, by omega, by omega⟩
      case measure => simp [intOf]; omega
    · have hle : i * i ≤ n := by omega
      have HLE := Lib.hid hle; clear hle
      go_wp2_with fail
      clear ii hgt
      go_loop [4] (fun x => ∃ j : Int, x = .int .i64 j ∧ 0 ≤ j ∧ Hid (j * j ≤ n)) (fun x => (n - intOf x).toNat)
      case atStart => exact ⟨i, rfl, i0, HLE⟩
      case round =>
        obtain ⟨j, rfl, j0, HJ⟩ := hrel
        have hjb : j ≤ 134217728 := by
          rcases Int.lt_or_le 134217728 j with h | h
          · have h3 := HJ.out
            have h4 : 134217728 * 134217728 ≤ j * j := Int.mul_le_mul (by omega) (by omega) (by omega) (by omega)
            omega
          · exact h
        have jj := mul_bd (a := j + 1) (b := j + 1) (A := 134217729) (B := 134217729) (by omega) (by omega) (by omega) (by omega)
        have jj2 := mul_bd (a := j) (b := j) (A := 134217729) (B := 134217729) (by omega) (by omega) (by omega) (by omega)
        by_cases hle2 : (j + 1) * (j + 1) ≤ n
        · have hlt : j < n := by
            have h3 : (j + 1) * 1 ≤ (j + 1) * (j + 1) := Int.mul_le_mul_of_nonneg_left (by omega) (by omega)
            omega
          go_wp2_with fail
          go_round
          case rel => exact ⟨j + 1, rfl, by omega, hle2⟩
          case measure => simp [intOf]; omega
        · have hjk : j = k := sq_unique j0 k0 HJ.out (by omega) h1 h2
          subst hjk
          clear h2
          have hgt2 : n < (j + 1) * (j + 1) := by omega
          by_cases he : j * j = n
          · have hr : res = .tuple #[.int .i64 j, .bool true] := by rw [← HRES.out, if_pos he]
            have hneb : (j * j != n) = false := by simp [he]
            have HR := Lib.hid hr; clear HRES hr
            go_wp2_with fail
            go_returns
            exact ret_eq (by rw [HR.out]; rfl) hb1
          · have hr : res = .tuple #[.int .i64 0, .bool false] := by rw [← HRES.out, if_neg he]
            have hneb : (j * j != n) = true := by simp [he]
            have HR := Lib.hid hr; clear HRES hr
            go_wp2_with fail
            go_returns
            exact ret_eq (by rw [HR.out]; rfl) hb1
theorem frRoot_any (n k : Int) (w : World) (n0 : 0 ≤ n) (n1 : n < 4000000000000000001) (k0 : 0 ≤ k) (h1 : k * k ≤ n) (h2 : n < (k + 1) * (k + 1)) :
    Calls Tryd.prog 29 #[.int .i64 n] w (Ret (.int .i64 k) w) := by
  have HK1 := Lib.hid h1
  have HK2 := Lib.hid h2
  clear h1 h2
  go_enter Tryd.func29, Tryd.ntmps29
  go_wp2_with fail
  go_loop [3, 4] (fun x y => ∃ lo hi : Int, x = .int .i64 lo ∧ y = .int .i64 hi ∧ 0 ≤ lo ∧ lo < hi ∧ hi ≤ 2000000001 ∧ Hid (lo * lo ≤ n) ∧ Hid (n < hi * hi)) (fun x y => (intOf y - intOf x).toNat)
  case atStart => exact ⟨0, 2000000001, rfl, rfl, by omega, by omega, by omega, by unfold Hid; omega, by unfold Hid; omega⟩
  case round =>
    obtain ⟨lo, hi, rfl, rfl, l0, l1, l2, HL, HH⟩ := hrel
    by_cases hgap : 1 < hi - lo
    · obtain ⟨m, hm⟩ : ∃ m, (lo + hi) / 2 = m := ⟨_, rfl⟩
      have hmb : lo < m ∧ m < hi := by omega
      have hs0 : 0 ≤ lo + hi := by omega
      have mm := mul_bd (a := m) (b := m) (A := 2000000001) (B := 2000000001) (by omega) (by omega) (by omega) (by omega)
      have hmm : m * m = (lo + hi) / 2 * ((lo + hi) / 2) := by rw [hm]
      have mm2 := mm
      rw [hmm] at mm2
      by_cases hle : m * m ≤ n
      · have hle2 := hle
        rw [hmm] at hle2
        clear hm hmm
        go_wp2_with fail
        go_round
        case rel => exact ⟨(lo + hi) / 2, hi, rfl, rfl, by omega, by omega, by omega, hle2, HH⟩
        case measure => simp [intOf]; omega
      · have hle2 := hle
        rw [hmm] at hle2
        clear hm hmm
        go_wp2_with fail
        go_round
        case rel => exact ⟨lo, (lo + hi) / 2, rfl, rfl, by omega, by omega, by omega, HL, by unfold Hid; omega⟩
        case measure => simp [intOf]; omega
    · have he : hi = lo + 1 := by omega
      subst he
      have hk : lo = k := sq_unique l0 k0 HL.out HH.out HK1.out HK2.out
      subst hk
      go_wp2_with fail
      go_ret
      exact ret_eq rfl (by repeat (first | exact Below.refl _ _ | (with_reducible assumption) | refine bel_alloc ?_ _ | refine bel_drew ?_ | refine bel_drewN ?_ _ | refine Below.setCell ?_ (by dsimp only; omega) _ | refine bel_trans (by assumption) ?_))
end Go.Proofs.YtadijbaphfgeiaaDoor
