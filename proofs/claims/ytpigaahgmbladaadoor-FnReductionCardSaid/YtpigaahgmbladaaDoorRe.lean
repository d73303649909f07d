/- Re: the values of the calls of FnReduction, as one package. No conditions. -/
import Derived.Test.YtpigaahgmbladaaDoorRd
namespace Go.Proofs.YtpigaahgmbladaaDoor
open Go.RowKit

/-- what is known where the question is put. -/
structure RY (p : Int) (KS SS : ByteArray) (EX V CN A B X TG : Int) : Prop where
  p5 : p5B p = true
  m1 : ∀ w, Calls Tryd.prog 20 #[.agg #[.int .i64 A, .int .i64 B]] w (Ret (.bool true) w)
  m2 : ∀ w, Calls Tryd.prog 16 #[.agg #[.int .i64 A, .int .i64 B], .int .i64 p] w (Ret (.tuple #[.agg #[.int .i64 A, .int .i64 B], .int .i64 0, .bool true]) w)
  m3 : ∀ w, Calls Tryd.prog 6 #[.agg #[.int .i64 A, .int .i64 B], .int .i64 p] w (Ret (.tuple #[.string KS, .bool true]) w)
  cs : (KS = ⟨#[103, 111, 111, 100]⟩ ∧ SS = ⟨#[73, 48]⟩ ∧ EX = 0 ∧ V = 0 ∧ ∀ w, Calls Tryd.prog 21 #[.agg #[.int .i64 A, .int .i64 B], .int .i64 p] w (Ret (.tuple #[.int .i64 CN, .bool true]) w)) ∨
    (KS = ⟨#[97, 100, 100, 105, 116, 105, 118, 101]⟩ ∧ SS ≠ ⟨#[73, 48]⟩ ∧ EX = 2 ∧ 2 ≤ V ∧ CN = p ∧ A.tmod p = 0 ∧ B.tmod p = 0) ∨
    (SS ≠ ⟨#[73, 48]⟩ ∧ EX = 1 ∧ 1 ≤ V ∧ 0 ≤ X ∧ X < p ∧ ((X * X).tmod p + A).tmod p * X + B = ((X * X).tmod p + A).tmod p * X + B ∧ (((X * X).tmod p + A).tmod p * X + B).tmod p = 0 ∧ (3 * (X * X).tmod p + A).tmod p = 0 ∧ (-1000 ≤ A ∧ A ≤ 1000 ∧ -10000 ≤ B ∧ B ≤ 10000) ∧
      ((KS = ⟨#[115, 112, 108, 105, 116]⟩ ∧ ∀ w, Calls Tryd.prog 22 #[.int .i64 TG, .int .i64 p] w (Ret (.tuple #[.int .i64 1, .bool true]) w)) ∨
       (KS = ⟨#[110, 111, 110, 115, 112, 108, 105, 116]⟩ ∧ ∀ w, Calls Tryd.prog 22 #[.int .i64 TG, .int .i64 p] w (Ret (.tuple #[.int .i64 (-1), .bool true]) w))))
structure RF (a b p : Int) (ok NB : Bool) (KS SS : ByteArray) (EX V CN A B T X TG : Int) : Prop where
  k0 : ∀ w, Calls Tryd.prog 6 #[.agg #[.int .i64 a, .int .i64 b], .int .i64 p] w (Ret (.tuple #[.string KS, .bool ok]) w)
  k1 : ∀ w, Calls Tryd.prog 7 #[.agg #[.int .i64 a, .int .i64 b], .int .i64 p] w (Ret (.tuple #[.string KS, .bool ok]) w)
  k2 : ∀ w, Calls Tryd.prog 8 #[.agg #[.int .i64 a, .int .i64 b], .int .i64 p] w (Ret (.tuple #[.string SS, .bool ok]) w)
  k3 : ∀ w, Calls Tryd.prog 9 #[.agg #[.int .i64 a, .int .i64 b], .int .i64 p] w (Ret (.tuple #[.string SS, .bool ok]) w)
  k4 : ∀ w, Calls Tryd.prog 10 #[.agg #[.int .i64 a, .int .i64 b], .int .i64 p] w (Ret (.tuple #[.int .i64 EX, .bool ok]) w)
  k5 : ∀ w, Calls Tryd.prog 11 #[.agg #[.int .i64 a, .int .i64 b], .int .i64 p] w (Ret (.tuple #[.int .i64 EX, .bool ok]) w)
  k6 : ∀ w, Calls Tryd.prog 12 #[.agg #[.int .i64 a, .int .i64 b], .int .i64 p] w (Ret (.tuple #[.int .i64 V, .bool ok]) w)
  k7 : ∀ w, Calls Tryd.prog 13 #[.agg #[.int .i64 a, .int .i64 b], .int .i64 p] w (Ret (.tuple #[.int .i64 V, .bool ok]) w)
  k8 : ∀ w, Calls Tryd.prog 14 #[.agg #[.int .i64 a, .int .i64 b], .int .i64 p] w (Ret (.tuple #[.int .i64 CN, .bool ok]) w)
  k9 : ∀ w, Calls Tryd.prog 15 #[.agg #[.int .i64 a, .int .i64 b], .int .i64 p] w (Ret (.tuple #[.int .i64 CN, .bool ok]) w)
  k10 : ∀ w, Calls Tryd.prog 16 #[.agg #[.int .i64 a, .int .i64 b], .int .i64 p] w (Ret (.tuple #[.agg #[.int .i64 A, .int .i64 B], .int .i64 T, .bool ok]) w)
  k11 : ∀ w, Calls Tryd.prog 17 #[.agg #[.int .i64 a, .int .i64 b], .int .i64 p] w (Ret (.tuple #[.agg #[.int .i64 A, .int .i64 B], .int .i64 T, .bool ok]) w)
  k12 : ∀ w, Calls Tryd.prog 18 #[.agg #[.int .i64 a, .int .i64 b], .int .i64 p] w (Ret (.tuple #[.int .i64 X, .int .i64 TG, .bool NB]) w)
  k13 : ∀ w, Calls Tryd.prog 19 #[.agg #[.int .i64 a, .int .i64 b], .int .i64 p] w (Ret (.tuple #[.int .i64 X, .int .i64 TG, .bool NB]) w)
  hN : NB = (ok && (EX == 1))
  yes : ok = true → RY p KS SS EX V CN A B X TG
set_option maxHeartbeats 2000000 in
theorem rfacts (a b p : Int) : ∃ ok NB KS SS EX V CN A B T X TG, RF a b p ok NB KS SS EX V CN A B T X TG := by
  have k0 := fun w => iReductionKind_any a b p w
  have k1 := fun w => sReductionKind_any a b p w
  have k2 := fun w => iReductionSymbol_any a b p w
  have k3 := fun w => sReductionSymbol_any a b p w
  have k4 := fun w => iConductorExponent_any a b p w
  have k5 := fun w => sConductorExponent_any a b p w
  have k6 := fun w => iDiscriminantValuation_any a b p w
  have k7 := fun w => sDiscriminantValuation_any a b p w
  have k8 := fun w => iNonsingularCount_any a b p w
  have k9 := fun w => sNonsingularCount_any a b p w
  have k10 := fun w => iMinimalAt_any a b p w
  have k11 := fun w => sMinimalAt_any a b p w
  have k12 := fun w => iNodeAt_any a b p w
  have k13 := fun w => sNodeAt_any a b p w
  simp only [rsV] at k2 k3
  cases hok : (curveB a b && p5B p)
  · rw [hok] at k0 k1 k2 k3 k4 k5 k6 k7 k8 k9 k10 k11 k12 k13
    simp only [cond_false] at k0 k1 k2 k3 k4 k5 k6 k7 k8 k9 k10 k11 k12 k13
    exact ⟨false, false, _, _, _, _, _, _, _, _, _, _, k0, k1, k2, k3, k4, k5, k6, k7, k8, k9, k10, k11, k12, k13, rfl, fun h => by cases h⟩
  · rw [hok] at k0 k1 k2 k3 k4 k5 k6 k7 k8 k9 k10 k11 k12 k13
    simp only [cond_true] at k0 k1 k2 k3 k4 k5 k6 k7 k8 k9 k10 k11 k12 k13
    have hcp := hok
    rw [Bool.and_eq_true] at hcp
    obtain ⟨hcur, hpr⟩ := hcp
    have hpb := p5_bd hpr
    have hmc := min_curve (p := p) hcur
    obtain ⟨_, _, hD⟩ := min_disc (p := p) hcur
    obtain ⟨hma, hmn⟩ := min_again a b p
    obtain ⟨v0, v1, v2⟩ := val_kind hpr hD
    have m1 := fun w => iIsCurve_any (minA a b p) b w
    rw [hmc] at m1
    have m2 := fun w => iMinimalAt_any (minA a b p) b p w
    rw [hmc, hpr, hma, hmn] at m2
    simp only [Bool.and_self, cond_true] at m2
    have m3 := fun w => iReductionKind_any (minA a b p) b p w
    rw [hmc, hpr, hma] at m3
    simp only [Bool.and_self, cond_true] at m3
    have hk := kind_cases (minA a b p) b p
    rcases hk with hk | hk | hk | hk
    · have hV := v0 hk
      have m4 := fun w => iCountPoints_any (minA a b p) b p w (by unfold I64; omega)
      rw [show cpB (minA a b p) b p = true by unfold cpB; rw [hmc, kind_good hpr hk]; rfl] at m4
      simp only [cond_true] at m4
      rw [hk] at k0 k1 k2 k3 k4 k5 k8 k9 k12 k13 m3
      rw [hV] at k2 k3 k6 k7
      simp only [Int.toNat_zero, sym_zero] at k2 k3
      simp only [kindV_0, expK, nsK, nodeT, Nat.ble, cond_false] at k0 k1 k4 k5 k8 k9 k12 k13 m3
      exact ⟨true, false, _, _, _, _, _, _, _, _, _, _, k0, k1, k2, k3, k4, k5, k6, k7, k8, k9, k10, k11, k12, k13, rfl, fun _ => ⟨hpr, m1, m2, m3, .inl ⟨rfl, rfl, rfl, rfl, m4⟩⟩⟩
    · obtain ⟨hdz, hAz⟩ := kind_facts hpr (by rw [hk]; decide)
      have hS := sym_not (A := minA a b p) (B := b) (p := p) (k := kindN (minA a b p) b p) (n := (valP (discI (minA a b p) b) p).toNat) (by rw [hk]; decide) (by have := v2 hk; omega)
      have hV2 := v2 hk
      have hA0 := hAz.1 hk
      have hB0 := add_B hpr hdz hA0
      rw [hk] at k0 k1 k4 k5 k8 k9 k12 k13 m3
      simp only [kindV_1, expK, nsK, nodeT, Nat.ble, cond_false] at k0 k1 k4 k5 k8 k9 k12 k13 m3
      exact ⟨true, false, _, _, _, _, _, _, _, _, _, _, k0, k1, k2, k3, k4, k5, k6, k7, k8, k9, k10, k11, k12, k13, rfl, fun _ => ⟨hpr, m1, m2, m3, .inr (.inl ⟨rfl, hS, rfl, hV2, rfl, tmod_of_dvd (Int.dvd_of_emod_eq_zero hA0), tmod_of_dvd (Int.dvd_of_emod_eq_zero hB0)⟩)⟩⟩
    · obtain ⟨hdz, hAz⟩ := kind_facts hpr (by rw [hk]; decide)
      have hV := v1 (by rw [hk]; decide)
      have hS := sym_not (A := minA a b p) (B := b) (p := p) (k := kindN (minA a b p) b p) (n := (valP (discI (minA a b p) b) p).toNat) (by rw [hk]; decide) (by omega)
      have hA0 : minA a b p % p ≠ 0 := fun h => by have := hAz.2 h; omega
      obtain ⟨r1, r2⟩ := node_rem hpr hdz hA0
      have nb := node_bd (A := minA a b p) (B := b) (p := p) (by omega)
      have sy : symI (3 * nodeI (minA a b p) b p) p = 1 := by
        have hk2 := hk
        unfold kindN at hk2
        rw [if_neg (by omega), if_neg hA0] at hk2
        split at hk2
        · assumption
        · rename_i hns
          omega
      have tb0 := Int.emod_nonneg (3 * nodeI (minA a b p) b p) (show p ≠ 0 by omega)
      have tb1 := Int.emod_lt_of_pos (3 * nodeI (minA a b p) b p) (show (0 : Int) < p by omega)
      have m5 := fun w => squareSymbol_any (3 * nodeI (minA a b p) b p % p) p w hpr tb0 tb1
      rw [sym_mod, sy] at m5
      obtain ⟨a0, a1, b0, b1, _⟩ := curveB_true.1 hmc
      rw [hk] at k0 k1 k4 k5 k8 k9 k12 k13 m3
      simp only [kindV_2, expK, nsK, nodeT, Nat.ble, cond_true] at k0 k1 k4 k5 k8 k9 k12 k13 m3
      exact ⟨true, true, _, _, _, _, _, _, _, _, _, _, k0, k1, k2, k3, k4, k5, k6, k7, k8, k9, k10, k11, k12, k13, rfl, fun _ => ⟨hpr, m1, m2, m3, .inr (.inr ⟨hS, rfl, hV, nb.1, nb.2, rfl, r1, r2, ⟨a0, a1, b0, b1⟩, .inl ⟨rfl, m5⟩⟩)⟩⟩
    · obtain ⟨hdz, hAz⟩ := kind_facts hpr (by rw [hk]; decide)
      have hV := v1 (by rw [hk]; decide)
      have hS := sym_not (A := minA a b p) (B := b) (p := p) (k := kindN (minA a b p) b p) (n := (valP (discI (minA a b p) b) p).toNat) (by rw [hk]; decide) (by omega)
      have hA0 : minA a b p % p ≠ 0 := fun h => by have := hAz.2 h; omega
      obtain ⟨r1, r2⟩ := node_rem hpr hdz hA0
      have nb := node_bd (A := minA a b p) (B := b) (p := p) (by omega)
      have sy : symI (3 * nodeI (minA a b p) b p) p = -1 := by
        have hk2 := hk
        unfold kindN at hk2
        rw [if_neg (by omega), if_neg hA0] at hk2
        split at hk2
        · omega
        · rename_i hns
          exact (sym_two hpr hdz hA0).resolve_left hns
      have tb0 := Int.emod_nonneg (3 * nodeI (minA a b p) b p) (show p ≠ 0 by omega)
      have tb1 := Int.emod_lt_of_pos (3 * nodeI (minA a b p) b p) (show (0 : Int) < p by omega)
      have m5 := fun w => squareSymbol_any (3 * nodeI (minA a b p) b p % p) p w hpr tb0 tb1
      rw [sym_mod, sy] at m5
      obtain ⟨a0, a1, b0, b1, _⟩ := curveB_true.1 hmc
      rw [hk] at k0 k1 k4 k5 k8 k9 k12 k13 m3
      simp only [kindV_3, expK, nsK, nodeT, Nat.ble, cond_true] at k0 k1 k4 k5 k8 k9 k12 k13 m3
      exact ⟨true, true, _, _, _, _, _, _, _, _, _, _, k0, k1, k2, k3, k4, k5, k6, k7, k8, k9, k10, k11, k12, k13, rfl, fun _ => ⟨hpr, m1, m2, m3, .inr (.inr ⟨hS, rfl, hV, nb.1, nb.2, rfl, r1, r2, ⟨a0, a1, b0, b1⟩, .inr ⟨rfl, m5⟩⟩)⟩⟩
end Go.Proofs.YtpigaahgmbladaaDoor
