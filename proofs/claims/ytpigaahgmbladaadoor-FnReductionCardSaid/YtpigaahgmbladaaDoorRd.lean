/- Rd: facts of the law on reduction: the node, the symbol, minimal models. No conditions. -/
import Derived.Test.YtpigaahgmbladaaDoorEc
import Derived.Test.YtpigaahgmbladaaDoorKj
import Derived.Test.YtpigaahgmbladaaDoorSyl
import Derived.Test.YtpigaahgmbladaaDoorPa
namespace Go.Proofs.YtpigaahgmbladaaDoor
open Go.RowKit

theorem node_two {A B p : Int} (hp : p5B p = true) (hA : A % p ≠ 0) : p ∣ 2 * A * nodeI A B p + 3 * B := by
  have hb := p5_bd hp
  have hpr := p5_pr hp
  have ho := pr_odd hpr hb.1
  have hA' : ¬ p ∣ A := fun h => hA (Int.emod_eq_zero_of_dvd h)
  have h2 : ¬ p ∣ 2 * A := fun h => by
    rcases pr_dvd_mul hpr h with h | h
    · exact not_dvd_small hb.1 (by decide) (by decide) h
    · exact hA' h
  have h3 := inv_mul hp h2
  have e : (2 * A * nodeI A B p) % p = (-3 * B) % p := by
    unfold nodeI
    generalize powI (2 * A) (p - 2) p = i at *
    rw [mul_emod_r, show 2 * A * ((-3 * B) % p * i) = (-3 * B) % p * (2 * A * i) by grind, mul_emod_l, Int.mul_emod, h3, Int.mul_one, Int.emod_emod]
  have h4 : (2 * A * nodeI A B p + 3 * B) % p = 0 := by
    rw [Int.add_emod, e, ← Int.add_emod, show -3 * B + 3 * B = 0 by omega, Int.zero_emod]
  exact Int.dvd_of_emod_eq_zero h4
theorem node_slope {A B p : Int} (hp : p5B p = true) (hd : discI A B % p = 0) (hA : A % p ≠ 0) : p ∣ 3 * (nodeI A B p * nodeI A B p) + A ∧ p ∣ nodeI A B p * nodeI A B p * nodeI A B p + A * nodeI A B p + B := by
  have hb := p5_bd hp
  have hpr := p5_pr hp
  have hA' : ¬ p ∣ A := fun h => hA (Int.emod_eq_zero_of_dvd h)
  have h1 := node_two (B := B) hp hA
  have h2 : p ∣ 4 * A * A * A + 27 * B * B := Int.dvd_of_emod_eq_zero (by unfold discI at hd; exact hd)
  generalize nodeI A B p = x at *
  have h4 : ¬ p ∣ 4 := not_dvd_small hb.1 (by decide) (by decide)
  have hAA : ¬ p ∣ A * A := fun h => by rcases pr_dvd_mul hpr h with h | h <;> exact hA' h
  have h4A : ¬ p ∣ 4 * (A * A) := fun h => by
    rcases pr_dvd_mul hpr h with h | h
    · exact h4 h
    · exact hAA h
  have h8A : ¬ p ∣ 2 * (4 * (A * A)) * A := fun h => by
    rcases pr_dvd_mul hpr h with h | h
    · rcases pr_dvd_mul hpr h with h | h
      · exact not_dvd_small hb.1 (by decide) (by decide) h
      · exact h4A h
    · exact hA' h
  obtain ⟨u, hu⟩ := h1
  obtain ⟨v, hv⟩ := h2
  constructor
  · refine (pr_dvd_mul hpr (?_ : p ∣ 4 * (A * A) * (3 * (x * x) + A))).resolve_left h4A
    refine ⟨u * (6 * A * x - 9 * B) + v, ?_⟩
    clear h4 hAA h4A h8A hA' hA hd hb hpr hp
    grind
  · refine (pr_dvd_mul hpr (?_ : p ∣ 2 * (4 * (A * A)) * A * (x * x * x + A * x + B))).resolve_left h8A
    refine ⟨u * ((2 * A * x) * (2 * A * x) - 3 * B * (2 * A * x) + 9 * B * B + 4 * A * A * A) - v * B, ?_⟩
    clear h4 hAA h4A h8A hA' hA hd hb hpr hp
    grind
theorem tmod_of_dvd {p x : Int} (h : p ∣ x) : x.tmod p = 0 := Int.tmod_eq_zero_of_dvd h
/-- the remainders of the law. -/
theorem node_rem {A B p : Int} (hp : p5B p = true) (hd : discI A B % p = 0) (hA : A % p ≠ 0) :
    (((nodeI A B p * nodeI A B p).tmod p + A).tmod p * nodeI A B p + B).tmod p = 0 ∧ (3 * (nodeI A B p * nodeI A B p).tmod p + A).tmod p = 0 := by
  obtain ⟨h1, h2⟩ := node_slope hp hd hA
  generalize nodeI A B p = x at *
  have e : ∀ y : Int, ∃ k, y.tmod p = y - p * k := fun y => ⟨y.tdiv p, by have := Int.mul_tdiv_add_tmod y p; omega⟩
  obtain ⟨k1, e1⟩ := e (x * x)
  constructor
  · obtain ⟨k2, e2⟩ := e ((x * x).tmod p + A)
    apply tmod_of_dvd
    rw [e2, e1]
    obtain ⟨c, hc⟩ := h2
    refine ⟨c - k1 * x - k2 * x, ?_⟩
    clear e1 e2 h1 hd hA hp e
    grind
  · apply tmod_of_dvd
    rw [e1]
    obtain ⟨c, hc⟩ := h1
    refine ⟨c - 3 * k1, ?_⟩
    clear e1 h2 hd hA hp e
    grind
theorem kind_facts {A B p : Int} (_hp : p5B p = true) (h : kindN A B p ≠ 0) : discI A B % p = 0 ∧ (kindN A B p = 1 ↔ A % p = 0) := by
  unfold kindN at h ⊢
  split at h
  · exact absurd rfl h
  · rename_i hd
    have hd' : discI A B % p = 0 := by omega
    refine ⟨hd', ?_⟩
    rw [if_neg hd]
    constructor
    · intro h2
      split at h2
      · assumption
      · split at h2 <;> omega
    · intro h2
      rw [if_pos h2]
theorem min_again (a b p : Int) : minA (minA a b p) b p = minA a b p ∧ minN (minA a b p) b p = 0 := by
  have hb : bigB (minA a b p) b p = false := by
    unfold minA
    cases h : bigB a b p
    · exact h
    · obtain ⟨rfl, rfl, rfl | rfl⟩ := big_true.1 h
      · rfl
      · rfl
  constructor
  · show (bif bigB (minA a b p) b p then (minA a b p).tdiv 625 else minA a b p) = _
    rw [hb]
    rfl
  · show (bif bigB (minA a b p) b p then 1 else 0 : Int) = _
    rw [hb]
    rfl
theorem val_one {D p : Int} (hp : 2 ≤ p) (hD : D ≠ 0) (h : D % p = 0) : 1 ≤ valP D p := by
  obtain ⟨c, rfl⟩ := Int.dvd_of_emod_eq_zero h
  have hc : c ≠ 0 := fun e => hD (by rw [e, Int.mul_zero])
  rw [valP_mul_self hp hc]
  have := valP_nonneg c p
  omega
theorem val_two {D p : Int} (hp : 2 ≤ p) (hD : D ≠ 0) (h : p * p ∣ D) : 2 ≤ valP D p := by
  obtain ⟨c, rfl⟩ := h
  have hc : c ≠ 0 := fun e => hD (by rw [e, Int.mul_zero])
  have hpc : p * c ≠ 0 := Int.mul_ne_zero (by omega) hc
  rw [Int.mul_assoc, valP_mul_self hp hpc, valP_mul_self hp hc]
  have := valP_nonneg c p
  omega
/-- the valuation by the kind. -/
theorem val_kind {A B p : Int} (hp : p5B p = true) (hD : discI A B ≠ 0) : (kindN A B p = 0 → valP (discI A B) p = 0) ∧ (kindN A B p ≠ 0 → 1 ≤ valP (discI A B) p) ∧ (kindN A B p = 1 → 2 ≤ valP (discI A B) p) := by
  have hb := p5_bd hp
  refine ⟨fun h => ?_, fun h => val_one (by omega) hD (kind_facts hp h).1, fun h => ?_⟩
  · have : discI A B % p ≠ 0 := by
      unfold kindN at h
      split at h
      · assumption
      · split at h
        · omega
        · split at h <;> omega
    exact valP_not (fun hd => this (Int.emod_eq_zero_of_dvd hd))
  · have hk : kindN A B p ≠ 0 := by omega
    obtain ⟨hd, hA⟩ := kind_facts hp hk
    have hA := hA.1 h
    have hB := add_B hp hd hA
    obtain ⟨x, rfl⟩ := Int.dvd_of_emod_eq_zero hA
    obtain ⟨y, rfl⟩ := Int.dvd_of_emod_eq_zero hB
    refine val_two (by omega) hD ⟨4 * p * x * x * x + 27 * y * y, ?_⟩
    unfold discI
    clear h hd hA hB hk hb hp hD
    grind
theorem sym_zero (A B p : Int) : symS A B p 0 0 = ⟨#[73, 48]⟩ := by
  unfold symS
  rw [if_neg (by decide), numS_dig (by decide)]
  rfl
theorem sym_not {A B p : Int} {k n : Nat} (_hk : k ≠ 0) (hn : 1 ≤ n) : symS A B p k n ≠ ⟨#[73, 48]⟩ := by
  have hnum : ∀ m, 1 ≤ m → (⟨#[73]⟩ ++ numS m : ByteArray) ≠ ⟨#[73, 48]⟩ := fun m hm e => by
    have e1 : (⟨#[73]⟩ ++ numS m : ByteArray).data.toList = [73, 48] := by rw [e]
    have e2 : (⟨#[73]⟩ ++ numS m : ByteArray).data.toList = 73 :: Lib.decDigits m := by unfold numS; simp
    rw [e2] at e1
    have := dec_head m (by rw [(List.cons.inj e1).2]; rfl)
    omega
  unfold symS
  by_cases h1 : k = 1
  · rw [if_pos h1]
    split
    · rename_i hs
      intro e
      have e1 : (⟨#[73]⟩ ++ numS (n - 6) ++ ⟨#[42]⟩ : ByteArray).data.toList = [73, 48] := by rw [e]
      have e2 : (⟨#[73]⟩ ++ numS (n - 6) ++ ⟨#[42]⟩ : ByteArray).data.toList = (73 :: Lib.decDigits (n - 6)) ++ [42] := by unfold numS; simp
      rw [e2] at e1
      have e3 : ((73 :: Lib.decDigits (n - 6)) ++ [42]).getLast? = some 48 := by rw [e1]; rfl
      rw [List.getLast?_concat] at e3
      cases e3
    · unfold addS
      repeat' split
      all_goals exact fun e => by cases e
  · rw [if_neg h1]
    exact hnum n hn
theorem str_neR {a b : ByteArray} (h : a ≠ b) : (a.toList == b.toList) = false := by
  rw [beq_eq_false_iff_ne, Lib.toList_data, Lib.toList_data]
  intro e
  apply h
  apply ByteArray.ext
  exact Array.toList_inj.1 e
theorem sym_mod (x p : Int) : symI (x % p) p = symI x p := by
  have e : powI (x % p) ((p - 1) / 2) p = powI x ((p - 1) / 2) p := by unfold powI; rw [Int.emod_emod]
  unfold symI
  rw [e]
theorem tmod_small_bd {x p : Int} (hp : 0 < p) : -p < x.tmod p ∧ x.tmod p < p := by
  have h1 := Int.natAbs_tmod x p
  have h2 : x.natAbs % p.natAbs < p.natAbs := Nat.mod_lt _ (by omega)
  omega
/-- no sum of the law's remainders is too great. -/
theorem node_wraps {A B X p : Int} (h5 : 5 ≤ p) (h9 : p ≤ 997) (x0 : 0 ≤ X) (x1 : X < p) (a0 : -1000 ≤ A) (a1 : A ≤ 1000) (b0 : -10000 ≤ B) (b1 : B ≤ 10000) :
    IntKind.i64.wrap (X * X) = X * X ∧ IntKind.i64.wrap ((X * X).tmod p + A) = (X * X).tmod p + A ∧ IntKind.i64.wrap (((X * X).tmod p + A).tmod p * X) = ((X * X).tmod p + A).tmod p * X ∧
    IntKind.i64.wrap (((X * X).tmod p + A).tmod p * X + B) = ((X * X).tmod p + A).tmod p * X + B ∧ IntKind.i64.wrap (3 * (X * X).tmod p) = 3 * (X * X).tmod p ∧ IntKind.i64.wrap (3 * (X * X).tmod p + A) = 3 * (X * X).tmod p + A := by
  have xx := mul_bd (A := 997) (B := 997) (show (-997 : Int) ≤ X by omega) (by omega) (show (-997 : Int) ≤ X by omega) (by omega)
  have q1 := tmod_small_bd (x := X * X) (p := p) (by omega)
  have q2 := tmod_small_bd (x := (X * X).tmod p + A) (p := p) (by omega)
  have qx := mul_bd (A := 997) (B := 997) (show (-997 : Int) ≤ ((X * X).tmod p + A).tmod p by omega) (by omega) (show (-997 : Int) ≤ X by omega) (by omega)
  refine ⟨i64_wrap (by omega) (by omega), i64_wrap (by omega) (by omega), i64_wrap (by omega) (by omega), i64_wrap (by omega) (by omega), i64_wrap (by omega) (by omega), i64_wrap (by omega) (by omega)⟩
theorem squareSymbol_any (a p : Int) (w : World) (hp : p5B p = true) (h0 : 0 ≤ a) (h1 : a < p) :
    Calls Tryd.prog 22 #[.int .i64 a, .int .i64 p] w (Ret (.tuple #[.int .i64 (symI a p), .bool true]) w) := by
  have hb := p5_bd hp
  have hpr : primeB p = true := by unfold p5B at hp; rw [Bool.and_eq_true] at hp; exact hp.2
  have i1 : inB p 2 997 = true := inB_true.2 ⟨by omega, by omega⟩
  have i2 : inB a (-1000000000000) 1000000000000 = true := inB_true.2 ⟨by omega, by omega⟩
  have hfit : ∀ w, Calls Tryd.prog 61 #[.int .i64 a, .int .i64 p] w (Ret (.bool true) w) := fun w => by
    have hq := fun w => isPrime_any p w (by omega) (by omega)
    rw [hpr] at hq
    have j1 := fun w => inside_any p 2 997 w
    rw [i1] at j1
    have j2 := fun w => inside_any a (-1000000000000) 1000000000000 w
    rw [i2] at j2
    have J1 := Lib.hid j1; have J2 := Lib.hid j2; have HQ := Lib.hid hq
    clear j1 j2 hq i1 i2 hpr hp
    go_enter Tryd.func61, Tryd.ntmps61
    go_wp2_with fail
    refine (J1.out _).mono ?_; rintro e w' ⟨rfl, rfl⟩
    go_wp2_with (go_at_call 79; refine (HQ.out _).mono ?_; rintro e w' ⟨rfl, hb⟩; (try replace hb := aft2 hb (by assumption)); obtain ⟨hc, hf, hs1, hs2, hs3, hs4⟩ := aftz hb)
    refine (J2.out _).mono ?_; rintro e w' ⟨rfl, rfl⟩
    go_wp2_with fail
    go_ret
    exact ret_eq (by rfl) (by repeat (first | exact Below.refl _ _ | (with_reducible assumption) | refine bel_alloc ?_ _ | refine bel_drew ?_ | refine bel_drewN ?_ _ | refine Below.setCell ?_ (by dsimp only; omega) _ | refine bel_trans (by assumption) ?_))
  have hp2 : (p == 2) = false := by simp; omega
  have hs := fun w => symbol_any a p w hp
  have HS := Lib.hid hs; have HF := Lib.hid hfit
  clear hs hfit i1 i2 hpr hp
  generalize symI a p = r at *
  go_enter Tryd.func22, Tryd.ntmps22
  go_wp2_with (first | (go_at_call 61; refine (HF.out _).mono ?_; rintro e w' ⟨rfl, hb⟩; (try replace hb := aft2 hb (by assumption)); obtain ⟨hc, hf, hs1, hs2, hs3, hs4⟩ := aftz hb) | (go_at_call 62; refine (HS.out _).mono ?_; rintro e w' ⟨rfl, hb⟩; (try replace hb := aft2 hb (by assumption)); obtain ⟨hc, hf, hs1, hs2, hs3, hs4⟩ := aftz hb))
  refine bodyPost_ret (by simp (maxDischargeDepth := 3) [results, Tryd.results22, go_sem, *]; try rfl) rfl ?_
  exact ret_eq (by rfl) (by repeat (first | exact Below.refl _ _ | (with_reducible assumption) | refine bel_alloc ?_ _ | refine bel_drew ?_ | refine bel_drewN ?_ _ | refine Below.setCell ?_ (by dsimp only; omega) _ | refine bel_trans (by assumption) ?_))
theorem iIsCurve_any (a b : Int) (w : World) :
    Calls Tryd.prog 20 #[.agg #[.int .i64 a, .int .i64 b]] w (Ret (.bool (curveB a b)) w) := by
  go_enter Tryd.func20, Tryd.ntmps20
  go_wp2_with (go_at_call 40; refine (isCurve_any _ _ _).mono ?_; rintro e w' ⟨rfl, hb⟩; (try replace hb := aft2 hb (by assumption)); obtain ⟨hc, hf, hs1, hs2, hs3, hs4⟩ := aftz hb)
  go_ret
  exact ret_eq (by rfl) (by repeat (first | exact Below.refl _ _ | (with_reducible assumption) | refine bel_alloc ?_ _ | refine bel_drew ?_ | refine bel_drewN ?_ _ | refine Below.setCell ?_ (by dsimp only; omega) _ | refine bel_trans (by assumption) ?_))
end Go.Proofs.YtpigaahgmbladaaDoor
