/- Bk: the values of the calls of FnBadPrimes, as packages. No conditions. -/
import Derived.Test.YtpjcfnjagknocaaDoorBq
import Derived.Test.YtpjcfnjagknocaaDoorIs
import Derived.Test.YtpjcfnjagknocaaDoorRt
import Derived.Test.YtpjcfnjagknocaaDoorLq
namespace Go.Proofs.YtpjcfnjagknocaaDoor
open Go.RowKit

/-- the product of the powers of primes in the conductor. -/
def prE (E : Int → Int) : List Int → Int
  | [] => 1
  | p :: l => (if E p = 2 then p * p else p) * prE E l
structure BY (a b : Int) (XS BS : List Int) (N : Int) (sm : Bool) (E : Int → Int) : Prop where
  b0 : ∀ w, Calls Tryd.prog 18 #[.agg #[.int .i64 a, .int .i64 b]] w (RetSlB BS true w)
  b1 : ∀ w, Calls Tryd.prog 19 #[.agg #[.int .i64 a, .int .i64 b]] w (RetSlB BS true w)
  sub : ∀ p ∈ XS, p ∈ BS
  inc : Inc XS
  bd : ∀ p ∈ XS, 5 ≤ p ∧ p ≤ 997 ∧ (E p = 1 ∨ E p = 2)
  e0 : ∀ p ∈ XS, ∀ w, Calls Tryd.prog 20 #[.agg #[.int .i64 a, .int .i64 b], .int .i64 p] w (Ret (.tuple #[.int .i64 (E p), .bool true]) w)
  e1 : ∀ p ∈ XS, ∀ w, Calls Tryd.prog 22 #[.agg #[.int .i64 a, .int .i64 b], .int .i64 p] w (Ret (.tuple #[.int .i64 (E p), .bool true]) w)
  hN : N = prE E XS
  n0 : 1 ≤ N
  n1 : N ≤ 6700000000
  sem : sm = !(XS.any fun p => E p == 2)
structure BK (a b : Int) (ok : Bool) (XS : List Int) (N : Int) (sm : Bool) (T : ByteArray) : Prop where
  k0 : ∀ w, Calls Tryd.prog 5 #[.agg #[.int .i64 a, .int .i64 b]] w (RetSlB XS ok w)
  k1 : ∀ w, Calls Tryd.prog 6 #[.agg #[.int .i64 a, .int .i64 b]] w (RetSlB XS ok w)
  k2 : ∀ w, Calls Tryd.prog 7 #[.agg #[.int .i64 a, .int .i64 b]] w (Ret (.tuple #[.int .i64 N, .bool ok]) w)
  k3 : ∀ w, Calls Tryd.prog 8 #[.agg #[.int .i64 a, .int .i64 b]] w (Ret (.tuple #[.int .i64 N, .bool ok]) w)
  k4 : ∀ w, Calls Tryd.prog 9 #[.agg #[.int .i64 a, .int .i64 b]] w (Ret (.tuple #[.bool sm, .bool ok]) w)
  k5 : ∀ w, Calls Tryd.prog 10 #[.agg #[.int .i64 a, .int .i64 b]] w (Ret (.tuple #[.bool sm, .bool ok]) w)
  k6 : ∀ w, PowT w → Calls Tryd.prog 11 #[.agg #[.int .i64 a, .int .i64 b]] w (Ret (.tuple #[.string T, .bool ok]) w)
  k7 : ∀ w, Calls Tryd.prog 12 #[.agg #[.int .i64 a, .int .i64 b]] w (Ret (.tuple #[.string T, .bool ok]) w)
  len : XS.length ≤ 1000
  yes : ok = true → ∃ BS E, BY a b XS BS N sm E
theorem expK_two {k : Nat} (h : k = 1 ∨ k = 2 ∨ k = 3) : (expK k = 1 ∨ expK k = 2) ∧ (expK k = 2 ↔ k = 1) := by
  rcases h with rfl | rfl | rfl <;> simp [expK]
theorem cprod_prE {a b : Int} : ∀ {l : List Int}, (∀ p ∈ l, kindN (minA a b p) b p ≠ 0) → cprod a b l = prE (fun p => expK (kindN (minA a b p) b p)) l
  | [], _ => rfl
  | p :: l, h => by
    have ih := cprod_prE (l := l) (fun x hx => h x (List.mem_cons_of_mem _ hx))
    have hk := h p (List.mem_cons_self ..)
    have hc : kindN (minA a b p) b p = 1 ∨ kindN (minA a b p) b p = 2 ∨ kindN (minA a b p) b p = 3 := by
      rcases kind_cases (minA a b p) b p with h | h | h | h
      · exact absurd h hk
      · exact .inl h
      · exact .inr (.inl h)
      · exact .inr (.inr h)
    obtain ⟨_, h2⟩ := expK_two hc
    show cpw a b p * cprod a b l = (if expK (kindN (minA a b p) b p) = 2 then p * p else p) * prE _ l
    rw [ih]
    unfold cpw
    by_cases h1 : kindN (minA a b p) b p = 1
    · rw [if_pos h1, if_pos (h2.2 h1)]
    · rw [if_neg h1, if_neg (fun k => h1 (h2.1 k))]
theorem bfacts (a b : Int) : ∃ ok XS N sm T, BK a b ok XS N sm T := by
  have k0 := fun w => iBadFromFive_any a b w
  have k1 := fun w => sBadFromFive_any a b w
  have k2 := fun w => iConductorPart_any a b w
  have k3 := fun w => sConductorPart_any a b w
  have k4 := fun w => iIsSemistableFromFive_any a b w
  have k5 := fun w => sIsSemistableFromFive_any a b w
  have k6 := fun w => iReductionText_any a b w
  have k7 := fun w => sReductionText_any a b w
  have hbb : bbOk a b = (curveB a b && bfOk a b) := rfl
  cases hcur : curveB a b
  · rw [hcur, Bool.false_and] at hbb
    unfold bbX at k0 k1
    rw [hbb, hcur] at k0 k1
    rw [hbb] at k2 k3
    rw [hcur] at k4 k5
    unfold rtV at k6 k7
    rw [if_neg (by rw [hcur]; decide)] at k6 k7
    simp only [Bool.false_and] at k4 k5
    exact ⟨false, [], _, _, _, k0, k1, k2, k3, k4, k5, k6, k7, by simp, fun h => by cases h⟩
  · have hlen := bfX_len a b hcur
    rw [hcur, Bool.true_and] at hbb
    unfold bbX at k0 k1
    rw [hbb, hcur, cond_true] at k0 k1
    rw [hbb] at k2 k3
    rw [hcur] at k4 k5
    simp only [Bool.true_and] at k4 k5
    unfold rtV at k6 k7
    rw [if_pos hcur] at k6 k7
    refine ⟨bfOk a b, _, _, _, _, k0, k1, k2, k3, k4, k5, k6, k7, hlen, fun hok => ?_⟩
    obtain ⟨c1, c2, c3⟩ := cond_is hcur
    obtain ⟨_, _, _, _, hd⟩ := curveB_true.1 hcur
    have hm : ∀ p ∈ bfX a b, p5B p = true ∧ kindN (minA a b p) b p ≠ 0 := fun p hp => bfX_mem hcur hp
    have hk3 : ∀ p ∈ bfX a b, kindN (minA a b p) b p = 1 ∨ kindN (minA a b p) b p = 2 ∨ kindN (minA a b p) b p = 3 := fun p hp => by
      rcases kind_cases (minA a b p) b p with h | h | h | h
      · exact absurd h (hm p hp).2
      · exact .inl h
      · exact .inr (.inl h)
      · exact .inr (.inr h)
    have e0 : (bif bfOk a b then condL a b (bfX a b) else 0) = cprod a b (bfX a b) := by rw [hok, cond_true, c1]
    rw [e0]
    refine ⟨badL a b, fun p => expK (kindN (minA a b p) b p), ?_⟩
    have hce : ∀ p ∈ bfX a b, (curveB a b && p5B p) = true := fun p hp => by rw [hcur, (hm p hp).1]; rfl
    refine ⟨fun w => ?_, fun w => ?_, fun p hp => bfX_bad hp, bfX_inc hd, fun p hp => ?_, fun p hp w => ?_, fun p hp w => ?_, cprod_prE fun p hp => (hm p hp).2, c2, c3, ?_⟩
    · have h := iBadPrimes_any a b w
      rwa [if_pos hcur, hcur] at h
    · have h := sBadPrimes_any a b w
      rwa [if_pos hcur, hcur] at h
    · have hb := p5_bd (hm p hp).1
      exact ⟨hb.1, hb.2, (expK_two (hk3 p hp)).1⟩
    · have h := iConductorExponent_any a b p w
      rwa [hce p hp, cond_true] at h
    · have h := sConductorExponent_any a b p w
      rwa [hce p hp, cond_true] at h
    · unfold semB
      rw [hok, Bool.true_and]
      congr 1
      rw [Bool.eq_iff_iff, List.any_eq_true, List.any_eq_true]
      constructor
      · rintro ⟨p, hp, h⟩
        unfold addB at h
        exact ⟨p, hp, by rw [beq_iff_eq] at h ⊢; exact (expK_two (hk3 p hp)).2.2 h⟩
      · rintro ⟨p, hp, h⟩
        refine ⟨p, hp, ?_⟩
        unfold addB
        rw [beq_iff_eq] at h ⊢
        exact (expK_two (hk3 p hp)).2.1 h
structure BP (a b : Int) (s : ByteArray) (ok : Bool) (YS : List Int) : Prop where
  k0 : ∀ w, Calls Tryd.prog 14 #[.agg #[.int .i64 a, .int .i64 b], .string s] w (RetSlB YS ok w)
  k1 : ∀ w, Calls Tryd.prog 15 #[.agg #[.int .i64 a, .int .i64 b], .string s] w (RetSlB YS ok w)
  len : YS.length ≤ 1000
  yes : ∀ p ∈ YS, ∀ w, Calls Tryd.prog 17 #[.agg #[.int .i64 a, .int .i64 b], .int .i64 p] w (Ret (.tuple #[.string s, .bool true]) w)
theorem pfacts (a b : Int) (s : ByteArray) : ∃ ok YS, BP a b s ok YS := by
  refine ⟨_, _, fun w => iPrimesOfKind_any a b s w, fun w => sPrimesOfKind_any a b s w, ?_, fun p hp w => ?_⟩
  · unfold pkX
    cases hcur : curveB a b
    · simp
    · cases hb : Nat.blt 0 (kindOf s)
      · simp
      · rw [Bool.true_and, cond_true]
        exact Nat.le_trans (List.length_filter_le _ _) (bfX_len a b hcur)
  · unfold pkX at hp
    cases hcur : curveB a b
    · rw [hcur] at hp; cases hp
    · cases hb : Nat.blt 0 (kindOf s)
      · rw [hb, Bool.and_false] at hp; cases hp
      · rw [hcur, hb, Bool.true_and, cond_true] at hp
        obtain ⟨h1, h2⟩ := List.mem_filter.1 hp
        rw [beq_iff_eq] at h2
        have hm := bfX_mem hcur h1
        have h := iReductionKind_any a b p w
        rw [hcur, hm.1, Bool.true_and, cond_true, h2] at h
        rcases kindOf_cases s with ⟨h0, _⟩ | ⟨_, h3⟩
        · exact absurd (h2.trans h0) hm.2
        · rwa [← h3] at h
end Go.Proofs.YtpjcfnjagknocaaDoor
