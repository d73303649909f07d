/- Pz: the sum of two points over the rationals: what both sides compute. No conditions. -/
import Derived.Test.YtadijbaphfgeiaaDoorSo
import Derived.Test.YtadijbaphfgeiaaDoorPs
namespace Go.Proofs.YtadijbaphfgeiaaDoor
open Go.RowKit

theorem valI_J (a b x e : Int) : valI a b x e = valJ a b x e := by unfold valI valJ; grind
theorem gcdI_one {x e : Int} : gcdI x e = 1 ↔ Int.gcd x e = 1 := by unfold gcdI; omega
/-- a finite point of the curve. -/
structure FinP (a b x y e : Int) : Prop where
  x0 : -10000 ≤ x
  x1 : x ≤ 10000
  e0 : 1 ≤ e
  e1 : e ≤ 20
  g : gcdI x e = 1
  on : y * y = valI a b x e
theorem FinP.of {a b x y e : Int} (h : onB a b x y e = true) (he : e ≠ 0) : FinP a b x y e := by
  rcases onB_true.1 h with ⟨_, _, h3⟩ | ⟨k1, k2, k3, k4, k5, k6⟩
  · exact absurd h3 he
  · exact ⟨k1, k2, k3, k4, k5, k6⟩
theorem FinP.onB {a b x y e : Int} (h : FinP a b x y e) : onB a b x y e = true := onB_true.2 (.inr ⟨h.x0, h.x1, h.e0, h.e1, h.g, h.on⟩)
theorem far_zero {a b x y e x2 y2 e2 : Int} (hp : FinP a b x y e) (hq : FinP a b x2 y2 e2) : farI x y e x2 y2 e2 = 0 ↔ (x = x2 ∧ y = -y2 ∧ e = e2) := by
  have he := hp.e0
  have he2 := hq.e0
  by_cases hs : x = x2 ∧ y = y2 ∧ e = e2
  · obtain ⟨rfl, rfl, rfl⟩ := hs
    rw [(up_same 0 x y e).2]
    constructor
    · intro h
      have : 2 * y = 0 := by
        rcases Int.mul_eq_zero.1 h with k | k
        · exact k
        · omega
      exact ⟨rfl, by omega, rfl⟩
    · rintro ⟨_, h, _⟩
      have : y = 0 := by omega
      subst this; simp
  · rw [(up_diff (a := 0) hs).2]
    constructor
    · intro h
      have h1 : x2 * e * e - x * e2 * e2 = 0 := by
        rcases Int.mul_eq_zero.1 h with k | k
        · rcases Int.mul_eq_zero.1 k with k | k <;> omega
        · exact k
      have h2 : x2 * (e * e) = x * (e2 * e2) := by
        have e1 : x2 * e * e = x2 * (e * e) := Int.mul_assoc ..
        have e3 : x * e2 * e2 = x * (e2 * e2) := Int.mul_assoc ..
        omega
      obtain ⟨hx, hee⟩ := low_unique (Int.mul_pos (show 0 < e2 by omega) (show 0 < e2 by omega)) (Int.mul_pos (show 0 < e by omega) (show 0 < e by omega)) (gcd_sq (gcdI_one.1 hq.g)) (gcd_sq (gcdI_one.1 hp.g)) h2
      have hE : e = e2 := by
        rcases Int.lt_trichotomy e e2 with k | k | k
        · have := Int.mul_lt_mul k (Int.le_of_lt k) (by omega) (by omega); omega
        · exact k
        · have := Int.mul_lt_mul k (Int.le_of_lt k) (by omega) (by omega); omega
      subst hx; subst hE
      have h3 : (y - y2) * (y + y2) = 0 := by
        have := hp.on.trans hq.on.symm
        have e1 : (y - y2) * (y + y2) = y * y - y2 * y2 := by clear this h h1 h2 hs; grind
        omega
      rcases Int.mul_eq_zero.1 h3 with k | k
      · exact absurd ⟨rfl, by omega, rfl⟩ hs
      · exact ⟨rfl, by omega, rfl⟩
    · rintro ⟨rfl, _, rfl⟩
      rw [Int.sub_self, Int.mul_zero]
theorem sum_ex {a b x y e x2 y2 e2 X E : Int} (hp : FinP a b x y e) (hq : FinP a b x2 y2 e2) (hf : farI x y e x2 y2 e2 ≠ 0)
    (hX : SumX (upI a x y e x2 y2 e2) (farI x y e x2 y2 e2) x e x2 e2 X E) : ∃ Y, SumY (upI a x y e x2 y2 e2) (farI x y e x2 y2 e2) x y e X Y E ∧ Y * Y = valI a b X E := by
  have he := hp.e0
  have he2 := hq.e0
  have h1 := hp.on
  have h2 := hq.on
  rw [valI_J] at h1 h2 ⊢
  by_cases hs : x = x2 ∧ y = y2 ∧ e = e2
  · obtain ⟨rfl, rfl, rfl⟩ := hs
    rw [(up_same a x y e).2] at hf hX ⊢
    rw [(up_same a x y e).1] at hX ⊢
    exact sum_tan h1 (by omega) rfl rfl hf hX
  · rw [(up_diff (a := a) hs).2] at hf hX ⊢
    rw [(up_diff hs).1] at hX ⊢
    exact sum_chord h1 h2 (by omega) (by omega) rfl rfl hf hX
theorem isSum_scale {n m x y e x2 e2 X Y E k : Int} (hk : k ≠ 0) : IsSum (k * n) (k * m) x y e x2 e2 X Y E ↔ IsSum n m x y e x2 e2 X Y E := by
  unfold IsSum
  rw [sumX_scale hk, sumY_scale hk]
noncomputable def sumT (a x y e x2 y2 e2 : Int) : Option (Int × Int × Int) :=
  @dite _ (∃ t : Int × Int × Int, IsSum (upI a x y e x2 y2 e2) (farI x y e x2 y2 e2) x y e x2 e2 t.1 t.2.1 t.2.2) (Classical.propDecidable _) (fun h => some h.choose) (fun _ => none)
theorem sumT_some {a x y e x2 y2 e2 X Y E : Int} (hf : farI x y e x2 y2 e2 ≠ 0) (he : e ≠ 0) (he2 : e2 ≠ 0) (h : IsSum (upI a x y e x2 y2 e2) (farI x y e x2 y2 e2) x y e x2 e2 X Y E) : sumT a x y e x2 y2 e2 = some (X, Y, E) := by
  unfold sumT
  have hex : ∃ t : Int × Int × Int, IsSum (upI a x y e x2 y2 e2) (farI x y e x2 y2 e2) x y e x2 e2 t.1 t.2.1 t.2.2 := ⟨(X, Y, E), h⟩
  rw [dif_pos hex]
  obtain ⟨q1, q2, q3⟩ := isSum_unique hf he he2 h hex.choose_spec
  congr 1
  exact Prod.ext q1 (Prod.ext q2 q3)
theorem sumT_none {a x y e x2 y2 e2 : Int} (h : ∀ X Y E, ¬ IsSum (upI a x y e x2 y2 e2) (farI x y e x2 y2 e2) x y e x2 e2 X Y E) : sumT a x y e x2 y2 e2 = none := by
  unfold sumT
  rw [dif_neg (fun ⟨t, ht⟩ => h _ _ _ ht)]
theorem sumT_cases (a x y e x2 y2 e2 : Int) : (∃ X Y E, IsSum (upI a x y e x2 y2 e2) (farI x y e x2 y2 e2) x y e x2 e2 X Y E) ∨ ∀ X Y E, ¬ IsSum (upI a x y e x2 y2 e2) (farI x y e x2 y2 e2) x y e x2 e2 X Y E := by
  by_cases h : ∃ X Y E, IsSum (upI a x y e x2 y2 e2) (farI x y e x2 y2 e2) x y e x2 e2 X Y E
  · exact .inl h
  · exact .inr fun X Y E k => h ⟨X, Y, E, k⟩
/-- the sum, none if it is no point within the bounds. -/
noncomputable def addT (a x y e x2 y2 e2 : Int) : Option (Int × Int × Int) :=
  if e = 0 then some (x2, y2, e2) else if e2 = 0 then some (x, y, e) else if farI x y e x2 y2 e2 = 0 then some (0, 0, 0) else sumT a x y e x2 y2 e2
def ptO : Option (Int × Int × Int) → Value
  | some t => .tuple #[.agg #[.int .i64 t.1, .int .i64 t.2.1, .int .i64 t.2.2], .bool true]
  | none => .tuple #[.agg #[.int .i64 0, .int .i64 0, .int .i64 0], .bool false]
theorem sumT_on {a b x y e x2 y2 e2 : Int} (hp : FinP a b x y e) (hq : FinP a b x2 y2 e2) (hf : farI x y e x2 y2 e2 ≠ 0) {t : Int × Int × Int} (h : sumT a x y e x2 y2 e2 = some t) : FinP a b t.1 t.2.1 t.2.2 := by
  have he := hp.e0
  have he2 := hq.e0
  rcases sumT_cases a x y e x2 y2 e2 with ⟨X, Y, E, hs⟩ | hs
  · rw [sumT_some hf (by omega) (by omega) hs] at h
    cases h
    obtain ⟨k1, k2, k3, k4, k5, k6, k7⟩ := hs
    obtain ⟨Y', h1, h2⟩ := sum_ex hp hq hf k6
    have hY : Y' = Y := (isSum_unique hf (by omega) (by omega) ⟨k1, k2, k3, k4, k5, k6, k7⟩ ⟨k1, k2, k3, k4, k5, k6, h1⟩).2.1
    subst hY
    exact ⟨k3, k4, k1, k2, gcdI_one.2 k5, h2⟩
  · rw [sumT_none hs] at h; cases h
theorem addT_on {a b x y e x2 y2 e2 : Int} (hp : onB a b x y e = true) (hq : onB a b x2 y2 e2 = true) {t : Int × Int × Int} (h : addT a x y e x2 y2 e2 = some t) : onB a b t.1 t.2.1 t.2.2 = true := by
  unfold addT at h
  split at h
  · cases h; exact hq
  · rename_i he
    split at h
    · cases h; exact hp
    · rename_i he2
      split at h
      · cases h; exact onB_true.2 (.inl ⟨rfl, rfl, rfl⟩)
      · rename_i hf
        exact (sumT_on (FinP.of hp he) (FinP.of hq he2) hf h).onB

/-! the program's side -/
theorem sum_round {a b x y e x2 y2 e2 n m g c k : Int} (hp : FinP a b x y e) (hq : FinP a b x2 y2 e2) (hf : farI x y e x2 y2 e2 ≠ 0) (hg0 : g ≠ 0) (hn : g * n = upI a x y e x2 y2 e2) (hm : g * m = farI x y e x2 y2 e2)
    (k0 : 1 ≤ k) (k1 : k ≤ 20) (c0 : -10000 ≤ c) (c1 : c ≤ 10000) (hg : gcdI c k = 1) (hX : SumX n m x e x2 e2 c k) :
    ∃ Y, IsSum (upI a x y e x2 y2 e2) (farI x y e x2 y2 e2) x y e x2 e2 c Y k ∧ Y * Y = valI a b c k ∧ SumY n m x y e c Y k := by
  have hX' := (sumX_scale hg0).2 hX
  rw [hn, hm] at hX'
  obtain ⟨Y, h1, h2⟩ := sum_ex hp hq hf hX'
  refine ⟨Y, ⟨k0, k1, c0, c1, gcdI_one.1 hg, hX', h1⟩, h2, ?_⟩
  rw [← hn, ← hm] at h1
  exact (sumY_scale hg0).1 h1
theorem pos_of_mul {a b : Int} (ha : 0 < a) (h : 0 < a * b) : 0 < b := by
  rcases Int.lt_or_le 0 b with k | k
  · exact k
  · have := Int.mul_nonpos_of_nonneg_of_nonpos (show 0 ≤ a by omega) k
    omega
theorem sum_sign {Y m e E s r : Int} (hm : m ≠ 0) (he : 0 < e) (hE : 0 < E) (h : Y * (m * (e * e * e)) = E * s) (hr : 0 ≤ r) (hrr : r * r = Y * Y) : (if decide (s < 0) != decide (m < 0) then -r else r) = Y := by
  have h3 : 0 < e * e * e := Int.mul_pos (Int.mul_pos he he) he
  have hYr : Y = r ∨ Y = -r := by
    have : (Y - r) * (Y + r) = 0 := by
      have e1 : (Y - r) * (Y + r) = Y * Y - r * r := by clear h hrr; grind
      omega
    rcases Int.mul_eq_zero.1 this with k | k
    · left; omega
    · right; omega
  by_cases hY : Y = 0
  · have : r = 0 := by omega
    subst this; subst hY; simp
  · have hs : s ≠ 0 := by
      rintro rfl
      rw [Int.mul_zero] at h
      rcases Int.mul_eq_zero.1 h with k | k
      · exact hY k
      · rcases Int.mul_eq_zero.1 k with k | k
        · exact hm k
        · omega
    have key : (0 < Y * m) ↔ 0 < s := by
      have e1 : Y * m * (e * e * e) = E * s := by rw [Int.mul_assoc]; exact h
      constructor
      · intro k
        have := Int.mul_pos k h3
        rw [e1] at this
        exact pos_of_mul hE this
      · intro k
        have := Int.mul_pos hE k
        rw [← e1] at this
        exact pos_of_mul h3 (by rw [Int.mul_comm]; exact this)
    rcases Int.lt_trichotomy Y 0 with k | k | k
    · rcases Int.lt_trichotomy m 0 with q | q | q
      · have : 0 < s := key.1 (Int.mul_pos_of_neg_of_neg k q)
        rw [decide_eq_false (by omega), decide_eq_true q]
        simp; omega
      · exact absurd q hm
      · have hn : ¬ 0 < s := fun z => by have := key.2 z; have := Int.mul_neg_of_neg_of_pos k q; omega
        rw [decide_eq_true (by omega), decide_eq_false (by omega)]
        simp; omega
    · exact absurd k hY
    · rcases Int.lt_trichotomy m 0 with q | q | q
      · have hn : ¬ 0 < s := fun z => by have := key.2 z; have := Int.mul_neg_of_pos_of_neg k q; omega
        rw [decide_eq_true (by omega), decide_eq_true q]
        simp; omega
      · exact absurd q hm
      · have : 0 < s := key.1 (Int.mul_pos k q)
        rw [decide_eq_false (by omega), decide_eq_false (by omega)]
        simp; omega
/-! the reference's side -/
theorem low_mul {n d : Int} (_hd : d ≠ 0) : sgcd n d * lowN n d = n ∧ sgcd n d * lowD n d = d := by
  have h1 : sgcd n d ∣ n := by unfold sgcd; split <;> first | exact Int.neg_dvd.2 (gcdI_dvd_l n d) | exact gcdI_dvd_l n d
  have h2 : sgcd n d ∣ d := by unfold sgcd; split <;> first | exact Int.neg_dvd.2 (gcdI_dvd_r n d) | exact gcdI_dvd_r n d
  exact ⟨Int.mul_tdiv_cancel' h1, Int.mul_tdiv_cancel' h2⟩
theorem low_cross {n d : Int} (hd : d ≠ 0) : lowN n d * d = n * lowD n d := by
  obtain ⟨h1, h2⟩ := low_mul (n := n) hd
  have e1 : lowN n d * d = lowN n d * (sgcd n d * lowD n d) := by rw [h2]
  have e2 : n * lowD n d = sgcd n d * lowN n d * lowD n d := by rw [h1]
  rw [e1, e2]
  generalize lowN n d = p
  generalize lowD n d = q
  generalize sgcd n d = r
  grind
theorem specY {n d x y e X Y E u v yy bb : Int} (hd : d ≠ 0) (he : 0 < e) (hE : 0 < E) (hv : 0 < v) (h1 : u * (d * (e * e) * E * E) = n * (x * E * E - X * (e * e)) * v) (hb : 0 < bb) (hg : Int.gcd yy bb = 1)
    (h2 : yy * (v * (e * e) * e) = (u * (e * e) * e - y * v) * bb) (hY : SumY n d x y e X Y E) : ∃ c, E * E * E = bb * c ∧ 0 < c ∧ yy * c = Y := by
  have h3 : yy * (E * E * E) = Y * bb := by
    unfold SumY sideI at hY
    have k1 : yy * (v * (e * e) * e) * (d * (E * E)) = (u * (d * (e * e) * E * E) * e - y * v * (d * (E * E))) * bb := by
      rw [h2]; clear h1 h2 hY; grind
    rw [h1] at k1
    have k2 : (n * (x * E * E - X * (e * e)) * v * e - y * v * (d * (E * E))) * bb = v * ((n * (x * (E * E) - X * (e * e)) * e - y * d * (E * E)) * bb) := by clear h1 h2 hY k1; grind
    have k3 : yy * (v * (e * e) * e) * (d * (E * E)) = v * (yy * (e * e * e) * (d * (E * E))) := by clear h1 h2 hY k1 k2; grind
    rw [k2, k3] at k1
    have k4 := Int.eq_of_mul_eq_mul_left (show v ≠ 0 by omega) k1
    have k5 : E * (n * (x * (E * E) - X * (e * e)) * e - y * d * (E * E)) * bb = Y * (d * (e * e * e)) * bb := by rw [hY]
    have k6 : (d * (e * e * e)) * (yy * (E * E * E)) = (d * (e * e * e)) * (Y * bb) := by
      have q1 : (d * (e * e * e)) * (yy * (E * E * E)) = E * (yy * (e * e * e) * (d * (E * E))) := by clear h1 h2 hY k1 k2 k3 k4 k5; grind
      rw [q1, k4]
      have q2 : E * ((n * (x * (E * E) - X * (e * e)) * e - y * d * (E * E)) * bb) = E * (n * (x * (E * E) - X * (e * e)) * e - y * d * (E * E)) * bb := by clear h1 h2 hY k1 k2 k3 k4 k5 q1; grind
      rw [q2, k5]
      clear h1 h2 hY k1 k2 k3 k4 k5 q1 q2
      grind
    exact Int.eq_of_mul_eq_mul_left (Int.mul_ne_zero hd (Int.mul_ne_zero (Int.mul_ne_zero (by omega) (by omega)) (by omega))) k6
  have hdv : bb ∣ E * E * E := cop_dvd hg ⟨Y, by rw [h3, Int.mul_comm]⟩
  obtain ⟨c, hc⟩ := hdv
  have hE3 : 0 < E * E * E := Int.mul_pos (Int.mul_pos hE hE) hE
  have hc0 : 0 < c := by
    rcases Int.lt_or_le 0 c with k | k
    · exact k
    · have := Int.mul_nonpos_of_nonneg_of_nonpos (show 0 ≤ bb by omega) k; omega
  refine ⟨c, hc, hc0, ?_⟩
  rw [hc] at h3
  have h4 : bb * (yy * c) = bb * Y := by
    have q1 : bb * (yy * c) = yy * (bb * c) := by clear h1 h2 h3; grind
    rw [q1, h3, Int.mul_comm]
  exact Int.eq_of_mul_eq_mul_left (by omega) h4
theorem abs_le_of_sq {n d : Int} (hd : 0 ≤ d) (h : n * n ≤ 40000 * (d * d)) : -(200 * d) ≤ n ∧ n ≤ 200 * d := by
  have e : (200 * d) * (200 * d) = 40000 * (d * d) := by clear h; grind
  by_cases hd0 : d = 0
  · subst hd0
    have hn : n = 0 := by
      rcases Int.lt_trichotomy n 0 with k | k | k
      · have := Int.mul_pos_of_neg_of_neg k k; omega
      · exact k
      · have := Int.mul_pos k k; omega
    subst hn; omega
  constructor
  · rcases Int.lt_or_le n (-(200 * d)) with k | k
    · have := Int.mul_lt_mul (a := 200 * d) (b := 200 * d) (c := -n) (d := -n) (by omega) (by omega) (by omega) (by omega)
      rw [Int.neg_mul_neg] at this
      omega
    · exact k
  · rcases Int.lt_or_le (200 * d) n with k | k
    · have := Int.mul_lt_mul (a := 200 * d) (b := 200 * d) (c := n) (d := n) (by omega) (by omega) (by omega) (by omega)
      omega
    · exact k
end Go.Proofs.YtadijbaphfgeiaaDoor
