/- Gk: the values of the calls of FnGroupLaw, as packages. No conditions. -/
import Derived.Test.YtnhlcgbknkdbiaaPz
import Derived.Test.YtnhlcgbknkdbiaaSv
import Derived.Test.YtnhlcgbknkdbiaaNg
/- Gu: sums of points over the rationals are the same both ways, and are undone by the opposite point. No conditions. -/

namespace Go.Proofs.Ytnhlcgbknkdbiaa
open Go.RowKit

/-! whole numbers alone -/
theorem sumX_swap {n m x e x2 e2 X E : Int} : SumX n m x e x2 e2 X E ↔ SumX n m x2 e2 x e X E := by
  unfold SumX
  have e1 : (n*n*(e*e*(e2*e2)) - m*m*(x*(e2*e2) + x2*(e*e)))*(E*E) = (n*n*(e2*e2*(e*e)) - m*m*(x2*(e*e) + x*(e2*e2)))*(E*E) := by grind
  have e3 : X*(m*m*(e*e*(e2*e2))) = X*(m*m*(e2*e2*(e*e))) := by grind
  rw [e1, e3]
/-- the line through the first point goes through the second one. -/
theorem sumY_swap {n m x y e x2 y2 e2 X Y E : Int} (he : e ≠ 0) (hl : n*(x2*(e*e) - x*(e2*e2))*(e*e2) = m*(y2*(e*e*e) - y*(e2*e2*e2))) (h : SumY n m x y e X Y E) : SumY n m x2 y2 e2 X Y E := by
  unfold SumY sideI at h ⊢
  have h3 : (e*e*e) ≠ 0 := Int.mul_ne_zero (Int.mul_ne_zero he he) he
  apply Int.eq_of_mul_eq_mul_left h3
  have e1 : e*e*e*(Y*(m*(e2*e2*e2))) = (e2*e2*e2)*(Y*(m*(e*e*e))) := by clear h hl h3 he; grind
  rw [e1, h]
  have e2' : e2*e2*e2*(E*(n*(x*(E*E) - X*(e*e))*e - y*m*(E*E))) - e*e*e*(E*(n*(x2*(E*E) - X*(e2*e2))*e2 - y2*m*(E*E))) = E*(E*E)*(m*(y2*(e*e*e) - y*(e2*e2*e2)) - n*(x2*(e*e) - x*(e2*e2))*(e*e2)) := by clear h hl h3 he e1; grind
  rw [hl, Int.sub_self, Int.mul_zero] at e2'
  omega
/-- the sum's first coordinate, read from the sum back to the first point. -/
theorem sumX_back {n m x e x2 e2 X E : Int} (he2 : e2 ≠ 0) (h : SumX n m x e x2 e2 X E) : SumX (-n) m X E x2 e2 x e := by
  unfold SumX at h ⊢
  have h2 : (e2*e2) ≠ 0 := Int.mul_ne_zero he2 he2
  grind
theorem sumY_back {n m x y e X Y E : Int} (hE : E ≠ 0) (h : SumY n m x y e X Y E) : SumY (-n) m X Y E x y e := by
  unfold SumY sideI at h ⊢
  apply Int.eq_of_mul_eq_mul_left hE
  have e1 : E*(e*(-n*(X*(e*e) - x*(E*E))*E - Y*m*(e*e))) = E*(E*E)*(y*m*(E*E))*0 + E*(e*(-n*(X*(e*e) - x*(E*E))*E)) - E*(Y*(m*(e*e*e))) := by clear h; grind
  rw [e1, h]
  clear h e1
  grind
/-- the sum's slope against the opposite of the second point. -/
theorem slope_back {n m x2 y2 e2 X Y E : Int} (h : SumY n m x2 y2 e2 X Y E) : (-y2*E*E*E - Y*e2*e2*e2)*m = -n*(E*e2*(x2*E*E - X*e2*e2)) := by
  unfold SumY sideI at h
  grind
/-- where the sum lies above the second point, the line touches there. -/
theorem touch {a b x y e x2 y2 e2 n m : Int} (hp : y*y = valJ a b x e) (hq : y2*y2 = valJ a b x2 e2) (he : e ≠ 0)
    (hn : n = y2*e*e*e - y*e2*e2*e2) (hm : m = e*e2*(x2*e*e - x*e2*e2)) (hm0 : m ≠ 0) (hX : SumX n m x e x2 e2 x2 e2) : (3*x2*x2 + a*e2*e2*e2*e2)*m = 2*y2*e2*n := by
  unfold valJ at hp hq
  unfold SumX at hX
  obtain ⟨D, hD⟩ : ∃ D, D = x2*(e*e) - x*(e2*e2) := ⟨_, rfl⟩
  have hm' : m = e*e2*D := by rw [hm, hD]; grind
  have he2 : e2 ≠ 0 := by rintro rfl; simp at hm'; exact hm0 hm'
  have hD0 : D ≠ 0 := by rintro rfl; simp at hm'; exact hm0 hm'
  -- n n = (p + 2 q) D D with p = x e2 e2, q = x2 e e
  have hw : (e*e2)*(e*e2) ≠ 0 := Int.mul_ne_zero (Int.mul_ne_zero he he2) (Int.mul_ne_zero he he2)
  have h1 : n*n = (x*(e2*e2) + 2*(x2*(e*e)))*(D*D) := by
    have k : ((e*e2)*(e*e2))*(e2*e2)*(n*n) = ((e*e2)*(e*e2))*(e2*e2)*((x*(e2*e2) + 2*(x2*(e*e)))*(D*D)) := by
      have : (n*n*(e*e*(e2*e2)) - m*m*(x*(e2*e2) + x2*(e*e)))*(e2*e2) = x2*(m*m*(e*e*(e2*e2))) := hX
      rw [hm'] at this
      clear hm' hm hn hp hq hX hD
      grind
    exact Int.eq_of_mul_eq_mul_left (Int.mul_ne_zero hw (Int.mul_ne_zero he2 he2)) k
  -- 2 n s = n n + D (p p + p q + q q + a')
  have h2 : (e*e*e)*(2*y2*n) = D*((e*e*e*e)*(3*x2*x2 + a*e2*e2*e2*e2)) := by
    have k : 2*n*(y2*(e*e*e)) = n*n + ((y2*e*e*e)*(y2*e*e*e) - (y*e2*e2*e2)*(y*e2*e2*e2)) := by rw [hn]; clear hp hq hX h1 hm' hD hm hn; grind
    have k2 : (y2*e*e*e)*(y2*e*e*e) - (y*e2*e2*e2)*(y*e2*e2*e2) = (y2*y2)*(e*e*e*e*e*e) - (y*y)*(e2*e2*e2*e2*e2*e2) := by clear hp hq hX h1 hm' hD hm hn k; grind
    rw [hp, hq] at k2
    rw [k2, h1, hD] at k
    rw [hD]
    clear hp hq hX h1 hm' hD hm hn k2
    grind
  have h3 : (e*e*e)*((3*x2*x2 + a*e2*e2*e2*e2)*m) = (e*e*e)*(2*y2*e2*n) := by
    rw [hm']
    clear hp hq hX h1 hm' hD hm hn
    grind
  exact Int.eq_of_mul_eq_mul_left (Int.mul_ne_zero (Int.mul_ne_zero he he) he) h3
/-- no double root. -/
theorem no_double {a b x e : Int} (he : e ≠ 0) (h1 : 0 = valJ a b x e) (h2 : 3*x*x + a*e*e*e*e = 0) : 4*a*a*a + 27*b*b = 0 := by
  unfold valJ at h1
  have h3 : b*(e*e*e*e*e*e) = 2*(x*x*x) := by grind
  have h4 : a*(e*e*e*e) = -3*(x*x) := by grind
  have hz : (e*e*e*e*e*e)*(e*e*e*e*e*e) ≠ 0 := by
    have k : e*e*e*e*e*e ≠ 0 := by repeat (first | exact he | refine Int.mul_ne_zero ?_ he)
    exact Int.mul_ne_zero k k
  apply (Int.mul_eq_zero.1 (?_ : (e*e*e*e*e*e)*(e*e*e*e*e*e)*(4*a*a*a + 27*b*b) = 0)).resolve_left hz
  have k : (e*e*e*e*e*e)*(e*e*e*e*e*e)*(4*a*a*a + 27*b*b) = 4*((a*(e*e*e*e))*(a*(e*e*e*e))*(a*(e*e*e*e))) + 27*((b*(e*e*e*e*e*e))*(b*(e*e*e*e*e*e))) := by clear h1 h2 h3 h4 hz; grind
  rw [k, h3, h4]
  clear k h1 h2 h3 h4 hz
  grind
/-! the sums of the model -/
theorem up_swap {a x y e x2 y2 e2 : Int} (hs : ¬ (x = x2 ∧ y = y2 ∧ e = e2)) : upI a x2 y2 e2 x y e = -upI a x y e x2 y2 e2 ∧ farI x2 y2 e2 x y e = -farI x y e x2 y2 e2 := by
  have hs' : ¬ (x2 = x ∧ y2 = y ∧ e2 = e) := fun ⟨h1, h2, h3⟩ => hs ⟨h1.symm, h2.symm, h3.symm⟩
  rw [(up_diff (a := a) hs).1, (up_diff (a := a) hs).2, (up_diff (a := a) hs').1, (up_diff (a := a) hs').2]
  constructor <;> grind
theorem line_of {a x y e x2 y2 e2 : Int} (hs : ¬ (x = x2 ∧ y = y2 ∧ e = e2)) : upI a x y e x2 y2 e2*(x2*(e*e) - x*(e2*e2))*(e*e2) = farI x y e x2 y2 e2*(y2*(e*e*e) - y*(e2*e2*e2)) := by
  rw [(up_diff (a := a) hs).1, (up_diff (a := a) hs).2]
  grind
theorem isSum_swap {a x y e x2 y2 e2 X Y E : Int} (hs : ¬ (x = x2 ∧ y = y2 ∧ e = e2)) (he : e ≠ 0) (h : IsSum (upI a x y e x2 y2 e2) (farI x y e x2 y2 e2) x y e x2 e2 X Y E) :
    IsSum (upI a x2 y2 e2 x y e) (farI x2 y2 e2 x y e) x2 y2 e2 x e X Y E := by
  rw [(up_swap (a := a) hs).1, (up_swap (a := a) hs).2]
  have e1 : ∀ t : Int, -t = (-1) * t := fun t => by omega
  rw [e1 (upI a x y e x2 y2 e2), e1 (farI x y e x2 y2 e2), isSum_scale (by decide)]
  obtain ⟨k1, k2, k3, k4, k5, k6, k7⟩ := h
  exact ⟨k1, k2, k3, k4, k5, sumX_swap.1 k6, sumY_swap he (line_of hs) k7⟩
theorem sumT_comm {a b x y e x2 y2 e2 : Int} (hp : FinP a b x y e) (hq : FinP a b x2 y2 e2) (hf : farI x y e x2 y2 e2 ≠ 0) : sumT a x y e x2 y2 e2 = sumT a x2 y2 e2 x y e := by
  have he := hp.e0
  have he2 := hq.e0
  by_cases hs : x = x2 ∧ y = y2 ∧ e = e2
  · obtain ⟨rfl, rfl, rfl⟩ := hs; rfl
  · have hs' : ¬ (x2 = x ∧ y2 = y ∧ e2 = e) := fun ⟨h1, h2, h3⟩ => hs ⟨h1.symm, h2.symm, h3.symm⟩
    rcases sumT_cases a x y e x2 y2 e2 with ⟨X, Y, E, h⟩ | h
    · rw [sumT_some hf (by omega) (by omega) h, sumT_some (by rw [(up_swap (a := a) hs).2]; omega) (by omega) (by omega) (isSum_swap hs (by omega) h)]
    · rw [sumT_none h, sumT_none (fun X Y E k => h X Y E (isSum_swap hs' (by omega) k))]
theorem addT_comm {a b x y e x2 y2 e2 : Int} (hp : onB a b x y e = true) (hq : onB a b x2 y2 e2 = true) : addT a x y e x2 y2 e2 = addT a x2 y2 e2 x y e := by
  unfold addT
  by_cases he : e = 0
  · rw [if_pos he]
    by_cases he2 : e2 = 0
    · rw [if_pos he2]
      rcases onB_true.1 hp with ⟨rfl, rfl, rfl⟩ | ⟨_, _, h, _⟩
      · rcases onB_true.1 hq with ⟨rfl, rfl, rfl⟩ | ⟨_, _, h, _⟩
        · rfl
        · omega
      · omega
    · rw [if_neg he2, if_pos he]
  · rw [if_neg he]
    by_cases he2 : e2 = 0
    · rw [if_pos he2, if_pos he2]
    · rw [if_neg he2, if_neg he2, if_neg he]
      have fp := FinP.of hp he
      have fq := FinP.of hq he2
      by_cases hf : farI x y e x2 y2 e2 = 0
      · have hf' : farI x2 y2 e2 x y e = 0 := by
          obtain ⟨h1, h2, h3⟩ := (far_zero fp fq).1 hf
          exact (far_zero fq fp).2 ⟨h1.symm, by omega, h3.symm⟩
        rw [if_pos hf, if_pos hf']
      · have hf' : ¬ farI x2 y2 e2 x y e = 0 := by
          intro h
          obtain ⟨h1, h2, h3⟩ := (far_zero fq fp).1 h
          exact hf ((far_zero fp fq).2 ⟨h1.symm, by omega, h3.symm⟩)
        rw [if_neg hf, if_neg hf', sumT_comm fp fq hf]
theorem FinP.neg {a b x y e : Int} (h : FinP a b x y e) : FinP a b x (-y) e := ⟨h.x0, h.x1, h.e0, h.e1, h.g, by rw [Int.neg_mul_neg]; exact h.on⟩
theorem on_neg {a b x y e : Int} (h : onB a b x y e = true) : onB a b x (-y) e = true := by
  by_cases he : e = 0
  · rcases onB_true.1 h with ⟨rfl, rfl, rfl⟩ | ⟨_, _, h, _⟩
    · exact onB_true.2 (.inl ⟨rfl, rfl, rfl⟩)
    · omega
  · exact (FinP.of h he).neg.onB
/-- sums are undone by the opposite of the second point. -/
theorem sum_undo {a b x y e x2 y2 e2 X Y E : Int} (hd : 4*a*a*a + 27*b*b ≠ 0) (hp : FinP a b x y e) (hq : FinP a b x2 y2 e2) (hf : farI x y e x2 y2 e2 ≠ 0) (h : IsSum (upI a x y e x2 y2 e2) (farI x y e x2 y2 e2) x y e x2 e2 X Y E) :
    farI X Y E x2 (-y2) e2 ≠ 0 ∧ sumT a X Y E x2 (-y2) e2 = some (x, y, e) := by
  have he := hp.e0
  have he2 := hq.e0
  have hE := h.1
  have hS : FinP a b X Y E := sumT_on hp hq hf (sumT_some hf (by omega) (by omega) h)
  obtain ⟨k1, k2, k3, k4, k5, k6, k7⟩ := h
  have hpb : IsSum (-upI a x y e x2 y2 e2) (farI x y e x2 y2 e2) X Y E x2 e2 x y e := ⟨hp.e0, hp.e1, hp.x0, hp.x1, gcdI_one.1 hp.g, sumX_back (by omega) k6, sumY_back (by omega) k7⟩
  -- the line through the sum and the opposite has the opposite slope
  have key : farI X Y E x2 (-y2) e2 ≠ 0 ∧ upI a X Y E x2 (-y2) e2 * farI x y e x2 y2 e2 = -upI a x y e x2 y2 e2 * farI X Y E x2 (-y2) e2 := by
    by_cases hs : x = x2 ∧ y = y2 ∧ e = e2
    · obtain ⟨rfl, rfl, rfl⟩ := hs
      by_cases ht : X = x ∧ Y = -y ∧ E = e
      · obtain ⟨rfl, rfl, rfl⟩ := ht
        rw [(up_same a X (-y) E).2, (up_same a X (-y) E).1]
        rw [(up_same a X y E).2] at hf ⊢
        rw [(up_same a X y E).1]
        constructor
        · intro h9
          apply hf
          have : 2 * -y * E = -(2*y*E) := by grind
          omega
        · grind
      · have hne : farI X Y E x (-y) e ≠ 0 := by
          intro h9
          obtain ⟨rfl, h10, rfl⟩ := (far_zero hS hp.neg).1 h9
          have hY : Y = y := by omega
          subst hY
          -- the line goes through the point and through the sum above it: y + y = 0
          have h11 := slope_back (x2 := X) (y2 := Y) (e2 := E) k7
          rw [(up_same a X Y E).2] at hf h11
          have h12 : E*E*(X*E*E - X*E*E) = 0 := by rw [Int.sub_self, Int.mul_zero]
          rw [h12, Int.mul_zero] at h11
          have h13 : (-Y*E*E*E - Y*E*E*E) = -(2*Y*E)*(E*E) := by grind
          rw [h13] at h11
          rcases Int.mul_eq_zero.1 h11 with h14 | h14
          · rcases Int.mul_eq_zero.1 h14 with h15 | h15
            · omega
            · rcases Int.mul_eq_zero.1 h15 with h16 | h16 <;> omega
          · omega
        refine ⟨hne, ?_⟩
        have h11 := slope_back (x2 := x) (y2 := y) (e2 := e) k7
        rw [(up_diff (a := a) ht).1, (up_diff (a := a) ht).2]
        have e1 : E * e * (x * E * E - X * e * e) = E*e*(x*E*E - X*e*e) := rfl
        exact h11
    · have k8 := sumY_swap (by omega) (line_of hs) k7
      have h11 := slope_back k8
      by_cases hx : X = x2 ∧ E = e2
      · obtain ⟨rfl, rfl⟩ := hx
        have h12 : E*E*(X*E*E - X*E*E) = 0 := by rw [Int.sub_self, Int.mul_zero]
        rw [h12, Int.mul_zero] at h11
        have hYn : Y = -y2 := by
          have h13 : (-y2*E*E*E - Y*E*E*E) = -(y2 + Y)*(E*E*E) := by grind
          rw [h13] at h11
          rcases Int.mul_eq_zero.1 h11 with h14 | h14
          · rcases Int.mul_eq_zero.1 h14 with h15 | h15
            · omega
            · rcases Int.mul_eq_zero.1 h15 with h16 | h16
              · rcases Int.mul_eq_zero.1 h16 with h17 | h17 <;> omega
              · omega
          · exact absurd h14 hf
        subst hYn
        have ht := touch (a := a) (b := b) (by rw [← valI_J]; exact hp.on) (by rw [← valI_J]; exact hq.on) (by omega) (up_diff (a := a) hs).1 (up_diff (a := a) hs).2 hf k6
        rw [(up_same a X (-y2) E).2, (up_same a X (-y2) E).1]
        refine ⟨fun h9 => ?_, ?_⟩
        · have hy0 : y2 = 0 := by
            rcases Int.mul_eq_zero.1 h9 with h16 | h16 <;> omega
          subst hy0
          have h10 : 3*X*X + a*E*E*E*E = 0 := by
            have : (3*X*X + a*E*E*E*E)*farI x y e X 0 E = 0 := by rw [ht]; simp
            rcases Int.mul_eq_zero.1 this with h16 | h16
            · exact h16
            · exact absurd h16 hf
          exact hd (no_double (x := X) (e := E) (by omega) (by have := hq.on; rw [valI_J] at this; simpa using this) h10)
        · have e9 : -upI a x y e X y2 E * (2 * -y2 * E) = 2*y2*E*upI a x y e X y2 E := by grind
          rw [e9]
          exact ht
      · have hne : farI X Y E x2 (-y2) e2 ≠ 0 := by
          intro h9
          obtain ⟨h10, h12, h13⟩ := (far_zero hS hq.neg).1 h9
          exact hx ⟨h10, h13⟩
        refine ⟨hne, ?_⟩
        have hn3 : ¬ (X = x2 ∧ Y = -y2 ∧ E = e2) := fun ⟨h1, _, h3⟩ => hx ⟨h1, h3⟩
        rw [(up_diff (a := a) hn3).1, (up_diff (a := a) hn3).2]
        exact h11
  obtain ⟨hne, hk⟩ := key
  refine ⟨hne, sumT_some hne (by omega) (by omega) ?_⟩
  rw [← isSum_scale hf, Int.mul_comm (farI x y e x2 y2 e2) (upI a X Y E x2 (-y2) e2), hk, Int.mul_comm (-upI a x y e x2 y2 e2), Int.mul_comm (farI x y e x2 y2 e2) (farI X Y E x2 (-y2) e2), isSum_scale hne]
  exact hpb
theorem addT_neg {a b x y e : Int} (hp : onB a b x y e = true) : addT a x y e x (-y) e = some (0, 0, 0) := by
  unfold addT
  by_cases he : e = 0
  · rw [if_pos he]
    rcases onB_true.1 hp with ⟨rfl, rfl, rfl⟩ | ⟨_, _, h, _⟩
    · rfl
    · omega
  · rw [if_neg he, if_neg he, if_pos ((far_zero (FinP.of hp he) (FinP.of hp he).neg).2 ⟨rfl, by omega, rfl⟩)]
theorem addT_zero {a b x y e : Int} (hp : onB a b x y e = true) : addT a x y e 0 0 0 = some (x, y, e) := by
  unfold addT
  by_cases he : e = 0
  · rw [if_pos he]
    rcases onB_true.1 hp with ⟨rfl, rfl, rfl⟩ | ⟨_, _, h, _⟩
    · rfl
    · omega
  · rw [if_neg he, if_pos rfl]
theorem addT_undo {a b x y e x2 y2 e2 X Y E : Int} (hd : 4*a*a*a + 27*b*b ≠ 0) (hp : onB a b x y e = true) (hq : onB a b x2 y2 e2 = true) (h : addT a x y e x2 y2 e2 = some (X, Y, E)) : addT a X Y E x2 (-y2) e2 = some (x, y, e) := by
  by_cases he : e = 0
  · rcases onB_true.1 hp with ⟨rfl, rfl, rfl⟩ | ⟨_, _, h', _⟩
    · unfold addT at h
      rw [if_pos rfl] at h
      cases h
      exact addT_neg hq
    · omega
  · by_cases he2 : e2 = 0
    · rcases onB_true.1 hq with ⟨rfl, rfl, rfl⟩ | ⟨_, _, h', _⟩
      · rw [addT_zero hp] at h
        cases h
        exact addT_zero hp
      · omega
    · have fp := FinP.of hp he
      have fq := FinP.of hq he2
      by_cases hf : farI x y e x2 y2 e2 = 0
      · unfold addT at h
        rw [if_neg he, if_neg he2, if_pos hf] at h
        cases h
        obtain ⟨rfl, rfl, rfl⟩ := (far_zero fp fq).1 hf
        unfold addT
        rw [if_pos rfl]
      · unfold addT at h
        rw [if_neg he, if_neg he2, if_neg hf] at h
        rcases sumT_cases a x y e x2 y2 e2 with ⟨X', Y', E', hs⟩ | hs
        · rw [sumT_some hf he he2 hs] at h
          cases h
          obtain ⟨h1, h2⟩ := sum_undo hd fp fq hf hs
          have hE := hs.1
          unfold addT
          rw [if_neg (by omega), if_neg he2, if_neg h1]
          exact h2
        · rw [sumT_none hs] at h; cases h
end Go.Proofs.Ytnhlcgbknkdbiaa
namespace Go.Proofs.Ytnhlcgbknkdbiaa
open Go.RowKit

theorem sgcd_neg {n d : Int} (hd : d ≠ 0) : sgcd (-n) (-d) = -sgcd n d := by
  have h : gcdI (-n) (-d) = gcdI n d := by unfold gcdI; rw [Int.neg_gcd, Int.gcd_neg]
  unfold sgcd
  rw [h]
  by_cases h0 : d < 0
  · rw [if_pos h0, if_neg (by omega), Int.neg_neg]
  · rw [if_neg h0, if_pos (by omega)]
theorem makV_neg {n d : Int} (hd : d ≠ 0) : makV (-n) (-d) = makV n d := by
  have h1 : lowN (-n) (-d) = lowN n d := by unfold lowN; rw [sgcd_neg hd, Int.neg_tdiv, Int.tdiv_neg, Int.neg_neg]
  have h2 : lowD (-n) (-d) = lowD n d := by unfold lowD; rw [sgcd_neg hd, Int.neg_tdiv, Int.tdiv_neg, Int.neg_neg]
  unfold makV
  rw [h1, h2]
theorem sumO_pts {a b x y e x2 y2 e2 : Int} {t : Int × Int × Int} (h : sumO a b x y e x2 y2 e2 = some t) : pointB a b x y e = true ∧ pointB a b x2 y2 e2 = true ∧ addT a x y e x2 y2 e2 = some t := by
  unfold sumO at h
  cases h1 : pointB a b x y e
  · rw [h1] at h; cases h
  · cases h2 : pointB a b x2 y2 e2
    · rw [h1, h2] at h; cases h
    · rw [h1, h2] at h; exact ⟨rfl, rfl, h⟩
theorem sumO_yes {a b x y e x2 y2 e2 : Int} (h1 : pointB a b x y e = true) (h2 : pointB a b x2 y2 e2 = true) : sumO a b x y e x2 y2 e2 = addT a x y e x2 y2 e2 := by
  unfold sumO; rw [h1, h2]; rfl
theorem pointB_mk {a b x y e : Int} (h1 : curveB a b = true) (h2 : onB a b x y e = true) : pointB a b x y e = true := by unfold pointB; rw [h1, h2]; rfl
theorem disc_ne {a b : Int} (h : curveB a b = true) : 4*a*a*a + 27*b*b ≠ 0 := (curveB_true.1 h).2.2.2.2
structure GY (a b x y e x2 y2 e2 s1 s2 s3 : Int) : Prop where
  oth : ∀ w, Calls Try.prog 20 #[.agg #[.int .i64 a, .int .i64 b], .agg #[.int .i64 x2, .int .i64 y2, .int .i64 e2], .agg #[.int .i64 x, .int .i64 y, .int .i64 e]] w (Ret (.tuple #[.agg #[.int .i64 s1, .int .i64 s2, .int .i64 s3], .bool true]) w)
  isP : ∀ w, Calls Try.prog 33 #[.agg #[.int .i64 a, .int .i64 b], .agg #[.int .i64 s1, .int .i64 s2, .int .i64 s3]] w (Ret (.bool true) w)
  back : ∀ w, Calls Try.prog 20 #[.agg #[.int .i64 a, .int .i64 b], .agg #[.int .i64 s1, .int .i64 s2, .int .i64 s3], .agg #[.int .i64 x2, .int .i64 (-y2), .int .i64 e2]] w (Ret (.tuple #[.agg #[.int .i64 x, .int .i64 y, .int .i64 e], .bool true]) w)
  col : ∀ w, Calls Try.prog 28 #[.agg #[.int .i64 a, .int .i64 b], .agg #[.int .i64 x, .int .i64 y, .int .i64 e], .agg #[.int .i64 x2, .int .i64 y2, .int .i64 e2], .agg #[.int .i64 s1, .int .i64 (-s2), .int .i64 s3]] w (Ret (.tuple #[.bool true, .bool true]) w)
  b0 : -1800000 ≤ y2
  b1 : y2 ≤ 1800000
  b2 : -1800000 ≤ s2
  b3 : s2 ≤ 1800000
structure GA (a b x y e x2 y2 e2 s1 s2 s3 : Int) (ok : Bool) : Prop where
  c0 : ∀ w, Calls Try.prog 20 #[.agg #[.int .i64 a, .int .i64 b], .agg #[.int .i64 x, .int .i64 y, .int .i64 e], .agg #[.int .i64 x2, .int .i64 y2, .int .i64 e2]] w (Ret (.tuple #[.agg #[.int .i64 s1, .int .i64 s2, .int .i64 s3], .bool ok]) w)
  c1 : ∀ w, Calls Try.prog 21 #[.agg #[.int .i64 a, .int .i64 b], .agg #[.int .i64 x, .int .i64 y, .int .i64 e], .agg #[.int .i64 x2, .int .i64 y2, .int .i64 e2]] w (Ret (.tuple #[.agg #[.int .i64 s1, .int .i64 s2, .int .i64 s3], .bool ok]) w)
  yes : ok = true → GY a b x y e x2 y2 e2 s1 s2 s3
theorem gafacts (a b x y e x2 y2 e2 : Int) : ∃ s1 s2 s3 ok, GA a b x y e x2 y2 e2 s1 s2 s3 ok := by
  have c0 := fun w => iAddPoints_any a b x y e x2 y2 e2 w
  have c1 := fun w => sAddPoints_any a b x y e x2 y2 e2 w
  cases h : sumO a b x y e x2 y2 e2 with
  | none => rw [h] at c0 c1; exact ⟨_, _, _, _, c0, c1, fun h => (by cases h)⟩
  | some t =>
    obtain ⟨X, Y, E⟩ := t
    obtain ⟨hp, hq, ha⟩ := sumO_pts h
    obtain ⟨hc, op⟩ := pointB_on hp
    obtain ⟨-, oq⟩ := pointB_on hq
    have os := addT_on op oq ha
    have hs := pointB_mk hc os
    obtain ⟨_, _, _, _, q1, q2, _, _⟩ := pointB_bd hq
    obtain ⟨_, _, _, _, z1, z2, _, _⟩ := pointB_bd hs
    have oth := fun w => iAddPoints_any a b x2 y2 e2 x y e w
    rw [sumO_yes hq hp, addT_comm oq op, ha] at oth
    have isP := fun w => iIsPointOf_any a b X Y E w
    rw [hs] at isP
    have hnq := pointB_mk hc (on_neg oq)
    have back := fun w => iAddPoints_any a b X Y E x2 (-y2) e2 w
    rw [sumO_yes hs hnq, addT_undo (disc_ne hc) op oq ha] at back
    have hns := pointB_mk hc (on_neg os)
    have col := fun w => iAreCollinear_any a b x y e x2 y2 e2 X (-Y) E w
    have hv : colV a b x y e x2 y2 e2 X (-Y) E = .tuple #[.bool true, .bool true] := by
      unfold colV
      rw [hp, hq, hns, ha]
      show Value.tuple #[.bool (decide (X = X ∧ Y = - -Y ∧ E = E)), .bool true] = _
      rw [decide_eq_true ⟨rfl, by omega, rfl⟩]
    rw [hv] at col
    rw [h] at c0 c1
    exact ⟨_, _, _, true, c0, c1, fun _ => ⟨oth, isP, back, col, q1, q2, z1, z2⟩⟩
structure GD (a b x y e d1 d2 d3 n1 n2 n3 : Int) (one three : Bool) : Prop where
  e0 : ∀ w, Calls Try.prog 23 #[.agg #[.int .i64 a, .int .i64 b], .agg #[.int .i64 x, .int .i64 y, .int .i64 e]] w (Ret (.tuple #[.agg #[.int .i64 d1, .int .i64 d2, .int .i64 d3], .bool one]) w)
  e1 : ∀ w, Calls Try.prog 24 #[.agg #[.int .i64 a, .int .i64 b], .agg #[.int .i64 x, .int .i64 y, .int .i64 e]] w (Ret (.tuple #[.agg #[.int .i64 d1, .int .i64 d2, .int .i64 d3], .bool one]) w)
  m0 : ∀ w, Calls Try.prog 25 #[.agg #[.int .i64 a, .int .i64 b], .agg #[.int .i64 x, .int .i64 y, .int .i64 e]] w (Ret (.tuple #[.agg #[.int .i64 n1, .int .i64 n2, .int .i64 n3], .bool three]) w)
  m1 : ∀ w, Calls Try.prog 26 #[.agg #[.int .i64 a, .int .i64 b], .agg #[.int .i64 x, .int .i64 y, .int .i64 e]] w (Ret (.tuple #[.agg #[.int .i64 n1, .int .i64 n2, .int .i64 n3], .bool three]) w)
  isP : ∀ w, Calls Try.prog 33 #[.agg #[.int .i64 a, .int .i64 b], .agg #[.int .i64 x, .int .i64 y, .int .i64 e]] w (Ret (.bool three) w)
  imp : one = true → three = true
  neg : three = true → ∀ w, Calls Try.prog 20 #[.agg #[.int .i64 a, .int .i64 b], .agg #[.int .i64 x, .int .i64 y, .int .i64 e], .agg #[.int .i64 n1, .int .i64 n2, .int .i64 n3]] w (Ret (.tuple #[.agg #[.int .i64 0, .int .i64 0, .int .i64 0], .bool true]) w)
  zer : three = true → ∀ w, Calls Try.prog 20 #[.agg #[.int .i64 a, .int .i64 b], .agg #[.int .i64 x, .int .i64 y, .int .i64 e], .agg #[.int .i64 0, .int .i64 0, .int .i64 0]] w (Ret (.tuple #[.agg #[.int .i64 x, .int .i64 y, .int .i64 e], .bool true]) w)
  dbl : ∀ w, Calls Try.prog 20 #[.agg #[.int .i64 a, .int .i64 b], .agg #[.int .i64 x, .int .i64 y, .int .i64 e], .agg #[.int .i64 x, .int .i64 y, .int .i64 e]] w (Ret (.tuple #[.agg #[.int .i64 d1, .int .i64 d2, .int .i64 d3], .bool one]) w)
theorem gdfacts (a b x y e : Int) : ∃ d1 d2 d3 n1 n2 n3 one three, GD a b x y e d1 d2 d3 n1 n2 n3 one three := by
  have d0 := fun w => iDoublePoint_any a b x y e w
  have d1 := fun w => sDoublePoint_any a b x y e w
  have db := fun w => iAddPoints_any a b x y e x y e w
  have n0 := fun w => iNegatePoint_any a b x y e w
  have n1 := fun w => sNegatePoint_any a b x y e w
  have isP := fun w => iIsPointOf_any a b x y e w
  obtain ⟨u1, u2, u3, one, hv⟩ := ptO_shape (sumO a b x y e x y e)
  have himp : one = true → pointB a b x y e = true := by
    intro h1
    cases hs : sumO a b x y e x y e with
    | none => rw [hs, h1] at hv; injection hv with hv; simp at hv
    | some t => exact (sumO_pts hs).1
  rw [hv] at d0 d1 db
  cases hp : pointB a b x y e
  · rw [hp] at n0 n1 isP himp
    exact ⟨_, _, _, _, _, _, one, false, d0, d1, n0, n1, isP, himp, fun h => (by cases h), fun h => (by cases h), db⟩
  · rw [hp] at n0 n1 isP himp
    obtain ⟨hc, op⟩ := pointB_on hp
    have ng := fun w => iAddPoints_any a b x y e x (-y) e w
    rw [sumO_yes hp (pointB_mk hc (on_neg op)), addT_neg op] at ng
    have zr := fun w => iAddPoints_any a b x y e 0 0 0 w
    rw [sumO_yes hp (pointB_mk hc (onB_true.2 (.inl ⟨rfl, rfl, rfl⟩))), addT_zero op] at zr
    exact ⟨_, _, _, _, _, _, one, true, d0, d1, n0, n1, isP, himp, fun _ => ng, fun _ => zr, db⟩
structure GC (a b x y e x2 y2 e2 x3 y3 e3 : Int) (l five : Bool) : Prop where
  c0 : ∀ w, Calls Try.prog 28 #[.agg #[.int .i64 a, .int .i64 b], .agg #[.int .i64 x, .int .i64 y, .int .i64 e], .agg #[.int .i64 x2, .int .i64 y2, .int .i64 e2], .agg #[.int .i64 x3, .int .i64 y3, .int .i64 e3]] w (Ret (.tuple #[.bool l, .bool five]) w)
  c1 : ∀ w, Calls Try.prog 29 #[.agg #[.int .i64 a, .int .i64 b], .agg #[.int .i64 x, .int .i64 y, .int .i64 e], .agg #[.int .i64 x2, .int .i64 y2, .int .i64 e2], .agg #[.int .i64 x3, .int .i64 y3, .int .i64 e3]] w (Ret (.tuple #[.bool l, .bool five]) w)
  turn : five = true → l = true → ∀ w, Calls Try.prog 28 #[.agg #[.int .i64 a, .int .i64 b], .agg #[.int .i64 x2, .int .i64 y2, .int .i64 e2], .agg #[.int .i64 x, .int .i64 y, .int .i64 e], .agg #[.int .i64 x3, .int .i64 y3, .int .i64 e3]] w (Ret (.tuple #[.bool true, .bool true]) w)
theorem gcfacts (a b x y e x2 y2 e2 x3 y3 e3 : Int) : ∃ l five, GC a b x y e x2 y2 e2 x3 y3 e3 l five := by
  have c0 := fun w => iAreCollinear_any a b x y e x2 y2 e2 x3 y3 e3 w
  have c1 := fun w => sAreCollinear_any a b x y e x2 y2 e2 x3 y3 e3 w
  obtain ⟨r, ok, hv⟩ := colV_shape a b x y e x2 y2 e2 x3 y3 e3
  rw [hv] at c0 c1
  refine ⟨r, ok, c0, c1, fun h1 h2 w => ?_⟩
  subst h1 h2
  have h3 := iAreCollinear_any a b x2 y2 e2 x y e x3 y3 e3 w
  have hw : colV a b x2 y2 e2 x y e x3 y3 e3 = colV a b x y e x2 y2 e2 x3 y3 e3 := by
    unfold colV at hv ⊢
    cases hp : pointB a b x y e
    · rw [hp] at hv; injection hv with hv; simp at hv
    cases hq : pointB a b x2 y2 e2
    · rw [hp, hq] at hv; injection hv with hv; simp at hv
    rw [addT_comm (pointB_on hq).2 (pointB_on hp).2]
  rw [hw, hv] at h3
  exact h3
structure GS (a b x y e x2 y2 e2 r1 r2 : Int) (ok : Bool) : Prop where
  s0 : ∀ w, Calls Try.prog 31 #[.agg #[.int .i64 a, .int .i64 b], .agg #[.int .i64 x, .int .i64 y, .int .i64 e], .agg #[.int .i64 x2, .int .i64 y2, .int .i64 e2]] w (Ret (.tuple #[.agg #[.int .i64 r1, .int .i64 r2], .bool ok]) w)
  s1 : ∀ w, Calls Try.prog 32 #[.agg #[.int .i64 a, .int .i64 b], .agg #[.int .i64 x, .int .i64 y, .int .i64 e], .agg #[.int .i64 x2, .int .i64 y2, .int .i64 e2]] w (Ret (.tuple #[.agg #[.int .i64 r1, .int .i64 r2], .bool ok]) w)
  back : ∀ w, Calls Try.prog 31 #[.agg #[.int .i64 a, .int .i64 b], .agg #[.int .i64 x2, .int .i64 y2, .int .i64 e2], .agg #[.int .i64 x, .int .i64 y, .int .i64 e]] w (Ret (.tuple #[.agg #[.int .i64 r1, .int .i64 r2], .bool ok]) w)
theorem slV_swap (a b x y e x2 y2 e2 : Int) : (if slB a b x2 y2 e2 x y e = true then makV (upI a x2 y2 e2 x y e) (farI x2 y2 e2 x y e) else zeroV) = (if slB a b x y e x2 y2 e2 = true then makV (upI a x y e x2 y2 e2) (farI x y e x2 y2 e2) else zeroV) := by
  by_cases hs : x = x2 ∧ y = y2 ∧ e = e2
  · obtain ⟨rfl, rfl, rfl⟩ := hs; rfl
  · obtain ⟨h1, h2⟩ := up_swap (a := a) hs
    have h3 : slB a b x2 y2 e2 x y e = slB a b x y e x2 y2 e2 := by
      unfold slB
      rw [h2]
      have h4 : (-farI x y e x2 y2 e2 == 0) = (farI x y e x2 y2 e2 == 0) := by rw [Bool.eq_iff_iff, beq_iff_eq, beq_iff_eq]; omega
      rw [h4]
      cases pointB a b x y e <;> cases pointB a b x2 y2 e2 <;> cases (e == 0) <;> cases (e2 == 0) <;> rfl
    rw [h3]
    by_cases h5 : slB a b x y e x2 y2 e2 = true
    · rw [if_pos h5, if_pos h5, h1, h2, makV_neg]
      intro h0
      unfold slB at h5
      rw [h0] at h5
      simp at h5
    · rw [if_neg h5, if_neg h5]
theorem slV_shape (a b x y e x2 y2 e2 : Int) : ∃ r1 r2 ok, (if slB a b x y e x2 y2 e2 = true then makV (upI a x y e x2 y2 e2) (farI x y e x2 y2 e2) else zeroV) = .tuple #[.agg #[.int .i64 r1, .int .i64 r2], .bool ok] := by
  split
  · unfold makV
    cases fracB (lowN (upI a x y e x2 y2 e2) (farI x y e x2 y2 e2)) (lowD (upI a x y e x2 y2 e2) (farI x y e x2 y2 e2))
    · exact ⟨_, _, _, rfl⟩
    · exact ⟨_, _, _, rfl⟩
  · exact ⟨_, _, _, rfl⟩
theorem gsfacts (a b x y e x2 y2 e2 : Int) : ∃ r1 r2 ok, GS a b x y e x2 y2 e2 r1 r2 ok := by
  have s0 := fun w => iSlopeOf_any a b x y e x2 y2 e2 w
  have s1 := fun w => sSlopeOf_any a b x y e x2 y2 e2 w
  have s2 := fun w => iSlopeOf_any a b x2 y2 e2 x y e w
  rw [slV_swap a b x y e x2 y2 e2] at s2
  obtain ⟨r1, r2, ok, hv⟩ := slV_shape a b x y e x2 y2 e2
  rw [hv] at s0 s1 s2
  exact ⟨r1, r2, ok, s0, s1, s2⟩
end Go.Proofs.Ytnhlcgbknkdbiaa
