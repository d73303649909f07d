/- As: adding points modulo a prime is commutative and associative. No conditions. -/
import Derived.Test.YtpjcfnjagknocaaOr
namespace Go.Proofs.Ytpjcfnjagknocaa
open Go.RowKit
set_option linter.unusedVariables false

section
variable {n : Nat} [NeZero n]
theorem rCanc {d i u v : Fin n} (hi : d * i = 1) (h : d * u = d * v) : u = v := by
  refine rSub (rCancel hi ?_)
  have e : d * (u - v) = d * u - d * v := by clear h hi; grind
  rw [e, h]; clear h hi e; grind
/-- a chord's slope and the curve's coefficient. -/
theorem slA {A B x1 y1 x2 y2 m i : Fin n} (h1 : y1 * y1 = x1 * x1 * x1 + A * x1 + B) (h2 : y2 * y2 = x2 * x2 * x2 + A * x2 + B) (h3 : m * (x2 - x1) = y2 - y1) (hi : (x2 - x1) * i = 1) :
    A = 2 * m * y1 + m * m * (x2 - x1) - (x1 * x1 + x1 * x2 + x2 * x2) := by
  have e1 := rMove h3
  refine rCanc hi ?_
  have id : (x2 - x1) * A - (x2 - x1) * (2 * m * y1 + m * m * (x2 - x1) - (x1 * x1 + x1 * x2 + x2 * x2)) = (-1) * (y2 * y2 - (x2 * x2 * x2 + A * x2 + B)) + 1 * (y1 * y1 - (x1 * x1 * x1 + A * x1 + B)) := by
    clear h1 h2 h3 hi
    subst e1
    grind
  rw [rTwo (rSub' h2) (rSub' h1)] at id
  exact rSub id
/-- the slopes of a chord and of the line through its sum and a third point. -/
theorem slG {A x1 y1 x2 y2 x3 y3 m k g s t : Fin n} (h1 : y2 = y1 + m * (x2 - x1)) (h2 : A = 2 * m * y1 + m * m * (x2 - x1) - (x1 * x1 + x1 * x2 + x2 * x2)) (h3 : y3 = y2 + k * (x3 - x2)) (h4 : A = 2 * k * y2 + k * k * (x3 - x2) - (x2 * x2 + x2 * x3 + x3 * x3))
    (hs : s = m * m - x1 - x2) (ht : t = m * (x1 - s) - y1) (h5 : y3 = t + g * (x3 - s)) (h6 : A = 2 * g * t + g * g * (x3 - s) - (s * s + s * x3 + x3 * x3)) (hc : (∃ j, (x3 - s) * j = 1) ∨ (∃ j, (x3 - x2) * j = 1)) :
    (g + m) * (m - k) = x1 - x3 := by
  rcases hc with ⟨j, hj⟩ | ⟨j, hj⟩
  · refine rCanc hj ?_
    have e0 : 2 * m * y1 + m * m * (x2 - x1) - (x1 * x1 + x1 * x2 + x2 * x2) - (2 * k * y2 + k * k * (x3 - x2) - (x2 * x2 + x2 * x3 + x3 * x3)) = 0 := by rw [← h2, ← h4]; clear h1 h2 h3 h4 hs ht h5 h6 hj; grind
    have e1 : (x3 - s) * ((g + m) * (m - k)) - (x3 - s) * (x1 - x3) = 1 * (2 * m * y1 + m * m * (x2 - x1) - (x1 * x1 + x1 * x2 + x2 * x2) - (2 * k * y2 + k * k * (x3 - x2) - (x2 * x2 + x2 * x3 + x3 * x3))) + (m - k) * (t + g * (x3 - s) - y3) := by
      clear e0 h2 h4 h5 h6 hj
      subst h3; subst h1; subst ht; subst hs
      grind
    rw [rTwo e0 (rSub' h5.symm)] at e1
    exact rSub e1
  · refine rCanc hj ?_
    have e0 : 2 * m * y1 + m * m * (x2 - x1) - (x1 * x1 + x1 * x2 + x2 * x2) - (2 * g * t + g * g * (x3 - s) - (s * s + s * x3 + x3 * x3)) = 0 := by rw [← h2, ← h6]; clear h1 h2 h3 h4 hs ht h5 h6 hj; grind
    have e1 : (x3 - x2) * ((g + m) * (m - k)) - (x3 - x2) * (x1 - x3) = 1 * (2 * m * y1 + m * m * (x2 - x1) - (x1 * x1 + x1 * x2 + x2 * x2) - (2 * g * t + g * g * (x3 - s) - (s * s + s * x3 + x3 * x3))) + (g + m) * (t + g * (x3 - s) - y3) := by
      clear e0 h2 h4 h5 h6 hj
      subst h3; subst h1; subst ht; subst hs
      grind
    rw [rTwo e0 (rSub' h5.symm)] at e1
    exact rSub e1
theorem slRev {A x1 y1 x2 y2 m : Fin n} (h1 : y2 = y1 + m * (x2 - x1)) (h2 : A = 2 * m * y1 + m * m * (x2 - x1) - (x1 * x1 + x1 * x2 + x2 * x2)) : y1 = y2 + m * (x1 - x2) ∧ A = 2 * m * y2 + m * m * (x1 - x2) - (x2 * x2 + x2 * x1 + x1 * x1) := by
  refine ⟨?_, ?_⟩
  · rw [h1]; clear h1 h2; grind
  · rw [h2, h1]; clear h1 h2; grind
theorem assocXY {x1 y1 x2 y2 x3 y3 m k g d s t s' X Y X' Y' i : Fin n} (h1 : y2 = y1 + m * (x2 - x1)) (h3 : y3 = y2 + k * (x3 - x2)) (hs : s = m * m - x1 - x2) (hs' : s' = k * k - x2 - x3)
    (h5 : y3 = t + g * (x3 - s)) (hi : (x1 - x3) * i = 1) (hg : (g + m) * (m - k) = x1 - x3) (hd : (d + k) * (m - k) = x1 - x3) (hX : X = g * g - s - x3) (hY : Y = g * (s - X) - t) (hX' : X' = d * d - x1 - s') (hY' : Y' = d * (x1 - X') - y1) : X = X' ∧ Y = Y' := by
  have hu : (m - k) * ((g + m) * i) = 1 := by
    have e : (m - k) * ((g + m) * i) = ((g + m) * (m - k)) * i := by clear hg hd hi hX hY hX' hY' h1 h3 h5 hs hs'; grind
    rw [e, hg, hi]
  have hv : g + m = d + k := by
    refine rCanc hu ?_
    have e1 : (m - k) * (g + m) = (g + m) * (m - k) := by clear hg hd hi hX hY hX' hY' h1 h3 h5 hs hs' hu; grind
    have e2 : (m - k) * (d + k) = (d + k) * (m - k) := by clear hg hd hi hX hY hX' hY' h1 h3 h5 hs hs' hu; grind
    rw [e1, e2, hg, hd]
  have hg' : g = d + k - m := by rw [← hv]; clear hg hd hi hX hY hX' hY' h1 h3 h5 hs hs' hu hv; grind
  have hx1 : x1 = x3 + (d + k) * (m - k) := by rw [hd]; clear hg hd hi hX hY hX' hY' h1 h3 h5 hs hs' hu hv; grind
  have hXX : X = X' := by
    clear hY hY' h1 h3 h5 hg hd hi hu hv
    rw [hX, hX', hs, hs', hg', hx1]; clear hX hX' hs hs' hg' hx1; grind
  refine ⟨hXX, ?_⟩
  have hY2 : Y = g * (x3 - X) - y3 := by rw [hY, h5]; clear hg hd hi hX hY hX' hY' h1 h3 h5 hs hs' hu hv hg' hx1; grind
  rw [hY2, hY', ← hXX, h3, h1]
  have hXe : X = (d + k) * (d + k) - 2 * (d + k) * m + x1 + x2 - x3 := by rw [hX, hs, hg']; clear hg hd hi hX hY hX' hY' h1 h3 h5 hs hs' hu hv hx1 hY2 hXX; grind
  clear hg hd hi hX hY hX' hY' h1 h3 h5 hs hs' hu hv hY2 hXX
  rw [hXe, hg', hx1]
  clear hXe hg' hx1
  grind
end
theorem addI_pair2 {a p s0 s1 t0 t1 : Int} : addI a p [s0, s1] [t0, t1] = if s0 = t0 ∧ (s1 + t1) % p = 0 then [] else
        [sumX (slopeI a p s0 s1 t0 t1) p s0 t0, sumY (slopeI a p s0 s1 t0 t1) p s0 s1 (sumX (slopeI a p s0 s1 t0 t1) p s0 t0)] := rfl
/-- the slope of add_char, as one relation. -/
theorem sl_char {n : Nat} [NeZero n] {a b u0 u1 v0 v1 : Int} {m : Fin n} (hp : p5B n = true) (ua : 0 ≤ u0) (ub : u0 < n) (va : 0 ≤ v0) (vb : v0 < n) (hu : u1 * u1 % n = rsI a b n u0) (hv : v1 * v1 % n = rsI a b n v0)
    (h : (u0 ≠ v0 ∧ m * (cf n v0 - cf n u0) = cf n v1 - cf n u1) ∨ (u0 = v0 ∧ v1 = u1 ∧ u1 ≠ 0 ∧ m * (2 * cf n u1) = 3 * cf n u0 * cf n u0 + cf n a)) :
    cf n v1 = cf n u1 + m * (cf n v0 - cf n u0) ∧ cf n a = 2 * m * cf n u1 + m * m * (cf n v0 - cf n u0) - (cf n u0 * cf n u0 + cf n u0 * cf n v0 + cf n v0 * cf n v0) := by
  rcases h with ⟨hne, h⟩ | ⟨rfl, rfl, _, h⟩
  · obtain ⟨i, hi⟩ := cf_unit (d := v0 - u0) hp (not_dvd_diff ua ub va vb hne)
    rw [cf_sub] at hi
    refine ⟨by rw [h]; clear h hi; grind, slA (cf_rs.1 hu) (cf_rs.1 hv) h hi⟩
  · refine ⟨by clear h; grind, ?_⟩
    have e : cf n a = m * (2 * cf n v1) - 3 * cf n u0 * cf n u0 := by rw [h]; clear h; grind
    rw [e]; clear h e; grind
theorem add_comm_pt {a b p : Int} {s t : List Int} (hp : p5B p = true) (hs : onF a b p s = true) (ht : onF a b p t = true) : addI a p s t = addI a p t s := by
  rcases onF_cases hs with rfl | ⟨s0, s1, rfl, sa, sb, sc, sd, hsq⟩
  · rw [addI_nil, addI_nil']
  rcases onF_cases ht with rfl | ⟨t0, t1, rfl, ta, tb, tc, td, htq⟩
  · rw [addI_nil, addI_nil']
  by_cases hz : s0 = t0 ∧ (s1 + t1) % p = 0
  · rw [addI_pair2, if_pos hz, addI_pair2, if_pos ⟨hz.1.symm, by rw [Int.add_comm]; exact hz.2⟩]
  have hz' : ¬ (t0 = s0 ∧ (t1 + s1) % p = 0) := fun h => hz ⟨h.1.symm, by rw [Int.add_comm]; exact h.2⟩
  obtain ⟨n, rfl, hn⟩ := nat_p hp
  have : NeZero n := ⟨hn⟩
  obtain ⟨m, x, y, hR, xa, xb, ya, yb, hx, hy, hm⟩ := add_char hp sa sb sc sd hsq ta tb tc td htq hz
  obtain ⟨m', x', y', hR', xa', xb', ya', yb', hx', hy', hm'⟩ := add_char hp ta tb tc td htq sa sb sc sd hsq hz'
  rw [hR, hR']
  have hmm : m' = m := by
    rcases hm with ⟨hne, hm⟩ | ⟨rfl, rfl, h0, hm⟩
    · rcases hm' with ⟨_, hm'⟩ | ⟨h, _⟩
      · obtain ⟨i, hi⟩ := cf_unit (d := t0 - s0) hp (not_dvd_diff sa sb ta tb hne)
        rw [cf_sub] at hi
        refine rCanc hi ?_
        have e1 : (cf n t0 - cf n s0) * m' = -(m' * (cf n s0 - cf n t0)) := by clear hm hm' hi hx hy hx' hy'; grind
        have e2 : (cf n t0 - cf n s0) * m = m * (cf n t0 - cf n s0) := by clear hm hm' hi hx hy hx' hy' e1; grind
        rw [e1, e2, hm', hm]; clear hm hm' hi hx hy hx' hy' e1 e2; grind
      · exact absurd h.symm hne
    · rcases hm' with ⟨h, _⟩ | ⟨_, _, _, hm'⟩
      · exact absurd rfl h
      · obtain ⟨i, hi⟩ := cf_unit (d := 2 * t1) hp (not_dvd_two (p5_pr hp) (p5_bd hp).1 tc td h0)
        rw [cf_mul, cf_two] at hi
        refine rCanc hi ?_
        have e1 : (2 * cf n t1) * m' = m' * (2 * cf n t1) := by clear hm hm' hi hx hy hx' hy'; grind
        have e2 : (2 * cf n t1) * m = m * (2 * cf n t1) := by clear hm hm' hi hx hy hx' hy' e1; grind
        rw [e1, e2, hm', hm]
  subst hmm
  have hsl := (sl_char hp sa sb ta tb hsq htq hm).1
  have hxx : cf n x = cf n x' := by rw [hx, hx']; clear hm hm' hx hy hx' hy' hsl; grind
  have hyy : cf n y = cf n y' := by rw [hy, hy', ← hxx, hsl]; clear hm hm' hx hy hx' hy' hsl hxx; grind
  rw [cf_inj xa xb xa' xb' hxx, cf_inj ya yb ya' yb' hyy]
theorem neg_neg_pt {a b p : Int} {s : List Int} (hp : p5B p = true) (hs : onF a b p s = true) : negL p (negL p s) = s := by
  have hb := p5_bd hp
  rcases onF_cases hs with rfl | ⟨s0, s1, rfl, sa, sb, sc, sd, hsq⟩
  · rfl
  · show [s0, (-((-s1) % p)) % p] = [s0, s1]
    have : (-((-s1) % p)) % p = s1 := by
      by_cases h0 : s1 = 0
      · subst h0; simp
      · have e : (-s1) % p = p - s1 := by rw [← Int.add_emod_right (-s1) p, show -s1 + p = p - s1 by omega]; exact Int.emod_eq_of_lt (by omega) (by omega)
        rw [e, show -(p - s1) = s1 - p by omega, Int.sub_emod_right]
        exact Int.emod_eq_of_lt (by omega) (by omega)
    rw [this]
theorem add_self_neg {a b p : Int} {s : List Int} (hp : p5B p = true) (hs : onF a b p s = true) : addI a p s (negL p s) = [] := by
  rcases onF_cases hs with rfl | ⟨s0, s1, rfl, sa, sb, sc, sd, hsq⟩
  · rfl
  · show addI a p [s0, s1] [s0, (-s1) % p] = []
    rw [addI_pair2, if_pos ⟨rfl, by rw [Int.add_emod, Int.emod_emod, ← Int.add_emod, Int.add_right_neg, Int.zero_emod]⟩]
/-- when a sum is infinity. -/
theorem add_zero_iff {a p : Int} {s0 s1 t0 t1 : Int} (hp : p5B p = true) (sc : 0 ≤ s1) (sd : s1 < p) (tc : 0 ≤ t1) (td : t1 < p) (h : s0 = t0 ∧ (s1 + t1) % p = 0) : [s0, s1] = negL p [t0, t1] := by
  have hb := p5_bd hp
  obtain ⟨rfl, h⟩ := h
  show [s0, s1] = [s0, (-t1) % p]
  have h1 : (-t1) % p = (s1 + t1 + (-t1)) % p := by rw [Int.add_emod, h, Int.zero_add, Int.emod_emod]
  rw [h1, show s1 + t1 + -t1 = s1 by omega, Int.emod_eq_of_lt sc sd]
theorem assoc_opp {a b p : Int} {s t r : List Int} (hp : p5B p = true) (hdisc : discI a b % p ≠ 0) (hs : onF a b p s = true) (ht : onF a b p t = true) (hr : onF a b p r = true) (h : addI a p s t = negL p r) : addI a p (addI a p s t) r = addI a p s (addI a p t r) := by
  have h1 := add_neg hp hdisc hs ht
  rw [add_comm_pt hp ht hs, h, add_comm_pt hp (on_neg2 hp hr) (on_neg2 hp hs)] at h1
  have h2 := add_neg hp hdisc (on_neg2 hp hr) (on_neg2 hp hs)
  rw [h1, neg_neg_pt hp hr] at h2
  rw [h, h2, add_self_neg hp hs, add_comm_pt hp (on_neg2 hp hr) hr, add_self_neg hp hr]
theorem add_assoc_pt {a b p : Int} {s t r : List Int} (hp : p5B p = true) (hdisc : discI a b % p ≠ 0) (hs : onF a b p s = true) (ht : onF a b p t = true) (hr : onF a b p r = true) : addI a p (addI a p s t) r = addI a p s (addI a p t r) := by
  have hb := p5_bd hp
  -- opposite points
  by_cases c1 : s = negL p t
  · have e1 : t = negL p s := by rw [c1, neg_neg_pt hp ht]
    have e2 : addI a p s t = [] := by rw [e1]; exact add_self_neg hp hs
    rw [e2, addI_nil]
    have h := add_neg hp hdisc ht hr
    rw [← c1, add_comm_pt hp hr ht, add_comm_pt hp (on_add hp ht hr) hs] at h
    exact h.symm
  by_cases c2 : t = negL p r
  · have e1 : r = negL p t := by rw [c2, neg_neg_pt hp hr]
    have e2 : addI a p t r = [] := by rw [e1]; exact add_self_neg hp ht
    rw [e2, addI_nil', e1]
    exact add_neg hp hdisc ht hs
  by_cases c3 : addI a p s t = negL p r
  · exact assoc_opp hp hdisc hs ht hr c3
  by_cases c4 : addI a p r t = negL p s
  · have h := assoc_opp hp hdisc hr ht hs c4
    rw [add_comm_pt hp hr ht, add_comm_pt hp (on_add hp ht hr) hs, add_comm_pt hp ht hs, add_comm_pt hp hr (on_add hp hs ht)] at h
    exact h.symm
  by_cases c5 : s = r
  · subst c5
    rw [add_comm_pt hp ht hs, add_comm_pt hp (on_add hp hs ht) hs]
  by_cases c6 : s = negL p r
  · have e1 : r = negL p s := by rw [c6, neg_neg_pt hp hr]
    have h1 := add_neg hp hdisc hs ht
    have h2 := add_neg hp hdisc hr ht
    rw [← c6] at h2
    rw [← e1, add_comm_pt hp ht hs] at h1
    rw [h1, add_comm_pt hp hs (on_add hp ht hr), h2]
  rcases onF_cases hs with rfl | ⟨x1, y1, rfl, sa, sb, sc, sd, hsq⟩
  · rw [addI_nil, addI_nil]
  rcases onF_cases ht with rfl | ⟨x2, y2, rfl, ta, tb, tc, td, htq⟩
  · rw [addI_nil, addI_nil']
  rcases onF_cases hr with rfl | ⟨x3, y3, rfl, ra, rb, rc, rd, hrq⟩
  · rw [addI_nil', addI_nil']
  have d1 : ¬ (x1 = x2 ∧ (y1 + y2) % p = 0) := fun h => c1 (add_zero_iff (a := a) hp sc sd tc td h)
  have d2 : ¬ (x2 = x3 ∧ (y2 + y3) % p = 0) := fun h => c2 (add_zero_iff (a := a) hp tc td rc rd h)
  have hpr := p5_pr hp
  have d13 : x1 ≠ x3 := by
    intro h
    subst h
    rcases sum_zero hpr hb.1 sc sd rc rd (hsq.trans hrq.symm) with hz | ⟨h, _⟩
    · exact c6 (add_zero_iff (a := a) hp sc sd rc rd ⟨rfl, hz⟩)
    · exact c5 (by rw [h])
  have k1 := add_neg hp hdisc ht hs
  have k2 := add_neg hp hdisc ht hr
  obtain ⟨n, rfl, hn⟩ := nat_p hp
  have : NeZero n := ⟨hn⟩
  have hA1 := on_add hp hs ht
  have hA2 := on_add hp ht hr
  obtain ⟨m, s, t, hS, s1, s2, s3, s4, hsx, hsy, hm⟩ := add_char hp sa sb sc sd hsq ta tb tc td htq d1
  obtain ⟨k, s', t', hS', s1', s2', s3', s4', hsx', hsy', hk⟩ := add_char hp ta tb tc td htq ra rb rc rd hrq d2
  have c4' := c4
  rw [add_comm_pt hp hr ht, hS'] at c4'
  rw [hS] at c3 hA1 k1 ⊢
  rw [add_comm_pt hp hr ht] at k2
  rw [hS'] at hA2 k2 ⊢
  obtain ⟨_, _, _, _, hSq⟩ := onF_pair hA1
  obtain ⟨_, _, _, _, hSq'⟩ := onF_pair hA2
  have d3 : ¬ (s = x3 ∧ (t + y3) % (n : Int) = 0) := fun h => c3 (add_zero_iff (a := a) hp s3 s4 rc rd h)
  have d4 : ¬ (x1 = s' ∧ (y1 + t') % (n : Int) = 0) := fun h => c4' (add_zero_iff (a := a) hp s3' s4' sc sd ⟨h.1.symm, by rw [Int.add_comm]; exact h.2⟩)
  obtain ⟨g, X, Y, hR, xa, xb, ya, yb, hX, hY, hg⟩ := add_char hp s1 s2 s3 s4 hSq ra rb rc rd hrq d3
  obtain ⟨d, X', Y', hR', xa', xb', ya', yb', hX', hY', hd⟩ := add_char hp sa sb sc sd hsq s1' s2' s3' s4' hSq' d4
  rw [hR, hR']
  -- a sum is not one of its summands
  have u3 : s ≠ x3 ∨ x3 ≠ x2 := by
    by_cases q1 : s = x3
    · right
      intro q2
      subst q1
      have hty : t = y3 := by
        rcases sum_zero hpr hb.1 s3 s4 rc rd (hSq.trans hrq.symm) with hz | ⟨h, _⟩
        · exact absurd ⟨rfl, hz⟩ d3
        · exact h.symm
      subst hty
      subst q2
      have hy23 : y2 = t := by
        rcases sum_zero hpr hb.1 tc td rc rd (htq.trans hrq.symm) with hz | ⟨h, _⟩
        · exact absurd ⟨rfl, hz⟩ d2
        · exact h.symm
      subst hy23
      rw [add_self_neg hp ht] at k1
      cases k1
    · exact .inl q1
  have u1 : x1 ≠ s' ∨ x1 ≠ x2 := by
    by_cases q1 : x1 = s'
    · right
      intro q2
      subst q1
      have hty : t' = y1 := by
        rcases sum_zero hpr hb.1 sc sd s3' s4' (hsq.trans hSq'.symm) with hz | ⟨h, _⟩
        · exact absurd ⟨rfl, hz⟩ d4
        · exact h
      subst hty
      subst q2
      have hy23 : y2 = t' := by
        rcases sum_zero hpr hb.1 sc sd tc td (hsq.trans htq.symm) with hz | ⟨h, _⟩
        · exact absurd ⟨rfl, hz⟩ d1
        · exact h
      subst hy23
      rw [add_self_neg hp ht] at k2
      cases k2
    · exact .inl q1
  obtain ⟨l1, l2⟩ := sl_char hp sa sb ta tb hsq htq hm
  obtain ⟨l3, l4⟩ := sl_char hp ta tb ra rb htq hrq hk
  obtain ⟨l5, l6⟩ := sl_char hp s1 s2 ra rb hSq hrq hg
  obtain ⟨l7, l8⟩ := sl_char hp sa sb s1' s2' hsq hSq' hd
  obtain ⟨r1, r2⟩ := slRev l1 l2
  obtain ⟨r3, r4⟩ := slRev l3 l4
  obtain ⟨r7, r8⟩ := slRev l7 l8
  have unit : ∀ {v w : Int}, 0 ≤ v → v < n → 0 ≤ w → w < n → v ≠ w → ∃ j, (cf n w - cf n v) * j = 1 := fun {v w} v0 v1 w0 w1 h => by
    obtain ⟨i, hi⟩ := cf_unit (d := w - v) hp (not_dvd_diff v0 v1 w0 w1 h)
    rw [cf_sub] at hi
    exact ⟨i, hi⟩
  have hG : (g + m) * (m - k) = cf n x1 - cf n x3 := slG l1 l2 l3 l4 hsx hsy l5 l6 (by
    rcases u3 with h | h
    · exact .inl (unit s1 s2 ra rb h)
    · exact .inr (unit ta tb ra rb (fun e => h e.symm)))
  have hsx2 : cf n s' = k * k - cf n x3 - cf n x2 := by rw [hsx']; clear hm hk hg hd l1 l2 l3 l4 l5 l6 l7 l8 r1 r2 r3 r4 r7 r8 hX hY hX' hY' hG; grind
  have hsy2 : cf n t' = k * (cf n x3 - cf n s') - cf n y3 := by rw [hsy', l3]; clear hm hk hg hd l1 l2 l3 l4 l5 l6 l7 l8 r1 r2 r3 r4 r7 r8 hX hY hX' hY' hG hsx2; grind
  have hD : (d + k) * (k - m) = cf n x3 - cf n x1 := slG r3 r4 r1 r2 hsx2 hsy2 r7 r8 (by
    rcases u1 with h | h
    · exact .inl (unit s1' s2' sa sb (fun e => h e.symm))
    · exact .inr (unit ta tb sa sb (fun e => h e.symm)))
  have hD' : (d + k) * (m - k) = cf n x1 - cf n x3 := by
    have e : (d + k) * (m - k) = -((d + k) * (k - m)) := by clear hm hk hg hd l1 l2 l3 l4 l5 l6 l7 l8 r1 r2 r3 r4 r7 r8 hX hY hX' hY' hG hD hsx2 hsy2 hsx hsy hsx' hsy'; grind
    rw [e, hD]; clear hm hk hg hd l1 l2 l3 l4 l5 l6 l7 l8 r1 r2 r3 r4 r7 r8 hX hY hX' hY' hG hD e hsx2 hsy2 hsx hsy hsx' hsy'; grind
  obtain ⟨i, hi⟩ := unit ra rb sa sb (fun e => d13 e.symm)
  obtain ⟨e1, e2⟩ := assocXY l1 l3 hsx hsx' l5 hi hG hD' hX hY hX' hY'
  rw [cf_inj xa xb xa' xb' e1, cf_inj ya yb ya' yb' e2]
end Go.Proofs.Ytpjcfnjagknocaa
