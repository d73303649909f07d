/- Aq: contracts: the reference's sum of two points. No conditions. -/
import Derived.Test.YtakilincclnpdaaGreatDoorPzz
import Derived.Test.YtakilincclnpdaaGreatDoorFrz
import Derived.Test.YtakilincclnpdaaGreatDoorNgz
import Derived.Test.YtakilincclnpdaaGreatDoorErz
namespace Go.Proofs.YtakilincclnpdaaGreatDoor
open Go.RowKit

/-- the reference's x of the sum, in lowest terms, as the equation of the sum. -/
theorem low_sumX {n d x e x2 e2 : Int} (hd : d ≠ 0) (he : e ≠ 0) (he2 : e2 ≠ 0) {T B : Int} (hT : T = n * n * (e * e) * (e2 * e2) - x * d * d * (e2 * e2) - x2 * d * d * (e * e)) (hB : B = d * d * (e * e) * (e2 * e2)) :
    B ≠ 0 ∧ 0 < lowD T B ∧ Int.gcd (lowN T B) (lowD T B) = 1 ∧ (n*n*(e*e*(e2*e2)) - d*d*(x*(e2*e2) + x2*(e*e)))*lowD T B = lowN T B*(d*d*(e*e*(e2*e2))) := by
  have hB0 : B ≠ 0 := by
    rw [hB]
    exact Int.mul_ne_zero (Int.mul_ne_zero (Int.mul_ne_zero hd hd) (Int.mul_ne_zero he he)) (Int.mul_ne_zero he2 he2)
  have h1 := lowD_pos (n := T) hB0
  refine ⟨hB0, by omega, gcdI_one.1 (low_gcd hB0), ?_⟩
  have h2 := low_cross (n := T) hB0
  have e1 : n*n*(e*e*(e2*e2)) - d*d*(x*(e2*e2) + x2*(e*e)) = T := by rw [hT]; clear hT hB h1 h2 hB0; grind
  have e2' : d*d*(e*e*(e2*e2)) = B := by rw [hB]; clear hT hB h1 h2 hB0 e1; grind
  rw [e1, e2']
  exact h2.symm
/-- what the reference finds out about the sum. -/
theorem specSum {a b x y e x2 y2 e2 n d g : Int} (hp : FinP a b x y e) (hq : FinP a b x2 y2 e2) (hf : farI x y e x2 y2 e2 ≠ 0) (hg0 : g ≠ 0) (hn : g * n = upI a x y e x2 y2 e2) (hm : g * d = farI x y e x2 y2 e2) (hc : Int.gcd n d = 1) (hd : 1 ≤ d)
    {T B : Int} (hT : T = n * n * (e * e) * (e2 * e2) - x * d * d * (e2 * e2) - x2 * d * d * (e * e)) (hB : B = d * d * (e * e) * (e2 * e2)) {E : Int} (E0 : 0 ≤ E) (h1 : E * E ≤ lowD T B) (h2 : lowD T B < (E + 1) * (E + 1)) :
    (d > 8000 → sumT a x y e x2 y2 e2 = none) ∧ (200 * d < n.natAbs → sumT a x y e x2 y2 e2 = none) ∧ (¬ (E * E = lowD T B ∧ E ≤ 20 ∧ -10000 ≤ lowN T B ∧ lowN T B ≤ 10000) → sumT a x y e x2 y2 e2 = none) ∧
    ((E * E = lowD T B ∧ E ≤ 20 ∧ -10000 ≤ lowN T B ∧ lowN T B ≤ 10000) → 1 ≤ E ∧ ∃ Y, sumT a x y e x2 y2 e2 = some (lowN T B, Y, E) ∧ SumY n d x y e (lowN T B) Y E ∧ FinP a b (lowN T B) Y E) := by
  have he := hp.e0
  have he2 := hq.e0
  obtain ⟨hB0, l1, l2, l3⟩ := low_sumX (x := x) (x2 := x2) (n := n) (show d ≠ 0 by omega) (show e ≠ 0 by omega) (show e2 ≠ 0 by omega) hT hB
  have hno : (∀ X Y E', IsSum n d x y e x2 e2 X Y E' → False) → sumT a x y e x2 y2 e2 = none := fun h => by
    refine sumT_none fun X Y E' hs => ?_
    rw [← hn, ← hm, isSum_scale hg0] at hs
    exact h X Y E' hs
  have hbd : ∀ X Y E', IsSum n d x y e x2 e2 X Y E' → d ≤ 8000 ∧ n * n ≤ 40000 * (d * d) := fun X Y E' hs => by
    obtain ⟨k1, k2, k3, k4, k5, k6, k7⟩ := hs
    obtain ⟨_, s2, s3⟩ := sum_bd hc (by omega) he hp.e1 he2 hq.e1 k1 k2 hp.x1 hq.x1 k4 k6
    exact ⟨s2, s3⟩
  refine ⟨fun h => hno fun X Y E' hs => ?_, fun h => hno fun X Y E' hs => ?_, fun h => hno fun X Y E' hs => ?_, fun h => ?_⟩
  · have := hbd X Y E' hs; omega
  · have := abs_le_of_sq (by omega) (hbd X Y E' hs).2; omega
  · obtain ⟨k1, k2, k3, k4, k5, k6, k7⟩ := hs
    obtain ⟨j1, j2⟩ := sumX_low (show d ≠ 0 by omega) (by omega) (by omega) k1 k5 k6 l1 l2 l3
    have hE : E = E' := by
      rw [j2] at h1 h2
      have hlt : E' * E' < (E' + 1) * (E' + 1) := by
        have : (E' + 1) * (E' + 1) = E' * E' + 2 * E' + 1 := by clear h1 h2 j2; grind
        omega
      exact sq_unique (n := E' * E') E0 (by omega) h1 h2 (Int.le_refl _) hlt
    subst hE
    exact h ⟨j2.symm, k2, by omega, by omega⟩
  · obtain ⟨i1, i2, i3, i4⟩ := h
    have hE1 : 1 ≤ E := by
      rcases Int.lt_or_le 0 E with k | k
      · omega
      · have : E = 0 := by omega
        subst this; omega
    rw [← i1] at l2 l3
    have hX : SumX n d x e x2 e2 (lowN T B) E := l3
    obtain ⟨Y, y1, y2', y3⟩ := sum_round hp hq hf hg0 hn hm hE1 i2 i3 i4 (gcdI_one.2 (gcd_of_sq l2)) hX
    exact ⟨hE1, Y, sumT_some hf (by omega) (by omega) y1, y3, ⟨i3, i4, hE1, i2, gcdI_one.2 (gcd_of_sq l2), y2'⟩⟩
/-- the reference's y of the sum. -/
theorem specYval {n d x y e X Y E u v yy bb : Int} (hd : 1 ≤ d) (he : 1 ≤ e) (hE : 1 ≤ E) (hu : lowN (n * (x * E * E - X * (e * e))) (d * (e * e) * E * E) = u) (hv : lowD (n * (x * E * E - X * (e * e))) (d * (e * e) * E * E) = v)
    (hyy : lowN (u * (e * e) * e - y * v) (v * (e * e) * e) = yy) (hbb : lowD (u * (e * e) * e - y * v) (v * (e * e) * e) = bb) (hY : SumY n d x y e X Y E) : 1 ≤ v ∧ 1 ≤ bb ∧ yy * ((E * E * E).tdiv bb) = Y ∧ (E * E * E).tdiv bb = (E * E * E) / bb := by
  have hd0 : d * (e * e) * E * E ≠ 0 := Int.mul_ne_zero (Int.mul_ne_zero (Int.mul_ne_zero (by omega) (Int.mul_ne_zero (by omega) (by omega))) (by omega)) (by omega)
  have v1 := lowD_pos (n := n * (x * E * E - X * (e * e))) hd0
  rw [hv] at v1
  have h1 := low_cross (n := n * (x * E * E - X * (e * e))) hd0
  rw [hu, hv] at h1
  have hv0 : v * (e * e) * e ≠ 0 := Int.mul_ne_zero (Int.mul_ne_zero (by omega) (Int.mul_ne_zero (by omega) (by omega))) (by omega)
  have b1 := lowD_pos (n := u * (e * e) * e - y * v) hv0
  have h2 := low_cross (n := u * (e * e) * e - y * v) hv0
  have hg := gcdI_one.1 (low_gcd (n := u * (e * e) * e - y * v) hv0)
  rw [hbb] at b1
  rw [hyy, hbb] at h2 hg
  obtain ⟨c, c1, c2, c3⟩ := specY (show d ≠ 0 by omega) (show 0 < e by omega) (show 0 < E by omega) (show 0 < v by omega) h1 (show 0 < bb by omega) hg h2 hY
  have hdv : (E * E * E).tdiv bb = c := by rw [c1, Int.mul_tdiv_cancel_left _ (by omega)]
  refine ⟨v1, b1, by rw [hdv, c3], ?_⟩
  rw [hdv, c1, Int.mul_ediv_cancel_left _ (by omega)]
theorem ptO_some (x y e : Int) : ptO (some (x, y, e)) = .tuple #[.agg #[.int .i64 x, .int .i64 y, .int .i64 e], .bool true] := rfl
theorem ptO_none : ptO none = .tuple #[.agg #[.int .i64 0, .int .i64 0, .int .i64 0], .bool false] := rfl
set_option maxRecDepth 100000 in
set_option maxHeartbeats 4000000 in
theorem ptAdd_any (a b x y e x2 y2 e2 : Int) (w : World) (hcur : curveB a b = true) (hp : onB a b x y e = true) (hq : onB a b x2 y2 e2 = true) :
    Calls Tryz.prog 131 #[.agg #[.int .i64 a, .int .i64 b], .agg #[.int .i64 x, .int .i64 y, .int .i64 e], .agg #[.int .i64 x2, .int .i64 y2, .int .i64 e2]] w (Ret (ptO (addT a x y e x2 y2 e2)) w) := by
  have hadd : addT a x y e x2 y2 e2 = if e = 0 then some (x2, y2, e2) else if e2 = 0 then some (x, y, e) else if farI x y e x2 y2 e2 = 0 then some (0, 0, 0) else sumT a x y e x2 y2 e2 := rfl
  by_cases he : e = 0
  · rw [hadd, if_pos he, ptO_some]
    subst he
    clear hadd
    go_enter Tryz.func131, Tryz.ntmps131
    go_wp2_with fail
    refine bodyPost_ret (by simp (maxDischargeDepth := 3) [results, Tryz.results131, go_sem, *]; try rfl) rfl ?_
    exact ret_eq rfl (by repeat (first | exact Below.refl _ _ | (with_reducible assumption) | refine bel_alloc ?_ _ | refine bel_drew ?_ | refine bel_drewN ?_ _ | refine Below.setCell ?_ (by dsimp only; omega) _ | refine bel_trans (by assumption) ?_))
  rw [if_neg he] at hadd
  have heb : (e == 0) = false := by simp [he]
  by_cases he2 : e2 = 0
  · rw [hadd, if_pos he2, ptO_some]
    subst he2
    clear hadd
    go_enter Tryz.func131, Tryz.ntmps131
    go_wp2_with fail
    refine bodyPost_ret (by simp (maxDischargeDepth := 3) [results, Tryz.results131, go_sem, *]; try rfl) rfl ?_
    exact ret_eq rfl (by repeat (first | exact Below.refl _ _ | (with_reducible assumption) | refine bel_alloc ?_ _ | refine bel_drew ?_ | refine bel_drewN ?_ _ | refine Below.setCell ?_ (by dsimp only; omega) _ | refine bel_trans (by assumption) ?_))
  rw [if_neg he2] at hadd
  have heb2 : (e2 == 0) = false := by simp [he2]
  have hfp := FinP.of hp he
  have hfq := FinP.of hq he2
  have hpb : pointB a b x y e = true := by unfold pointB; rw [hcur, hp]; rfl
  have hqb : pointB a b x2 y2 e2 = true := by unfold pointB; rw [hcur, hq]; rfl
  have hbp := PtBd.of hpb
  have hbq := PtBd.of hqb
  obtain ⟨c1, c2, c3, c4, -⟩ := curveB_true.1 hcur
  have hsl := fun w => ptSlope_any a b x y e x2 y2 e2 w c1 c2 hbp hbq
  by_cases hf : farI x y e x2 y2 e2 = 0
  · rw [hadd, if_pos hf, ptO_some]
    simp only [if_pos hf] at hsl
    clear hadd hf hfp hfq hp hq hpb hqb hbp hbq
    go_enter Tryz.func131, Tryz.ntmps131
    go_wp2_with (go_at_call 157; refine (hsl _).mono ?_; rintro e w' ⟨rfl, hb⟩; (try replace hb := aft2 hb (by assumption)); obtain ⟨hc, hf, hs1, hs2, hs3, hs4⟩ := aftz hb)
    refine bodyPost_ret (by simp (maxDischargeDepth := 3) [results, Tryz.results131, go_sem, *]; try rfl) rfl ?_
    exact ret_eq rfl (by repeat (first | exact Below.refl _ _ | (with_reducible assumption) | refine bel_alloc ?_ _ | refine bel_drew ?_ | refine bel_drewN ?_ _ | refine Below.setCell ?_ (by dsimp only; omega) _ | refine bel_trans (by assumption) ?_))
  rw [if_neg hf] at hadd
  simp only [if_neg hf] at hsl
  rw [hadd]
  clear hadd
  obtain ⟨m1, m2, m3, m4⟩ := up_bd (a := a) c1 c2 hbp hbq
  obtain ⟨R, hR⟩ : ∃ R, sumT a x y e x2 y2 e2 = R := ⟨_, rfl⟩
  rw [hR]
  obtain ⟨hg1, hg2⟩ := low_mul (n := upI a x y e x2 y2 e2) hf
  have hg0 := sgcd_ne (n := upI a x y e x2 y2 e2) hf
  have hcop := gcdI_one.1 (low_gcd (n := upI a x y e x2 y2 e2) hf)
  have hd1 := lowD_pos (n := upI a x y e x2 y2 e2) hf
  have n1 : -1000000000000000000 ≤ lowN (upI a x y e x2 y2 e2) (farI x y e x2 y2 e2) ∧ lowN (upI a x y e x2 y2 e2) (farI x y e x2 y2 e2) ≤ 1000000000000000000 := tdiv_bd m1 m2
  have n2 : -1000000000000000000 ≤ lowD (upI a x y e x2 y2 e2) (farI x y e x2 y2 e2) ∧ lowD (upI a x y e x2 y2 e2) (farI x y e x2 y2 e2) ≤ 1000000000000000000 := tdiv_bd m3 m4
  generalize hn : lowN (upI a x y e x2 y2 e2) (farI x y e x2 y2 e2) = n at *
  generalize hd : lowD (upI a x y e x2 y2 e2) (farI x y e x2 y2 e2) = d at *
  generalize sgcd (upI a x y e x2 y2 e2) (farI x y e x2 y2 e2) = g at *
  have hdb : (d == 0) = false := by simp; omega
  obtain ⟨T, hT⟩ : ∃ T, n * n * (e * e) * (e2 * e2) - x * d * d * (e2 * e2) - x2 * d * d * (e * e) = T := ⟨_, rfl⟩
  obtain ⟨B, hB⟩ : ∃ B, d * d * (e * e) * (e2 * e2) = B := ⟨_, rfl⟩
  have hlow := low_sumX (x := x) (x2 := x2) (n := n) (d := d) (e := e) (e2 := e2) (by omega) he he2 hT.symm hB.symm
  obtain ⟨E, E0, E1, E2⟩ := root_exI (n := lowD T B) (by omega)
  have hsp := specSum hfp hfq hf hg0 hg1 hg2 hcop hd1 hT.symm hB.symm E0 E1 E2
  rw [hR] at hsp
  obtain ⟨s1, s2, s3, s4⟩ := hsp
  obtain ⟨hB0, l1, l2, -⟩ := hlow
  have hec := fun w => ecPart_any T B w
  obtain ⟨p1, p2, p3, p4, p5, p6⟩ := hbp
  obtain ⟨r1, r2, r3, r4, r5, r6⟩ := hbq
  have he1 := hfp.e0
  have he21 := hfq.e0
  clear hp hq hpb hqb hfp hfq hg1 hg2 hg0 hcop hn hd m1 m2 m3 m4 hR l2
  have HT := Lib.hid hT; clear hT
  have HB := Lib.hid hB; clear hB
  have HS4 := Lib.hid s4; clear s4
  by_cases hd8 : d > 8000
  · rw [s1 hd8, ptO_none]
    clear s1 s2 s3 E1 E2 hec
    go_enter Tryz.func131, Tryz.ntmps131
    go_wp2_with (go_at_call 157; refine (hsl _).mono ?_; rintro e w' ⟨rfl, hb⟩; (try replace hb := aft2 hb (by assumption)); obtain ⟨hc, hf, hs1, hs2, hs3, hs4⟩ := aftz hb)
    refine bodyPost_ret (by simp (maxDischargeDepth := 3) [results, Tryz.results131, go_sem, *]; try rfl) rfl ?_
    exact ret_eq rfl (by repeat (first | exact Below.refl _ _ | (with_reducible assumption) | refine bel_alloc ?_ _ | refine bel_drew ?_ | refine bel_drewN ?_ _ | refine Below.setCell ?_ (by dsimp only; omega) _ | refine bel_trans (by assumption) ?_))
  by_cases hn2 : 200 * d < n.natAbs
  · rw [s2 hn2, ptO_none]
    clear s1 s2 s3 E1 E2 hec
    go_enter Tryz.func131, Tryz.ntmps131
    go_wp2_with (first | (go_at_call 157; refine (hsl _).mono ?_; rintro e w' ⟨rfl, hb⟩; (try replace hb := aft2 hb (by assumption)); obtain ⟨hc, hf, hs1, hs2, hs3, hs4⟩ := aftz hb) | (go_at_call 123; refine (l1Abs_any _ _ (by omega) (by omega)).mono ?_; rintro e w' ⟨rfl, rfl⟩))
    refine bodyPost_ret (by simp (maxDischargeDepth := 3) [results, Tryz.results131, go_sem, *]; try rfl) rfl ?_
    exact ret_eq rfl (by repeat (first | exact Below.refl _ _ | (with_reducible assumption) | refine bel_alloc ?_ _ | refine bel_drew ?_ | refine bel_drewN ?_ _ | refine Below.setCell ?_ (by dsimp only; omega) _ | refine bel_trans (by assumption) ?_))
  clear s1 s2
  have nb : -1600000 ≤ n ∧ n ≤ 1600000 := by omega
  obtain ⟨nb1, nb2⟩ := nb
  have dd := mul_bd (a := d) (b := d) (A := 8000) (B := 8000) (by omega) (by omega) (by omega) (by omega)
  have nn := mul_bd (a := n) (b := n) (A := 1600000) (B := 1600000) (by omega) (by omega) (by omega) (by omega)
  have ee := mul_bd (a := e) (b := e) (A := 20) (B := 20) (by omega) (by omega) (by omega) (by omega)
  have ff := mul_bd (a := e2) (b := e2) (A := 20) (B := 20) (by omega) (by omega) (by omega) (by omega)
  have xd := mul_bd (a := x) (b := d) (A := 10000) (B := 8000) (by omega) (by omega) (by omega) (by omega)
  have xd2 := mul_bd (b := d) (B := 8000) xd.1 xd.2 (by omega) (by omega)
  have xd3 := mul_bd xd2.1 xd2.2 ff.1 ff.2
  have zd := mul_bd (a := x2) (b := d) (A := 10000) (B := 8000) (by omega) (by omega) (by omega) (by omega)
  have zd2 := mul_bd (b := d) (B := 8000) zd.1 zd.2 (by omega) (by omega)
  have zd3 := mul_bd zd2.1 zd2.2 ee.1 ee.2
  have nn2 := mul_bd nn.1 nn.2 ee.1 ee.2
  have nn3 := mul_bd nn2.1 nn2.2 ff.1 ff.2
  have dd2 := mul_bd dd.1 dd.2 ee.1 ee.2
  have dd3 := mul_bd dd2.1 dd2.2 ff.1 ff.2
  have Tb : -1000000000000000000 ≤ T ∧ T ≤ 1000000000000000000 := by rw [← HT.out]; omega
  have Bb : -1000000000000000000 ≤ B ∧ B ≤ 1000000000000000000 := by rw [← HB.out]; omega
  have hec := fun w => ecPart_any T B w Tb.1 Tb.2 Bb.1 Bb.2 hB0
  have Xb : -1000000000000000000 ≤ lowN T B ∧ lowN T B ≤ 1000000000000000000 := tdiv_bd Tb.1 Tb.2
  have Db : -1000000000000000000 ≤ lowD T B ∧ lowD T B ≤ 1000000000000000000 := tdiv_bd Bb.1 Bb.2
  generalize lowN T B = X at *
  generalize lowD T B = D at *
  clear Tb Bb hB0
  have hrt := fun w => frRoot_any D E w (by omega) (by omega) E0 E1 E2
  have HRT := Lib.hid hrt; clear hrt
  have HEC := Lib.hid hec; clear hec
  have Eb : E ≤ 1000000000 := by
    rcases Int.lt_or_le 1000000000 E with k | k
    · have k' : 1000000001 ≤ E := by omega
      have := Int.mul_le_mul k' k' (by omega) (by omega); omega
    · exact k
  have EEb := mul_bd (a := E) (b := E) (A := 1000000000) (B := 1000000000) (by omega) (by omega) (by omega) (by omega)
  clear E1 E2
  by_cases hgood : E * E = D ∧ E ≤ 20 ∧ -10000 ≤ X ∧ X ≤ 10000
  · obtain ⟨hE1, Y, hRy, hY, hfin⟩ := HS4.out hgood
    obtain ⟨g1, g2, g3, g4⟩ := hgood
    have hin : inB X (-10000) 10000 = true := inB_true.2 ⟨g3, g4⟩
    have hneq : (E * E != D) = false := by simp [g1]
    clear EEb Eb s3
    rw [hRy, ptO_some]
    have EE := mul_bd (a := E) (b := E) (A := 20) (B := 20) (by omega) (by omega) (by omega) (by omega)
    have EEE := mul_bd (b := E) (B := 20) EE.1 EE.2 (by omega) (by omega)
    have u1 := mul_bd (a := x) (b := E) (A := 10000) (B := 20) (by omega) (by omega) (by omega) (by omega)
    have u2 := mul_bd (b := E) (B := 20) u1.1 u1.2 (by omega) (by omega)
    have u3 := mul_bd (a := X) (b := e * e) (A := 10000) (B := 400) (by omega) (by omega) (by omega) (by omega)
    have u4 := mul_bd (a := n) (b := x * E * E - X * (e * e)) (A := 1600000) (B := 8000000) (by omega) (by omega) (by omega) (by omega)
    have u5 := mul_bd (a := d) (b := e * e) (A := 8000) (B := 400) (by omega) (by omega) (by omega) (by omega)
    have u6 := mul_bd (b := E) (B := 20) u5.1 u5.2 (by omega) (by omega)
    have u7 := mul_bd (b := E) (B := 20) u6.1 u6.2 (by omega) (by omega)
    obtain ⟨P, hP⟩ : ∃ P, n * (x * E * E - X * (e * e)) = P := ⟨_, rfl⟩
    obtain ⟨Q, hQ⟩ : ∃ Q, d * (e * e) * E * E = Q := ⟨_, rfl⟩
    have hQ0 : Q ≠ 0 := by rw [← hQ]; exact Int.mul_ne_zero (Int.mul_ne_zero (Int.mul_ne_zero (by omega) (Int.mul_ne_zero he he)) (by omega)) (by omega)
    have Pb : -12800000000000 ≤ P ∧ P ≤ 12800000000000 := by rw [← hP]; omega
    have Qb : -1280000000 ≤ Q ∧ Q ≤ 1280000000 := by rw [← hQ]; omega
    have hep := fun w => ecPart_any P Q w (by omega) (by omega) (by omega) (by omega) hQ0
    have ub : -12800000000000 ≤ lowN P Q ∧ lowN P Q ≤ 12800000000000 := tdiv_bd Pb.1 Pb.2
    have vb : -1280000000 ≤ lowD P Q ∧ lowD P Q ≤ 1280000000 := tdiv_bd Qb.1 Qb.2
    have hyv := fun u v yy bb h1 h2 h3 h4 => specYval (n := n) (d := d) (x := x) (y := y) (e := e) (X := X) (Y := Y) (E := E) (u := u) (v := v) (yy := yy) (bb := bb) hd1 he1 hE1 h1 h2 h3 h4 hY
    rw [hP, hQ] at hyv
    generalize hu : lowN P Q = u at *
    generalize hv : lowD P Q = v at *
    have v1 : 1 ≤ v := (hyv u v _ _ rfl rfl rfl rfl).1
    have t1 := mul_bd (a := u) (b := e * e) (A := 12800000000000) (B := 400) (by omega) (by omega) (by omega) (by omega)
    have t2 := mul_bd (b := e) (B := 20) t1.1 t1.2 (by omega) (by omega)
    have t3 := mul_bd (a := y) (b := v) (A := 1800000) (B := 1280000000) (by omega) (by omega) (by omega) (by omega)
    have t4 := mul_bd (a := v) (b := e * e) (A := 1280000000) (B := 400) (by omega) (by omega) (by omega) (by omega)
    have t5 := mul_bd (b := e) (B := 20) t4.1 t4.2 (by omega) (by omega)
    have hyv2 := fun yy bb h3 h4 => hyv u v yy bb rfl rfl h3 h4
    obtain ⟨P2, hP2⟩ : ∃ P2, u * (e * e) * e - y * v = P2 := ⟨_, rfl⟩
    obtain ⟨Q2, hQ2⟩ : ∃ Q2, v * (e * e) * e = Q2 := ⟨_, rfl⟩
    have hQ20 : Q2 ≠ 0 := by rw [← hQ2]; exact Int.mul_ne_zero (Int.mul_ne_zero (by omega) (Int.mul_ne_zero he he)) he
    have P2b : -1000000000000000000 ≤ P2 ∧ P2 ≤ 1000000000000000000 := by rw [← hP2]; omega
    have Q2b : -1000000000000000000 ≤ Q2 ∧ Q2 ≤ 1000000000000000000 := by rw [← hQ2]; omega
    have heq := fun w => ecPart_any P2 Q2 w P2b.1 P2b.2 Q2b.1 Q2b.2 hQ20
    rw [hP2, hQ2] at hyv2
    generalize hyy : lowN P2 Q2 = yy at *
    generalize hbb : lowD P2 Q2 = bb at *
    obtain ⟨_, b1, y5, y6⟩ := hyv2 yy bb rfl rfl
    obtain ⟨_, _, k3, k4, _⟩ := PtBd.of (a := a) (b := b) (x := X) (y := Y) (e := E) (by unfold pointB; rw [hcur, hfin.onB]; rfl)
    have hb0 : ¬ bb = 0 := by omega
    have hbb0 : (bb == 0) = false := by simp [hb0]
    have wq : IntKind.i64.wrap ((E * E * E).tdiv bb) = (E * E * E).tdiv bb := by
      have := tdiv_bd (g := bb) EEE.1 EEE.2
      exact wrapf (by omega) (by omega)
    have wy : IntKind.i64.wrap (yy * (E * E * E).tdiv bb) = Y := by rw [y5]; exact wrapf (by omega) (by omega)
    have HP := Lib.hid hP; clear hP
    have HQ := Lib.hid hQ; clear hQ
    have HP2 := Lib.hid hP2; clear hP2
    have HQ2 := Lib.hid hQ2; clear hQ2
    have HEP := Lib.hid hep; clear hep
    have HEQ := Lib.hid heq; clear heq
    clear hyv hyv2 hu hv hyy hbb y5 y6 hY hfin
    clear hf hQ0 hQ20 g1
    go_enter Tryz.func131, Tryz.ntmps131
    go_wp2_with fail
    refine (hsl _).mono ?_; rintro ee w1 ⟨rfl, hb1⟩; obtain ⟨hc1, hf1⟩ := aft hb1
    go_wp2_with (go_at_call 123; refine (l1Abs_any _ _ (by omega) (by omega)).mono ?_; rintro e w' ⟨rfl, rfl⟩)
    go_quiet (fail)
    obtain ⟨wd, hwd⟩ : ∃ wd, w1.drewN nq = wd := ⟨_, rfl⟩
    rw [hwd]
    have hbd := bel_drewN hb1 nq
    rw [hwd] at hbd
    clear hwd hb1 hc1 hf1
    obtain ⟨hcd, hfd, hd1', hd2', hd3', hd4'⟩ := aftz hbd
    go_wp2_with (first | (rw [HT.out, HB.out]; (go_at_call 158; refine (HEC.out _).mono ?_; rintro e w' ⟨rfl, hb⟩; (try replace hb := aft2 hb (by assumption)); obtain ⟨hc, hf, hs1, hs2, hs3, hs4⟩ := aftz hb)) | (rw [HP.out, HQ.out]; (go_at_call 158; refine (HEP.out _).mono ?_; rintro e w' ⟨rfl, hb⟩; (try replace hb := aft2 hb (by assumption)); obtain ⟨hc, hf, hs1, hs2, hs3, hs4⟩ := aftz hb)) | (rw [HP2.out, HQ2.out]; (go_at_call 158; refine (HEQ.out _).mono ?_; rintro e w' ⟨rfl, hb⟩; (try replace hb := aft2 hb (by assumption)); obtain ⟨hc, hf, hs1, hs2, hs3, hs4⟩ := aftz hb)) | (go_at_call 105; refine (HRT.out _).mono ?_; rintro e w' ⟨rfl, hb⟩; (try replace hb := aft2 hb (by assumption)); obtain ⟨hc, hf, hs1, hs2, hs3, hs4⟩ := aftz hb) | (go_at_call 68; refine (l1In_known hin _).mono ?_; rintro e w' ⟨rfl, rfl⟩))
    refine bodyPost_ret (by simp (maxDischargeDepth := 3) [results, Tryz.results131, go_sem, *]; try rfl) rfl ?_
    exact ret_eq rfl (by repeat (first | exact Below.refl _ _ | (with_reducible assumption) | refine bel_alloc ?_ _ | refine bel_drew ?_ | refine bel_drewN ?_ _ | refine Below.setCell ?_ (by dsimp only; omega) _ | refine bel_trans (by assumption) ?_))
  · rw [s3 hgood, ptO_none]
    clear s3 HS4
    by_cases g1 : E * E = D
    · have hneq : (E * E != D) = false := by simp [g1]
      by_cases g2 : E ≤ 20
      · have hin : inB X (-10000) 10000 = false := inB_false.2 fun h => hgood ⟨g1, g2, h.1, h.2⟩
        clear hgood
        go_enter Tryz.func131, Tryz.ntmps131
        go_wp2_with fail
        refine (hsl _).mono ?_; rintro ee w1 ⟨rfl, hb1⟩; obtain ⟨hc1, hf1⟩ := aft hb1
        go_wp2_with (go_at_call 123; refine (l1Abs_any _ _ (by omega) (by omega)).mono ?_; rintro e w' ⟨rfl, rfl⟩)
        go_quiet (fail)
        obtain ⟨wd, hwd⟩ : ∃ wd, w1.drewN nq = wd := ⟨_, rfl⟩
        rw [hwd]
        have hbd := bel_drewN hb1 nq
        rw [hwd] at hbd
        clear hwd hb1 hc1 hf1
        obtain ⟨hcd, hfd, hd1', hd2', hd3', hd4'⟩ := aftz hbd
        go_wp2_with (first | (rw [HT.out, HB.out]; (go_at_call 158; refine (HEC.out _).mono ?_; rintro e w' ⟨rfl, hb⟩; (try replace hb := aft2 hb (by assumption)); obtain ⟨hc, hf, hs1, hs2, hs3, hs4⟩ := aftz hb)) | (go_at_call 105; refine (HRT.out _).mono ?_; rintro e w' ⟨rfl, hb⟩; (try replace hb := aft2 hb (by assumption)); obtain ⟨hc, hf, hs1, hs2, hs3, hs4⟩ := aftz hb) | (go_at_call 68; refine (l1In_known hin _).mono ?_; rintro e w' ⟨rfl, rfl⟩))
        refine bodyPost_ret (by simp (maxDischargeDepth := 3) [results, Tryz.results131, go_sem, *]; try rfl) rfl ?_
        exact ret_eq rfl (by repeat (first | exact Below.refl _ _ | (with_reducible assumption) | refine bel_alloc ?_ _ | refine bel_drew ?_ | refine bel_drewN ?_ _ | refine Below.setCell ?_ (by dsimp only; omega) _ | refine bel_trans (by assumption) ?_))
      · clear hgood
        go_enter Tryz.func131, Tryz.ntmps131
        go_wp2_with fail
        refine (hsl _).mono ?_; rintro ee w1 ⟨rfl, hb1⟩; obtain ⟨hc1, hf1⟩ := aft hb1
        go_wp2_with (go_at_call 123; refine (l1Abs_any _ _ (by omega) (by omega)).mono ?_; rintro e w' ⟨rfl, rfl⟩)
        go_quiet (fail)
        obtain ⟨wd, hwd⟩ : ∃ wd, w1.drewN nq = wd := ⟨_, rfl⟩
        rw [hwd]
        have hbd := bel_drewN hb1 nq
        rw [hwd] at hbd
        clear hwd hb1 hc1 hf1
        obtain ⟨hcd, hfd, hd1', hd2', hd3', hd4'⟩ := aftz hbd
        go_wp2_with (first | (rw [HT.out, HB.out]; (go_at_call 158; refine (HEC.out _).mono ?_; rintro e w' ⟨rfl, hb⟩; (try replace hb := aft2 hb (by assumption)); obtain ⟨hc, hf, hs1, hs2, hs3, hs4⟩ := aftz hb)) | (go_at_call 105; refine (HRT.out _).mono ?_; rintro e w' ⟨rfl, hb⟩; (try replace hb := aft2 hb (by assumption)); obtain ⟨hc, hf, hs1, hs2, hs3, hs4⟩ := aftz hb))
        refine bodyPost_ret (by simp (maxDischargeDepth := 3) [results, Tryz.results131, go_sem, *]; try rfl) rfl ?_
        exact ret_eq rfl (by repeat (first | exact Below.refl _ _ | (with_reducible assumption) | refine bel_alloc ?_ _ | refine bel_drew ?_ | refine bel_drewN ?_ _ | refine Below.setCell ?_ (by dsimp only; omega) _ | refine bel_trans (by assumption) ?_))
    · have hneq : (E * E != D) = true := by simp [g1]
      clear hgood
      go_enter Tryz.func131, Tryz.ntmps131
      go_wp2_with fail
      refine (hsl _).mono ?_; rintro ee w1 ⟨rfl, hb1⟩; obtain ⟨hc1, hf1⟩ := aft hb1
      go_wp2_with (go_at_call 123; refine (l1Abs_any _ _ (by omega) (by omega)).mono ?_; rintro e w' ⟨rfl, rfl⟩)
      go_quiet (fail)
      obtain ⟨wd, hwd⟩ : ∃ wd, w1.drewN nq = wd := ⟨_, rfl⟩
      rw [hwd]
      have hbd := bel_drewN hb1 nq
      rw [hwd] at hbd
      clear hwd hb1 hc1 hf1
      obtain ⟨hcd, hfd, hd1', hd2', hd3', hd4'⟩ := aftz hbd
      go_wp2_with (first | (rw [HT.out, HB.out]; (go_at_call 158; refine (HEC.out _).mono ?_; rintro e w' ⟨rfl, hb⟩; (try replace hb := aft2 hb (by assumption)); obtain ⟨hc, hf, hs1, hs2, hs3, hs4⟩ := aftz hb)) | (go_at_call 105; refine (HRT.out _).mono ?_; rintro e w' ⟨rfl, hb⟩; (try replace hb := aft2 hb (by assumption)); obtain ⟨hc, hf, hs1, hs2, hs3, hs4⟩ := aftz hb))
      refine bodyPost_ret (by simp (maxDischargeDepth := 3) [results, Tryz.results131, go_sem, *]; try rfl) rfl ?_
      exact ret_eq rfl (by repeat (first | exact Below.refl _ _ | (with_reducible assumption) | refine bel_alloc ?_ _ | refine bel_drew ?_ | refine bel_drewN ?_ _ | refine Below.setCell ?_ (by dsimp only; omega) _ | refine bel_trans (by assumption) ?_))
end Go.Proofs.YtakilincclnpdaaGreatDoor
