/- Pt: contracts of the functions on points: validity, values, heights. No conditions. -/
import Derived.Test.YtadijbaphfgeiaaDoorPri
namespace Go.Proofs.YtadijbaphfgeiaaDoor
open Go.RowKit

/-- X^3 + A X E^4 + B E^6 -/
def valI (a b x e : Int) : Int := x * x * x + a * x * e * e * e * e + b * e * e * e * e * e * e
theorem curveValue_any (a b x e : Int) (w : World) (h1 : -1000 ≤ a) (h2 : a ≤ 1000) (h3 : -10000 ≤ b) (h4 : b ≤ 10000) (h5 : -10000 ≤ x) (h6 : x ≤ 10000) (h7 : -20 ≤ e) (h8 : e ≤ 20) :
    Calls Tryd.prog 59 #[.agg #[.int .i64 a, .int .i64 b], .int .i64 x, .int .i64 e] w (Ret (.int .i64 (valI a b x e)) w) := by
  unfold valI
  have p1 := mul_bd h5 h6 h5 h6
  have p2 := mul_bd p1.1 p1.2 h5 h6
  have q1 := mul_bd h1 h2 h5 h6
  have q2 := mul_bd q1.1 q1.2 h7 h8
  have q3 := mul_bd q2.1 q2.2 h7 h8
  have q4 := mul_bd q3.1 q3.2 h7 h8
  have q5 := mul_bd q4.1 q4.2 h7 h8
  have r1 := mul_bd h3 h4 h7 h8
  have r2 := mul_bd r1.1 r1.2 h7 h8
  have r3 := mul_bd r2.1 r2.2 h7 h8
  have r4 := mul_bd r3.1 r3.2 h7 h8
  have r5 := mul_bd r4.1 r4.2 h7 h8
  have r6 := mul_bd r5.1 r5.2 h7 h8
  go_enter Tryd.func59, Tryd.ntmps59
  go_wp2
  go_ret
  exact ret_mk (by repeat (first | exact Below.refl _ _ | (with_reducible assumption) | refine bel_alloc ?_ _ | refine bel_drew ?_ | refine bel_drewN ?_ _ | refine Below.setCell ?_ (by dsimp only; omega) _ | refine bel_trans (by assumption) ?_))
theorem ptValue_any (a b x e : Int) (w : World) (h1 : -1000 ≤ a) (h2 : a ≤ 1000) (h3 : -10000 ≤ b) (h4 : b ≤ 10000) (h5 : -10000 ≤ x) (h6 : x ≤ 10000) (h7 : -20 ≤ e) (h8 : e ≤ 20) :
    Calls Tryd.prog 51 #[.agg #[.int .i64 a, .int .i64 b], .int .i64 x, .int .i64 e] w (Ret (.int .i64 (valI a b x e)) w) := by
  have p1 := mul_bd h5 h6 h5 h6
  have p2 := mul_bd p1.1 p1.2 h5 h6
  have e2 := mul_bd h7 h8 h7 h8
  have q1 := mul_bd h1 h2 h5 h6
  have q2 := mul_bd q1.1 q1.2 e2.1 e2.2
  have q3 := mul_bd q2.1 q2.2 e2.1 e2.2
  have r1 := mul_bd h3 h4 e2.1 e2.2
  have r2 := mul_bd r1.1 r1.2 e2.1 e2.2
  have r3 := mul_bd r2.1 r2.2 e2.1 e2.2
  have hv : x * x * x + a * x * (e * e) * (e * e) + b * (e * e) * (e * e) * (e * e) = valI a b x e := by simp only [valI, Int.mul_assoc]
  have HV := Lib.hid hv; clear hv
  go_enter Tryd.func51, Tryd.ntmps51
  go_wp2
  go_ret
  exact ret_eq (congrArg (Value.int .i64) HV.out) (by repeat (first | exact Below.refl _ _ | (with_reducible assumption) | refine bel_alloc ?_ _ | refine bel_drew ?_ | refine bel_drewN ?_ _ | refine Below.setCell ?_ (by dsimp only; omega) _ | refine bel_trans (by assumption) ?_))

/-- what a point of a valid curve fulfils. -/
def onB (a b x y e : Int) : Bool := decide ((x = 0 ∧ y = 0 ∧ e = 0) ∨ (-10000 ≤ x ∧ x ≤ 10000 ∧ 1 ≤ e ∧ e ≤ 20 ∧ gcdI x e = 1 ∧ y * y = valI a b x e))
theorem onB_true {a b x y e : Int} : onB a b x y e = true ↔ ((x = 0 ∧ y = 0 ∧ e = 0) ∨ (-10000 ≤ x ∧ x ≤ 10000 ∧ 1 ≤ e ∧ e ≤ 20 ∧ gcdI x e = 1 ∧ y * y = valI a b x e)) := by simp only [onB, decide_eq_true_eq]
theorem onB_false {a b x y e : Int} : onB a b x y e = false ↔ ¬ ((x = 0 ∧ y = 0 ∧ e = 0) ∨ (-10000 ≤ x ∧ x ≤ 10000 ∧ 1 ≤ e ∧ e ≤ 20 ∧ gcdI x e = 1 ∧ y * y = valI a b x e)) := by simp only [onB, decide_eq_false_iff_not]
def pointB (a b x y e : Int) : Bool := curveB a b && onB a b x y e

theorem val_bd {a b x e : Int} (h1 : -1000 ≤ a) (h2 : a ≤ 1000) (h3 : -10000 ≤ b) (h4 : b ≤ 10000) (h5 : -10000 ≤ x) (h6 : x ≤ 10000) (h7 : -20 ≤ e) (h8 : e ≤ 20) : -3240000000000 ≤ valI a b x e ∧ valI a b x e ≤ 3240000000000 := by
  unfold valI
  have p1 := mul_bd h5 h6 h5 h6
  have p2 := mul_bd p1.1 p1.2 h5 h6
  have q1 := mul_bd h1 h2 h5 h6
  have q2 := mul_bd q1.1 q1.2 h7 h8
  have q3 := mul_bd q2.1 q2.2 h7 h8
  have q4 := mul_bd q3.1 q3.2 h7 h8
  have q5 := mul_bd q4.1 q4.2 h7 h8
  have r1 := mul_bd h3 h4 h7 h8
  have r2 := mul_bd r1.1 r1.2 h7 h8
  have r3 := mul_bd r2.1 r2.2 h7 h8
  have r4 := mul_bd r3.1 r3.2 h7 h8
  have r5 := mul_bd r4.1 r4.2 h7 h8
  have r6 := mul_bd r5.1 r5.2 h7 h8
  omega
/-- a number whose square is small is small. -/
theorem sq_small {y k : Int} (hk : 0 ≤ k) (h : y * y ≤ k * k) : -k ≤ y ∧ y ≤ k := by
  constructor
  · rcases Int.lt_or_le y (-k) with h1 | h1
    · have : (k + 1) * (k + 1) ≤ (-y) * (-y) := Int.mul_le_mul (by omega) (by omega) (by omega) (by omega)
      rw [Int.neg_mul_neg, Int.add_mul, Int.mul_add] at this
      omega
    · exact h1
  · rcases Int.lt_or_le k y with h1 | h1
    · have : (k + 1) * (k + 1) ≤ y * y := Int.mul_le_mul (by omega) (by omega) (by omega) (by omega)
      rw [Int.add_mul, Int.mul_add] at this
      omega
    · exact h1
theorem y_small {a b x y e : Int} (h1 : -1000 ≤ a) (h2 : a ≤ 1000) (h3 : -10000 ≤ b) (h4 : b ≤ 10000) (h5 : -10000 ≤ x) (h6 : x ≤ 10000) (h7 : 1 ≤ e) (h8 : e ≤ 20) (hv : y * y = valI a b x e) : -1800000 ≤ y ∧ y ≤ 1800000 := by
  have := val_bd h1 h2 h3 h4 h5 h6 (by omega) h8
  exact sq_small (by omega) (by omega)

theorem isPoint_any (a b x y e : Int) (w : World) :
    Calls Tryd.prog 37 #[.agg #[.int .i64 a, .int .i64 b], .agg #[.int .i64 x, .int .i64 y, .int .i64 e]] w (Ret (.bool (pointB a b x y e)) w) := by
  unfold pointB
  cases hcv : curveB a b
  · go_enter Tryd.func37, Tryd.ntmps37
    go_wp2_with (go_at_call 16; refine (isCurve_any _ _ _).mono ?_; rintro e w' ⟨rfl, hb⟩; (try replace hb := aft2 hb (by assumption)); obtain ⟨hc, hf⟩ := aft hb)
    go_ret
    exact ret_mk (by repeat (first | exact Below.refl _ _ | (with_reducible assumption) | refine bel_alloc ?_ _ | refine bel_drew ?_ | refine bel_drewN ?_ _ | refine Below.setCell ?_ (by dsimp only; omega) _ | refine bel_trans (by assumption) ?_))
  · obtain ⟨h1, h2, h3, h4, _⟩ := curveB_true.1 hcv
    by_cases hz : x = 0 ∧ y = 0 ∧ e = 0
    · obtain ⟨rfl, rfl, rfl⟩ := hz
      have hon : onB a b 0 0 0 = true := onB_true.2 (.inl ⟨rfl, rfl, rfl⟩)
      go_enter Tryd.func37, Tryd.ntmps37
      go_wp2_with (go_at_call 16; refine (isCurve_any _ _ _).mono ?_; rintro e w' ⟨rfl, hb⟩; (try replace hb := aft2 hb (by assumption)); obtain ⟨hc, hf⟩ := aft hb)
      go_ret
      exact ret_eq (by rw [hon]; rfl) (by repeat (first | exact Below.refl _ _ | (with_reducible assumption) | refine bel_alloc ?_ _ | refine bel_drew ?_ | refine bel_drewN ?_ _ | refine Below.setCell ?_ (by dsimp only; omega) _ | refine bel_trans (by assumption) ?_))
    · have hzb : (x == 0 && (y == 0 && e == 0)) = false := by simp; omega
      by_cases hx : -10000 ≤ x ∧ x ≤ 10000
      · have ix := inB_true.2 hx
        by_cases he : 1 ≤ e ∧ e ≤ 20
        · have ie := inB_true.2 he
          by_cases hg : gcdI x e = 1
          · have hgb : (gcdI x e != 1) = false := by simp [hg]
            by_cases hy : -3000000 ≤ y ∧ y ≤ 3000000
            · have iy := inB_true.2 hy
              have yy := mul_bd hy.1 hy.2 hy.1 hy.2
              have hon : onB a b x y e = (y * y == valI a b x e) := by
                rw [Bool.eq_iff_iff, onB_true, beq_iff_eq]
                exact ⟨fun h => h.elim (fun h => absurd h hz) (fun h => h.2.2.2.2.2), fun h => .inr ⟨hx.1, hx.2, he.1, he.2, hg, h⟩⟩
              have HO := Lib.hid hon; clear hon hg hz
              go_enter Tryd.func37, Tryd.ntmps37
              go_wp2_with (first | (go_at_call 16; refine (isCurve_any _ _ _).mono ?_; rintro e w' ⟨rfl, hb⟩; (try replace hb := aft2 hb (by assumption)); obtain ⟨hc, hf, hs1, hs2, hs3, hs4⟩ := aftz hb) | (go_at_call 23; refine (inside_any _ _ _ _).mono ?_; rintro e w' ⟨rfl, rfl⟩) | (go_at_call 58; refine (gcd_any _ _ _ (by omega) (by omega) (by omega) (by omega)).mono ?_; rintro e w' ⟨rfl, hb⟩; (try replace hb := aft2 hb (by assumption)); obtain ⟨hc, hf, hs1, hs2, hs3, hs4⟩ := aftz hb))
              refine wp_region_grow (by kernel_rfl) (by kernel_rfl) ?_
              repeat (go_big_quiet_step (((go_at_call 59; exact grow_ret (curveValue_any _ _ _ _ _ h1 h2 h3 h4 hx.1 hx.2 (by omega) he.2)))))
              refine wpQuiet_nil ?_
              rintro wg hbg
              (try replace hbg := aft2 hbg (by assumption))
              obtain ⟨hcg, hfg, hg1, hg2, hg3, hg4⟩ := aftz hbg
              go_wp2_with fail
              go_ret
              exact ret_eq (by rw [HO.out]; rfl) (by repeat (first | exact Below.refl _ _ | (with_reducible assumption) | refine bel_alloc ?_ _ | refine bel_drew ?_ | refine bel_drewN ?_ _ | refine Below.setCell ?_ (by dsimp only; omega) _ | refine bel_trans (by assumption) ?_))
            · have iy := inB_false.2 hy
              have hon : onB a b x y e = false := onB_false.2 (fun h => h.elim (fun h => hz h) (fun h => hy (by have := y_small h1 h2 h3 h4 h.1 h.2.1 h.2.2.1 h.2.2.2.1 h.2.2.2.2.2; omega)))
              have HO := Lib.hid hon; clear hon
              go_enter Tryd.func37, Tryd.ntmps37
              go_wp2_with (first | (go_at_call 16; refine (isCurve_any _ _ _).mono ?_; rintro e w' ⟨rfl, hb⟩; (try replace hb := aft2 hb (by assumption)); obtain ⟨hc, hf, hs1, hs2, hs3, hs4⟩ := aftz hb) | (go_at_call 23; refine (inside_any _ _ _ _).mono ?_; rintro e w' ⟨rfl, rfl⟩) | (go_at_call 58; refine (gcd_any _ _ _ (by omega) (by omega) (by omega) (by omega)).mono ?_; rintro e w' ⟨rfl, hb⟩; (try replace hb := aft2 hb (by assumption)); obtain ⟨hc, hf, hs1, hs2, hs3, hs4⟩ := aftz hb))
              all_goals (go_ret; exact ret_eq (by rw [HO.out]; rfl) (by repeat (first | exact Below.refl _ _ | (with_reducible assumption) | refine bel_alloc ?_ _ | refine bel_drew ?_ | refine bel_drewN ?_ _ | refine Below.setCell ?_ (by dsimp only; omega) _ | refine bel_trans (by assumption) ?_)))
          · have hgb : (gcdI x e != 1) = true := by simp [hg]
            have hon : onB a b x y e = false := onB_false.2 (fun h => h.elim (fun h => hz h) (fun h => hg h.2.2.2.2.1))
            clear hg
            have HO := Lib.hid hon; clear hon
            go_enter Tryd.func37, Tryd.ntmps37
            go_wp2_with (first | (go_at_call 16; refine (isCurve_any _ _ _).mono ?_; rintro e w' ⟨rfl, hb⟩; (try replace hb := aft2 hb (by assumption)); obtain ⟨hc, hf, hs1, hs2, hs3, hs4⟩ := aftz hb) | (go_at_call 23; refine (inside_any _ _ _ _).mono ?_; rintro e w' ⟨rfl, rfl⟩) | (go_at_call 58; refine (gcd_any _ _ _ (by omega) (by omega) (by omega) (by omega)).mono ?_; rintro e w' ⟨rfl, hb⟩; (try replace hb := aft2 hb (by assumption)); obtain ⟨hc, hf, hs1, hs2, hs3, hs4⟩ := aftz hb))
            all_goals (go_ret; exact ret_eq (by rw [HO.out]; rfl) (by repeat (first | exact Below.refl _ _ | (with_reducible assumption) | refine bel_alloc ?_ _ | refine bel_drew ?_ | refine bel_drewN ?_ _ | refine Below.setCell ?_ (by dsimp only; omega) _ | refine bel_trans (by assumption) ?_)))
        · have ie := inB_false.2 he
          have hon : onB a b x y e = false := onB_false.2 (fun h => h.elim (fun h => hz h) (fun h => he ⟨h.2.2.1, h.2.2.2.1⟩))
          have HO := Lib.hid hon; clear hon
          go_enter Tryd.func37, Tryd.ntmps37
          go_wp2_with (first | (go_at_call 16; refine (isCurve_any _ _ _).mono ?_; rintro e w' ⟨rfl, hb⟩; (try replace hb := aft2 hb (by assumption)); obtain ⟨hc, hf, hs1, hs2, hs3, hs4⟩ := aftz hb) | (go_at_call 23; refine (inside_any _ _ _ _).mono ?_; rintro e w' ⟨rfl, rfl⟩) | (go_at_call 58; refine (gcd_any _ _ _ (by omega) (by omega) (by omega) (by omega)).mono ?_; rintro e w' ⟨rfl, hb⟩; (try replace hb := aft2 hb (by assumption)); obtain ⟨hc, hf, hs1, hs2, hs3, hs4⟩ := aftz hb))
          all_goals (go_ret; exact ret_eq (by rw [HO.out]; rfl) (by repeat (first | exact Below.refl _ _ | (with_reducible assumption) | refine bel_alloc ?_ _ | refine bel_drew ?_ | refine bel_drewN ?_ _ | refine Below.setCell ?_ (by dsimp only; omega) _ | refine bel_trans (by assumption) ?_)))
      · have ix := inB_false.2 hx
        have hon : onB a b x y e = false := onB_false.2 (fun h => h.elim (fun h => hz h) (fun h => hx ⟨h.1, h.2.1⟩))
        have HO := Lib.hid hon; clear hon
        go_enter Tryd.func37, Tryd.ntmps37
        go_wp2_with (first | (go_at_call 16; refine (isCurve_any _ _ _).mono ?_; rintro e w' ⟨rfl, hb⟩; (try replace hb := aft2 hb (by assumption)); obtain ⟨hc, hf, hs1, hs2, hs3, hs4⟩ := aftz hb) | (go_at_call 23; refine (inside_any _ _ _ _).mono ?_; rintro e w' ⟨rfl, rfl⟩) | (go_at_call 58; refine (gcd_any _ _ _ (by omega) (by omega) (by omega) (by omega)).mono ?_; rintro e w' ⟨rfl, hb⟩; (try replace hb := aft2 hb (by assumption)); obtain ⟨hc, hf, hs1, hs2, hs3, hs4⟩ := aftz hb))
        all_goals (go_ret; exact ret_eq (by rw [HO.out]; rfl) (by repeat (first | exact Below.refl _ _ | (with_reducible assumption) | refine bel_alloc ?_ _ | refine bel_drew ?_ | refine bel_drewN ?_ _ | refine Below.setCell ?_ (by dsimp only; omega) _ | refine bel_trans (by assumption) ?_)))
theorem ptOn_any (a b x y e : Int) (w : World) (h1 : -1000 ≤ a) (h2 : a ≤ 1000) (h3 : -10000 ≤ b) (h4 : b ≤ 10000) :
    Calls Tryd.prog 30 #[.agg #[.int .i64 a, .int .i64 b], .agg #[.int .i64 x, .int .i64 y, .int .i64 e]] w (Ret (.bool (onB a b x y e)) w) := by
  by_cases hz : e = 0
  · subst hz
    have hon : onB a b x y 0 = (x == 0 && y == 0) := by
      rw [Bool.eq_iff_iff, onB_true, Bool.and_eq_true, beq_iff_eq, beq_iff_eq]
      omega
    have HO := Lib.hid hon; clear hon
    by_cases hx0 : x = 0
    · subst hx0
      go_enter Tryd.func30, Tryd.ntmps30
      go_wp2_with fail
      go_ret
      exact ret_eq (by rw [HO.out]; rfl) (by repeat (first | exact Below.refl _ _ | (with_reducible assumption) | refine bel_alloc ?_ _ | refine bel_drew ?_ | refine bel_drewN ?_ _ | refine Below.setCell ?_ (by dsimp only; omega) _ | refine bel_trans (by assumption) ?_))
    · have hx0' : (x == 0) = false := by simp [hx0]
      go_enter Tryd.func30, Tryd.ntmps30
      go_wp2_with fail
      go_ret
      exact ret_eq (by rw [HO.out, hx0']; rfl) (by repeat (first | exact Below.refl _ _ | (with_reducible assumption) | refine bel_alloc ?_ _ | refine bel_drew ?_ | refine bel_drewN ?_ _ | refine Below.setCell ?_ (by dsimp only; omega) _ | refine bel_trans (by assumption) ?_))
  · have hzb : (e == 0) = false := by simp [hz]
    by_cases hx : -10000 ≤ x ∧ x ≤ 10000
    · have ix := inB_true.2 hx
      by_cases he : 1 ≤ e ∧ e ≤ 20
      · have ie := inB_true.2 he
        by_cases hy : -10000000 ≤ y ∧ y ≤ 10000000
        · have iy := inB_true.2 hy
          have hga := gcdI_natAbs x e
          rw [show ((e.natAbs : Nat) : Int) = e by omega] at hga
          by_cases hg : gcdI (x.natAbs : Int) e = 1
          · have hgb : (gcdI (x.natAbs : Int) e != 1) = false := by simp [hg]
            have yy := mul_bd hy.1 hy.2 hy.1 hy.2
            have hon : onB a b x y e = (y * y == valI a b x e) := by
              rw [Bool.eq_iff_iff, onB_true, beq_iff_eq]
              exact ⟨fun h => h.elim (fun h => absurd h.2.2 hz) (fun h => h.2.2.2.2.2), fun h => .inr ⟨hx.1, hx.2, he.1, he.2, hga ▸ hg, h⟩⟩
            have HO := Lib.hid hon; clear hon hg hga hz
            go_enter Tryd.func30, Tryd.ntmps30
            go_wp2_with fail
            refine wp_region_grow (by kernel_rfl) (by kernel_rfl) ?_
            repeat (go_big_quiet_step (((first | (go_at_call 26; exact grow_same (l1In_any _ _ _ _)) | (go_at_call 50; exact grow_same (l1Abs_any _ _ (by omega) (by omega))) | (go_at_call 49; exact grow_ret (bgCommon_any _ _ _ (by omega) (by omega) (by omega) (by omega)))))))
            refine wpQuiet_nil ?_
            rintro wg hbg
            (try replace hbg := aft2 hbg (by assumption))
            obtain ⟨hcg, hfg, hg1, hg2, hg3, hg4⟩ := aftz hbg
            go_wp2_with fail
            refine wp_region_grow (by kernel_rfl) (by kernel_rfl) ?_
            repeat (go_big_quiet_step (((go_at_call 51; exact grow_ret (ptValue_any _ _ _ _ _ h1 h2 h3 h4 hx.1 hx.2 (by omega) he.2)))))
            refine wpQuiet_nil ?_
            rintro wg hbg
            (try replace hbg := aft2 hbg (by assumption))
            obtain ⟨hcg, hfg, hg1, hg2, hg3, hg4⟩ := aftz hbg
            go_wp2_with fail
            go_ret
            exact ret_eq (by first | (rw [HO.out]; done) | (rw [HO.out]; rfl)) (by repeat (first | exact Below.refl _ _ | (with_reducible assumption) | refine bel_alloc ?_ _ | refine bel_drew ?_ | refine bel_drewN ?_ _ | refine Below.setCell ?_ (by dsimp only; omega) _ | refine bel_trans (by assumption) ?_))
          · have hgb : (gcdI (x.natAbs : Int) e != 1) = true := by simp [hg]
            have hon : onB a b x y e = false := onB_false.2 (fun h => h.elim (fun h => hz h.2.2) (fun h => hg (hga.trans h.2.2.2.2.1)))
            clear hg hga
            have HO := Lib.hid hon; clear hon hz
            go_enter Tryd.func30, Tryd.ntmps30
            go_wp2_with fail
            refine wp_region_grow (by kernel_rfl) (by kernel_rfl) ?_
            repeat (go_big_quiet_step (((first | (go_at_call 26; exact grow_same (l1In_any _ _ _ _)) | (go_at_call 50; exact grow_same (l1Abs_any _ _ (by omega) (by omega))) | (go_at_call 49; exact grow_ret (bgCommon_any _ _ _ (by omega) (by omega) (by omega) (by omega)))))))
            refine wpQuiet_nil ?_
            rintro wg hbg
            (try replace hbg := aft2 hbg (by assumption))
            obtain ⟨hcg, hfg, hg1, hg2, hg3, hg4⟩ := aftz hbg
            go_wp2_with fail
            go_ret
            exact ret_eq (by first | (rw [HO.out]; done) | (rw [HO.out]; rfl)) (by repeat (first | exact Below.refl _ _ | (with_reducible assumption) | refine bel_alloc ?_ _ | refine bel_drew ?_ | refine bel_drewN ?_ _ | refine Below.setCell ?_ (by dsimp only; omega) _ | refine bel_trans (by assumption) ?_))
        · have iy := inB_false.2 hy
          have hon : onB a b x y e = false := onB_false.2 (fun h => h.elim (fun h => hz h.2.2) (fun h => hy (by have := y_small h1 h2 h3 h4 h.1 h.2.1 h.2.2.1 h.2.2.2.1 h.2.2.2.2.2; omega)))
          have HO := Lib.hid hon; clear hon hz
          go_enter Tryd.func30, Tryd.ntmps30
          go_wp2_with fail
          refine wp_region_grow (by kernel_rfl) (by kernel_rfl) ?_
          repeat (go_big_quiet_step (((first | (go_at_call 26; exact grow_same (l1In_any _ _ _ _)) | (go_at_call 50; exact grow_same (l1Abs_any _ _ (by omega) (by omega))) | (go_at_call 49; exact grow_ret (bgCommon_any _ _ _ (by omega) (by omega) (by omega) (by omega)))))))
          refine wpQuiet_nil ?_
          rintro wg hbg
          (try replace hbg := aft2 hbg (by assumption))
          obtain ⟨hcg, hfg, hg1, hg2, hg3, hg4⟩ := aftz hbg
          go_wp2_with fail
          go_ret
          exact ret_eq (by first | (rw [HO.out]; done) | (rw [HO.out]; rfl)) (by repeat (first | exact Below.refl _ _ | (with_reducible assumption) | refine bel_alloc ?_ _ | refine bel_drew ?_ | refine bel_drewN ?_ _ | refine Below.setCell ?_ (by dsimp only; omega) _ | refine bel_trans (by assumption) ?_))
      · have ie := inB_false.2 he
        have hon : onB a b x y e = false := onB_false.2 (fun h => h.elim (fun h => hz h.2.2) (fun h => he ⟨h.2.2.1, h.2.2.2.1⟩))
        have HO := Lib.hid hon; clear hon hz
        go_enter Tryd.func30, Tryd.ntmps30
        go_wp2_with fail
        refine wp_region_grow (by kernel_rfl) (by kernel_rfl) ?_
        repeat (go_big_quiet_step (((first | (go_at_call 26; exact grow_same (l1In_any _ _ _ _)) | (go_at_call 50; exact grow_same (l1Abs_any _ _ (by omega) (by omega))) | (go_at_call 49; exact grow_ret (bgCommon_any _ _ _ (by omega) (by omega) (by omega) (by omega)))))))
        refine wpQuiet_nil ?_
        rintro wg hbg
        (try replace hbg := aft2 hbg (by assumption))
        obtain ⟨hcg, hfg, hg1, hg2, hg3, hg4⟩ := aftz hbg
        go_wp2_with fail
        go_ret
        exact ret_eq (by first | (rw [HO.out]; done) | (rw [HO.out]; rfl)) (by repeat (first | exact Below.refl _ _ | (with_reducible assumption) | refine bel_alloc ?_ _ | refine bel_drew ?_ | refine bel_drewN ?_ _ | refine Below.setCell ?_ (by dsimp only; omega) _ | refine bel_trans (by assumption) ?_))
    · have ix := inB_false.2 hx
      have hon : onB a b x y e = false := onB_false.2 (fun h => h.elim (fun h => hz h.2.2) (fun h => hx ⟨h.1, h.2.1⟩))
      have HO := Lib.hid hon; clear hon hz
      go_enter Tryd.func30, Tryd.ntmps30
      go_wp2_with fail
      refine wp_region_grow (by kernel_rfl) (by kernel_rfl) ?_
      repeat (go_big_quiet_step (((first | (go_at_call 26; exact grow_same (l1In_any _ _ _ _)) | (go_at_call 50; exact grow_same (l1Abs_any _ _ (by omega) (by omega))) | (go_at_call 49; exact grow_ret (bgCommon_any _ _ _ (by omega) (by omega) (by omega) (by omega)))))))
      refine wpQuiet_nil ?_
      rintro wg hbg
      (try replace hbg := aft2 hbg (by assumption))
      obtain ⟨hcg, hfg, hg1, hg2, hg3, hg4⟩ := aftz hbg
      go_wp2_with fail
      go_ret
      exact ret_eq (by first | (rw [HO.out]; done) | (rw [HO.out]; rfl)) (by repeat (first | exact Below.refl _ _ | (with_reducible assumption) | refine bel_alloc ?_ _ | refine bel_drew ?_ | refine bel_drewN ?_ _ | refine Below.setCell ?_ (by dsimp only; omega) _ | refine bel_trans (by assumption) ?_))
end Go.Proofs.YtadijbaphfgeiaaDoor
