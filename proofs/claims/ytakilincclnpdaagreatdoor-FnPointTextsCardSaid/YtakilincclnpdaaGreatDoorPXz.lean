/- Mp: rows of points: what a walk is told of one; contracts of the helpers that compare, mark and look at them. No conditions. -/
import Derived.Test.YtakilincclnpdaaGreatDoorPAz
import Derived.Test.YtakilincclnpdaaGreatDoorPBz
/- Pt: contracts of the functions on points: validity, values, heights. No conditions. -/
namespace Go.Proofs.YtakilincclnpdaaGreatDoor
open Go.RowKit

/-- X^3 + A X E^4 + B E^6 -/
def valI (a b x e : Int) : Int := x * x * x + a * x * e * e * e * e + b * e * e * e * e * e * e
theorem curveValue_any (a b x e : Int) (w : World) (h1 : -1000 ≤ a) (h2 : a ≤ 1000) (h3 : -10000 ≤ b) (h4 : b ≤ 10000) (h5 : -10000 ≤ x) (h6 : x ≤ 10000) (h7 : -20 ≤ e) (h8 : e ≤ 20) :
    Calls Tryz.prog 102 #[.agg #[.int .i64 a, .int .i64 b], .int .i64 x, .int .i64 e] w (Ret (.int .i64 (valI a b x e)) w) := by
  unfold valI
  have p1 := mul_bd h5 h6 h5 h6
  have p2 := mul_bd p1.1 p1.2 h5 h6
  have q1 := mul_bd h1 h2 h5 h6
  have q2 := mul_bd q1.1 q1.2 h7 h8
  have q3 := mul_bd q2.1 q2.2 h7 h8
  have q4 := mul_bd q3.1 q3.2 h7 h8
  have q5 := mul_bd q4.1 q4.2 h7 h8
  have r1 := mul_bd h3 h4 h7 h8
  have r2 := mul_bd r1.1 r1.2 h7 h8
  have r3 := mul_bd r2.1 r2.2 h7 h8
  have r4 := mul_bd r3.1 r3.2 h7 h8
  have r5 := mul_bd r4.1 r4.2 h7 h8
  have r6 := mul_bd r5.1 r5.2 h7 h8
  go_enter Tryz.func102, Tryz.ntmps102
  go_wp2
  go_ret
  exact ret_mk (by repeat (first | exact Below.refl _ _ | (with_reducible assumption) | refine bel_alloc ?_ _ | refine bel_drew ?_ | refine bel_drewN ?_ _ | refine Below.setCell ?_ (by dsimp only; omega) _ | refine bel_trans (by assumption) ?_))
theorem ptValue_any (a b x e : Int) (w : World) (h1 : -1000 ≤ a) (h2 : a ≤ 1000) (h3 : -10000 ≤ b) (h4 : b ≤ 10000) (h5 : -10000 ≤ x) (h6 : x ≤ 10000) (h7 : -20 ≤ e) (h8 : e ≤ 20) :
    Calls Tryz.prog 143 #[.agg #[.int .i64 a, .int .i64 b], .int .i64 x, .int .i64 e] w (Ret (.int .i64 (valI a b x e)) w) := by
  have p1 := mul_bd h5 h6 h5 h6
  have p2 := mul_bd p1.1 p1.2 h5 h6
  have e2 := mul_bd h7 h8 h7 h8
  have q1 := mul_bd h1 h2 h5 h6
  have q2 := mul_bd q1.1 q1.2 e2.1 e2.2
  have q3 := mul_bd q2.1 q2.2 e2.1 e2.2
  have r1 := mul_bd h3 h4 e2.1 e2.2
  have r2 := mul_bd r1.1 r1.2 e2.1 e2.2
  have r3 := mul_bd r2.1 r2.2 e2.1 e2.2
  have hv : x * x * x + a * x * (e * e) * (e * e) + b * (e * e) * (e * e) * (e * e) = valI a b x e := by simp only [valI, Int.mul_assoc]
  have HV := Lib.hid hv; clear hv
  go_enter Tryz.func143, Tryz.ntmps143
  go_wp2
  go_ret
  exact ret_eq (congrArg (Value.int .i64) HV.out) (by repeat (first | exact Below.refl _ _ | (with_reducible assumption) | refine bel_alloc ?_ _ | refine bel_drew ?_ | refine bel_drewN ?_ _ | refine Below.setCell ?_ (by dsimp only; omega) _ | refine bel_trans (by assumption) ?_))

/-- what a point of a valid curve fulfils. -/
def onB (a b x y e : Int) : Bool := decide ((x = 0 ∧ y = 0 ∧ e = 0) ∨ (-10000 ≤ x ∧ x ≤ 10000 ∧ 1 ≤ e ∧ e ≤ 20 ∧ gcdI x e = 1 ∧ y * y = valI a b x e))
theorem onB_true {a b x y e : Int} : onB a b x y e = true ↔ ((x = 0 ∧ y = 0 ∧ e = 0) ∨ (-10000 ≤ x ∧ x ≤ 10000 ∧ 1 ≤ e ∧ e ≤ 20 ∧ gcdI x e = 1 ∧ y * y = valI a b x e)) := by simp only [onB, decide_eq_true_eq]
theorem onB_false {a b x y e : Int} : onB a b x y e = false ↔ ¬ ((x = 0 ∧ y = 0 ∧ e = 0) ∨ (-10000 ≤ x ∧ x ≤ 10000 ∧ 1 ≤ e ∧ e ≤ 20 ∧ gcdI x e = 1 ∧ y * y = valI a b x e)) := by simp only [onB, decide_eq_false_iff_not]
def pointB (a b x y e : Int) : Bool := curveB a b && onB a b x y e

theorem val_bd {a b x e : Int} (h1 : -1000 ≤ a) (h2 : a ≤ 1000) (h3 : -10000 ≤ b) (h4 : b ≤ 10000) (h5 : -10000 ≤ x) (h6 : x ≤ 10000) (h7 : -20 ≤ e) (h8 : e ≤ 20) : -3240000000000 ≤ valI a b x e ∧ valI a b x e ≤ 3240000000000 := by
  unfold valI
  have p1 := mul_bd h5 h6 h5 h6
  have p2 := mul_bd p1.1 p1.2 h5 h6
  have q1 := mul_bd h1 h2 h5 h6
  have q2 := mul_bd q1.1 q1.2 h7 h8
  have q3 := mul_bd q2.1 q2.2 h7 h8
  have q4 := mul_bd q3.1 q3.2 h7 h8
  have q5 := mul_bd q4.1 q4.2 h7 h8
  have r1 := mul_bd h3 h4 h7 h8
  have r2 := mul_bd r1.1 r1.2 h7 h8
  have r3 := mul_bd r2.1 r2.2 h7 h8
  have r4 := mul_bd r3.1 r3.2 h7 h8
  have r5 := mul_bd r4.1 r4.2 h7 h8
  have r6 := mul_bd r5.1 r5.2 h7 h8
  omega
/-- a number whose square is small is small. -/
theorem sq_small {y k : Int} (hk : 0 ≤ k) (h : y * y ≤ k * k) : -k ≤ y ∧ y ≤ k := by
  constructor
  · rcases Int.lt_or_le y (-k) with h1 | h1
    · have : (k + 1) * (k + 1) ≤ (-y) * (-y) := Int.mul_le_mul (by omega) (by omega) (by omega) (by omega)
      rw [Int.neg_mul_neg, Int.add_mul, Int.mul_add] at this
      omega
    · exact h1
  · rcases Int.lt_or_le k y with h1 | h1
    · have : (k + 1) * (k + 1) ≤ y * y := Int.mul_le_mul (by omega) (by omega) (by omega) (by omega)
      rw [Int.add_mul, Int.mul_add] at this
      omega
    · exact h1
theorem y_small {a b x y e : Int} (h1 : -1000 ≤ a) (h2 : a ≤ 1000) (h3 : -10000 ≤ b) (h4 : b ≤ 10000) (h5 : -10000 ≤ x) (h6 : x ≤ 10000) (h7 : 1 ≤ e) (h8 : e ≤ 20) (hv : y * y = valI a b x e) : -1800000 ≤ y ∧ y ≤ 1800000 := by
  have := val_bd h1 h2 h3 h4 h5 h6 (by omega) h8
  exact sq_small (by omega) (by omega)

theorem isPoint_any (a b x y e : Int) (w : World) :
    Calls Tryz.prog 85 #[.agg #[.int .i64 a, .int .i64 b], .agg #[.int .i64 x, .int .i64 y, .int .i64 e]] w (Ret (.bool (pointB a b x y e)) w) := by
  unfold pointB
  cases hcv : curveB a b
  · go_enter Tryz.func85, Tryz.ntmps85
    go_wp2_with (go_at_call 93; refine (isCurve_any _ _ _).mono ?_; rintro e w' ⟨rfl, hb⟩; (try replace hb := aft2 hb (by assumption)); obtain ⟨hc, hf⟩ := aft hb)
    go_ret
    exact ret_mk (by repeat (first | exact Below.refl _ _ | (with_reducible assumption) | refine bel_alloc ?_ _ | refine bel_drew ?_ | refine bel_drewN ?_ _ | refine Below.setCell ?_ (by dsimp only; omega) _ | refine bel_trans (by assumption) ?_))
  · obtain ⟨h1, h2, h3, h4, _⟩ := curveB_true.1 hcv
    by_cases hz : x = 0 ∧ y = 0 ∧ e = 0
    · obtain ⟨rfl, rfl, rfl⟩ := hz
      have hon : onB a b 0 0 0 = true := onB_true.2 (.inl ⟨rfl, rfl, rfl⟩)
      go_enter Tryz.func85, Tryz.ntmps85
      go_wp2_with (go_at_call 93; refine (isCurve_any _ _ _).mono ?_; rintro e w' ⟨rfl, hb⟩; (try replace hb := aft2 hb (by assumption)); obtain ⟨hc, hf⟩ := aft hb)
      go_ret
      exact ret_eq (by rw [hon]; rfl) (by repeat (first | exact Below.refl _ _ | (with_reducible assumption) | refine bel_alloc ?_ _ | refine bel_drew ?_ | refine bel_drewN ?_ _ | refine Below.setCell ?_ (by dsimp only; omega) _ | refine bel_trans (by assumption) ?_))
    · have hzb : (x == 0 && (y == 0 && e == 0)) = false := by simp; omega
      by_cases hx : -10000 ≤ x ∧ x ≤ 10000
      · have ix := inB_true.2 hx
        by_cases he : 1 ≤ e ∧ e ≤ 20
        · have ie := inB_true.2 he
          by_cases hg : gcdI x e = 1
          · have hgb : (gcdI x e != 1) = false := by simp [hg]
            by_cases hy : -3000000 ≤ y ∧ y ≤ 3000000
            · have iy := inB_true.2 hy
              have yy := mul_bd hy.1 hy.2 hy.1 hy.2
              have hon : onB a b x y e = (y * y == valI a b x e) := by
                rw [Bool.eq_iff_iff, onB_true, beq_iff_eq]
                exact ⟨fun h => h.elim (fun h => absurd h hz) (fun h => h.2.2.2.2.2), fun h => .inr ⟨hx.1, hx.2, he.1, he.2, hg, h⟩⟩
              have HO := Lib.hid hon; clear hon hg hz
              go_enter Tryz.func85, Tryz.ntmps85
              go_wp2_with (first | (go_at_call 93; refine (isCurve_any _ _ _).mono ?_; rintro e w' ⟨rfl, hb⟩; (try replace hb := aft2 hb (by assumption)); obtain ⟨hc, hf, hs1, hs2, hs3, hs4⟩ := aftz hb) | (go_at_call 66; refine (inside_any _ _ _ _).mono ?_; rintro e w' ⟨rfl, rfl⟩) | (go_at_call 125; refine (gcd_any _ _ _ (by omega) (by omega) (by omega) (by omega)).mono ?_; rintro e w' ⟨rfl, hb⟩; (try replace hb := aft2 hb (by assumption)); obtain ⟨hc, hf, hs1, hs2, hs3, hs4⟩ := aftz hb))
              refine wp_region_grow (by kernel_rfl) (by kernel_rfl) ?_
              repeat (go_big_quiet_step (((go_at_call 102; exact grow_ret (curveValue_any _ _ _ _ _ h1 h2 h3 h4 hx.1 hx.2 (by omega) he.2)))))
              refine wpQuiet_nil ?_
              rintro wg hbg
              (try replace hbg := aft2 hbg (by assumption))
              obtain ⟨hcg, hfg, hg1, hg2, hg3, hg4⟩ := aftz hbg
              go_wp2_with fail
              go_ret
              exact ret_eq (by rw [HO.out]; rfl) (by repeat (first | exact Below.refl _ _ | (with_reducible assumption) | refine bel_alloc ?_ _ | refine bel_drew ?_ | refine bel_drewN ?_ _ | refine Below.setCell ?_ (by dsimp only; omega) _ | refine bel_trans (by assumption) ?_))
            · have iy := inB_false.2 hy
              have hon : onB a b x y e = false := onB_false.2 (fun h => h.elim (fun h => hz h) (fun h => hy (by have := y_small h1 h2 h3 h4 h.1 h.2.1 h.2.2.1 h.2.2.2.1 h.2.2.2.2.2; omega)))
              have HO := Lib.hid hon; clear hon
              go_enter Tryz.func85, Tryz.ntmps85
              go_wp2_with (first | (go_at_call 93; refine (isCurve_any _ _ _).mono ?_; rintro e w' ⟨rfl, hb⟩; (try replace hb := aft2 hb (by assumption)); obtain ⟨hc, hf, hs1, hs2, hs3, hs4⟩ := aftz hb) | (go_at_call 66; refine (inside_any _ _ _ _).mono ?_; rintro e w' ⟨rfl, rfl⟩) | (go_at_call 125; refine (gcd_any _ _ _ (by omega) (by omega) (by omega) (by omega)).mono ?_; rintro e w' ⟨rfl, hb⟩; (try replace hb := aft2 hb (by assumption)); obtain ⟨hc, hf, hs1, hs2, hs3, hs4⟩ := aftz hb))
              all_goals (go_ret; exact ret_eq (by rw [HO.out]; rfl) (by repeat (first | exact Below.refl _ _ | (with_reducible assumption) | refine bel_alloc ?_ _ | refine bel_drew ?_ | refine bel_drewN ?_ _ | refine Below.setCell ?_ (by dsimp only; omega) _ | refine bel_trans (by assumption) ?_)))
          · have hgb : (gcdI x e != 1) = true := by simp [hg]
            have hon : onB a b x y e = false := onB_false.2 (fun h => h.elim (fun h => hz h) (fun h => hg h.2.2.2.2.1))
            clear hg
            have HO := Lib.hid hon; clear hon
            go_enter Tryz.func85, Tryz.ntmps85
            go_wp2_with (first | (go_at_call 93; refine (isCurve_any _ _ _).mono ?_; rintro e w' ⟨rfl, hb⟩; (try replace hb := aft2 hb (by assumption)); obtain ⟨hc, hf, hs1, hs2, hs3, hs4⟩ := aftz hb) | (go_at_call 66; refine (inside_any _ _ _ _).mono ?_; rintro e w' ⟨rfl, rfl⟩) | (go_at_call 125; refine (gcd_any _ _ _ (by omega) (by omega) (by omega) (by omega)).mono ?_; rintro e w' ⟨rfl, hb⟩; (try replace hb := aft2 hb (by assumption)); obtain ⟨hc, hf, hs1, hs2, hs3, hs4⟩ := aftz hb))
            all_goals (go_ret; exact ret_eq (by rw [HO.out]; rfl) (by repeat (first | exact Below.refl _ _ | (with_reducible assumption) | refine bel_alloc ?_ _ | refine bel_drew ?_ | refine bel_drewN ?_ _ | refine Below.setCell ?_ (by dsimp only; omega) _ | refine bel_trans (by assumption) ?_)))
        · have ie := inB_false.2 he
          have hon : onB a b x y e = false := onB_false.2 (fun h => h.elim (fun h => hz h) (fun h => he ⟨h.2.2.1, h.2.2.2.1⟩))
          have HO := Lib.hid hon; clear hon
          go_enter Tryz.func85, Tryz.ntmps85
          go_wp2_with (first | (go_at_call 93; refine (isCurve_any _ _ _).mono ?_; rintro e w' ⟨rfl, hb⟩; (try replace hb := aft2 hb (by assumption)); obtain ⟨hc, hf, hs1, hs2, hs3, hs4⟩ := aftz hb) | (go_at_call 66; refine (inside_any _ _ _ _).mono ?_; rintro e w' ⟨rfl, rfl⟩) | (go_at_call 125; refine (gcd_any _ _ _ (by omega) (by omega) (by omega) (by omega)).mono ?_; rintro e w' ⟨rfl, hb⟩; (try replace hb := aft2 hb (by assumption)); obtain ⟨hc, hf, hs1, hs2, hs3, hs4⟩ := aftz hb))
          all_goals (go_ret; exact ret_eq (by rw [HO.out]; rfl) (by repeat (first | exact Below.refl _ _ | (with_reducible assumption) | refine bel_alloc ?_ _ | refine bel_drew ?_ | refine bel_drewN ?_ _ | refine Below.setCell ?_ (by dsimp only; omega) _ | refine bel_trans (by assumption) ?_)))
      · have ix := inB_false.2 hx
        have hon : onB a b x y e = false := onB_false.2 (fun h => h.elim (fun h => hz h) (fun h => hx ⟨h.1, h.2.1⟩))
        have HO := Lib.hid hon; clear hon
        go_enter Tryz.func85, Tryz.ntmps85
        go_wp2_with (first | (go_at_call 93; refine (isCurve_any _ _ _).mono ?_; rintro e w' ⟨rfl, hb⟩; (try replace hb := aft2 hb (by assumption)); obtain ⟨hc, hf, hs1, hs2, hs3, hs4⟩ := aftz hb) | (go_at_call 66; refine (inside_any _ _ _ _).mono ?_; rintro e w' ⟨rfl, rfl⟩) | (go_at_call 125; refine (gcd_any _ _ _ (by omega) (by omega) (by omega) (by omega)).mono ?_; rintro e w' ⟨rfl, hb⟩; (try replace hb := aft2 hb (by assumption)); obtain ⟨hc, hf, hs1, hs2, hs3, hs4⟩ := aftz hb))
        all_goals (go_ret; exact ret_eq (by rw [HO.out]; rfl) (by repeat (first | exact Below.refl _ _ | (with_reducible assumption) | refine bel_alloc ?_ _ | refine bel_drew ?_ | refine bel_drewN ?_ _ | refine Below.setCell ?_ (by dsimp only; omega) _ | refine bel_trans (by assumption) ?_)))
theorem ptOn_any (a b x y e : Int) (w : World) (h1 : -1000 ≤ a) (h2 : a ≤ 1000) (h3 : -10000 ≤ b) (h4 : b ≤ 10000) :
    Calls Tryz.prog 128 #[.agg #[.int .i64 a, .int .i64 b], .agg #[.int .i64 x, .int .i64 y, .int .i64 e]] w (Ret (.bool (onB a b x y e)) w) := by
  by_cases hz : e = 0
  · subst hz
    have hon : onB a b x y 0 = (x == 0 && y == 0) := by
      rw [Bool.eq_iff_iff, onB_true, Bool.and_eq_true, beq_iff_eq, beq_iff_eq]
      omega
    have HO := Lib.hid hon; clear hon
    by_cases hx0 : x = 0
    · subst hx0
      go_enter Tryz.func128, Tryz.ntmps128
      go_wp2_with fail
      go_ret
      exact ret_eq (by rw [HO.out]; rfl) (by repeat (first | exact Below.refl _ _ | (with_reducible assumption) | refine bel_alloc ?_ _ | refine bel_drew ?_ | refine bel_drewN ?_ _ | refine Below.setCell ?_ (by dsimp only; omega) _ | refine bel_trans (by assumption) ?_))
    · have hx0' : (x == 0) = false := by simp [hx0]
      go_enter Tryz.func128, Tryz.ntmps128
      go_wp2_with fail
      go_ret
      exact ret_eq (by rw [HO.out, hx0']; rfl) (by repeat (first | exact Below.refl _ _ | (with_reducible assumption) | refine bel_alloc ?_ _ | refine bel_drew ?_ | refine bel_drewN ?_ _ | refine Below.setCell ?_ (by dsimp only; omega) _ | refine bel_trans (by assumption) ?_))
  · have hzb : (e == 0) = false := by simp [hz]
    by_cases hx : -10000 ≤ x ∧ x ≤ 10000
    · have ix := inB_true.2 hx
      by_cases he : 1 ≤ e ∧ e ≤ 20
      · have ie := inB_true.2 he
        by_cases hy : -10000000 ≤ y ∧ y ≤ 10000000
        · have iy := inB_true.2 hy
          have hga := gcdI_natAbs x e
          rw [show ((e.natAbs : Nat) : Int) = e by omega] at hga
          by_cases hg : gcdI (x.natAbs : Int) e = 1
          · have hgb : (gcdI (x.natAbs : Int) e != 1) = false := by simp [hg]
            have yy := mul_bd hy.1 hy.2 hy.1 hy.2
            have hon : onB a b x y e = (y * y == valI a b x e) := by
              rw [Bool.eq_iff_iff, onB_true, beq_iff_eq]
              exact ⟨fun h => h.elim (fun h => absurd h.2.2 hz) (fun h => h.2.2.2.2.2), fun h => .inr ⟨hx.1, hx.2, he.1, he.2, hga ▸ hg, h⟩⟩
            have HO := Lib.hid hon; clear hon hg hga hz
            go_enter Tryz.func128, Tryz.ntmps128
            go_wp2_with fail
            refine wp_region_grow (by kernel_rfl) (by kernel_rfl) ?_
            repeat (go_big_quiet_step (((first | (go_at_call 68; exact grow_same (l1In_any _ _ _ _)) | (go_at_call 123; exact grow_same (l1Abs_any _ _ (by omega) (by omega))) | (go_at_call 76; exact grow_ret (bgCommon_any _ _ _ (by omega) (by omega) (by omega) (by omega)))))))
            refine wpQuiet_nil ?_
            rintro wg hbg
            (try replace hbg := aft2 hbg (by assumption))
            obtain ⟨hcg, hfg, hg1, hg2, hg3, hg4⟩ := aftz hbg
            go_wp2_with fail
            refine wp_region_grow (by kernel_rfl) (by kernel_rfl) ?_
            repeat (go_big_quiet_step (((go_at_call 143; exact grow_ret (ptValue_any _ _ _ _ _ h1 h2 h3 h4 hx.1 hx.2 (by omega) he.2)))))
            refine wpQuiet_nil ?_
            rintro wg hbg
            (try replace hbg := aft2 hbg (by assumption))
            obtain ⟨hcg, hfg, hg1, hg2, hg3, hg4⟩ := aftz hbg
            go_wp2_with fail
            go_ret
            exact ret_eq (by first | (rw [HO.out]; done) | (rw [HO.out]; rfl)) (by repeat (first | exact Below.refl _ _ | (with_reducible assumption) | refine bel_alloc ?_ _ | refine bel_drew ?_ | refine bel_drewN ?_ _ | refine Below.setCell ?_ (by dsimp only; omega) _ | refine bel_trans (by assumption) ?_))
          · have hgb : (gcdI (x.natAbs : Int) e != 1) = true := by simp [hg]
            have hon : onB a b x y e = false := onB_false.2 (fun h => h.elim (fun h => hz h.2.2) (fun h => hg (hga.trans h.2.2.2.2.1)))
            clear hg hga
            have HO := Lib.hid hon; clear hon hz
            go_enter Tryz.func128, Tryz.ntmps128
            go_wp2_with fail
            refine wp_region_grow (by kernel_rfl) (by kernel_rfl) ?_
            repeat (go_big_quiet_step (((first | (go_at_call 68; exact grow_same (l1In_any _ _ _ _)) | (go_at_call 123; exact grow_same (l1Abs_any _ _ (by omega) (by omega))) | (go_at_call 76; exact grow_ret (bgCommon_any _ _ _ (by omega) (by omega) (by omega) (by omega)))))))
            refine wpQuiet_nil ?_
            rintro wg hbg
            (try replace hbg := aft2 hbg (by assumption))
            obtain ⟨hcg, hfg, hg1, hg2, hg3, hg4⟩ := aftz hbg
            go_wp2_with fail
            go_ret
            exact ret_eq (by first | (rw [HO.out]; done) | (rw [HO.out]; rfl)) (by repeat (first | exact Below.refl _ _ | (with_reducible assumption) | refine bel_alloc ?_ _ | refine bel_drew ?_ | refine bel_drewN ?_ _ | refine Below.setCell ?_ (by dsimp only; omega) _ | refine bel_trans (by assumption) ?_))
        · have iy := inB_false.2 hy
          have hon : onB a b x y e = false := onB_false.2 (fun h => h.elim (fun h => hz h.2.2) (fun h => hy (by have := y_small h1 h2 h3 h4 h.1 h.2.1 h.2.2.1 h.2.2.2.1 h.2.2.2.2.2; omega)))
          have HO := Lib.hid hon; clear hon hz
          go_enter Tryz.func128, Tryz.ntmps128
          go_wp2_with fail
          refine wp_region_grow (by kernel_rfl) (by kernel_rfl) ?_
          repeat (go_big_quiet_step (((first | (go_at_call 68; exact grow_same (l1In_any _ _ _ _)) | (go_at_call 123; exact grow_same (l1Abs_any _ _ (by omega) (by omega))) | (go_at_call 76; exact grow_ret (bgCommon_any _ _ _ (by omega) (by omega) (by omega) (by omega)))))))
          refine wpQuiet_nil ?_
          rintro wg hbg
          (try replace hbg := aft2 hbg (by assumption))
          obtain ⟨hcg, hfg, hg1, hg2, hg3, hg4⟩ := aftz hbg
          go_wp2_with fail
          go_ret
          exact ret_eq (by first | (rw [HO.out]; done) | (rw [HO.out]; rfl)) (by repeat (first | exact Below.refl _ _ | (with_reducible assumption) | refine bel_alloc ?_ _ | refine bel_drew ?_ | refine bel_drewN ?_ _ | refine Below.setCell ?_ (by dsimp only; omega) _ | refine bel_trans (by assumption) ?_))
      · have ie := inB_false.2 he
        have hon : onB a b x y e = false := onB_false.2 (fun h => h.elim (fun h => hz h.2.2) (fun h => he ⟨h.2.2.1, h.2.2.2.1⟩))
        have HO := Lib.hid hon; clear hon hz
        go_enter Tryz.func128, Tryz.ntmps128
        go_wp2_with fail
        refine wp_region_grow (by kernel_rfl) (by kernel_rfl) ?_
        repeat (go_big_quiet_step (((first | (go_at_call 68; exact grow_same (l1In_any _ _ _ _)) | (go_at_call 123; exact grow_same (l1Abs_any _ _ (by omega) (by omega))) | (go_at_call 76; exact grow_ret (bgCommon_any _ _ _ (by omega) (by omega) (by omega) (by omega)))))))
        refine wpQuiet_nil ?_
        rintro wg hbg
        (try replace hbg := aft2 hbg (by assumption))
        obtain ⟨hcg, hfg, hg1, hg2, hg3, hg4⟩ := aftz hbg
        go_wp2_with fail
        go_ret
        exact ret_eq (by first | (rw [HO.out]; done) | (rw [HO.out]; rfl)) (by repeat (first | exact Below.refl _ _ | (with_reducible assumption) | refine bel_alloc ?_ _ | refine bel_drew ?_ | refine bel_drewN ?_ _ | refine Below.setCell ?_ (by dsimp only; omega) _ | refine bel_trans (by assumption) ?_))
    · have ix := inB_false.2 hx
      have hon : onB a b x y e = false := onB_false.2 (fun h => h.elim (fun h => hz h.2.2) (fun h => hx ⟨h.1, h.2.1⟩))
      have HO := Lib.hid hon; clear hon hz
      go_enter Tryz.func128, Tryz.ntmps128
      go_wp2_with fail
      refine wp_region_grow (by kernel_rfl) (by kernel_rfl) ?_
      repeat (go_big_quiet_step (((first | (go_at_call 68; exact grow_same (l1In_any _ _ _ _)) | (go_at_call 123; exact grow_same (l1Abs_any _ _ (by omega) (by omega))) | (go_at_call 76; exact grow_ret (bgCommon_any _ _ _ (by omega) (by omega) (by omega) (by omega)))))))
      refine wpQuiet_nil ?_
      rintro wg hbg
      (try replace hbg := aft2 hbg (by assumption))
      obtain ⟨hcg, hfg, hg1, hg2, hg3, hg4⟩ := aftz hbg
      go_wp2_with fail
      go_ret
      exact ret_eq (by first | (rw [HO.out]; done) | (rw [HO.out]; rfl)) (by repeat (first | exact Below.refl _ _ | (with_reducible assumption) | refine bel_alloc ?_ _ | refine bel_drew ?_ | refine bel_drewN ?_ _ | refine Below.setCell ?_ (by dsimp only; omega) _ | refine bel_trans (by assumption) ?_))
theorem iIsPointOf_any (a b x y e : Int) (w : World) :
    Calls Tryz.prog 44 #[.agg #[.int .i64 a, .int .i64 b], .agg #[.int .i64 x, .int .i64 y, .int .i64 e]] w (Ret (.bool (pointB a b x y e)) w) := by
  go_enter Tryz.func44, Tryz.ntmps44
  go_wp2_with (go_at_call 85; refine (isPoint_any _ _ _ _ _ _).mono ?_; rintro e w' ⟨rfl, hb⟩; (try replace hb := aft2 hb (by assumption)); obtain ⟨hc, hf⟩ := aft hb)
  go_ret
  exact ret_mk (by repeat (first | exact Below.refl _ _ | (with_reducible assumption) | refine bel_alloc ?_ _ | refine bel_drew ?_ | refine bel_drewN ?_ _ | refine Below.setCell ?_ (by dsimp only; omega) _ | refine bel_trans (by assumption) ?_))
theorem sIsPointOf_any (a b x y e : Int) (w : World) :
    Calls Tryz.prog 87 #[.agg #[.int .i64 a, .int .i64 b], .agg #[.int .i64 x, .int .i64 y, .int .i64 e]] w (Ret (.bool (pointB a b x y e)) w) := by
  unfold pointB
  cases hcv : curveB a b
  · go_enter Tryz.func87, Tryz.ntmps87
    go_wp2_with (go_at_call 95; refine (ecGood_any _ _ _).mono ?_; rintro e w' ⟨rfl, hb⟩; (try replace hb := aft2 hb (by assumption)); obtain ⟨hc, hf⟩ := aft hb)
    go_ret
    exact ret_mk (by repeat (first | exact Below.refl _ _ | (with_reducible assumption) | refine bel_alloc ?_ _ | refine bel_drew ?_ | refine bel_drewN ?_ _ | refine Below.setCell ?_ (by dsimp only; omega) _ | refine bel_trans (by assumption) ?_))
  · obtain ⟨h1, h2, h3, h4, _⟩ := curveB_true.1 hcv
    go_enter Tryz.func87, Tryz.ntmps87
    go_wp2_with (first | (go_at_call 95; refine (ecGood_any _ _ _).mono ?_; rintro e w' ⟨rfl, hb⟩; (try replace hb := aft2 hb (by assumption)); obtain ⟨hc, hf⟩ := aft hb) | (go_at_call 128; refine (ptOn_any _ _ _ _ _ _ h1 h2 h3 h4).mono ?_; rintro e w' ⟨rfl, hb⟩; (try replace hb := aft2 hb (by assumption)); obtain ⟨hc, hf⟩ := aft hb))
    go_ret
    exact ret_mk (by repeat (first | exact Below.refl _ _ | (with_reducible assumption) | refine bel_alloc ?_ _ | refine bel_drew ?_ | refine bel_drewN ?_ _ | refine Below.setCell ?_ (by dsimp only; omega) _ | refine bel_trans (by assumption) ?_))
end Go.Proofs.YtakilincclnpdaaGreatDoor
namespace Go.Proofs.YtakilincclnpdaaGreatDoor
open Go.RowKit
set_option linter.unusedVariables false

/-- the call's own row of points, its numbers one after another. -/
def OwnP (w : World) (B : Nat) (v : Value) (xs : List Int) : Prop := ∃ n, xs.length = 3 * n ∧ w.ownsRow B 52 3 v n (xs.map (Value.int .i64))
/-- reads as the numbers xs, its block below n. -/
def RdPN (n : Nat) (w : World) (v : Value) (xs : List Int) : Prop :=
  n ≤ w.heap.size ∧ ∃ (ad : Option Addr) (m cap : Nat), v = .slice ad m cap ∧ xs.length = 3 * m ∧ m ≤ maxLen ∧
    (0 < m → ∃ b off, ad = some ⟨b, off, none⟩ ∧ b < n ∧ ∀ i, i < xs.length → w.cell? ⟨b, off + i, none⟩ = some (.int .i64 (xs.getD i 0)))
theorem RdPN.step {n m : Nat} {w w' : World} {v : Value} {xs : List Int} (h : RdPN n w v xs) (hb : Below m w w') (hle : n ≤ m) : RdPN n w' v xs := by
  obtain ⟨h0, ad, l, cap, hv, hl, hm, hc⟩ := h
  refine ⟨Nat.le_trans h0 hb.size, ad, l, cap, hv, hl, hm, fun hp => ?_⟩
  obtain ⟨b, off, ha, hlt, hcell⟩ := hc hp
  exact ⟨b, off, ha, hlt, fun i hi => (hb.cell (p := ⟨b, off + i, none⟩) (Nat.lt_of_lt_of_le hlt hle)).trans (hcell i hi)⟩
theorem RdPN.keep {n : Nat} {w w' : World} {v : Value} {xs : List Int} (h : RdPN n w v xs) (hb : Below w.heap.size w w') : RdPN n w' v xs := h.step hb h.1
theorem OwnP.le {w : World} {B B' : Nat} {v : Value} {xs : List Int} (h : OwnP w B v xs) (hb : B' ≤ B) : OwnP w B' v xs := by
  obtain ⟨n, h1, h2⟩ := h
  exact ⟨n, h1, Joins.ownsRow_le h2 hb⟩
theorem OwnP.nil (w : World) (B : Nat) : OwnP w B (.slice none 0 0) [] := ⟨0, rfl, World.ownsRow_nil _ _ _ _⟩
theorem OwnP.keep {w w' : World} {B : Nat} {v : Value} {xs : List Int} (h : OwnP w B v xs) (hb : Below w.heap.size w w') : OwnP w' B v xs := by
  obtain ⟨n, h0, h1, h2⟩ := h
  refine ⟨n, h0, h1, ?_⟩
  rcases h2 with h2 | ⟨g, cap, cur, hv, hg, hh, r⟩
  · exact .inl h2
  · have hlt : g < w.heap.size := by
      rcases Nat.lt_or_ge g w.heap.size with h' | h'
      · exact h'
      · rw [Array.getElem?_eq_none h'] at hh; cases hh
    exact .inr ⟨g, cap, cur, hv, hg, (hb.block g hlt).trans hh, r⟩
theorem OwnP.shape {w : World} {B : Nat} {v : Value} {xs : List Int} (h : OwnP w B v xs) :
    (v = .slice none 0 0 ∧ xs = []) ∨ ∃ g n cap, v = .slice (some ⟨g, 0, none⟩) n cap ∧ xs.length = 3 * n ∧ B ≤ g ∧ g < w.heap.size ∧ n ≤ cap ∧ cap ≤ maxLen ∧ w.ownsRow B 52 3 (.slice (some ⟨g, 0, none⟩) n cap) n (xs.map (Value.int .i64)) := by
  obtain ⟨n, h0, h1, h2⟩ := h
  rcases h2 with ⟨h3, h4⟩ | ⟨g, cap, cur, hv, hg, hh, hn, hm, hs⟩
  · exact .inl ⟨h3, List.eq_nil_of_length_eq_zero (by omega)⟩
  · have hlt : g < w.heap.size := by
      rcases Nat.lt_or_ge g w.heap.size with h' | h'
      · exact h'
      · rw [Array.getElem?_eq_none h'] at hh; cases hh
    refine .inr ⟨g, n, cap, hv, h0, hg, hlt, hn, hm, ?_⟩
    rw [← hv]
    exact ⟨h1, .inr ⟨g, cap, cur, hv, hg, hh, hn, hm, hs⟩⟩
theorem OwnP.rd {w : World} {B : Nat} {v : Value} {xs : List Int} (h : OwnP w B v xs) : RdPN w.heap.size w v xs := by
  rcases h.shape with ⟨rfl, rfl⟩ | ⟨g, n, cap, rfl, h0, hg, hlt, hn, hm, ho⟩
  · exact ⟨Nat.le_refl _, none, 0, 0, rfl, rfl, Nat.zero_le _, fun h => by omega⟩
  · refine ⟨Nat.le_refl _, _, n, cap, rfl, h0, by omega, fun _ => ⟨g, 0, rfl, hlt, fun i hi => ?_⟩⟩
    rw [Nat.zero_add, World.ownsRow.cellAt ho i (by omega), getD_map_int xs i hi]
/-- the call's own points are written, and nothing besides. -/
def MarkedP (v : Value) (m : Nat) (k : Int) (B : Nat) (w : World) (e : Ending) (w' : World) : Prop :=
  e = .returned (.int .i64 (k + m)) ∧ w.grownBy w' v.ownBlock ∧ OwnP w' B v (marks k m)
theorem OwnP.lt {w : World} {B : Nat} {v : Value} {xs : List Int} (h : OwnP w B v xs) {k : Nat} (hk : v.ownBlock = some k) : B ≤ k := by
  obtain ⟨n, _, h2⟩ := h
  exact (World.ownsRow.lt h2 k hk).1
theorem MarkedP.below {v : Value} {B m : Nat} {w w' : World} {xs : List Int} (hg : w.grownBy w' v.ownBlock) (ho : OwnP w B v xs) (hm : m ≤ B) (hs : m ≤ w.heap.size) : Below m w w' :=
  (Below.refl m w).grown hg hs (fun k hk => Nat.le_trans hm (ho.lt hk))
theorem mark_set3 (k : Int) (xs : List Int) (j : Nat) (hj : j * 3 + 2 < xs.length) :
    ((((marks k (j * 3) ++ xs.drop (j * 3)).map (Value.int .i64)).set (j * 3) (.int .i64 (k + 3 * (j : Int)))).set (j * 3 + 1) (.int .i64 (k + 3 * (j : Int) + 1))).set (j * 3 + 2) (.int .i64 (k + 3 * (j : Int) + 1 + 1)) = (marks k ((j + 1) * 3) ++ xs.drop ((j + 1) * 3)).map (Value.int .i64) := by
  have e0 : k + 3 * (j : Int) = k + ((j * 3 : Nat) : Int) := by omega
  have e1 : k + 3 * (j : Int) + 1 = k + ((j * 3 + 1 : Nat) : Int) := by omega
  have e2 : k + 3 * (j : Int) + 1 + 1 = k + ((j * 3 + 2 : Nat) : Int) := by omega
  rw [e2, e1, e0, mark_set k xs (j * 3) (by omega), mark_set k xs (j * 3 + 1) (by omega), mark_set k xs (j * 3 + 2) (by omega), show (j + 1) * 3 = j * 3 + 2 + 1 by omega]
end Go.Proofs.YtakilincclnpdaaGreatDoor
