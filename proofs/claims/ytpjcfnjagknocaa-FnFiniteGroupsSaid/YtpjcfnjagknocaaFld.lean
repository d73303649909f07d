/- Fld: contracts: small good primes, the right side of the equation modulo a prime, points modulo a prime. No conditions. -/
import Derived.Test.YtpjcfnjagknocaaRed
import Derived.Test.YtpjcfnjagknocaaSl
namespace Go.Proofs.Ytpjcfnjagknocaa
open Go.RowKit

noncomputable def smallB (a b p : Int) : Bool := curveB a b && (goodB a b p && decide (p ≤ 199))
theorem small_bd {a b p : Int} (h : smallB a b p = true) : curveB a b = true ∧ goodB a b p = true ∧ 5 ≤ p ∧ p ≤ 199 := by
  unfold smallB at h
  simp only [Bool.and_eq_true, decide_eq_true_eq] at h
  obtain ⟨h1, h2, h3⟩ := h
  have hg := h2
  unfold goodB at h2
  rw [Bool.and_eq_true] at h2
  exact ⟨h1, hg, (p5_bd h2.1).1, h3⟩
theorem fmSmall_any (a b p : Int) (w : World) :
    Calls Try.prog 80 #[.agg #[.int .i64 a, .int .i64 b], .int .i64 p] w (Ret (.bool (smallB a b p)) w) := by
  have hs : smallB a b p = ((curveB a b && goodB a b p) && decide (p ≤ 199)) := by unfold smallB; rw [Bool.and_assoc]
  have HS := Lib.hid hs; clear hs
  cases hg : (curveB a b && goodB a b p)
  · go_enter Try.func80, Try.ntmps80
    go_wp2_with fail
    refine (fmGood_any _ _ _ _).mono ?_; rintro e w1 ⟨rfl, hb1⟩
    rw [hg]
    go_wp2_with fail
    go_ret
    exact ret_eq (by rw [HS.out, hg]; rfl) (by repeat (first | exact Below.refl _ _ | (with_reducible assumption) | refine bel_alloc ?_ _ | refine bel_drew ?_ | refine bel_drewN ?_ _ | refine Below.setCell ?_ (by dsimp only; omega) _ | refine bel_trans (by assumption) ?_))
  · go_enter Try.func80, Try.ntmps80
    go_wp2_with fail
    refine (fmGood_any _ _ _ _).mono ?_; rintro e w1 ⟨rfl, hb1⟩
    rw [hg]
    go_wp2_with fail
    go_ret
    exact ret_eq (by rw [HS.out, hg]; rfl) (by repeat (first | exact Below.refl _ _ | (with_reducible assumption) | refine bel_alloc ?_ _ | refine bel_drew ?_ | refine bel_drewN ?_ _ | refine Below.setCell ?_ (by dsimp only; omega) _ | refine bel_trans (by assumption) ?_))
theorem fieldFits_any (a b p : Int) (w : World) :
    Calls Try.prog 77 #[.agg #[.int .i64 a, .int .i64 b], .int .i64 p] w (Ret (.bool (smallB a b p)) w) := by
  have hs : smallB a b p = (curveB a b && (goodB a b p && decide (p ≤ 199))) := rfl
  have HS := Lib.hid hs; clear hs
  cases hcur : curveB a b
  · go_enter Try.func77, Try.ntmps77
    go_wp2_with (go_at_call 83; refine (isCurve_any _ _ _).mono ?_; rintro e w' ⟨rfl, hb⟩; (try replace hb := aft2 hb (by assumption)); obtain ⟨hc, hf, hs1, hs2, hs3, hs4⟩ := aftz hb)
    go_ret
    exact ret_eq (by rw [HS.out, hcur]; rfl) (by repeat (first | exact Below.refl _ _ | (with_reducible assumption) | refine bel_alloc ?_ _ | refine bel_drew ?_ | refine bel_drewN ?_ _ | refine Below.setCell ?_ (by dsimp only; omega) _ | refine bel_trans (by assumption) ?_))
  · obtain ⟨h1, h2, h3, h4, _⟩ := curveB_true.1 hcur
    by_cases hp : p ≤ 199
    · go_enter Try.func77, Try.ntmps77
      go_wp2_with (first | (go_at_call 83; refine (isCurve_any _ _ _).mono ?_; rintro e w' ⟨rfl, hb⟩; (try replace hb := aft2 hb (by assumption)); obtain ⟨hc, hf, hs1, hs2, hs3, hs4⟩ := aftz hb) | (go_at_call 84; refine (isGood_any _ _ _ _ h1 h2 h3 h4).mono ?_; rintro e w' ⟨rfl, hb⟩; (try replace hb := aft2 hb (by assumption)); obtain ⟨hc, hf, hs1, hs2, hs3, hs4⟩ := aftz hb))
      go_ret
      exact ret_eq (by rw [HS.out, hcur, decide_eq_true hp, Bool.and_true]; rfl) (by repeat (first | exact Below.refl _ _ | (with_reducible assumption) | refine bel_alloc ?_ _ | refine bel_drew ?_ | refine bel_drewN ?_ _ | refine Below.setCell ?_ (by dsimp only; omega) _ | refine bel_trans (by assumption) ?_))
    · have hpv : decide (p ≤ 199) = false := decide_eq_false hp
      have HP := Lib.hid hpv; clear hpv
      go_enter Try.func77, Try.ntmps77
      go_wp2_with (go_at_call 83; refine (isCurve_any _ _ _).mono ?_; rintro e w' ⟨rfl, hb⟩; (try replace hb := aft2 hb (by assumption)); obtain ⟨hc, hf, hs1, hs2, hs3, hs4⟩ := aftz hb)
      go_ret
      exact ret_eq (by rw [HS.out, hcur, HP.out, Bool.and_false]; rfl) (by repeat (first | exact Below.refl _ _ | (with_reducible assumption) | refine bel_alloc ?_ _ | refine bel_drew ?_ | refine bel_drewN ?_ _ | refine Below.setCell ?_ (by dsimp only; omega) _ | refine bel_trans (by assumption) ?_))

/-- the residue of x^3 + A x + B. -/
def rsI (a b p x : Int) : Int := (x * x * x + a * x + b) % p
theorem rs_alt (a b p x : Int) : (x * x % p * x + a * x + b) % p = rsI a b p x := by
  unfold rsI
  have h := Int.mul_ediv_add_emod (x * x) p
  have h2 : x * x * x = p * (x * x / p * x) + x * x % p * x := by
    calc x * x * x = (p * (x * x / p) + x * x % p) * x := by rw [h]
      _ = p * (x * x / p * x) + x * x % p * x := by rw [Int.add_mul, Int.mul_assoc]
  rw [h2, show p * (x * x / p * x) + x * x % p * x + a * x + b = (x * x % p * x + a * x + b) + p * (x * x / p * x) by omega, Int.add_mul_emod_self_left]
theorem rs_bd {a b p x : Int} (hp : 1 ≤ p) : 0 ≤ rsI a b p x ∧ rsI a b p x < p := ⟨Int.emod_nonneg _ (by omega), Int.emod_lt_of_pos _ (by omega)⟩
theorem rightSide_any (a b p x : Int) (w : World) (h1 : -1000 ≤ a) (h2 : a ≤ 1000) (h3 : -10000 ≤ b) (h4 : b ≤ 10000) (h5 : 2 ≤ p) (h6 : p ≤ 997) (h7 : 0 ≤ x) (h8 : x ≤ 997) :
    Calls Try.prog 125 #[.agg #[.int .i64 a, .int .i64 b], .int .i64 p, .int .i64 x] w (Ret (.int .i64 (rsI a b p x)) w) := by
  have hr := rs_alt a b p x
  have HR := Lib.hid hr; clear hr
  have xx := mul_bd (a := x) (b := x) (A := 997) (B := 997) (by omega) (by omega) (by omega) (by omega)
  have xx0 : 0 ≤ x * x := Int.mul_nonneg h7 h7
  have hm1 := Int.emod_nonneg (x * x) (show p ≠ 0 by omega)
  have hm2 := Int.emod_lt_of_pos (x * x) (show 0 < p by omega)
  have xm := mul_bd (a := x * x % p) (b := x) (A := 997) (B := 997) (by omega) (by omega) (by omega) (by omega)
  have ax := mul_bd (a := a) (b := x) (A := 1000) (B := 997) (by omega) (by omega) (by omega) (by omega)
  have hp0 : (p == 0) = false := by simp; omega
  go_enter Try.func125, Try.ntmps125
  go_wp2_with fail
  refine wp_region_grow (by kernel_rfl) (by kernel_rfl) ?_
  repeat (go_big_quiet_step (((go_at_call 134; exact grow_ret (modulo_any _ _ _ (by omega) (by omega))))))
  refine wpQuiet_nil ?_
  rintro wg hbg
  (try replace hbg := aft2 hbg (by assumption))
  obtain ⟨hcg, hfg, hg1, hg2, hg3, hg4⟩ := aftz hbg
  go_wp2_with fail
  go_ret
  exact ret_eq (congrArg (Value.int .i64) HR.out) (by repeat (first | exact Below.refl _ _ | (with_reducible assumption) | refine bel_alloc ?_ _ | refine bel_drew ?_ | refine bel_drewN ?_ _ | refine Below.setCell ?_ (by dsimp only; omega) _ | refine bel_trans (by assumption) ?_))
theorem fmValue_any (a b p x : Int) (w : World) (h1 : -1000 ≤ a) (h2 : a ≤ 1000) (h3 : -10000 ≤ b) (h4 : b ≤ 10000) (h5 : 2 ≤ p) (h6 : p ≤ 997) (h7 : 0 ≤ x) (h8 : x ≤ 997) :
    Calls Try.prog 128 #[.agg #[.int .i64 a, .int .i64 b], .int .i64 p, .int .i64 x] w (Ret (.int .i64 (rsI a b p x)) w) := by
  have xx := mul_bd (a := x) (b := x) (A := 997) (B := 997) (by omega) (by omega) (by omega) (by omega)
  have xxx := mul_bd (b := x) (B := 997) xx.1 xx.2 (by omega) (by omega)
  have ax := mul_bd (a := a) (b := x) (A := 1000) (B := 997) (by omega) (by omega) (by omega) (by omega)
  go_enter Try.func128, Try.ntmps128
  go_wp2_with (go_at_call 131; refine (mdMod_any _ _ _ (by omega) (by omega)).mono ?_; rintro e w' ⟨rfl, hb⟩; (try replace hb := aft2 hb (by assumption)); obtain ⟨hc, hf⟩ := aft hb)
  go_ret
  exact ret_eq rfl (by repeat (first | exact Below.refl _ _ | (with_reducible assumption) | refine bel_alloc ?_ _ | refine bel_drew ?_ | refine bel_drewN ?_ _ | refine Below.setCell ?_ (by dsimp only; omega) _ | refine bel_trans (by assumption) ?_))

/-- the lists that are points modulo a prime. -/
def onF (a b p : Int) (xs : List Int) : Bool :=
  match xs with
  | [] => true
  | [x, y] => decide (0 ≤ x ∧ x ≤ p - 1) && decide (0 ≤ y ∧ y ≤ p - 1) && (y * y % p == rsI a b p x)
  | _ => false
theorem below_alloc (w : World) (o : Obj) : Below w.heap.size w (w.alloc o) := (Below.refl _ _).alloc (Nat.le_refl _) o
theorem rd_grow {w0 : World} {g : Grow w0} {v : Value} {xs : List Int} (h : Rd w0 v xs) : Rd g.wd v xs := h.keep g.2
set_option maxHeartbeats 2000000 in
theorem onField_any (a b p : Int) (v : Value) (xs : List Int) (w : World) (hrd : Rd w v xs) (h1 : -1000 ≤ a) (h2 : a ≤ 1000) (h3 : -10000 ≤ b) (h4 : b ≤ 10000) (h5 : 2 ≤ p) (h6 : p ≤ 997) :
    Calls Try.prog 93 #[.agg #[.int .i64 a, .int .i64 b], .int .i64 p, v] w (Ret (.bool (onF a b p xs)) w) := by
  obtain ⟨ad, cap, rfl, hl, hcs⟩ := hrd
  match xs, hl, hcs with
  | [], _, _ =>
    go_enter Try.func93, Try.ntmps93
    go_wp2_with fail
    go_ret
    exact ret_eq rfl (by repeat (first | exact Below.refl _ _ | (with_reducible assumption) | refine bel_alloc ?_ _ | refine bel_drew ?_ | refine bel_drewN ?_ _ | refine Below.setCell ?_ (by dsimp only; omega) _ | refine bel_trans (by assumption) ?_))
  | [x], _, _ =>
    go_enter Try.func93, Try.ntmps93
    go_wp2_with fail
    refine wp_region_grow (by kernel_rfl) (by kernel_rfl) ?_
    repeat (go_big_quiet_step ((fail)))
    refine wpQuiet_nil ?_
    rintro wg hbg
    (try replace hbg := aft2 hbg (by assumption))
    obtain ⟨hcg, hfg, hg1, hg2, hg3, hg4⟩ := aftz hbg
    go_wp2_with fail
    go_ret
    exact ret_eq rfl (by repeat (first | exact Below.refl _ _ | (with_reducible assumption) | refine bel_alloc ?_ _ | refine bel_drew ?_ | refine bel_drewN ?_ _ | refine Below.setCell ?_ (by dsimp only; omega) _ | refine bel_trans (by assumption) ?_))
  | x :: y :: z :: r, hl, _ =>
    obtain ⟨n, hn⟩ : ∃ n, (x :: y :: z :: r).length = n := ⟨_, rfl⟩
    have hn3 : 3 ≤ n := by simp only [List.length_cons] at hn; omega
    rw [hn] at hl ⊢
    clear hn
    unfold maxLen at hl
    have e0 : ((n : Int) == 0) = false := by simp; omega
    have e2 : ((n : Int) == 2) = false := by simp; omega
    go_enter Try.func93, Try.ntmps93
    go_wp2_with fail
    refine wp_region_grow (by kernel_rfl) (by kernel_rfl) ?_
    repeat (go_big_quiet_step ((fail)))
    refine wpQuiet_nil ?_
    rintro wg hbg
    (try replace hbg := aft2 hbg (by assumption))
    obtain ⟨hcg, hfg, hg1, hg2, hg3, hg4⟩ := aftz hbg
    go_wp2_with fail
    go_ret
    exact ret_eq rfl (by repeat (first | exact Below.refl _ _ | (with_reducible assumption) | refine bel_alloc ?_ _ | refine bel_drew ?_ | refine bel_drewN ?_ _ | refine Below.setCell ?_ (by dsimp only; omega) _ | refine bel_trans (by assumption) ?_))
  | [x, y], _, hcs =>
    obtain ⟨bb, off, hAd, hb, hcell⟩ := hcs (by simp)
    subst hAd
    have c0 : w.cell? ⟨bb, off, none⟩ = some (.int .i64 x) := hcell 0 (by simp)
    have c1 : w.cell? ⟨bb, off + 1, none⟩ = some (.int .i64 y) := hcell 1 (by simp)
    have hble : bb ≤ w.heap.size := by omega
    clear hcell hcs
    have hon : onF a b p [x, y] = (inB x 0 (p - 1) && inB y 0 (p - 1) && (y * y % p == rsI a b p x)) := rfl
    have HO := Lib.hid hon; clear hon
    by_cases hx : 0 ≤ x ∧ x ≤ p - 1
    · have ix := inB_true.2 hx
      by_cases hy : 0 ≤ y ∧ y ≤ p - 1
      · have iy := inB_true.2 hy
        have yy := mul_bd (a := y) (b := y) (A := 997) (B := 997) (by omega) (by omega) (by omega) (by omega)
        have yy0 : 0 ≤ y * y := Int.mul_nonneg (by omega) (by omega)
        have hp0 : (p == 0) = false := by simp; omega
        go_enter Try.func93, Try.ntmps93
        go_wp2_with fail
        refine wp_region_grow (by kernel_rfl) (by kernel_rfl) ?_
        repeat (go_big_quiet_step (((first | (go_at_call 70; exact grow_same (inside_any _ _ _ _)) | (go_at_call 125; exact grow_ret (rightSide_any _ _ _ _ _ h1 h2 h3 h4 h5 h6 (by omega) (by omega)))))))
        refine wpQuiet_nil ?_
        rintro wg hbg
        (try replace hbg := aft2 hbg (by assumption))
        obtain ⟨hcg, hfg, hg1, hg2, hg3, hg4⟩ := aftz hbg
        go_wp2_with fail
        go_ret
        exact ret_eq (by rw [HO.out, ix, iy]; rfl) (by repeat (first | exact Below.refl _ _ | (with_reducible assumption) | refine bel_alloc ?_ _ | refine bel_drew ?_ | refine bel_drewN ?_ _ | refine Below.setCell ?_ (by dsimp only; omega) _ | refine bel_trans (by assumption) ?_))
      · have iy := inB_false.2 hy
        go_enter Try.func93, Try.ntmps93
        go_wp2_with fail
        refine wp_region_grow (by kernel_rfl) (by kernel_rfl) ?_
        repeat (go_big_quiet_step (((go_at_call 70; exact grow_same (inside_any _ _ _ _)))))
        refine wpQuiet_nil ?_
        rintro wg hbg
        (try replace hbg := aft2 hbg (by assumption))
        obtain ⟨hcg, hfg, hg1, hg2, hg3, hg4⟩ := aftz hbg
        go_wp2_with fail
        go_ret
        exact ret_eq (by rw [HO.out, ix, iy]; rfl) (by repeat (first | exact Below.refl _ _ | (with_reducible assumption) | refine bel_alloc ?_ _ | refine bel_drew ?_ | refine bel_drewN ?_ _ | refine Below.setCell ?_ (by dsimp only; omega) _ | refine bel_trans (by assumption) ?_))
    · have ix := inB_false.2 hx
      go_enter Try.func93, Try.ntmps93
      go_wp2_with fail
      refine wp_region_grow (by kernel_rfl) (by kernel_rfl) ?_
      repeat (go_big_quiet_step (((go_at_call 70; exact grow_same (inside_any _ _ _ _)))))
      refine wpQuiet_nil ?_
      rintro wg hbg
      (try replace hbg := aft2 hbg (by assumption))
      obtain ⟨hcg, hfg, hg1, hg2, hg3, hg4⟩ := aftz hbg
      go_wp2_with fail
      go_ret
      exact ret_eq (by rw [HO.out, ix]; rfl) (by repeat (first | exact Below.refl _ _ | (with_reducible assumption) | refine bel_alloc ?_ _ | refine bel_drew ?_ | refine bel_drewN ?_ _ | refine Below.setCell ?_ (by dsimp only; omega) _ | refine bel_trans (by assumption) ?_))
set_option maxHeartbeats 2000000 in
theorem fmOn_any (a b p : Int) (v : Value) (xs : List Int) (w : World) (hrd : Rd w v xs) (h1 : -1000 ≤ a) (h2 : a ≤ 1000) (h3 : -10000 ≤ b) (h4 : b ≤ 10000) (h5 : 2 ≤ p) (h6 : p ≤ 997) :
    Calls Try.prog 99 #[.agg #[.int .i64 a, .int .i64 b], .int .i64 p, v] w (Ret (.bool (onF a b p xs)) w) := by
  have hrd0 := hrd
  obtain ⟨ad, cap, rfl, hl, hcs⟩ := hrd
  match xs, hl, hcs, hrd0 with
  | [], _, _, _ =>
    go_enter Try.func99, Try.ntmps99
    go_wp2_with fail
    go_ret
    exact ret_eq rfl (by repeat (first | exact Below.refl _ _ | (with_reducible assumption) | refine bel_alloc ?_ _ | refine bel_drew ?_ | refine bel_drewN ?_ _ | refine Below.setCell ?_ (by dsimp only; omega) _ | refine bel_trans (by assumption) ?_))
  | [x], _, _, _ =>
    go_enter Try.func99, Try.ntmps99
    go_wp2_with fail
    refine wp_region_grow (by kernel_rfl) (by kernel_rfl) ?_
    repeat (go_big_quiet_step ((fail)))
    refine wpQuiet_nil ?_
    rintro wg hbg
    (try replace hbg := aft2 hbg (by assumption))
    obtain ⟨hcg, hfg, hg1, hg2, hg3, hg4⟩ := aftz hbg
    go_wp2_with fail
    go_ret
    exact ret_eq rfl (by repeat (first | exact Below.refl _ _ | (with_reducible assumption) | refine bel_alloc ?_ _ | refine bel_drew ?_ | refine bel_drewN ?_ _ | refine Below.setCell ?_ (by dsimp only; omega) _ | refine bel_trans (by assumption) ?_))
  | x :: y :: z :: r, hl, _, _ =>
    obtain ⟨n, hn⟩ : ∃ n, (x :: y :: z :: r).length = n := ⟨_, rfl⟩
    have hn3 : 3 ≤ n := by simp only [List.length_cons] at hn; omega
    rw [hn] at hl ⊢
    clear hn
    unfold maxLen at hl
    have e0 : ((n : Int) == 0) = false := by simp; omega
    have e2 : ((n : Int) == 2) = false := by simp; omega
    go_enter Try.func99, Try.ntmps99
    go_wp2_with fail
    refine wp_region_grow (by kernel_rfl) (by kernel_rfl) ?_
    repeat (go_big_quiet_step ((fail)))
    refine wpQuiet_nil ?_
    rintro wg hbg
    (try replace hbg := aft2 hbg (by assumption))
    obtain ⟨hcg, hfg, hg1, hg2, hg3, hg4⟩ := aftz hbg
    go_wp2_with fail
    go_ret
    exact ret_eq rfl (by repeat (first | exact Below.refl _ _ | (with_reducible assumption) | refine bel_alloc ?_ _ | refine bel_drew ?_ | refine bel_drewN ?_ _ | refine Below.setCell ?_ (by dsimp only; omega) _ | refine bel_trans (by assumption) ?_))
  | [x, y], _, hcs, hrd0 =>
    obtain ⟨bb, off, hAd, hb, hcell⟩ := hcs (by simp)
    subst hAd
    have c0 : w.cell? ⟨bb, off, none⟩ = some (.int .i64 x) := hcell 0 (by simp)
    have c1 : w.cell? ⟨bb, off + 1, none⟩ = some (.int .i64 y) := hcell 1 (by simp)
    have hble : bb ≤ w.heap.size := by omega
    clear hcell hcs
    have hkeep : Rd (w.alloc (.cells #[.int .i64 a, .int .i64 b] 39)) (.slice (some ⟨bb, off, none⟩) 2 cap) [x, y] := hrd0.keep (below_alloc w _)
    have HRD := Lib.hid hkeep; clear hkeep hrd0
    have hon : onF a b p [x, y] = (inB x 0 (p - 1) && inB y 0 (p - 1) && (y * y % p == rsI a b p x)) := rfl
    have HO := Lib.hid hon; clear hon
    have hal : allB [x, y] 0 (p - 1) = (inB x 0 (p - 1) && inB y 0 (p - 1)) := by simp [allB]
    by_cases hx : 0 ≤ x ∧ x ≤ p - 1
    · have ix := inB_true.2 hx
      by_cases hy : 0 ≤ y ∧ y ≤ p - 1
      · have iy := inB_true.2 hy
        rw [ix, iy, Bool.and_true] at hal
        have yy := mul_bd (a := y) (b := y) (A := 997) (B := 997) (by omega) (by omega) (by omega) (by omega)
        have yy0 : 0 ≤ y * y := Int.mul_nonneg (by omega) (by omega)
        have hp0 : (p == 0) = false := by simp; omega
        go_enter Try.func99, Try.ntmps99
        go_wp2_with fail
        refine wp_region_grow (by kernel_rfl) (by kernel_rfl) ?_
        repeat (go_big_quiet_step (((first | (go_at_call 116; exact grow_ret (l1All_any _ [x, y] _ _ _ (rd_grow HRD.out))) | (go_at_call 128; exact grow_ret (fmValue_any _ _ _ _ _ h1 h2 h3 h4 h5 h6 (by omega) (by omega)))))))
        refine wpQuiet_nil ?_
        rintro wg hbg
        (try replace hbg := aft2 hbg (by assumption))
        obtain ⟨hcg, hfg, hg1, hg2, hg3, hg4⟩ := aftz hbg
        go_wp2_with fail
        go_ret
        exact ret_eq (by rw [HO.out, ix, iy]; rfl) (by repeat (first | exact Below.refl _ _ | (with_reducible assumption) | refine bel_alloc ?_ _ | refine bel_drew ?_ | refine bel_drewN ?_ _ | refine Below.setCell ?_ (by dsimp only; omega) _ | refine bel_trans (by assumption) ?_))
      · have iy := inB_false.2 hy
        rw [ix, iy, Bool.and_false] at hal
        go_enter Try.func99, Try.ntmps99
        go_wp2_with fail
        refine wp_region_grow (by kernel_rfl) (by kernel_rfl) ?_
        repeat (go_big_quiet_step (((go_at_call 116; exact grow_ret (l1All_any _ [x, y] _ _ _ (rd_grow HRD.out))))))
        refine wpQuiet_nil ?_
        rintro wg hbg
        (try replace hbg := aft2 hbg (by assumption))
        obtain ⟨hcg, hfg, hg1, hg2, hg3, hg4⟩ := aftz hbg
        go_wp2_with fail
        go_ret
        exact ret_eq (by rw [HO.out, ix, iy]; rfl) (by repeat (first | exact Below.refl _ _ | (with_reducible assumption) | refine bel_alloc ?_ _ | refine bel_drew ?_ | refine bel_drewN ?_ _ | refine Below.setCell ?_ (by dsimp only; omega) _ | refine bel_trans (by assumption) ?_))
    · have ix := inB_false.2 hx
      rw [ix, Bool.false_and] at hal
      go_enter Try.func99, Try.ntmps99
      go_wp2_with fail
      refine wp_region_grow (by kernel_rfl) (by kernel_rfl) ?_
      repeat (go_big_quiet_step (((go_at_call 116; exact grow_ret (l1All_any _ [x, y] _ _ _ (rd_grow HRD.out))))))
      refine wpQuiet_nil ?_
      rintro wg hbg
      (try replace hbg := aft2 hbg (by assumption))
      obtain ⟨hcg, hfg, hg1, hg2, hg3, hg4⟩ := aftz hbg
      go_wp2_with fail
      go_ret
      exact ret_eq (by rw [HO.out, ix]; rfl) (by repeat (first | exact Below.refl _ _ | (with_reducible assumption) | refine bel_alloc ?_ _ | refine bel_drew ?_ | refine bel_drewN ?_ _ | refine Below.setCell ?_ (by dsimp only; omega) _ | refine bel_trans (by assumption) ?_))
theorem iIsPointModulo_any (a b p : Int) (v : Value) (xs : List Int) (w : World) (hrd : Rd w v xs) :
    Calls Try.prog 37 #[.agg #[.int .i64 a, .int .i64 b], .int .i64 p, v] w (Ret (bif smallB a b p then .tuple #[.bool (onF a b p xs), .bool true] else .tuple #[.bool false, .bool false]) w) := by
  cases hsm : smallB a b p
  · go_enter Try.func37, Try.ntmps37
    go_wp2_with (go_at_call 77; refine (fieldFits_any _ _ _ _).mono ?_; rintro e w' ⟨rfl, hb⟩; (try replace hb := aft2 hb (by assumption)); obtain ⟨hc, hf, hs1, hs2, hs3, hs4⟩ := aftz hb)
    go_returns
    exact ret_mk (by repeat (first | exact Below.refl _ _ | (with_reducible assumption) | refine bel_alloc ?_ _ | refine bel_drew ?_ | refine bel_drewN ?_ _ | refine Below.setCell ?_ (by dsimp only; omega) _ | refine bel_trans (by assumption) ?_))
  · obtain ⟨hcur, _, p1, p2⟩ := small_bd hsm
    obtain ⟨h1, h2, h3, h4, _⟩ := curveB_true.1 hcur
    go_enter Try.func37, Try.ntmps37
    go_wp2_with (go_at_call 77; refine (fieldFits_any _ _ _ _).mono ?_; rintro e w' ⟨rfl, hb⟩; (try replace hb := aft2 hb (by assumption)); obtain ⟨hc, hf, hs1, hs2, hs3, hs4⟩ := aftz hb)
    refine (onField_any _ _ _ v xs _ (hrd.keep (by repeat (first | exact Below.refl _ _ | (with_reducible assumption) | refine bel_alloc ?_ _ | refine bel_drew ?_ | refine bel_drewN ?_ _ | refine Below.setCell ?_ (by dsimp only; omega) _ | refine bel_trans (by assumption) ?_))) h1 h2 h3 h4 (by omega) (by omega)).mono ?_; rintro e w2 ⟨rfl, hb2⟩
    go_wp2_with fail
    go_returns
    exact ret_mk (by repeat (first | exact Below.refl _ _ | (with_reducible assumption) | refine bel_alloc ?_ _ | refine bel_drew ?_ | refine bel_drewN ?_ _ | refine Below.setCell ?_ (by dsimp only; omega) _ | refine bel_trans (by assumption) ?_))
theorem sIsPointModulo_any (a b p : Int) (v : Value) (xs : List Int) (w : World) (hrd : Rd w v xs) :
    Calls Try.prog 38 #[.agg #[.int .i64 a, .int .i64 b], .int .i64 p, v] w (Ret (bif smallB a b p then .tuple #[.bool (onF a b p xs), .bool true] else .tuple #[.bool false, .bool false]) w) := by
  cases hsm : smallB a b p
  · go_enter Try.func38, Try.ntmps38
    go_wp2_with (go_at_call 80; refine (fmSmall_any _ _ _ _).mono ?_; rintro e w' ⟨rfl, hb⟩; (try replace hb := aft2 hb (by assumption)); obtain ⟨hc, hf, hs1, hs2, hs3, hs4⟩ := aftz hb)
    go_returns
    exact ret_mk (by repeat (first | exact Below.refl _ _ | (with_reducible assumption) | refine bel_alloc ?_ _ | refine bel_drew ?_ | refine bel_drewN ?_ _ | refine Below.setCell ?_ (by dsimp only; omega) _ | refine bel_trans (by assumption) ?_))
  · obtain ⟨hcur, _, p1, p2⟩ := small_bd hsm
    obtain ⟨h1, h2, h3, h4, _⟩ := curveB_true.1 hcur
    go_enter Try.func38, Try.ntmps38
    go_wp2_with (go_at_call 80; refine (fmSmall_any _ _ _ _).mono ?_; rintro e w' ⟨rfl, hb⟩; (try replace hb := aft2 hb (by assumption)); obtain ⟨hc, hf, hs1, hs2, hs3, hs4⟩ := aftz hb)
    refine (fmOn_any _ _ _ v xs _ (hrd.keep (by repeat (first | exact Below.refl _ _ | (with_reducible assumption) | refine bel_alloc ?_ _ | refine bel_drew ?_ | refine bel_drewN ?_ _ | refine Below.setCell ?_ (by dsimp only; omega) _ | refine bel_trans (by assumption) ?_))) h1 h2 h3 h4 (by omega) (by omega)).mono ?_; rintro e w2 ⟨rfl, hb2⟩
    go_wp2_with fail
    go_returns
    exact ret_mk (by repeat (first | exact Below.refl _ _ | (with_reducible assumption) | refine bel_alloc ?_ _ | refine bel_drew ?_ | refine bel_drewN ?_ _ | refine Below.setCell ?_ (by dsimp only; omega) _ | refine bel_trans (by assumption) ?_))
end Go.Proofs.Ytpjcfnjagknocaa
