/- Ki: contracts: the kind of a curve at a prime, its node, the exponent of the conductor. No conditions. -/
import Derived.Test.YtpjcfnjagknocaaDoorPw
import Derived.Test.YtpjcfnjagknocaaDoorCp
import Derived.Test.YtpjcfnjagknocaaDoorMin
namespace Go.Proofs.YtpjcfnjagknocaaDoor
open Go.RowKit

def nodeI (A B p : Int) : Int := (-3 * B) % p * powI (2 * A) (p - 2) p % p
def kindN (A B p : Int) : Nat := if discI A B % p ≠ 0 then 0 else if A % p = 0 then 1 else if symI (3 * nodeI A B p) p = 1 then 2 else 3
def kindV : Nat → Value
  | 0 => .string ⟨#[103, 111, 111, 100]⟩
  | 1 => .string ⟨#[97, 100, 100, 105, 116, 105, 118, 101]⟩
  | 2 => .string ⟨#[115, 112, 108, 105, 116]⟩
  | _ => .string ⟨#[110, 111, 110, 115, 112, 108, 105, 116]⟩
@[simp, go_sem] theorem kindV_0 : kindV 0 = .string ⟨#[103, 111, 111, 100]⟩ := rfl
@[simp, go_sem] theorem kindV_1 : kindV 1 = .string ⟨#[97, 100, 100, 105, 116, 105, 118, 101]⟩ := rfl
@[simp, go_sem] theorem kindV_2 : kindV 2 = .string ⟨#[115, 112, 108, 105, 116]⟩ := rfl
@[simp, go_sem] theorem kindV_3 : kindV 3 = .string ⟨#[110, 111, 110, 115, 112, 108, 105, 116]⟩ := rfl
theorem kind_cases (A B p : Int) : kindN A B p = 0 ∨ kindN A B p = 1 ∨ kindN A B p = 2 ∨ kindN A B p = 3 := by
  unfold kindN; split
  · exact .inl rfl
  · split
    · exact .inr (.inl rfl)
    · split
      · exact .inr (.inr (.inl rfl))
      · exact .inr (.inr (.inr rfl))
theorem p5_pr {p : Int} (h : p5B p = true) : Pr p := by unfold p5B at h; rw [Bool.and_eq_true] at h; exact primeB_true.1 h.2
theorem pr_dvd_pow {p x : Int} (hp : Pr p) : ∀ {k : Nat}, p ∣ x ^ k → p ∣ x
  | 0, h => by
    have := hp.1
    rw [Int.pow_zero] at h
    have := Int.le_of_dvd (by omega) h
    omega
  | k + 1, h => by
    rw [Int.pow_succ] at h
    rcases pr_dvd_mul hp h with h | h
    · exact pr_dvd_pow hp h
    · exact h
theorem dvd_emod {p x : Int} (h : p ∣ x % p) : p ∣ x := by
  have := Int.mul_ediv_add_emod x p
  obtain ⟨k, hk⟩ := h
  exact ⟨x / p + k, by rw [Int.mul_add]; omega⟩
theorem powI_zero {a n p : Int} (hp : Pr p) (h : powI a n p = 0) : p ∣ a := by
  unfold powI at h
  exact dvd_emod (pr_dvd_pow hp (Int.dvd_of_emod_eq_zero h))
theorem powI_dvd {a n p : Int} (hp : Pr p) (h : p ∣ powI a n p) : p ∣ a :=
  powI_zero (a := a) (n := n) hp (by
    have h1 : 0 ≤ powI a n p ∧ powI a n p < p := powI_bd hp.1
    rcases Int.lt_or_le 0 (powI a n p) with k | k
    · have := Int.le_of_dvd k h; omega
    · omega)
theorem symI_zero {a p : Int} (hp : p5B p = true) (h : symI a p = 0) : p ∣ a := by
  unfold symI at h
  split at h
  · omega
  · exact powI_zero (p5_pr hp) h
theorem not_dvd_small {p : Int} (h5 : 5 ≤ p) {k : Int} (h0 : 0 < k) (h1 : k < 5) : ¬ p ∣ k := fun h => by
  have := Int.le_of_dvd h0 h; omega
theorem node_bd {A B p : Int} (h : 2 ≤ p) : 0 ≤ nodeI A B p ∧ nodeI A B p < p := ⟨Int.emod_nonneg _ (by omega), Int.emod_lt_of_pos _ (by omega)⟩
theorem add_B {A B p : Int} (hp : p5B p = true) (hd : discI A B % p = 0) (hA : A % p = 0) : B % p = 0 := by
  have hpr := p5_pr hp
  have hb := p5_bd hp
  obtain ⟨u, hu⟩ := Int.dvd_of_emod_eq_zero hA
  obtain ⟨v, hv⟩ := Int.dvd_of_emod_eq_zero hd
  have hdv : p ∣ 3 * 3 * 3 * B * B := ⟨v - 4 * A * A * u, by
    unfold discI at hv
    have e : 4 * A * A * A = p * (4 * A * A * u) := by
      rw [Int.mul_assoc (4 * A), show A * A = A * (p * u) by rw [← hu], ← Int.mul_assoc, ← Int.mul_assoc, Int.mul_assoc (4 * A * A) p u, Int.mul_left_comm]
    rw [Int.mul_sub, ← e]
    rw [show (3 : Int) * 3 * 3 = 27 by rfl]
    omega⟩
  have h3 := not_dvd_small hb.1 (k := 3) (by omega) (by omega)
  rcases pr_dvd_mul hpr hdv with k | k
  · rcases pr_dvd_mul hpr k with k | k
    · rcases pr_dvd_mul hpr k with k | k
      · rcases pr_dvd_mul hpr k with k | k <;> exact absurd k h3
      · exact absurd k h3
    · exact Int.emod_eq_zero_of_dvd k
  · exact Int.emod_eq_zero_of_dvd k
theorem mul_B {A B p : Int} (hp : p5B p = true) (hd : discI A B % p = 0) (hA : A % p ≠ 0) : B % p ≠ 0 := by
  intro hB
  have hpr := p5_pr hp
  have hb := p5_bd hp
  obtain ⟨u, hu⟩ := Int.dvd_of_emod_eq_zero hB
  obtain ⟨v, hv⟩ := Int.dvd_of_emod_eq_zero hd
  have hdv : p ∣ 4 * A * A * A := ⟨v - 27 * B * u, by
    unfold discI at hv
    have e : 27 * B * B = p * (27 * B * u) := by
      rw [show (27 * B) * B = (27 * B) * (p * u) by rw [← hu], Int.mul_left_comm]
    rw [Int.mul_sub, ← e]
    omega⟩
  have h4 := not_dvd_small hb.1 (k := 4) (by omega) (by omega)
  have hAd : ¬ p ∣ A := fun h => hA (Int.emod_eq_zero_of_dvd h)
  rcases pr_dvd_mul hpr hdv with k | k
  · rcases pr_dvd_mul hpr k with k | k
    · rcases pr_dvd_mul hpr k with k | k
      · exact h4 k
      · exact hAd k
    · exact hAd k
  · exact hAd k
theorem node_sym {A B p : Int} (hp : p5B p = true) (hd : discI A B % p = 0) (hA : A % p ≠ 0) : symI (3 * nodeI A B p) p ≠ 0 := by
  intro h
  have hpr := p5_pr hp
  have hb := p5_bd hp
  have h3 := not_dvd_small hb.1 (k := 3) (by omega) (by omega)
  have h2 := not_dvd_small hb.1 (k := 2) (by omega) (by omega)
  have hB := mul_B hp hd hA
  rcases pr_dvd_mul hpr (symI_zero hp h) with k | k
  · exact h3 k
  · rcases pr_dvd_mul hpr (dvd_emod k) with k | k
    · have k2 := dvd_emod k
      rw [show -3 * B = 3 * -B by omega] at k2
      rcases pr_dvd_mul hpr k2 with k3 | k3
      · exact h3 k3
      · exact hB (Int.emod_eq_zero_of_dvd (Int.dvd_neg.1 k3))
    · rcases pr_dvd_mul hpr (powI_dvd hpr k) with k3 | k3
      · exact h2 k3
      · exact hA (Int.emod_eq_zero_of_dvd k3)
theorem sym_two {A B p : Int} (hp : p5B p = true) (hd : discI A B % p = 0) (hA : A % p ≠ 0) : symI (3 * nodeI A B p) p = 1 ∨ symI (3 * nodeI A B p) p = -1 := by
  have h1 := node_sym hp hd hA
  have h2 := symI_bd (a := 3 * nodeI A B p) hp
  omega
theorem nodeAt_any (a b p : Int) (w : World) (hcur : curveB a b = true) (hpr : p5B p = true) :
    Calls Tryd.prog 61 #[.agg #[.int .i64 a, .int .i64 b], .int .i64 p] w (Ret (.int .i64 (nodeI (minA a b p) b p)) w) := by
  obtain ⟨k1, k2, k3⟩ := min_disc (p := p) hcur
  obtain ⟨_, _, h3, h4, _⟩ := curveB_true.1 hcur
  obtain ⟨p1, p2⟩ := p5_bd hpr
  have hn : nodeI (minA a b p) b p = (-3 * b) % p * powI (2 * minA a b p) (p - 2) p % p := rfl
  have e1 := Int.emod_nonneg (-3 * b) (show p ≠ 0 by omega)
  have e2 := Int.emod_lt_of_pos (-3 * b) (show 0 < p by omega)
  have e3 := powI_bd (a := 2 * minA a b p) (n := p - 2) (p := p) (by omega)
  have e4 := mul_bd (a := (-3 * b) % p) (b := powI (2 * minA a b p) (p - 2) p) (A := 1000) (B := 1000) (by omega) (by omega) (by omega) (by omega)
  have e5 := Int.mul_nonneg e1 e3.1
  have hp0 : (p == 0) = false := by simp; omega
  have HN := Lib.hid hn; clear hn k3
  go_enter Tryd.func61, Tryd.ntmps61
  go_wp2_with (go_at_call 59; refine (minimal_any _ _ _ _ hcur hpr).mono ?_; rintro e w' ⟨rfl, hb⟩; (try replace hb := aft2 hb (by assumption)); obtain ⟨hc, hf, hs1, hs2, hs3, hs4⟩ := aftz hb)
  refine wp_region_grow (by kernel_rfl) (by kernel_rfl) ?_
  repeat (go_big_quiet_step (((first | (go_at_call 74; exact grow_ret (modulo_any _ _ _ (by omega) (by omega))) | (go_at_call 75; exact grow_ret (inverse_any _ _ _ (by omega) (by omega)))))))
  refine wpQuiet_nil ?_
  rintro wg hbg
  (try replace hbg := aft2 hbg (by assumption))
  obtain ⟨hcg, hfg, hg1, hg2, hg3, hg4⟩ := aftz hbg
  go_wp2_with fail
  go_ret
  exact ret_eq (by rw [HN.out]; rfl) (by repeat (first | exact Below.refl _ _ | (with_reducible assumption) | refine bel_alloc ?_ _ | refine bel_drew ?_ | refine bel_drewN ?_ _ | refine Below.setCell ?_ (by dsimp only; omega) _ | refine bel_trans (by assumption) ?_))
theorem rtNode_any (A B p : Int) (w : World) (h1 : -1000 ≤ A) (h2 : A ≤ 1000) (h3 : -10000 ≤ B) (h4 : B ≤ 10000) (hpr : p5B p = true) :
    Calls Tryd.prog 66 #[.agg #[.int .i64 A, .int .i64 B], .int .i64 p] w (Ret (.int .i64 (nodeI A B p)) w) := by
  obtain ⟨p1, p2⟩ := p5_bd hpr
  have hn : nodeI A B p = (-3 * B) % p * powI (2 * A) (p - 2) p % p := rfl
  have e1 := Int.emod_nonneg (-3 * B) (show p ≠ 0 by omega)
  have e2 := Int.emod_lt_of_pos (-3 * B) (show 0 < p by omega)
  have e3 := powI_bd (a := 2 * A) (n := p - 2) (p := p) (by omega)
  have e4 := mul_bd (a := (-3 * B) % p) (b := powI (2 * A) (p - 2) p) (A := 1000) (B := 1000) (by omega) (by omega) (by omega) (by omega)
  have HN := Lib.hid hn; clear hn
  go_enter Tryd.func66, Tryd.ntmps66
  go_wp2_with fail
  refine wp_region_grow (by kernel_rfl) (by kernel_rfl) ?_
  repeat (go_big_quiet_step (((first | (go_at_call 78; exact grow_ret (mdMod_any _ _ _ (by omega) (by omega))) | (go_at_call 79; exact grow_ret (mdInverse_any _ _ _ (by omega) (by omega)))))))
  refine wpQuiet_nil ?_
  rintro wg hbg
  (try replace hbg := aft2 hbg (by assumption))
  obtain ⟨hcg, hfg, hg1, hg2, hg3, hg4⟩ := aftz hbg
  go_wp2_with fail
  go_ret
  exact ret_eq (by rw [HN.out]; rfl) (by repeat (first | exact Below.refl _ _ | (with_reducible assumption) | refine bel_alloc ?_ _ | refine bel_drew ?_ | refine bel_drewN ?_ _ | refine Below.setCell ?_ (by dsimp only; omega) _ | refine bel_trans (by assumption) ?_))
set_option maxHeartbeats 1000000 in
theorem kindAt_any (a b p : Int) (w : World) (hcur : curveB a b = true) (hpr : p5B p = true) :
    Calls Tryd.prog 33 #[.agg #[.int .i64 a, .int .i64 b], .int .i64 p] w (Ret (kindV (kindN (minA a b p) b p)) w) := by
  obtain ⟨k1, k2, k3⟩ := min_disc (p := p) hcur
  obtain ⟨_, _, h3, h4, _⟩ := curveB_true.1 hcur
  obtain ⟨d1, d2⟩ := disc_bd k1 k2 h3 h4
  obtain ⟨p1, p2⟩ := p5_bd hpr
  have hp0 : (p == 0) = false := by simp; omega
  clear k3
  by_cases hd : discI (minA a b p) b % p = 0
  · by_cases hA : minA a b p % p = 0
    · have hB := add_B hpr hd hA
      have hv : kindN (minA a b p) b p = 1 := by unfold kindN; rw [if_neg (by simp [hd]), if_pos hA]
      rw [hv]
      have t1 : ((discI (minA a b p) b).tmod p != 0) = false := by rw [tmod_zero_iff.2 hd]; rfl
      have t2 : ((minA a b p).tmod p == 0) = true := by rw [tmod_zero_iff.2 hA]; rfl
      have t3 : (b.tmod p == 0) = true := by rw [tmod_zero_iff.2 hB]; rfl
      clear hd hA hB hv
      go_enter Tryd.func33, Tryd.ntmps33
      go_wp2_with (first | (go_at_call 59; refine (minimal_any _ _ _ _ hcur hpr).mono ?_; rintro e w' ⟨rfl, hb⟩; (try replace hb := aft2 hb (by assumption)); obtain ⟨hc, hf, hs1, hs2, hs3, hs4⟩ := aftz hb) | (go_at_call 46; refine (core_any _ _ _ k1 k2 h3 h4).mono ?_; rintro e w' ⟨rfl, hb⟩; (try replace hb := aft2 hb (by assumption)); obtain ⟨hc, hf, hs1, hs2, hs3, hs4⟩ := aftz hb))
      go_ret
      exact ret_eq rfl (by repeat (first | exact Below.refl _ _ | (with_reducible assumption) | refine bel_alloc ?_ _ | refine bel_drew ?_ | refine bel_drewN ?_ _ | refine Below.setCell ?_ (by dsimp only; omega) _ | refine bel_trans (by assumption) ?_))
    · have t1 : ((discI (minA a b p) b).tmod p != 0) = false := by rw [tmod_zero_iff.2 hd]; rfl
      have t2 : ((minA a b p).tmod p == 0) = false := by simp only [beq_eq_false_iff_ne]; exact fun k => hA (tmod_zero_iff.1 k)
      have hnb := node_bd (A := minA a b p) (B := b) (p := p) (by omega)
      have hv : kindN (minA a b p) b p = if symI (3 * nodeI (minA a b p) b p) p = 1 then 2 else 3 := by unfold kindN; rw [if_neg (by simp [hd]), if_neg hA]
      have hs := sym_two hpr hd hA
      clear hd hA
      rcases hs with hs | hs
      all_goals
        rw [hs] at hv
        rw [hv]
        clear hv
        go_enter Tryd.func33, Tryd.ntmps33
        go_wp2_with fail
        generalize hW : w.alloc (.cells #[.int .i64 a, .int .i64 b] 24) = W
        obtain ⟨B0, hB0⟩ : ∃ B0, w.heap.size = B0 := ⟨_, rfl⟩
        obtain ⟨hbelW, hsz, hca, hcb⟩ : Below w.heap.size w W ∧ B0 < W.heap.size ∧ W.cell? ⟨B0, 0, none⟩ = some (.int .i64 a) ∧ W.cell? ⟨B0, 1, none⟩ = some (.int .i64 b) := by
          subst hW; subst hB0
          exact ⟨(by repeat (first | exact Below.refl _ _ | (with_reducible assumption) | refine bel_alloc ?_ _ | refine bel_drew ?_ | refine bel_drewN ?_ _ | refine Below.setCell ?_ (by dsimp only; omega) _ | refine bel_trans (by assumption) ?_)), by simp, by simp [go_sem], by simp [go_sem]⟩
        clear hW
        (try rw [hB0])
        refine (minimal_any _ _ _ _ hcur hpr).mono ?_; rintro e w1 ⟨rfl, hb1⟩
        go_wp2_with fail
        generalize hW2 : w1.alloc (.cells #[.int .i64 (minA a b p), .int .i64 b] 24) = W2
        obtain ⟨B1, hB1⟩ : ∃ B1, w1.heap.size = B1 := ⟨_, rfl⟩
        obtain ⟨hbelW2, hsz2, hm0, hm1⟩ : Below W.heap.size W W2 ∧ B1 < W2.heap.size ∧ W2.cell? ⟨B1, 0, none⟩ = some (.int .i64 (minA a b p)) ∧ W2.cell? ⟨B1, 1, none⟩ = some (.int .i64 b) := by
          subst hW2; subst hB1
          exact ⟨(by repeat (first | exact Below.refl _ _ | (with_reducible assumption) | refine bel_alloc ?_ _ | refine bel_drew ?_ | refine bel_drewN ?_ _ | refine Below.setCell ?_ (by dsimp only; omega) _ | refine bel_trans (by assumption) ?_)), by simp, by simp [go_sem], by simp [go_sem]⟩
        clear hW2 hb1
        (try rw [hB1])
        refine (core_any _ _ _ k1 k2 h3 h4).mono ?_; rintro e w2 ⟨rfl, hb2⟩
        have hm02 : w2.cell? ⟨B1, 0, none⟩ = some (.int .i64 (minA a b p)) := (hb2.cell (p := ⟨B1, 0, none⟩) hsz2).trans hm0
        have hm12 : w2.cell? ⟨B1, 1, none⟩ = some (.int .i64 b) := (hb2.cell (p := ⟨B1, 1, none⟩) hsz2).trans hm1
        replace hb2 := aft2 hb2 hbelW2
        have hca2 : w2.cell? ⟨B0, 0, none⟩ = some (.int .i64 a) := (hb2.cell (p := ⟨B0, 0, none⟩) hsz).trans hca
        have hcb2 : w2.cell? ⟨B0, 1, none⟩ = some (.int .i64 b) := (hb2.cell (p := ⟨B0, 1, none⟩) hsz).trans hcb
        go_wp2_with fail
        refine (nodeAt_any _ _ _ _ hcur hpr).mono ?_; rintro e w3 ⟨rfl, hb3⟩
        replace hb3 := aft2 hb3 hb2
        go_wp2_with fail
        refine (symbol_any _ _ _ hpr).mono ?_; rintro e w4 ⟨rfl, hb4⟩
        replace hb4 := aft2 hb4 hb3
        rw [hs]
        go_wp2_with fail
        go_ret
        exact ret_eq rfl (bel_trans hb4 hbelW)
  · have hv : kindN (minA a b p) b p = 0 := by unfold kindN; rw [if_pos hd]
    rw [hv]
    have t1 : ((discI (minA a b p) b).tmod p != 0) = true := by simp only [bne_iff_ne]; exact fun k => hd (tmod_zero_iff.1 k)
    clear hd hv
    go_enter Tryd.func33, Tryd.ntmps33
    go_wp2_with (first | (go_at_call 59; refine (minimal_any _ _ _ _ hcur hpr).mono ?_; rintro e w' ⟨rfl, hb⟩; (try replace hb := aft2 hb (by assumption)); obtain ⟨hc, hf, hs1, hs2, hs3, hs4⟩ := aftz hb) | (go_at_call 46; refine (core_any _ _ _ k1 k2 h3 h4).mono ?_; rintro e w' ⟨rfl, hb⟩; (try replace hb := aft2 hb (by assumption)); obtain ⟨hc, hf, hs1, hs2, hs3, hs4⟩ := aftz hb))
    go_ret
    exact ret_eq rfl (by repeat (first | exact Below.refl _ _ | (with_reducible assumption) | refine bel_alloc ?_ _ | refine bel_drew ?_ | refine bel_drewN ?_ _ | refine Below.setCell ?_ (by dsimp only; omega) _ | refine bel_trans (by assumption) ?_))
set_option maxHeartbeats 1000000 in
theorem rtKind_any (A B p : Int) (w : World) (k1 : -1000 ≤ A) (k2 : A ≤ 1000) (h3 : -10000 ≤ B) (h4 : B ≤ 10000) (hpr : p5B p = true) :
    Calls Tryd.prog 40 #[.agg #[.int .i64 A, .int .i64 B], .int .i64 p] w (Ret (kindV (kindN A B p)) w) := by
  obtain ⟨d1, d2⟩ := disc_bd k1 k2 h3 h4
  obtain ⟨p1, p2⟩ := p5_bd hpr
  have hp0 : (p == 0) = false := by simp; omega
  by_cases hd : discI A B % p = 0
  · have t1 : ((discI A B).tmod p != 0) = false := by rw [tmod_zero_iff.2 hd]; rfl
    by_cases hA : A % p = 0
    · have hv : kindN A B p = 1 := by unfold kindN; rw [if_neg (by simp [hd]), if_pos hA]
      rw [hv]
      have t2 : (A.tmod p == 0) = true := by rw [tmod_zero_iff.2 hA]; rfl
      clear hd hA hv
      go_enter Tryd.func40, Tryd.ntmps40
      go_wp2_with (go_at_call 55; refine (ecDisc_any _ _ _ k1 k2 h3 h4).mono ?_; rintro e w' ⟨rfl, hb⟩; (try replace hb := aft2 hb (by assumption)); obtain ⟨hc, hf, hs1, hs2, hs3, hs4⟩ := aftz hb)
      go_ret
      exact ret_eq rfl (by repeat (first | exact Below.refl _ _ | (with_reducible assumption) | refine bel_alloc ?_ _ | refine bel_drew ?_ | refine bel_drewN ?_ _ | refine Below.setCell ?_ (by dsimp only; omega) _ | refine bel_trans (by assumption) ?_))
    · have t2 : (A.tmod p == 0) = false := by simp only [beq_eq_false_iff_ne]; exact fun k => hA (tmod_zero_iff.1 k)
      have hnb := node_bd (A := A) (B := B) (p := p) (by omega)
      have hv : kindN A B p = if symI (3 * nodeI A B p) p = 1 then 2 else 3 := by unfold kindN; rw [if_neg (by simp [hd]), if_neg hA]
      have hs := sym_two hpr hd hA
      clear hd hA
      rcases hs with hs | hs
      all_goals
        rw [hs] at hv
        rw [hv]
        clear hv
        go_enter Tryd.func40, Tryd.ntmps40
        go_wp2_with (first | (go_at_call 55; refine (ecDisc_any _ _ _ k1 k2 h3 h4).mono ?_; rintro e w' ⟨rfl, hb⟩; (try replace hb := aft2 hb (by assumption)); obtain ⟨hc, hf, hs1, hs2, hs3, hs4⟩ := aftz hb) | (go_at_call 66; refine (rtNode_any _ _ _ _ k1 k2 h3 h4 hpr).mono ?_; rintro e w' ⟨rfl, hb⟩; (try replace hb := aft2 hb (by assumption)); obtain ⟨hc, hf, hs1, hs2, hs3, hs4⟩ := aftz hb) | (go_at_call 65; refine (mdSymbol_any _ _ _ hpr).mono ?_; rintro e w' ⟨rfl, hb⟩; (try replace hb := aft2 hb (by assumption)); obtain ⟨hc, hf, hs1, hs2, hs3, hs4⟩ := aftz hb))
        go_ret
        exact ret_eq rfl (by repeat (first | exact Below.refl _ _ | (with_reducible assumption) | refine bel_alloc ?_ _ | refine bel_drew ?_ | refine bel_drewN ?_ _ | refine Below.setCell ?_ (by dsimp only; omega) _ | refine bel_trans (by assumption) ?_))
  · have hv : kindN A B p = 0 := by unfold kindN; rw [if_pos hd]
    rw [hv]
    have t1 : ((discI A B).tmod p != 0) = true := by simp only [bne_iff_ne]; exact fun k => hd (tmod_zero_iff.1 k)
    clear hd hv
    go_enter Tryd.func40, Tryd.ntmps40
    go_wp2_with (go_at_call 55; refine (ecDisc_any _ _ _ k1 k2 h3 h4).mono ?_; rintro e w' ⟨rfl, hb⟩; (try replace hb := aft2 hb (by assumption)); obtain ⟨hc, hf, hs1, hs2, hs3, hs4⟩ := aftz hb)
    go_ret
    exact ret_eq rfl (by repeat (first | exact Below.refl _ _ | (with_reducible assumption) | refine bel_alloc ?_ _ | refine bel_drew ?_ | refine bel_drewN ?_ _ | refine Below.setCell ?_ (by dsimp only; omega) _ | refine bel_trans (by assumption) ?_))
end Go.Proofs.YtpjcfnjagknocaaDoor
