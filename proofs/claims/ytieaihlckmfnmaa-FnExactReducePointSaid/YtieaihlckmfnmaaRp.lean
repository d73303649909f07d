/- Rp: contracts: the residues of a point modulo a prime. No conditions. -/
import Derived.Test.YtieaihlckmfnmaaHt
import Derived.Test.YtieaihlckmfnmaaPw
import Derived.Test.YtieaihlckmfnmaaMk
import Derived.Test.YtieaihlckmfnmaaRg
import Derived.Laws.OwnMore
namespace Go.Proofs.Ytieaihlckmfnmaa
open Go.RowKit

theorem pointB_e {a b x y e : Int} (h : pointB a b x y e = true) : curveB a b = true ∧ 0 ≤ e ∧ e ≤ 20 := by
  obtain ⟨_, _, e0, e1, _, _, h0, _⟩ := pointB_bd h
  exact ⟨h0, e0, e1⟩
theorem mulm {q u i : Int} (hq : 2 ≤ q) (hq2 : q ≤ 997) (u0 : 0 ≤ u) (u1 : u < q) (i0 : 0 ≤ i) (i1 : i < q) : 0 ≤ u * i ∧ u * i ≤ 1000000 ∧ 0 ≤ u * i % q ∧ u * i % q < q :=
  ⟨Int.mul_nonneg u0 i0, (mul_bd (A := 1000) (B := 1000) (by omega) (by omega) (by omega) (by omega)).2, Int.emod_nonneg _ (by omega), Int.emod_lt_of_pos _ (by omega)⟩
theorem wrapm {u : Int} (h0 : 0 ≤ u) (h1 : u ≤ 1000000) (q : Int) : IntKind.i64.wrap u = u ∧ u.tmod q = u % q := by
  refine ⟨?_, Int.tmod_eq_emod_of_nonneg h0⟩
  simp only [IntKind.wrap, IntKind.bits, IntKind.signed]
  simp
  omega
/-- the residues of a point's coordinates. -/
def redL (x y e q : Int) : List Int :=
  let i := powI e (q - 2) q
  if e % q = 0 then [] else [x % q * i % q * i % q, y % q * i % q * i % q * i % q]
theorem own_two (w : World) (B : Nat) (hB : B ≤ w.heap.size) (a b : Int) : Own (w.alloc (.cells #[.int .i64 a, .int .i64 b] 3)) B (.slice (some ⟨w.heap.size, 0, none⟩) 2 2) [a, b] := by
  have h := World.ownsRow_lit (base := B) (e := 3) (size := 1) w #[.int .i64 a, .int .i64 b] 2 hB (by unfold maxLen; omega) (by simp)
  unfold Own
  simpa using h
theorem toReduced_any (x y e q : Int) (w : World) (e0 : 0 ≤ e) (hq : 2 ≤ q) (hq2 : q ≤ 997) :
    Calls Try.prog 64 #[.agg #[.int .i64 x, .int .i64 y, .int .i64 e], .int .i64 q] w (RetSl (redL x y e q) w) := by
  have hq0 : (q == 0) = false := by simp; omega
  by_cases hz : e % q = 0
  · have hr : redL x y e q = [] := by unfold redL; rw [if_pos hz]
    rw [hr]
    go_enter Try.func64, Try.ntmps64
    go_wp2_with fail
    go_ret
    exact ⟨_, rfl, (by repeat (first | exact Below.refl _ _ | (with_reducible assumption) | refine bel_alloc ?_ _ | refine bel_drew ?_ | refine bel_drewN ?_ _ | refine Below.setCell ?_ (by dsimp only; omega) _ | refine bel_trans (by assumption) ?_)), Own.nil _ _⟩
  · have hzb : (e % q == 0) = false := by simp [hz]
    have hr : redL x y e q = [x % q * powI e (q - 2) q % q * powI e (q - 2) q % q, y % q * powI e (q - 2) q % q * powI e (q - 2) q % q * powI e (q - 2) q % q] := by unfold redL; rw [if_neg hz]
    rw [hr]; clear hr
    obtain ⟨i0, i1⟩ := powI_bd (a := e) (n := q - 2) hq
    obtain ⟨i, hi⟩ : ∃ i, powI e (q - 2) q = i := ⟨_, rfl⟩
    rw [hi] at i0 i1 ⊢
    have HI := Lib.hid hi; clear hi
    obtain ⟨x0, x1⟩ : 0 ≤ x % q ∧ x % q < q := ⟨Int.emod_nonneg _ (by omega), Int.emod_lt_of_pos _ (by omega)⟩
    obtain ⟨y0, y1⟩ : 0 ≤ y % q ∧ y % q < q := ⟨Int.emod_nonneg _ (by omega), Int.emod_lt_of_pos _ (by omega)⟩
    obtain ⟨a0, a1, a2, a3⟩ := mulm hq hq2 x0 x1 i0 i1
    obtain ⟨b0, b1, b2, b3⟩ := mulm hq hq2 a2 a3 i0 i1
    obtain ⟨c0, c1, c2, c3⟩ := mulm hq hq2 y0 y1 i0 i1
    obtain ⟨d0, d1, d2, d3⟩ := mulm hq hq2 c2 c3 i0 i1
    obtain ⟨f0, f1, f2, f3⟩ := mulm hq hq2 d2 d3 i0 i1
    have hinv : ∀ w, Calls Try.prog 98 #[.int .i64 e, .int .i64 q] w (Ret (.int .i64 i) w) := fun w => HI.out ▸ mdInverse_any e q w hq hq2
    go_enter Try.func64, Try.ntmps64
    go_wp2_with (first | (go_at_call 98; refine (hinv _).mono ?_; rintro e w' ⟨rfl, hb⟩; (try replace hb := aft2 hb (by assumption)); obtain ⟨hc, hf, hs1, hs2, hs3, hs4⟩ := aftz hb) | (go_at_call 93; refine (mdMod_any _ _ _ (by omega) (by omega)).mono ?_; rintro e w' ⟨rfl, hb⟩; (try replace hb := aft2 hb (by assumption)); obtain ⟨hc, hf, hs1, hs2, hs3, hs4⟩ := aftz hb))
    go_ret
    exact ⟨_, rfl, (by repeat (first | exact Below.refl _ _ | (with_reducible assumption) | refine bel_alloc ?_ _ | refine bel_drew ?_ | refine bel_drewN ?_ _ | refine Below.setCell ?_ (by dsimp only; omega) _ | refine bel_trans (by assumption) ?_)), own_two _ _ (Below.size (by repeat (first | exact Below.refl _ _ | (with_reducible assumption) | refine bel_alloc ?_ _ | refine bel_drew ?_ | refine bel_drewN ?_ _ | refine Below.setCell ?_ (by dsimp only; omega) _ | refine bel_trans (by assumption) ?_))) _ _⟩
theorem heldP {W w' : World} {B : Nat} {u0 u1 : Value} (h : Below W.heap.size W w') (hB : B < W.heap.size) (c0 : W.cell? ⟨B, 0, none⟩ = some u0) (c1 : W.cell? ⟨B, 1, none⟩ = some u1) :
    Below W.heap.size W w' ∧ w'.cell? ⟨B, 0, none⟩ = some u0 ∧ w'.cell? ⟨B, 1, none⟩ = some u1 := ⟨h, (h.cell (p := ⟨B, 0, none⟩) hB).trans c0, (h.cell (p := ⟨B, 1, none⟩) hB).trans c1⟩
set_option maxHeartbeats 2000000 in
theorem reducePoint_any (x y e q : Int) (w : World) (e0 : 0 ≤ e) (hq : 2 ≤ q) (hq2 : q ≤ 997) :
    Calls Try.prog 66 #[.agg #[.int .i64 x, .int .i64 y, .int .i64 e], .int .i64 q] w (RetSl (redL x y e q) w) := by
  have hq0 : (q == 0) = false := by simp; omega
  by_cases hz : e % q = 0
  · have hr : redL x y e q = [] := by unfold redL; rw [if_pos hz]
    rw [hr]
    go_enter Try.func66, Try.ntmps66
    go_wp2_with fail
    go_ret
    exact ⟨_, rfl, (by repeat (first | exact Below.refl _ _ | (with_reducible assumption) | refine bel_alloc ?_ _ | refine bel_drew ?_ | refine bel_drewN ?_ _ | refine Below.setCell ?_ (by dsimp only; omega) _ | refine bel_trans (by assumption) ?_)), Own.nil _ _⟩
  · have hzb : (e % q == 0) = false := by simp [hz]
    have hr : redL x y e q = [x % q * powI e (q - 2) q % q * powI e (q - 2) q % q, y % q * powI e (q - 2) q % q * powI e (q - 2) q % q * powI e (q - 2) q % q] := by unfold redL; rw [if_neg hz]
    rw [hr]; clear hr
    obtain ⟨i0, i1⟩ := powI_bd (a := e) (n := q - 2) hq
    obtain ⟨i, hi⟩ : ∃ i, powI e (q - 2) q = i := ⟨_, rfl⟩
    rw [hi] at i0 i1 ⊢
    have HI := Lib.hid hi; clear hi
    obtain ⟨x0, x1⟩ : 0 ≤ x % q ∧ x % q < q := ⟨Int.emod_nonneg _ (by omega), Int.emod_lt_of_pos _ (by omega)⟩
    obtain ⟨y0, y1⟩ : 0 ≤ y % q ∧ y % q < q := ⟨Int.emod_nonneg _ (by omega), Int.emod_lt_of_pos _ (by omega)⟩
    obtain ⟨a0, a1, a2, a3⟩ := mulm hq hq2 x0 x1 i0 i1
    obtain ⟨b0, b1, b2, b3⟩ := mulm hq hq2 a2 a3 i0 i1
    obtain ⟨c0, c1, c2, c3⟩ := mulm hq hq2 y0 y1 i0 i1
    obtain ⟨d0, d1, d2, d3⟩ := mulm hq hq2 c2 c3 i0 i1
    obtain ⟨f0, f1, f2, f3⟩ := mulm hq hq2 d2 d3 i0 i1
    have hinv : ∀ w, Calls Try.prog 100 #[.int .i64 e, .int .i64 q] w (Ret (.int .i64 i) w) := fun w => HI.out ▸ inverse_any e q w hq hq2
    have hqn : ¬ q = 0 := by omega
    obtain ⟨wa, ta⟩ := wrapm a0 a1 q
    obtain ⟨wb, tb⟩ := wrapm b0 b1 q
    obtain ⟨wc, tc⟩ := wrapm c0 c1 q
    obtain ⟨wd, td⟩ := wrapm d0 d1 q
    obtain ⟨wf, tf⟩ := wrapm f0 f1 q
    go_enter Try.func66, Try.ntmps66
    go_wp2_with fail
    refine (hinv _).mono ?_; rintro e' W ⟨rfl, hb⟩
    go_wp2_with fail
    have hsz := hb.size
    obtain ⟨g0, hbW, cx, cy⟩ : w.heap.size < W.heap.size ∧ Below w.heap.size w W ∧ W.cell? ⟨w.heap.size, 0, none⟩ = some (.int .i64 x) ∧ W.cell? ⟨w.heap.size, 1, none⟩ = some (.int .i64 y) := by
      obtain ⟨hc, hf⟩ := aft hb
      refine ⟨by simp at hsz; omega, (by repeat (first | exact Below.refl _ _ | (with_reducible assumption) | refine bel_alloc ?_ _ | refine bel_drew ?_ | refine bel_drewN ?_ _ | refine Below.setCell ?_ (by dsimp only; omega) _ | refine bel_trans (by assumption) ?_)), by simp [go_sem, hc], by simp [go_sem, hc]⟩
    clear hb hsz
    obtain ⟨B, hB⟩ : ∃ B, w.heap.size = B := ⟨_, rfl⟩
    rw [hB] at g0 cx cy ⊢
    refine' wp_region_lit (a0 := _) 43 4 (fun v w' => Below W.heap.size W w' ∧ Own w' B v [x % q * i % q * i % q, y % q * i % q * i % q * i % q]) ?_ ?_
    rotate_left
    · go_region_held3 (fun w' => Below W.heap.size W w' ∧ w'.cell? ⟨B, 0, none⟩ = some (.int .i64 x) ∧ w'.cell? ⟨B, 1, none⟩ = some (.int .i64 y)) ((refine heldP ?_ g0 cx cy; go_split_ands; repeat (first | exact Below.refl _ _ | (with_reducible assumption) | refine bel_alloc ?_ _ | refine bel_drew ?_ | refine bel_trans (by assumption) ?_))) ((first | (go_at_call 59; refine (modulo_any _ _ _ (by omega) (by omega)).mono ?_; rintro e w' ⟨rfl, hb⟩; (try replace hb := aft2 hb (by assumption)); have hz := hb.size; obtain ⟨hc, hf, hs1, hs2, hs3, hs4⟩ := aftz hb; (try simp at hz))))
      all_goals
        rename_i hHeld
        refine ⟨rfl, _, ⟨_, ⟨by first | rfl | (simp [Act.put]; done) | (simp [Act.put]; rfl), by first | rfl | (simp; done) | (simp; rfl)⟩, by first | rfl | (simp [Act.put]; done) | (simp [Act.put]; rfl), by first | rfl | (simp; done) | (simp; rfl)⟩, hHeld.1, own_two _ _ (by show B ≤ _; omega) _ _⟩
    · rintro v w' ⟨hb', ho⟩
      simp only [Act.put, List.setIfInBounds_toArray, List.set_cons_zero, List.set_cons_succ]
      go_wp2_with fail
      go_ret
      exact ⟨_, rfl, bel_trans hb' hbW, hB ▸ ho⟩
/-- returned the call's own slice xs, and b. -/
noncomputable def redR (a b x y e q : Int) : Bool := pointB a b x y e && goodB a b q
theorem redL_len (a b x y e q : Int) : (if redR a b x y e q = true then redL x y e q else []).length ≤ 1000000 := by
  unfold redL
  dsimp only
  split
  · split <;> simp
  · simp
theorem iReducePoint_any (a b x y e q : Int) (w : World) :
    Calls Try.prog 32 #[.agg #[.int .i64 a, .int .i64 b], .agg #[.int .i64 x, .int .i64 y, .int .i64 e], .int .i64 q] w (RetSlB (if redR a b x y e q = true then redL x y e q else []) (redR a b x y e q) w) := by
  cases hpt : pointB a b x y e
  · have hr : redR a b x y e q = false := by unfold redR; rw [hpt]; rfl
    rw [hr, if_neg (by simp)]
    go_enter Try.func32, Try.ntmps32
    go_wp2_with (go_at_call 53; refine (isPoint_any _ _ _ _ _ _).mono ?_; rintro e w' ⟨rfl, hb⟩; (try replace hb := aft2 hb (by assumption)); obtain ⟨hc, hf, hs1, hs2, hs3, hs4⟩ := aftz hb)
    go_returns
    exact ⟨_, rfl, (by repeat (first | exact Below.refl _ _ | (with_reducible assumption) | refine bel_alloc ?_ _ | refine bel_drew ?_ | refine bel_drewN ?_ _ | refine Below.setCell ?_ (by dsimp only; omega) _ | refine bel_trans (by assumption) ?_)), Own.nil _ _⟩
  · obtain ⟨hcur, e0, _⟩ := pointB_e hpt
    obtain ⟨h1, h2, h3, h4, _⟩ := curveB_true.1 hcur
    cases hg : goodB a b q
    · have hr : redR a b x y e q = false := by unfold redR; rw [hpt, hg]; rfl
      rw [hr, if_neg (by simp)]
      go_enter Try.func32, Try.ntmps32
      go_wp2_with (first | (go_at_call 53; refine (isPoint_any _ _ _ _ _ _).mono ?_; rintro e w' ⟨rfl, hb⟩; (try replace hb := aft2 hb (by assumption)); obtain ⟨hc, hf, hs1, hs2, hs3, hs4⟩ := aftz hb) | (go_at_call 65; refine (isGood_any _ _ _ _ h1 h2 h3 h4).mono ?_; rintro e w' ⟨rfl, hb⟩; (try replace hb := aft2 hb (by assumption)); obtain ⟨hc, hf, hs1, hs2, hs3, hs4⟩ := aftz hb))
      go_returns
      exact ⟨_, rfl, (by repeat (first | exact Below.refl _ _ | (with_reducible assumption) | refine bel_alloc ?_ _ | refine bel_drew ?_ | refine bel_drewN ?_ _ | refine Below.setCell ?_ (by dsimp only; omega) _ | refine bel_trans (by assumption) ?_)), Own.nil _ _⟩
    · have hr : redR a b x y e q = true := by unfold redR; rw [hpt, hg]; rfl
      have hq : 2 ≤ q ∧ q ≤ 997 := by
        unfold goodB at hg
        rw [Bool.and_eq_true] at hg
        have := p5_bd hg.1
        omega
      rw [hr, if_pos rfl]
      go_enter Try.func32, Try.ntmps32
      go_wp2_with (first | (go_at_call 53; refine (isPoint_any _ _ _ _ _ _).mono ?_; rintro e w' ⟨rfl, hb⟩; (try replace hb := aft2 hb (by assumption)); obtain ⟨hc, hf, hs1, hs2, hs3, hs4⟩ := aftz hb) | (go_at_call 65; refine (isGood_any _ _ _ _ h1 h2 h3 h4).mono ?_; rintro e w' ⟨rfl, hb⟩; (try replace hb := aft2 hb (by assumption)); obtain ⟨hc, hf, hs1, hs2, hs3, hs4⟩ := aftz hb))
      refine (reducePoint_any _ _ _ _ _ e0 hq.1 hq.2).mono ?_; rintro e' w2 ⟨v2, rfl, hb2, ho2⟩
      go_wp2_with fail
      go_returns
      exact ⟨_, rfl, (by repeat (first | exact Below.refl _ _ | (with_reducible assumption) | refine bel_alloc ?_ _ | refine bel_drew ?_ | refine bel_drewN ?_ _ | refine Below.setCell ?_ (by dsimp only; omega) _ | refine bel_trans (by assumption) ?_)), ho2.le (Below.size (by repeat (first | exact Below.refl _ _ | (with_reducible assumption) | refine bel_alloc ?_ _ | refine bel_drew ?_ | refine bel_drewN ?_ _ | refine Below.setCell ?_ (by dsimp only; omega) _ | refine bel_trans (by assumption) ?_)))⟩
theorem sReducePoint_any (a b x y e q : Int) (w : World) :
    Calls Try.prog 31 #[.agg #[.int .i64 a, .int .i64 b], .agg #[.int .i64 x, .int .i64 y, .int .i64 e], .int .i64 q] w (RetSlB (if redR a b x y e q = true then redL x y e q else []) (redR a b x y e q) w) := by
  cases hpt : pointB a b x y e
  · have hr : redR a b x y e q = false := by unfold redR; rw [hpt]; rfl
    rw [hr, if_neg (by simp)]
    go_enter Try.func31, Try.ntmps31
    go_wp2_with (go_at_call 51; refine (sIsPointOf_any _ _ _ _ _ _).mono ?_; rintro e w' ⟨rfl, hb⟩; (try replace hb := aft2 hb (by assumption)); obtain ⟨hc, hf, hs1, hs2, hs3, hs4⟩ := aftz hb)
    go_returns
    exact ⟨_, rfl, (by repeat (first | exact Below.refl _ _ | (with_reducible assumption) | refine bel_alloc ?_ _ | refine bel_drew ?_ | refine bel_drewN ?_ _ | refine Below.setCell ?_ (by dsimp only; omega) _ | refine bel_trans (by assumption) ?_)), Own.nil _ _⟩
  · obtain ⟨hcur, e0, _⟩ := pointB_e hpt
    have hfm : ∀ w, Calls Try.prog 63 #[.agg #[.int .i64 a, .int .i64 b], .int .i64 q] w (Ret (.bool (goodB a b q)) w) := fun w => by
      have h := fmGood_any a b q w
      rw [hcur, Bool.true_and] at h
      exact h
    cases hg : goodB a b q
    · rw [hg] at hfm
      have hr : redR a b x y e q = false := by unfold redR; rw [hpt, hg]; rfl
      rw [hr, if_neg (by simp)]
      go_enter Try.func31, Try.ntmps31
      go_wp2_with (first | (go_at_call 51; refine (sIsPointOf_any _ _ _ _ _ _).mono ?_; rintro e w' ⟨rfl, hb⟩; (try replace hb := aft2 hb (by assumption)); obtain ⟨hc, hf, hs1, hs2, hs3, hs4⟩ := aftz hb) | (go_at_call 63; refine (hfm _).mono ?_; rintro e w' ⟨rfl, hb⟩; (try replace hb := aft2 hb (by assumption)); obtain ⟨hc, hf, hs1, hs2, hs3, hs4⟩ := aftz hb))
      go_returns
      exact ⟨_, rfl, (by repeat (first | exact Below.refl _ _ | (with_reducible assumption) | refine bel_alloc ?_ _ | refine bel_drew ?_ | refine bel_drewN ?_ _ | refine Below.setCell ?_ (by dsimp only; omega) _ | refine bel_trans (by assumption) ?_)), Own.nil _ _⟩
    · rw [hg] at hfm
      have hr : redR a b x y e q = true := by unfold redR; rw [hpt, hg]; rfl
      have hq : 2 ≤ q ∧ q ≤ 997 := by
        unfold goodB at hg
        rw [Bool.and_eq_true] at hg
        have := p5_bd hg.1
        omega
      rw [hr, if_pos rfl]
      go_enter Try.func31, Try.ntmps31
      go_wp2_with (first | (go_at_call 51; refine (sIsPointOf_any _ _ _ _ _ _).mono ?_; rintro e w' ⟨rfl, hb⟩; (try replace hb := aft2 hb (by assumption)); obtain ⟨hc, hf, hs1, hs2, hs3, hs4⟩ := aftz hb) | (go_at_call 63; refine (hfm _).mono ?_; rintro e w' ⟨rfl, hb⟩; (try replace hb := aft2 hb (by assumption)); obtain ⟨hc, hf, hs1, hs2, hs3, hs4⟩ := aftz hb))
      refine (toReduced_any _ _ _ _ _ e0 hq.1 hq.2).mono ?_; rintro e' w2 ⟨v2, rfl, hb2, ho2⟩
      go_wp2_with fail
      go_returns
      exact ⟨_, rfl, (by repeat (first | exact Below.refl _ _ | (with_reducible assumption) | refine bel_alloc ?_ _ | refine bel_drew ?_ | refine bel_drewN ?_ _ | refine Below.setCell ?_ (by dsimp only; omega) _ | refine bel_trans (by assumption) ?_)), ho2.le (Below.size (by repeat (first | exact Below.refl _ _ | (with_reducible assumption) | refine bel_alloc ?_ _ | refine bel_drew ?_ | refine bel_drewN ?_ _ | refine Below.setCell ?_ (by dsimp only; omega) _ | refine bel_trans (by assumption) ?_)))⟩
end Go.Proofs.Ytieaihlckmfnmaa
