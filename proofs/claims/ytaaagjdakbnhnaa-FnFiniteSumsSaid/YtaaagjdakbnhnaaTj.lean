/- Tj: contracts: TimesModulo of both programs. No conditions. -/
import Derived.Test.YtaaagjdakbnhnaaTi
namespace Go.Proofs.Ytaaagjdakbnhnaa
open Go.RowKit

theorem wp_region_val2 {P : Program} {id : Nat} {ops : Array Oper} {b : Bool} {Q : Exit → Act → World → Prop} {a : Act} {w : World} {f : Value → Value → Act} (F : Value → Value → World → Prop)
    (h : (Code.region id ops b).wp P (fun e a' w' => e = .normal ∧ ∃ u v, a' = f u v ∧ F u v w') a w) (k : ∀ u v w', F u v w' → Q .normal (f u v) w') : (Code.region id ops b).wp P Q a w :=
  wp_region_join (fun a' w' => ∃ u v, a' = f u v ∧ F u v w') h (fun _ w' ⟨u, v, hB, hF⟩ => hB ▸ k u v w' hF)
/-- the curve, the prime, the point and the number are valid. -/
noncomputable def askN (a b p n : Int) (s : List Int) : Bool := askB a b p s && inB n (-1000000000) 1000000000
theorem on_len {a b p : Int} {s : List Int} (h : onF a b p s = true) : s.length ≤ 1048576 := by
  rcases onF_cases h with rfl | ⟨_, _, rfl, _⟩ <;> simp
theorem on_times {a b p n : Int} {s : List Int} (hp : p5B p = true) (h : onF a b p s = true) : onF a b p (timesL a p n s) = true := by
  unfold timesL
  split
  · exact on_tim hp _ _ _ rfl (on_neg hp h)
  · exact on_tim hp _ _ _ rfl h
theorem askN_len (a b p n : Int) (s : List Int) : (if askN a b p n s = true then timesL a p n s else []).length ≤ 1048576 := by
  split
  · rename_i h
    unfold askN askB at h
    simp only [Bool.and_eq_true] at h
    exact on_len (on_times (small_p5 h.1.1) h.1.2)
  · simp
theorem iTimesModulo_any (a b p n : Int) (v : Value) (s : List Int) (w : World) (hrd : Rd w v s) (hn : NilZ v) :
    Calls Try.prog 13 #[.agg #[.int .i64 a, .int .i64 b], .int .i64 p, .int .i64 n, v] w (RetSlB (if askN a b p n s = true then timesL a p n s else []) (askN a b p n s) w) := by
  have hask : askN a b p n s = (smallB a b p && onF a b p s && inB n (-1000000000) 1000000000) := rfl
  cases hsm : smallB a b p
  · rw [hask, hsm, Bool.false_and, Bool.false_and, if_neg (by simp)]
    go_enter Try.func13, Try.ntmps13
    go_wp2_with (go_at_call 20; refine (fieldFits_any _ _ _ _).mono ?_; rintro e w' ⟨rfl, hb⟩; (try replace hb := aft2 hb (by assumption)); obtain ⟨hc, hf, hs1, hs2, hs3, hs4⟩ := aftz hb)
    go_returns
    exact ⟨_, rfl, (by repeat (first | exact Below.refl _ _ | (with_reducible assumption) | refine bel_alloc ?_ _ | refine bel_drew ?_ | refine bel_drewN ?_ _ | refine Below.setCell ?_ (by dsimp only; omega) _ | refine bel_trans (by assumption) ?_)), Own.nil _ _⟩
  · obtain ⟨hcur, _, p1, p2⟩ := small_bd hsm
    have hp5 := small_p5 hsm
    obtain ⟨h1, h2, h3, h4, _⟩ := curveB_true.1 hcur
    cases hon : onF a b p s
    · rw [hask, hsm, hon, Bool.and_false, Bool.false_and, if_neg (by simp)]
      go_enter Try.func13, Try.ntmps13
      go_wp2_with (go_at_call 20; refine (fieldFits_any _ _ _ _).mono ?_; rintro e w' ⟨rfl, hb⟩; (try replace hb := aft2 hb (by assumption)); obtain ⟨hc, hf, hs1, hs2, hs3, hs4⟩ := aftz hb)
      refine (onField_any _ _ _ v s _ (hrd.keep (by repeat (first | exact Below.refl _ _ | (with_reducible assumption) | refine bel_alloc ?_ _ | refine bel_drew ?_ | refine bel_drewN ?_ _ | refine Below.setCell ?_ (by dsimp only; omega) _ | refine bel_trans (by assumption) ?_))) h1 h2 h3 h4 (by omega) (by omega)).mono ?_; rintro e w2 ⟨rfl, hb2⟩
      rw [hon]
      go_wp2_with fail
      go_returns
      exact ⟨_, rfl, (by repeat (first | exact Below.refl _ _ | (with_reducible assumption) | refine bel_alloc ?_ _ | refine bel_drew ?_ | refine bel_drewN ?_ _ | refine Below.setCell ?_ (by dsimp only; omega) _ | refine bel_trans (by assumption) ?_)), Own.nil _ _⟩
    · cases hin : inB n (-1000000000) 1000000000
      · rw [hask, hsm, hon, hin, Bool.and_false, if_neg (by simp)]
        go_enter Try.func13, Try.ntmps13
        go_wp2_with (go_at_call 20; refine (fieldFits_any _ _ _ _).mono ?_; rintro e w' ⟨rfl, hb⟩; (try replace hb := aft2 hb (by assumption)); obtain ⟨hc, hf, hs1, hs2, hs3, hs4⟩ := aftz hb)
        refine (onField_any _ _ _ v s _ (hrd.keep (by repeat (first | exact Below.refl _ _ | (with_reducible assumption) | refine bel_alloc ?_ _ | refine bel_drew ?_ | refine bel_drewN ?_ _ | refine Below.setCell ?_ (by dsimp only; omega) _ | refine bel_trans (by assumption) ?_))) h1 h2 h3 h4 (by omega) (by omega)).mono ?_; rintro e w2 ⟨rfl, hb2⟩
        rw [hon]
        obtain ⟨hc2, hf2⟩ := aft hb2
        go_wp2_with (go_at_call 30; refine (inside_any _ _ _ _).mono ?_; rintro e w' ⟨rfl, rfl⟩)
        go_returns
        exact ⟨_, rfl, (by repeat (first | exact Below.refl _ _ | (with_reducible assumption) | refine bel_alloc ?_ _ | refine bel_drew ?_ | refine bel_drewN ?_ _ | refine Below.setCell ?_ (by dsimp only; omega) _ | refine bel_trans (by assumption) ?_)), Own.nil _ _⟩
      · rw [hask, hsm, hon, hin, Bool.and_true, Bool.and_true, if_pos rfl]
        have hnb := inB_true.1 hin
        go_enter Try.func13, Try.ntmps13
        go_wp2_with (go_at_call 20; refine (fieldFits_any _ _ _ _).mono ?_; rintro e w' ⟨rfl, hb⟩; (try replace hb := aft2 hb (by assumption)); obtain ⟨hc, hf, hs1, hs2, hs3, hs4⟩ := aftz hb)
        refine (onField_any _ _ _ v s _ (hrd.keep (by repeat (first | exact Below.refl _ _ | (with_reducible assumption) | refine bel_alloc ?_ _ | refine bel_drew ?_ | refine bel_drewN ?_ _ | refine Below.setCell ?_ (by dsimp only; omega) _ | refine bel_trans (by assumption) ?_))) h1 h2 h3 h4 (by omega) (by omega)).mono ?_; rintro e w2 ⟨rfl, hb2⟩
        rw [hon]
        (try replace hb2 := aft2 hb2 (by assumption))
        obtain ⟨hc2, hf2⟩ := aft hb2
        go_wp2_with (go_at_call 30; refine (inside_any _ _ _ _).mono ?_; rintro e w' ⟨rfl, rfl⟩)
        refine (timesModulo_any _ _ _ _ v s _ (hrd.keep (by repeat (first | exact Below.refl _ _ | (with_reducible assumption) | refine bel_alloc ?_ _ | refine bel_drew ?_ | refine bel_drewN ?_ _ | refine Below.setCell ?_ (by dsimp only; omega) _ | refine bel_trans (by assumption) ?_))) hn hon h1 h2 hp5 hnb.1 hnb.2).mono ?_; rintro e w4 ⟨u, rfl, hb4, ho⟩
        go_wp2_with fail
        go_returns
        exact ⟨_, rfl, (by repeat (first | exact Below.refl _ _ | (with_reducible assumption) | refine bel_alloc ?_ _ | refine bel_drew ?_ | refine bel_drewN ?_ _ | refine Below.setCell ?_ (by dsimp only; omega) _ | refine bel_trans (by assumption) ?_)), ho.le (Below.size (by repeat (first | exact Below.refl _ _ | (with_reducible assumption) | refine bel_alloc ?_ _ | refine bel_drew ?_ | refine bel_drewN ?_ _ | refine Below.setCell ?_ (by dsimp only; omega) _ | refine bel_trans (by assumption) ?_)))⟩
set_option maxHeartbeats 2000000 in
theorem sTimesModulo_any (a b p n : Int) (v : Value) (s : List Int) (w : World) (hrd : Rd w v s) (hn : NilZ v) :
    Calls Try.prog 14 #[.agg #[.int .i64 a, .int .i64 b], .int .i64 p, .int .i64 n, v] w (RetSlB (if askN a b p n s = true then timesL a p n s else []) (askN a b p n s) w) := by
  have hask : askN a b p n s = (askB a b p s && inB n (-1000000000) 1000000000) := rfl
  cases hq : askB a b p s
  · rw [hask, hq, Bool.false_and, if_neg (by simp)]
    go_enter Try.func14, Try.ntmps14
    go_wp2_with fail
    refine (fmAsked_any _ _ _ v s _ (hrd.keep (by repeat (first | exact Below.refl _ _ | (with_reducible assumption) | refine bel_alloc ?_ _ | refine bel_drew ?_ | refine bel_drewN ?_ _ | refine Below.setCell ?_ (by dsimp only; omega) _ | refine bel_trans (by assumption) ?_)))).mono ?_; rintro e w1 ⟨rfl, hb1⟩
    rw [hq]
    go_wp2_with fail
    go_returns
    exact ⟨_, rfl, (by repeat (first | exact Below.refl _ _ | (with_reducible assumption) | refine bel_alloc ?_ _ | refine bel_drew ?_ | refine bel_drewN ?_ _ | refine Below.setCell ?_ (by dsimp only; omega) _ | refine bel_trans (by assumption) ?_)), Own.nil _ _⟩
  · have hq' := hq
    unfold askB at hq'
    rw [Bool.and_eq_true] at hq'
    obtain ⟨hsm, hon⟩ := hq'
    obtain ⟨hcur, _, p1, p2⟩ := small_bd hsm
    have hp5 := small_p5 hsm
    obtain ⟨h1, h2, h3, h4, _⟩ := curveB_true.1 hcur
    cases hin : inB n (-1000000000) 1000000000
    · rw [hask, hq, hin, Bool.and_false, if_neg (by simp)]
      go_enter Try.func14, Try.ntmps14
      go_wp2_with fail
      refine (fmAsked_any _ _ _ v s _ (hrd.keep (by repeat (first | exact Below.refl _ _ | (with_reducible assumption) | refine bel_alloc ?_ _ | refine bel_drew ?_ | refine bel_drewN ?_ _ | refine Below.setCell ?_ (by dsimp only; omega) _ | refine bel_trans (by assumption) ?_)))).mono ?_; rintro e w1 ⟨rfl, hb1⟩
      rw [hq]
      obtain ⟨hc1, hf1⟩ := aft hb1
      go_wp2_with (go_at_call 32; refine (l1In_any _ _ _ _).mono ?_; rintro e w' ⟨rfl, rfl⟩)
      go_returns
      exact ⟨_, rfl, (by repeat (first | exact Below.refl _ _ | (with_reducible assumption) | refine bel_alloc ?_ _ | refine bel_drew ?_ | refine bel_drewN ?_ _ | refine Below.setCell ?_ (by dsimp only; omega) _ | refine bel_trans (by assumption) ?_)), Own.nil _ _⟩
    · rw [hask, hq, hin, Bool.and_true, if_pos rfl]
      have hnb := inB_true.1 hin
      by_cases hneg : n < 0
      · have hts : timesL a p n s = timI a p (-n).toNat [] (negL p s) := by unfold timesL; rw [if_pos hneg, show (-n).toNat = n.natAbs by omega]
        have hx := onF_cases hon
        have hx2 : s = [] ∨ ∃ x y, s = [x, y] ∧ 0 ≤ y ∧ y < p := hx.imp id fun ⟨x, y, e, _, _, y0, y1, _⟩ => ⟨x, y, e, y0, y1⟩
        have hon2 := on_neg hp5 hon
        have wn : IntKind.i64.wrap (-n) = -n := wrapb (by omega) (by omega)
        rw [hts]; clear hts hx
        go_enter Try.func14, Try.ntmps14
        go_wp2_with fail
        refine (fmAsked_any _ _ _ v s _ (hrd.keep (by repeat (first | exact Below.refl _ _ | (with_reducible assumption) | refine bel_alloc ?_ _ | refine bel_drew ?_ | refine bel_drewN ?_ _ | refine Below.setCell ?_ (by dsimp only; omega) _ | refine bel_trans (by assumption) ?_)))).mono ?_; rintro e W ⟨rfl, hb1⟩
        rw [hq]
        have hbW : Below w.heap.size w W := (by repeat (first | exact Below.refl _ _ | (with_reducible assumption) | refine bel_alloc ?_ _ | refine bel_drew ?_ | refine bel_drewN ?_ _ | refine Below.setCell ?_ (by dsimp only; omega) _ | refine bel_trans (by assumption) ?_))
        have hrdW := hrd.keep hbW
        have hz1 := hb1.size
        obtain ⟨g0, cA, cB⟩ : w.heap.size < W.heap.size ∧ W.cell? ⟨w.heap.size, 0, none⟩ = some (.int .i64 a) ∧ W.cell? ⟨w.heap.size, 1, none⟩ = some (.int .i64 b) := by
          obtain ⟨hc, hf⟩ := aft hb1
          exact ⟨by simp at hz1; omega, by simp [go_sem, hc], by simp [go_sem, hc]⟩
        clear hb1 hz1
        obtain ⟨B0, hB0⟩ : ∃ B0, w.heap.size = B0 := ⟨_, rfl⟩
        rw [hB0] at g0 cA cB ⊢
        go_wp2_with (go_at_call 32; refine (l1In_any _ _ _ _).mono ?_; rintro e w' ⟨rfl, rfl⟩)
        refine' wp_region_val2 (f := _) (fun u v w' => Below W.heap.size W w' ∧ Own w' W.heap.size v (timI a p (-n).toNat [] (negL p s))) ?_ ?_
        rotate_left
        · go_region_held3 (fun w' => Below W.heap.size W w' ∧ w'.cell? ⟨B0, 0, none⟩ = some (.int .i64 a) ∧ w'.cell? ⟨B0, 1, none⟩ = some (.int .i64 b)) ((refine held2 ?_ g0 cA cB; go_split_ands; repeat (first | exact Below.refl _ _ | (with_reducible assumption) | refine bel_drew ?_ | refine bel_trans (by assumption) ?_))) ((first | (go_at_call 27; refine (fmOpposite_any _ v s _ (hrdW.keep (by go_split_ands; assumption)) hx2 (by omega) (by omega)).mono ?_; rintro e w' ⟨u1, rfl, hb, ho1⟩; have hz1 := hb.size; (try simp at hz1)) | (go_at_call 33; refine (fmTimes_any a b p (-n) u1 (negL p s) _ ho1.rd ho1.nilz hon2 h1 h2 hp5 (by omega) (by omega)).mono ?_; rintro e w' ⟨u2, rfl, hb, ho2⟩)))
          all_goals
            rename_i hHeld
            exact ⟨rfl, u1, u2, by rfl, hHeld.1, ho2.le (by omega)⟩
        · rintro u v w' ⟨hb', ho⟩
          go_wp2_with fail
          go_returns
          exact ⟨_, rfl, bel_trans hb' hbW, ho.le hbW.size⟩
      · have hts : timesL a p n s = timI a p n.toNat [] s := by unfold timesL; rw [if_neg hneg, show n.natAbs = n.toNat by omega]
        rw [hts]; clear hts
        go_enter Try.func14, Try.ntmps14
        go_wp2_with fail
        refine (fmAsked_any _ _ _ v s _ (hrd.keep (by repeat (first | exact Below.refl _ _ | (with_reducible assumption) | refine bel_alloc ?_ _ | refine bel_drew ?_ | refine bel_drewN ?_ _ | refine Below.setCell ?_ (by dsimp only; omega) _ | refine bel_trans (by assumption) ?_)))).mono ?_; rintro e w1 ⟨rfl, hb1⟩
        rw [hq]
        obtain ⟨hc1, hf1⟩ := aft hb1
        go_wp2_with (go_at_call 32; refine (l1In_any _ _ _ _).mono ?_; rintro e w' ⟨rfl, rfl⟩)
        refine (fmTimes_any _ _ _ _ v s _ (hrd.keep (by repeat (first | exact Below.refl _ _ | (with_reducible assumption) | refine bel_alloc ?_ _ | refine bel_drew ?_ | refine bel_drewN ?_ _ | refine Below.setCell ?_ (by dsimp only; omega) _ | refine bel_trans (by assumption) ?_))) hn hon h1 h2 hp5 (by omega) (by omega)).mono ?_; rintro e w4 ⟨u, rfl, hb4, ho⟩
        go_wp2_with fail
        go_returns
        exact ⟨_, rfl, (by repeat (first | exact Below.refl _ _ | (with_reducible assumption) | refine bel_alloc ?_ _ | refine bel_drew ?_ | refine bel_drewN ?_ _ | refine Below.setCell ?_ (by dsimp only; omega) _ | refine bel_trans (by assumption) ?_)), ho.le (Below.size (by repeat (first | exact Below.refl _ _ | (with_reducible assumption) | refine bel_alloc ?_ _ | refine bel_drew ?_ | refine bel_drewN ?_ _ | refine Below.setCell ?_ (by dsimp only; omega) _ | refine bel_trans (by assumption) ?_)))⟩
end Go.Proofs.Ytaaagjdakbnhnaa
