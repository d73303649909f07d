/- Al: contracts: AddModulo of both programs. No conditions. -/
import Derived.Test.YtaaagjdakbnhnaaAe
namespace Go.Proofs.Ytaaagjdakbnhnaa
open Go.RowKit

/-- the curve, the prime and both points are valid. -/
noncomputable def ask2B (a b p : Int) (s t : List Int) : Bool := askB a b p s && onF a b p t
theorem small_p5 {a b p : Int} (h : smallB a b p = true) : p5B p = true := by
  obtain ⟨_, hg, _, _⟩ := small_bd h
  unfold goodB at hg
  rw [Bool.and_eq_true] at hg
  exact hg.1
theorem addI_len {a b p : Int} {s t : List Int} (hs : onF a b p s = true) (ht : onF a b p t = true) : (addI a p s t).length ≤ 1048576 := by
  rcases onF_cases hs with rfl | ⟨s0, s1, rfl, _⟩
  · rw [addI_nil]; rcases onF_cases ht with rfl | ⟨_, _, rfl, _⟩ <;> simp
  · rcases onF_cases ht with rfl | ⟨t0, t1, rfl, _⟩
    · rw [addI_nil']; simp
    · rw [addI_pair]; split <;> simp
theorem ask2_len (a b p : Int) (s t : List Int) : (if ask2B a b p s t = true then addI a p s t else []).length ≤ 1048576 := by
  split
  · rename_i h
    unfold ask2B askB at h
    simp only [Bool.and_eq_true] at h
    exact addI_len h.1.2 h.2
  · simp
theorem iAddModulo_any (a b p : Int) (v v' : Value) (s t : List Int) (w : World) (hrd : Rd w v s) (hrd' : Rd w v' t) (hn : NilZ v) (hn' : NilZ v') :
    Calls Try.prog 6 #[.agg #[.int .i64 a, .int .i64 b], .int .i64 p, v, v'] w (RetSlB (if ask2B a b p s t = true then addI a p s t else []) (ask2B a b p s t) w) := by
  have hask : ask2B a b p s t = (smallB a b p && onF a b p s && onF a b p t) := rfl
  cases hsm : smallB a b p
  · rw [hask, hsm, Bool.false_and, Bool.false_and, if_neg (by simp)]
    go_enter Try.func6, Try.ntmps6
    go_wp2_with (go_at_call 20; refine (fieldFits_any _ _ _ _).mono ?_; rintro e w' ⟨rfl, hb⟩; (try replace hb := aft2 hb (by assumption)); obtain ⟨hc, hf, hs1, hs2, hs3, hs4⟩ := aftz hb)
    go_returns
    exact ⟨_, rfl, (by repeat (first | exact Below.refl _ _ | (with_reducible assumption) | refine bel_alloc ?_ _ | refine bel_drew ?_ | refine bel_drewN ?_ _ | refine Below.setCell ?_ (by dsimp only; omega) _ | refine bel_trans (by assumption) ?_)), Own.nil _ _⟩
  · obtain ⟨hcur, _, p1, p2⟩ := small_bd hsm
    have hp5 := small_p5 hsm
    obtain ⟨h1, h2, h3, h4, _⟩ := curveB_true.1 hcur
    cases hon : onF a b p s
    · rw [hask, hsm, hon, Bool.and_false, Bool.false_and, if_neg (by simp)]
      go_enter Try.func6, Try.ntmps6
      go_wp2_with (go_at_call 20; refine (fieldFits_any _ _ _ _).mono ?_; rintro e w' ⟨rfl, hb⟩; (try replace hb := aft2 hb (by assumption)); obtain ⟨hc, hf, hs1, hs2, hs3, hs4⟩ := aftz hb)
      refine (onField_any _ _ _ v s _ (hrd.keep (by repeat (first | exact Below.refl _ _ | (with_reducible assumption) | refine bel_alloc ?_ _ | refine bel_drew ?_ | refine bel_drewN ?_ _ | refine Below.setCell ?_ (by dsimp only; omega) _ | refine bel_trans (by assumption) ?_))) h1 h2 h3 h4 (by omega) (by omega)).mono ?_; rintro e w2 ⟨rfl, hb2⟩
      rw [hon]
      go_wp2_with fail
      go_returns
      exact ⟨_, rfl, (by repeat (first | exact Below.refl _ _ | (with_reducible assumption) | refine bel_alloc ?_ _ | refine bel_drew ?_ | refine bel_drewN ?_ _ | refine Below.setCell ?_ (by dsimp only; omega) _ | refine bel_trans (by assumption) ?_)), Own.nil _ _⟩
    · cases hon' : onF a b p t
      · rw [hask, hsm, hon, hon', Bool.and_false, if_neg (by simp)]
        go_enter Try.func6, Try.ntmps6
        go_wp2_with (go_at_call 20; refine (fieldFits_any _ _ _ _).mono ?_; rintro e w' ⟨rfl, hb⟩; (try replace hb := aft2 hb (by assumption)); obtain ⟨hc, hf, hs1, hs2, hs3, hs4⟩ := aftz hb)
        refine (onField_any _ _ _ v s _ (hrd.keep (by repeat (first | exact Below.refl _ _ | (with_reducible assumption) | refine bel_alloc ?_ _ | refine bel_drew ?_ | refine bel_drewN ?_ _ | refine Below.setCell ?_ (by dsimp only; omega) _ | refine bel_trans (by assumption) ?_))) h1 h2 h3 h4 (by omega) (by omega)).mono ?_; rintro e w2 ⟨rfl, hb2⟩
        rw [hon]
        obtain ⟨hc2, hf2⟩ := aft hb2
        go_wp2_with fail
        refine (onField_any _ _ _ v' t _ (hrd'.keep (by repeat (first | exact Below.refl _ _ | (with_reducible assumption) | refine bel_alloc ?_ _ | refine bel_drew ?_ | refine bel_drewN ?_ _ | refine Below.setCell ?_ (by dsimp only; omega) _ | refine bel_trans (by assumption) ?_))) h1 h2 h3 h4 (by omega) (by omega)).mono ?_; rintro e w3 ⟨rfl, hb3⟩
        rw [hon']
        go_wp2_with fail
        go_returns
        exact ⟨_, rfl, (by repeat (first | exact Below.refl _ _ | (with_reducible assumption) | refine bel_alloc ?_ _ | refine bel_drew ?_ | refine bel_drewN ?_ _ | refine Below.setCell ?_ (by dsimp only; omega) _ | refine bel_trans (by assumption) ?_)), Own.nil _ _⟩
      · rw [hask, hsm, hon, hon', Bool.and_true, Bool.and_true, if_pos rfl]
        go_enter Try.func6, Try.ntmps6
        go_wp2_with (go_at_call 20; refine (fieldFits_any _ _ _ _).mono ?_; rintro e w' ⟨rfl, hb⟩; (try replace hb := aft2 hb (by assumption)); obtain ⟨hc, hf, hs1, hs2, hs3, hs4⟩ := aftz hb)
        refine (onField_any _ _ _ v s _ (hrd.keep (by repeat (first | exact Below.refl _ _ | (with_reducible assumption) | refine bel_alloc ?_ _ | refine bel_drew ?_ | refine bel_drewN ?_ _ | refine Below.setCell ?_ (by dsimp only; omega) _ | refine bel_trans (by assumption) ?_))) h1 h2 h3 h4 (by omega) (by omega)).mono ?_; rintro e w2 ⟨rfl, hb2⟩
        rw [hon]
        (try replace hb2 := aft2 hb2 (by assumption))
        obtain ⟨hc2, hf2⟩ := aft hb2
        go_wp2_with fail
        refine (onField_any _ _ _ v' t _ (hrd'.keep (by repeat (first | exact Below.refl _ _ | (with_reducible assumption) | refine bel_alloc ?_ _ | refine bel_drew ?_ | refine bel_drewN ?_ _ | refine Below.setCell ?_ (by dsimp only; omega) _ | refine bel_trans (by assumption) ?_))) h1 h2 h3 h4 (by omega) (by omega)).mono ?_; rintro e w3 ⟨rfl, hb3⟩
        rw [hon']
        (try replace hb3 := aft2 hb3 (by assumption))
        obtain ⟨hc3, hf3⟩ := aft hb3
        go_wp2_with fail
        refine (addModulo_any _ _ _ v v' s t _ (hrd.keep (by repeat (first | exact Below.refl _ _ | (with_reducible assumption) | refine bel_alloc ?_ _ | refine bel_drew ?_ | refine bel_drewN ?_ _ | refine Below.setCell ?_ (by dsimp only; omega) _ | refine bel_trans (by assumption) ?_))) (hrd'.keep (by repeat (first | exact Below.refl _ _ | (with_reducible assumption) | refine bel_alloc ?_ _ | refine bel_drew ?_ | refine bel_drewN ?_ _ | refine Below.setCell ?_ (by dsimp only; omega) _ | refine bel_trans (by assumption) ?_))) hn hn' hon hon' h1 h2 hp5).mono ?_; rintro e w4 ⟨u, rfl, hb4, ho⟩
        go_wp2_with fail
        go_returns
        exact ⟨_, rfl, (by repeat (first | exact Below.refl _ _ | (with_reducible assumption) | refine bel_alloc ?_ _ | refine bel_drew ?_ | refine bel_drewN ?_ _ | refine Below.setCell ?_ (by dsimp only; omega) _ | refine bel_trans (by assumption) ?_)), ho.le (Below.size (by repeat (first | exact Below.refl _ _ | (with_reducible assumption) | refine bel_alloc ?_ _ | refine bel_drew ?_ | refine bel_drewN ?_ _ | refine Below.setCell ?_ (by dsimp only; omega) _ | refine bel_trans (by assumption) ?_)))⟩
theorem sAddModulo_any (a b p : Int) (v v' : Value) (s t : List Int) (w : World) (hrd : Rd w v s) (hrd' : Rd w v' t) (hn : NilZ v) (hn' : NilZ v') :
    Calls Try.prog 7 #[.agg #[.int .i64 a, .int .i64 b], .int .i64 p, v, v'] w (RetSlB (if ask2B a b p s t = true then addI a p s t else []) (ask2B a b p s t) w) := by
  have hask : ask2B a b p s t = (askB a b p s && onF a b p t) := rfl
  cases hq : askB a b p s
  · rw [hask, hq, Bool.false_and, if_neg (by simp)]
    go_enter Try.func7, Try.ntmps7
    go_wp2_with fail
    refine (fmAsked_any _ _ _ v s _ (hrd.keep (by repeat (first | exact Below.refl _ _ | (with_reducible assumption) | refine bel_alloc ?_ _ | refine bel_drew ?_ | refine bel_drewN ?_ _ | refine Below.setCell ?_ (by dsimp only; omega) _ | refine bel_trans (by assumption) ?_)))).mono ?_; rintro e w1 ⟨rfl, hb1⟩
    rw [hq]
    go_wp2_with fail
    go_returns
    exact ⟨_, rfl, (by repeat (first | exact Below.refl _ _ | (with_reducible assumption) | refine bel_alloc ?_ _ | refine bel_drew ?_ | refine bel_drewN ?_ _ | refine Below.setCell ?_ (by dsimp only; omega) _ | refine bel_trans (by assumption) ?_)), Own.nil _ _⟩
  · have hq' := hq
    unfold askB at hq'
    rw [Bool.and_eq_true] at hq'
    obtain ⟨hsm, hon⟩ := hq'
    obtain ⟨hcur, _, p1, p2⟩ := small_bd hsm
    have hp5 := small_p5 hsm
    obtain ⟨h1, h2, h3, h4, _⟩ := curveB_true.1 hcur
    cases hon' : onF a b p t
    · rw [hask, hq, hon', Bool.and_false, if_neg (by simp)]
      go_enter Try.func7, Try.ntmps7
      go_wp2_with fail
      refine (fmAsked_any _ _ _ v s _ (hrd.keep (by repeat (first | exact Below.refl _ _ | (with_reducible assumption) | refine bel_alloc ?_ _ | refine bel_drew ?_ | refine bel_drewN ?_ _ | refine Below.setCell ?_ (by dsimp only; omega) _ | refine bel_trans (by assumption) ?_)))).mono ?_; rintro e w1 ⟨rfl, hb1⟩
      rw [hq]
      obtain ⟨hc1, hf1⟩ := aft hb1
      go_wp2_with fail
      refine (fmOn_any _ _ _ v' t _ (hrd'.keep (by repeat (first | exact Below.refl _ _ | (with_reducible assumption) | refine bel_alloc ?_ _ | refine bel_drew ?_ | refine bel_drewN ?_ _ | refine Below.setCell ?_ (by dsimp only; omega) _ | refine bel_trans (by assumption) ?_))) h1 h2 h3 h4 (by omega) (by omega)).mono ?_; rintro e w2 ⟨rfl, hb2⟩
      rw [hon']
      go_wp2_with fail
      go_returns
      exact ⟨_, rfl, (by repeat (first | exact Below.refl _ _ | (with_reducible assumption) | refine bel_alloc ?_ _ | refine bel_drew ?_ | refine bel_drewN ?_ _ | refine Below.setCell ?_ (by dsimp only; omega) _ | refine bel_trans (by assumption) ?_)), Own.nil _ _⟩
    · rw [hask, hq, hon', Bool.and_true, if_pos rfl]
      go_enter Try.func7, Try.ntmps7
      go_wp2_with fail
      refine (fmAsked_any _ _ _ v s _ (hrd.keep (by repeat (first | exact Below.refl _ _ | (with_reducible assumption) | refine bel_alloc ?_ _ | refine bel_drew ?_ | refine bel_drewN ?_ _ | refine Below.setCell ?_ (by dsimp only; omega) _ | refine bel_trans (by assumption) ?_)))).mono ?_; rintro e w1 ⟨rfl, hb1⟩
      rw [hq]
      obtain ⟨hc1, hf1⟩ := aft hb1
      go_wp2_with fail
      refine (fmOn_any _ _ _ v' t _ (hrd'.keep (by repeat (first | exact Below.refl _ _ | (with_reducible assumption) | refine bel_alloc ?_ _ | refine bel_drew ?_ | refine bel_drewN ?_ _ | refine Below.setCell ?_ (by dsimp only; omega) _ | refine bel_trans (by assumption) ?_))) h1 h2 h3 h4 (by omega) (by omega)).mono ?_; rintro e w2 ⟨rfl, hb2⟩
      rw [hon']
      replace hb2 := aft2 hb2 hb1
      obtain ⟨hc2, hf2⟩ := aft hb2
      go_wp2_with fail
      refine (fmAdd_any _ _ _ v v' s t _ (hrd.keep (by repeat (first | exact Below.refl _ _ | (with_reducible assumption) | refine bel_alloc ?_ _ | refine bel_drew ?_ | refine bel_drewN ?_ _ | refine Below.setCell ?_ (by dsimp only; omega) _ | refine bel_trans (by assumption) ?_))) (hrd'.keep (by repeat (first | exact Below.refl _ _ | (with_reducible assumption) | refine bel_alloc ?_ _ | refine bel_drew ?_ | refine bel_drewN ?_ _ | refine Below.setCell ?_ (by dsimp only; omega) _ | refine bel_trans (by assumption) ?_))) hn hn' hon hon' h1 h2 hp5).mono ?_; rintro e w4 ⟨u, rfl, hb4, ho⟩
      go_wp2_with fail
      go_returns
      exact ⟨_, rfl, (by repeat (first | exact Below.refl _ _ | (with_reducible assumption) | refine bel_alloc ?_ _ | refine bel_drew ?_ | refine bel_drewN ?_ _ | refine Below.setCell ?_ (by dsimp only; omega) _ | refine bel_trans (by assumption) ?_)), ho.le (Below.size (by repeat (first | exact Below.refl _ _ | (with_reducible assumption) | refine bel_alloc ?_ _ | refine bel_drew ?_ | refine bel_drewN ?_ _ | refine Below.setCell ?_ (by dsimp only; omega) _ | refine bel_trans (by assumption) ?_)))⟩
end Go.Proofs.Ytaaagjdakbnhnaa
