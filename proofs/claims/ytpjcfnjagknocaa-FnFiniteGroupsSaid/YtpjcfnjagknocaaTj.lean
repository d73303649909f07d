/- Tj: contracts: TimesModulo of both programs. No conditions. -/
import Derived.Test.YtpjcfnjagknocaaTi
namespace Go.Proofs.Ytpjcfnjagknocaa
open Go.RowKit

theorem wp_region_val2 {P : Program} {id : Nat} {ops : Array Oper} {b : Bool} {Q : Exit → Act → World → Prop} {a : Act} {w : World} {f : Value → Value → Act} (F : Value → Value → World → Prop)
    (h : (Code.region id ops b).wp P (fun e a' w' => e = .normal ∧ ∃ u v, a' = f u v ∧ F u v w') a w) (k : ∀ u v w', F u v w' → Q .normal (f u v) w') : (Code.region id ops b).wp P Q a w :=
  wp_region_join (fun a' w' => ∃ u v, a' = f u v ∧ F u v w') h (fun _ w' ⟨u, v, hB, hF⟩ => hB ▸ k u v w' hF)
/-- the curve, the prime, the point and the number are valid. -/
noncomputable def askN (a b p n : Int) (s : List Int) : Bool := askB a b p s && inB n (-1000000000) 1000000000
theorem on_len {a b p : Int} {s : List Int} (h : onF a b p s = true) : s.length ≤ 1048576 := by
  rcases onF_cases h with rfl | ⟨_, _, rfl, _⟩ <;> simp
theorem on_times {a b p n : Int} {s : List Int} (hp : p5B p = true) (h : onF a b p s = true) : onF a b p (timesL a p n s) = true := by
  unfold timesL
  split
  · exact on_tim hp _ _ _ rfl (on_neg hp h)
  · exact on_tim hp _ _ _ rfl h
theorem askN_len (a b p n : Int) (s : List Int) : (if askN a b p n s = true then timesL a p n s else []).length ≤ 1048576 := by
  split
  · rename_i h
    unfold askN askB at h
    simp only [Bool.and_eq_true] at h
    exact on_len (on_times (small_p5 h.1.1) h.1.2)
  · simp
theorem iTimesModulo_any (a b p n : Int) (v : Value) (s : List Int) (w : World) (hrd : Rd w v s) (hn : NilZ v) :
    Calls Try.prog 35 #[.agg #[.int .i64 a, .int .i64 b], .int .i64 p, .int .i64 n, v] w (RetSlB (if askN a b p n s = true then timesL a p n s else []) (askN a b p n s) w) := by
  have hask : askN a b p n s = (smallB a b p && onF a b p s && inB n (-1000000000) 1000000000) := rfl
  cases hsm : smallB a b p
  · rw [hask, hsm, Bool.false_and, Bool.false_and, if_neg (by simp)]
    go_enter Try.func35, Try.ntmps35
    go_wp2_with (go_at_call 77; refine (fieldFits_any _ _ _ _).mono ?_; rintro e w' ⟨rfl, hb⟩; (try replace hb := aft2 hb (by assumption)); obtain ⟨hc, hf, hs1, hs2, hs3, hs4⟩ := aftz hb)
    go_returns
    exact ⟨_, rfl, (by repeat (first | exact Below.refl _ _ | (with_reducible assumption) | refine bel_alloc ?_ _ | refine bel_drew ?_ | refine bel_drewN ?_ _ | refine Below.setCell ?_ (by dsimp only; omega) _ | refine bel_trans (by assumption) ?_)), Own.nil _ _⟩
  · obtain ⟨hcur, _, p1, p2⟩ := small_bd hsm
    have hp5 := small_p5 hsm
    obtain ⟨h1, h2, h3, h4, _⟩ := curveB_true.1 hcur
    cases hon : onF a b p s
    · rw [hask, hsm, hon, Bool.and_false, Bool.false_and, if_neg (by simp)]
      go_enter Try.func35, Try.ntmps35
      go_wp2_with (go_at_call 77; refine (fieldFits_any _ _ _ _).mono ?_; rintro e w' ⟨rfl, hb⟩; (try replace hb := aft2 hb (by assumption)); obtain ⟨hc, hf, hs1, hs2, hs3, hs4⟩ := aftz hb)
      refine (onField_any _ _ _ v s _ (hrd.keep (by repeat (first | exact Below.refl _ _ | (with_reducible assumption) | refine bel_alloc ?_ _ | refine bel_drew ?_ | refine bel_drewN ?_ _ | refine Below.setCell ?_ (by dsimp only; omega) _ | refine bel_trans (by assumption) ?_))) h1 h2 h3 h4 (by omega) (by omega)).mono ?_; rintro e w2 ⟨rfl, hb2⟩
      rw [hon]
      go_wp2_with fail
      go_returns
      exact ⟨_, rfl, (by repeat (first | exact Below.refl _ _ | (with_reducible assumption) | refine bel_alloc ?_ _ | refine bel_drew ?_ | refine bel_drewN ?_ _ | refine Below.setCell ?_ (by dsimp only; omega) _ | refine bel_trans (by assumption) ?_)), Own.nil _ _⟩
    · cases hin : inB n (-1000000000) 1000000000
      · rw [hask, hsm, hon, hin, Bool.and_false, if_neg (by simp)]
        go_enter Try.func35, Try.ntmps35
        go_wp2_with (go_at_call 77; refine (fieldFits_any _ _ _ _).mono ?_; rintro e w' ⟨rfl, hb⟩; (try replace hb := aft2 hb (by assumption)); obtain ⟨hc, hf, hs1, hs2, hs3, hs4⟩ := aftz hb)
        refine (onField_any _ _ _ v s _ (hrd.keep (by repeat (first | exact Below.refl _ _ | (with_reducible assumption) | refine bel_alloc ?_ _ | refine bel_drew ?_ | refine bel_drewN ?_ _ | refine Below.setCell ?_ (by dsimp only; omega) _ | refine bel_trans (by assumption) ?_))) h1 h2 h3 h4 (by omega) (by omega)).mono ?_; rintro e w2 ⟨rfl, hb2⟩
        rw [hon]
        obtain ⟨hc2, hf2⟩ := aft hb2
        go_wp2_with (go_at_call 70; refine (inside_any _ _ _ _).mono ?_; rintro e w' ⟨rfl, rfl⟩)
        go_returns
        exact ⟨_, rfl, (by repeat (first | exact Below.refl _ _ | (with_reducible assumption) | refine bel_alloc ?_ _ | refine bel_drew ?_ | refine bel_drewN ?_ _ | refine Below.setCell ?_ (by dsimp only; omega) _ | refine bel_trans (by assumption) ?_)), Own.nil _ _⟩
      · rw [hask, hsm, hon, hin, Bool.and_true, Bool.and_true, if_pos rfl]
        have hnb := inB_true.1 hin
        go_enter Try.func35, Try.ntmps35
        go_wp2_with (go_at_call 77; refine (fieldFits_any _ _ _ _).mono ?_; rintro e w' ⟨rfl, hb⟩; (try replace hb := aft2 hb (by assumption)); obtain ⟨hc, hf, hs1, hs2, hs3, hs4⟩ := aftz hb)
        refine (onField_any _ _ _ v s _ (hrd.keep (by repeat (first | exact Below.refl _ _ | (with_reducible assumption) | refine bel_alloc ?_ _ | refine bel_drew ?_ | refine bel_drewN ?_ _ | refine Below.setCell ?_ (by dsimp only; omega) _ | refine bel_trans (by assumption) ?_))) h1 h2 h3 h4 (by omega) (by omega)).mono ?_; rintro e w2 ⟨rfl, hb2⟩
        rw [hon]
        (try replace hb2 := aft2 hb2 (by assumption))
        obtain ⟨hc2, hf2⟩ := aft hb2
        go_wp2_with (go_at_call 70; refine (inside_any _ _ _ _).mono ?_; rintro e w' ⟨rfl, rfl⟩)
        refine (timesModulo_any _ _ _ _ v s _ (hrd.keep (by repeat (first | exact Below.refl _ _ | (with_reducible assumption) | refine bel_alloc ?_ _ | refine bel_drew ?_ | refine bel_drewN ?_ _ | refine Below.setCell ?_ (by dsimp only; omega) _ | refine bel_trans (by assumption) ?_))) hn hon h1 h2 hp5 hnb.1 hnb.2).mono ?_; rintro e w4 ⟨u, rfl, hb4, ho⟩
        go_wp2_with fail
        go_returns
        exact ⟨_, rfl, (by repeat (first | exact Below.refl _ _ | (with_reducible assumption) | refine bel_alloc ?_ _ | refine bel_drew ?_ | refine bel_drewN ?_ _ | refine Below.setCell ?_ (by dsimp only; omega) _ | refine bel_trans (by assumption) ?_)), ho.le (Below.size (by repeat (first | exact Below.refl _ _ | (with_reducible assumption) | refine bel_alloc ?_ _ | refine bel_drew ?_ | refine bel_drewN ?_ _ | refine Below.setCell ?_ (by dsimp only; omega) _ | refine bel_trans (by assumption) ?_)))⟩
end Go.Proofs.Ytpjcfnjagknocaa
