/- Bg: contracts: BadFromFive. No conditions. -/
import Derived.Test.YtpjcfnjagknocaaDoorBf
namespace Go.Proofs.YtpjcfnjagknocaaDoor
open Go.RowKit

noncomputable def bbX (a b : Int) : List Int := bif curveB a b then bfX a b else []
noncomputable def bbOk (a b : Int) : Bool := curveB a b && bfOk a b
theorem bfX_len (a b : Int) (hcur : curveB a b = true) : (bfX a b).length ≤ 1000 := by
  obtain ⟨q1, q2, q3, q4, q5⟩ := curveB_true.1 hcur
  unfold bfX
  cases hk : bfOk a b
  · simp
  · rw [cond_true]
    have h1 := badF_len a b (bfL a b)
    unfold bfOk at hk
    rw [List.all_eq_true] at hk
    have hs := primesL_spec (N := ((discI a b).natAbs : Int)) (by omega)
    rcases inc_length (bfL a b) 2 998 hs.1 (fun q hq => ⟨((hs.2 q).1 hq).1.1, by have := hk q hq; simp only [decide_eq_true_eq] at this; omega⟩) with k | k
    · omega
    · have e : badF a b (bfL a b) = [] := by rw [k]; rfl
      rw [e]; simp
theorem bbX_len (a b : Int) : (bbX a b).length ≤ 1000000 := by
  unfold bbX
  cases hcur : curveB a b
  · simp
  · have := bfX_len a b hcur; rw [cond_true]; omega
theorem iBadFromFive_any (a b : Int) (w : World) :
    Calls Tryd.prog 5 #[.agg #[.int .i64 a, .int .i64 b]] w (RetSlB (bbX a b) (bbOk a b) w) := by
  unfold bbX bbOk
  cases hcur : curveB a b
  · go_enter Tryd.func5, Tryd.ntmps5
    go_wp2_with (go_at_call 24; refine (isCurve_any _ _ _).mono ?_; rintro e w' ⟨rfl, hb⟩; (try replace hb := aft2 hb (by assumption)); obtain ⟨hc, hf⟩ := aft hb)
    refine bodyPost_ret (by simp (maxDischargeDepth := 3) [results, Tryd.results5, go_sem, *]; try rfl) rfl ?_
    exact ⟨.slice none 0 0, rfl, (by repeat (first | exact Below.refl _ _ | (with_reducible assumption) | refine bel_alloc ?_ _ | refine bel_drew ?_ | refine bel_drewN ?_ _ | refine Below.setCell ?_ (by dsimp only; omega) _ | refine bel_trans (by assumption) ?_)), Own.nil _ _⟩
  · go_enter Tryd.func5, Tryd.ntmps5
    go_wp2_with (go_at_call 24; refine (isCurve_any _ _ _).mono ?_; rintro e w' ⟨rfl, hb⟩; (try replace hb := aft2 hb (by assumption)); obtain ⟨hc, hf⟩ := aft hb)
    refine (badFromFive_any a b _ hcur).mono ?_; rintro e w2 ⟨v, rfl, hb2, ho2⟩
    go_wp2_with fail
    refine bodyPost_ret (by simp (maxDischargeDepth := 3) [results, Tryd.results5, go_sem, *]; try rfl) rfl ?_
    exact ⟨v, rfl, (by repeat (first | exact Below.refl _ _ | (with_reducible assumption) | refine bel_alloc ?_ _ | refine bel_drew ?_ | refine bel_drewN ?_ _ | refine Below.setCell ?_ (by dsimp only; omega) _ | refine bel_trans (by assumption) ?_)), ho2.le (by have := hb.size; simp at this; omega)⟩
theorem sBadFromFive_any (a b : Int) (w : World) :
    Calls Tryd.prog 6 #[.agg #[.int .i64 a, .int .i64 b]] w (RetSlB (bbX a b) (bbOk a b) w) := by
  unfold bbX bbOk
  cases hcur : curveB a b
  · go_enter Tryd.func6, Tryd.ntmps6
    go_wp2_with (go_at_call 26; refine (ecGood_any _ _ _).mono ?_; rintro e w' ⟨rfl, hb⟩; (try replace hb := aft2 hb (by assumption)); obtain ⟨hc, hf⟩ := aft hb)
    refine bodyPost_ret (by simp (maxDischargeDepth := 3) [results, Tryd.results6, go_sem, *]; try rfl) rfl ?_
    exact ⟨.slice none 0 0, rfl, (by repeat (first | exact Below.refl _ _ | (with_reducible assumption) | refine bel_alloc ?_ _ | refine bel_drew ?_ | refine bel_drewN ?_ _ | refine Below.setCell ?_ (by dsimp only; omega) _ | refine bel_trans (by assumption) ?_)), Own.nil _ _⟩
  · go_enter Tryd.func6, Tryd.ntmps6
    go_wp2_with (go_at_call 26; refine (ecGood_any _ _ _).mono ?_; rintro e w' ⟨rfl, hb⟩; (try replace hb := aft2 hb (by assumption)); obtain ⟨hc, hf⟩ := aft hb)
    refine (rtBad_any a b _ hcur).mono ?_; rintro e w2 ⟨v, rfl, hb2, ho2⟩
    go_wp2_with fail
    refine bodyPost_ret (by simp (maxDischargeDepth := 3) [results, Tryd.results6, go_sem, *]; try rfl) rfl ?_
    exact ⟨v, rfl, (by repeat (first | exact Below.refl _ _ | (with_reducible assumption) | refine bel_alloc ?_ _ | refine bel_drew ?_ | refine bel_drewN ?_ _ | refine Below.setCell ?_ (by dsimp only; omega) _ | refine bel_trans (by assumption) ?_)), ho2.le (by have := hb.size; simp at this; omega)⟩
end Go.Proofs.YtpjcfnjagknocaaDoor
