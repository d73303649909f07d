/- Syl: contracts: both ReductionSymbols. No conditions. -/
import Derived.Test.YtpigaahgmbladaaDoorSyi
namespace Go.Proofs.YtpigaahgmbladaaDoor
open Go.RowKit

noncomputable def rsV (a b p : Int) : Value := bif curveB a b && p5B p then .tuple #[.string (symS (minA a b p) b p (kindN (minA a b p) b p) (valP (discI (minA a b p) b) p).toNat), .bool true] else .tuple #[.string ⟨#[]⟩, .bool false]
theorem iReductionSymbol_any (a b p : Int) (w : World) :
    Calls Tryd.prog 8 #[.agg #[.int .i64 a, .int .i64 b], .int .i64 p] w (Ret (rsV a b p) w) := by
  unfold rsV
  cases hcur : curveB a b
  · go_enter Tryd.func8, Tryd.ntmps8
    go_wp2_with (go_at_call 40; refine (isCurve_any _ _ _).mono ?_; rintro e w' ⟨rfl, hb⟩; (try replace hb := aft2 hb (by assumption)); obtain ⟨hc, hf⟩ := aft hb)
    refine bodyPost_ret (by simp (maxDischargeDepth := 3) [results, Tryd.results8, go_sem, *]; try rfl) rfl ?_
    exact ret_eq rfl (by repeat (first | exact Below.refl _ _ | (with_reducible assumption) | refine bel_alloc ?_ _ | refine bel_drew ?_ | refine bel_drewN ?_ _ | refine Below.setCell ?_ (by dsimp only; omega) _ | refine bel_trans (by assumption) ?_))
  · cases hpr : p5B p
    · go_enter Tryd.func8, Tryd.ntmps8
      go_wp2_with (first | (go_at_call 40; refine (isCurve_any _ _ _).mono ?_; rintro e w' ⟨rfl, hb⟩; (try replace hb := aft2 hb (by assumption)); obtain ⟨hc, hf⟩ := aft hb) | (go_at_call 41; refine (fromFive_any _ _).mono ?_; rintro e w' ⟨rfl, hb⟩; (try replace hb := aft2 hb (by assumption)); obtain ⟨hc, hf⟩ := aft hb))
      refine bodyPost_ret (by simp (maxDischargeDepth := 3) [results, Tryd.results8, go_sem, *]; try rfl) rfl ?_
      exact ret_eq rfl (by repeat (first | exact Below.refl _ _ | (with_reducible assumption) | refine bel_alloc ?_ _ | refine bel_drew ?_ | refine bel_drewN ?_ _ | refine Below.setCell ?_ (by dsimp only; omega) _ | refine bel_trans (by assumption) ?_))
    · have hs := fun w => symbolAt_any a b p w hcur hpr
      generalize symS (minA a b p) b p (kindN (minA a b p) b p) (valP (discI (minA a b p) b) p).toNat = s at *
      go_enter Tryd.func8, Tryd.ntmps8
      go_wp2_with (first | (go_at_call 40; refine (isCurve_any _ _ _).mono ?_; rintro e w' ⟨rfl, hb⟩; (try replace hb := aft2 hb (by assumption)); obtain ⟨hc, hf, hs1, hs2, hs3, hs4⟩ := aftz hb) | (go_at_call 41; refine (fromFive_any _ _).mono ?_; rintro e w' ⟨rfl, hb⟩; (try replace hb := aft2 hb (by assumption)); obtain ⟨hc, hf, hs1, hs2, hs3, hs4⟩ := aftz hb) | (go_at_call 46; refine (hs _).mono ?_; rintro e w' ⟨rfl, hb⟩; (try replace hb := aft2 hb (by assumption)); obtain ⟨hc, hf, hs1, hs2, hs3, hs4⟩ := aftz hb))
      refine bodyPost_ret (by simp (maxDischargeDepth := 3) [results, Tryd.results8, go_sem, *]; try rfl) rfl ?_
      exact ret_eq rfl (by repeat (first | exact Below.refl _ _ | (with_reducible assumption) | refine bel_alloc ?_ _ | refine bel_drew ?_ | refine bel_drewN ?_ _ | refine Below.setCell ?_ (by dsimp only; omega) _ | refine bel_trans (by assumption) ?_))
theorem sReductionSymbol_any (a b p : Int) (w : World) :
    Calls Tryd.prog 9 #[.agg #[.int .i64 a, .int .i64 b], .int .i64 p] w (Ret (rsV a b p) w) := by
  unfold rsV
  cases hcpx : (curveB a b && p5B p)
  · go_enter Tryd.func9, Tryd.ntmps9
    go_wp2_with fail
    refine (rtAsked_any _ _ _ _).mono ?_; rintro e w1 ⟨rfl, hb1⟩
    obtain ⟨hc1, hf1⟩ := aft hb1
    rw [hcpx]
    go_wp2_with fail
    refine bodyPost_ret (by simp (maxDischargeDepth := 3) [results, Tryd.results9, go_sem, *]; try rfl) rfl ?_
    exact ret_mk (by repeat (first | exact Below.refl _ _ | (with_reducible assumption) | refine bel_alloc ?_ _ | refine bel_drew ?_ | refine bel_drewN ?_ _ | refine Below.setCell ?_ (by dsimp only; omega) _ | refine bel_trans (by assumption) ?_))
  · obtain ⟨hcur, hpr⟩ := (Bool.and_eq_true _ _).mp hcpx
    have hs := fun w => rtSymbol_any (minA a b p) b p w (min_curve hcur) hpr
    generalize symS (minA a b p) b p (kindN (minA a b p) b p) (valP (discI (minA a b p) b) p).toNat = s at *
    go_enter Tryd.func9, Tryd.ntmps9
    go_wp2_with fail
    refine (rtAsked_any _ _ _ _).mono ?_; rintro e w1 ⟨rfl, hb1⟩
    obtain ⟨hc1, hf1, hs11, hs12, hs13, hs14⟩ := aftz hb1
    rw [hcpx]
    go_wp2_with (first | (go_at_call 44; refine (rtMinimal_any _ _ _ _ hcur hpr).mono ?_; rintro e w' ⟨rfl, hb⟩; (try replace hb := aft2 hb (by assumption)); obtain ⟨hc, hf, hs1, hs2, hs3, hs4⟩ := aftz hb) | (go_at_call 47; refine (hs _).mono ?_; rintro e w' ⟨rfl, hb⟩; (try replace hb := aft2 hb (by assumption)); obtain ⟨hc, hf, hs1, hs2, hs3, hs4⟩ := aftz hb))
    refine bodyPost_ret (by simp (maxDischargeDepth := 3) [results, Tryd.results9, go_sem, *]; try rfl) rfl ?_
    exact ret_mk (by repeat (first | exact Below.refl _ _ | (with_reducible assumption) | refine bel_alloc ?_ _ | refine bel_drew ?_ | refine bel_drewN ?_ _ | refine Below.setCell ?_ (by dsimp only; omega) _ | refine bel_trans (by assumption) ?_))
end Go.Proofs.YtpigaahgmbladaaDoor
