/- Plm: contracts: the plain model of a two-curve. No conditions. -/
import Derived.Test.YtcgnnhlopcnbpaaTwo
namespace Go.Proofs.Ytcgnnhlopcnbpaa
open Go.RowKit
def plA (a b : Int) : Int := if a.tmod 3 = 0 then b - 3 * a.tdiv 3 * a.tdiv 3 else 81 * b - 27 * a * a
def plB (a b : Int) : Int := if a.tmod 3 = 0 then 2 * a.tdiv 3 * a.tdiv 3 * a.tdiv 3 - a.tdiv 3 * b else 54 * a * a * a - 243 * a * b
def plV (a : Int) : Int := if a.tmod 3 = 0 then a.tdiv 3 else 3 * a
def plU (a : Int) : Int := if a.tmod 3 = 0 then 1 else 3
theorem tdiv3_bd {a : Int} (h1 : -300 ≤ a) (h2 : a ≤ 300) : -100 ≤ a.tdiv 3 ∧ a.tdiv 3 ≤ 100 := by
  have h := Int.mul_tdiv_add_tmod a 3
  have := tmod_bd a (m := 3) (by omega)
  omega
set_option maxHeartbeats 1000000 in
theorem tcPlain_any (a b : Int) (w : World) (h1 : -300 ≤ a) (h2 : a ≤ 300) (h3 : -300 ≤ b) (h4 : b ≤ 300) :
    Calls Try.prog 60 #[.agg #[.int .i64 a, .int .i64 b]] w (Ret (.tuple #[.agg #[.int .i64 (plA a b), .int .i64 (plB a b)], .int .i64 (plU a), .int .i64 (plV a)]) w) := by
  by_cases hm : a.tmod 3 = 0
  · have eA : plA a b = b - 3 * a.tdiv 3 * a.tdiv 3 := by unfold plA; rw [if_pos hm]
    have eB : plB a b = 2 * a.tdiv 3 * a.tdiv 3 * a.tdiv 3 - a.tdiv 3 * b := by unfold plB; rw [if_pos hm]
    have eV : plV a = a.tdiv 3 := by unfold plV; rw [if_pos hm]
    have eU : plU a = 1 := by unfold plU; rw [if_pos hm]
    rw [eA, eB, eV, eU]
    have hmb : (a.tmod 3 == 0) = true := by simp [hm]
    clear eA eB eV eU hm
    obtain ⟨v1, v2⟩ := tdiv3_bd h1 h2
    have p1 := mul_bd (a := 3 * a.tdiv 3) (b := a.tdiv 3) (A := 300) (B := 100) (by omega) (by omega) (by omega) (by omega)
    have p2 := mul_bd (a := 2 * a.tdiv 3) (b := a.tdiv 3) (A := 200) (B := 100) (by omega) (by omega) (by omega) (by omega)
    have p3 := mul_bd p2.1 p2.2 v1 v2
    have p4 := mul_bd v1 v2 h3 h4
    go_enter Try.func60, Try.ntmps60
    go_wp2_with fail
    refine bodyPost_ret (by simp (maxDischargeDepth := 3) [results, Try.results60, go_sem, *]; try rfl) rfl ?_
    exact ret_mk (by repeat (first | exact Below.refl _ _ | (with_reducible assumption) | refine bel_alloc ?_ _ | refine bel_drew ?_ | refine bel_drewN ?_ _ | refine Below.setCell ?_ (by dsimp only; omega) _ | refine bel_trans (by assumption) ?_))
  · have eA : plA a b = 81 * b - 27 * a * a := by unfold plA; rw [if_neg hm]
    have eB : plB a b = 54 * a * a * a - 243 * a * b := by unfold plB; rw [if_neg hm]
    have eV : plV a = 3 * a := by unfold plV; rw [if_neg hm]
    have eU : plU a = 3 := by unfold plU; rw [if_neg hm]
    rw [eA, eB, eV, eU]
    have hmb : (a.tmod 3 == 0) = false := by simp [hm]
    clear eA eB eV eU hm
    have p1 := mul_bd (a := 27 * a) (b := a) (A := 8100) (B := 300) (by omega) (by omega) (by omega) (by omega)
    have p2 := mul_bd (a := 54 * a) (b := a) (A := 16200) (B := 300) (by omega) (by omega) (by omega) (by omega)
    have p3 := mul_bd p2.1 p2.2 h1 h2
    have p4 := mul_bd (a := 243 * a) (b := b) (A := 72900) (B := 300) (by omega) (by omega) (by omega) (by omega)
    go_enter Try.func60, Try.ntmps60
    go_wp2_with fail
    have e0 : IntKind.i64.wrap (81 * b) = 81 * b := IntWalk.i64_in _ (by omega)
    have e1 : IntKind.i64.wrap (27 * a) = 27 * a := IntWalk.i64_in _ (by omega)
    have e2 : IntKind.i64.wrap (27 * a * a) = 27 * a * a := IntWalk.i64_in _ (by omega)
    have e3 : IntKind.i64.wrap (81 * b - 27 * a * a) = 81 * b - 27 * a * a := IntWalk.i64_in _ (by omega)
    have e4 : IntKind.i64.wrap (54 * a) = 54 * a := IntWalk.i64_in _ (by omega)
    have e5 : IntKind.i64.wrap (54 * a * a) = 54 * a * a := IntWalk.i64_in _ (by omega)
    have e6 : IntKind.i64.wrap (54 * a * a * a) = 54 * a * a * a := IntWalk.i64_in _ (by omega)
    have e7 : IntKind.i64.wrap (243 * a) = 243 * a := IntWalk.i64_in _ (by omega)
    have e8 : IntKind.i64.wrap (243 * a * b) = 243 * a * b := IntWalk.i64_in _ (by omega)
    have e9 : IntKind.i64.wrap (54 * a * a * a - 243 * a * b) = 54 * a * a * a - 243 * a * b := IntWalk.i64_in _ (by omega)
    have e10 : IntKind.i64.wrap (3 * a) = 3 * a := IntWalk.i64_in _ (by omega)
    go_region_held3 (fun w' => w'.cell? ⟨w.heap.size, 0, none⟩ = some (.int .i64 a) ∧ w'.cell? ⟨w.heap.size, 1, none⟩ = some (.int .i64 b)) (go_keep) ((fail))
    go_wp2_with fail
    refine bodyPost_ret (by simp (maxDischargeDepth := 3) [results, Try.results60, go_sem, *]; try rfl) rfl ?_
    exact ret_mk (by repeat (first | exact Below.refl _ _ | (with_reducible assumption) | refine bel_alloc ?_ _ | refine bel_drew ?_ | refine bel_drewN ?_ _ | refine Below.setCell ?_ (by dsimp only; omega) _ | refine bel_trans (by assumption) ?_))
set_option maxHeartbeats 1000000 in
theorem plainModel_any (a b : Int) (w : World) (h1 : -300 ≤ a) (h2 : a ≤ 300) (h3 : -300 ≤ b) (h4 : b ≤ 300) :
    Calls Try.prog 61 #[.agg #[.int .i64 a, .int .i64 b]] w (Ret (bif curveB (plA a b) (plB a b) then .tuple #[.agg #[.int .i64 (plA a b), .int .i64 (plB a b)], .int .i64 (plV a), .bool true] else .tuple #[.agg #[.int .i64 0, .int .i64 0], .int .i64 0, .bool false]) w) := by
  have q1 := mul_bd (a := 27 * a) (b := a) (A := 8100) (B := 300) (by omega) (by omega) (by omega) (by omega)
  have q2 := mul_bd (a := 54 * a) (b := a) (A := 16200) (B := 300) (by omega) (by omega) (by omega) (by omega)
  have q3 := mul_bd q2.1 q2.2 h1 h2
  have q4 := mul_bd (a := 243 * a) (b := b) (A := 72900) (B := 300) (by omega) (by omega) (by omega) (by omega)
  by_cases hm : a.tmod 3 = 0
  · have eA : plA a b = b - 3 * a.tdiv 3 * a.tdiv 3 := by unfold plA; rw [if_pos hm]
    have eB : plB a b = 2 * a.tdiv 3 * a.tdiv 3 * a.tdiv 3 - a.tdiv 3 * b := by unfold plB; rw [if_pos hm]
    have eV : plV a = a.tdiv 3 := by unfold plV; rw [if_pos hm]
    rw [eA, eB, eV]
    have hmb : (a.tmod 3 == 0) = true := by simp [hm]
    clear eA eB eV hm
    obtain ⟨v1, v2⟩ := tdiv3_bd h1 h2
    have p1 := mul_bd (a := 3 * a.tdiv 3) (b := a.tdiv 3) (A := 300) (B := 100) (by omega) (by omega) (by omega) (by omega)
    have p2 := mul_bd (a := 2 * a.tdiv 3) (b := a.tdiv 3) (A := 200) (B := 100) (by omega) (by omega) (by omega) (by omega)
    have p3 := mul_bd p2.1 p2.2 v1 v2
    have p4 := mul_bd v1 v2 h3 h4
    cases hcur : curveB (b - 3 * a.tdiv 3 * a.tdiv 3) (2 * a.tdiv 3 * a.tdiv 3 * a.tdiv 3 - a.tdiv 3 * b)
    all_goals
      go_enter Try.func61, Try.ntmps61
      go_wp2_with (go_at_call 56; refine (isCurve_any _ _ _).mono ?_; rintro e w' ⟨rfl, hb⟩; (try replace hb := aft2 hb (by assumption)); obtain ⟨hc, hf, hs1, hs2, hs3, hs4⟩ := aftz hb)
      refine bodyPost_ret (by simp (maxDischargeDepth := 3) [results, Try.results61, go_sem, *]; try rfl) rfl ?_
      exact ret_mk (by repeat (first | exact Below.refl _ _ | (with_reducible assumption) | refine bel_alloc ?_ _ | refine bel_drew ?_ | refine bel_drewN ?_ _ | refine Below.setCell ?_ (by dsimp only; omega) _ | refine bel_trans (by assumption) ?_))
  · have eA : plA a b = 81 * b - 27 * a * a := by unfold plA; rw [if_neg hm]
    have eB : plB a b = 54 * a * a * a - 243 * a * b := by unfold plB; rw [if_neg hm]
    have eV : plV a = 3 * a := by unfold plV; rw [if_neg hm]
    rw [eA, eB, eV]
    have hmb : (a.tmod 3 == 0) = false := by simp [hm]
    clear eA eB eV hm
    cases hcur : curveB (81 * b - 27 * a * a) (54 * a * a * a - 243 * a * b)
    all_goals
      go_enter Try.func61, Try.ntmps61
      go_wp2_with (go_at_call 56; refine (isCurve_any _ _ _).mono ?_; rintro e w' ⟨rfl, hb⟩; (try replace hb := aft2 hb (by assumption)); obtain ⟨hc, hf, hs1, hs2, hs3, hs4⟩ := aftz hb)
      refine bodyPost_ret (by simp (maxDischargeDepth := 3) [results, Try.results61, go_sem, *]; try rfl) rfl ?_
      exact ret_mk (by repeat (first | exact Below.refl _ _ | (with_reducible assumption) | refine bel_alloc ?_ _ | refine bel_drew ?_ | refine bel_drewN ?_ _ | refine Below.setCell ?_ (by dsimp only; omega) _ | refine bel_trans (by assumption) ?_))
theorem iPlainModel_any (a b : Int) (w : World) :
    Calls Try.prog 29 #[.agg #[.int .i64 a, .int .i64 b]] w (Ret (bif twoB a b && curveB (plA a b) (plB a b) then .tuple #[.agg #[.int .i64 (plA a b), .int .i64 (plB a b)], .int .i64 (plV a), .bool true] else .tuple #[.agg #[.int .i64 0, .int .i64 0], .int .i64 0, .bool false]) w) := by
  cases h : twoB a b
  · go_enter Try.func29, Try.ntmps29
    go_wp2_with (go_at_call 47; refine (isTwoCurve_any _ _ _).mono ?_; rintro e w' ⟨rfl, hb⟩; (try replace hb := aft2 hb (by assumption)); obtain ⟨hc, hf, hs1, hs2, hs3, hs4⟩ := aftz hb)
    refine bodyPost_ret (by simp (maxDischargeDepth := 3) [results, Try.results29, go_sem, *]; try rfl) rfl ?_
    exact ret_mk (by repeat (first | exact Below.refl _ _ | (with_reducible assumption) | refine bel_alloc ?_ _ | refine bel_drew ?_ | refine bel_drewN ?_ _ | refine Below.setCell ?_ (by dsimp only; omega) _ | refine bel_trans (by assumption) ?_))
  · obtain ⟨h1, h2, h3, h4, h5, _⟩ := twoB_true.1 h
    cases hcur : curveB (plA a b) (plB a b)
    all_goals
      go_enter Try.func29, Try.ntmps29
      go_wp2_with (first | (go_at_call 47; refine (isTwoCurve_any _ _ _).mono ?_; rintro e w' ⟨rfl, hb⟩; (try replace hb := aft2 hb (by assumption)); obtain ⟨hc, hf, hs1, hs2, hs3, hs4⟩ := aftz hb) | (go_at_call 61; refine (plainModel_any _ _ _ h1 h2 h3 h4).mono ?_; rintro e w' ⟨rfl, hb⟩; (try replace hb := aft2 hb (by assumption)); obtain ⟨hc, hf, hs1, hs2, hs3, hs4⟩ := aftz hb))
      refine bodyPost_ret (by simp (maxDischargeDepth := 3) [results, Try.results29, go_sem, *]; try rfl) rfl ?_
      exact ret_mk (by repeat (first | exact Below.refl _ _ | (with_reducible assumption) | refine bel_alloc ?_ _ | refine bel_drew ?_ | refine bel_drewN ?_ _ | refine Below.setCell ?_ (by dsimp only; omega) _ | refine bel_trans (by assumption) ?_))
theorem sPlainModel_any (a b : Int) (w : World) :
    Calls Try.prog 28 #[.agg #[.int .i64 a, .int .i64 b]] w (Ret (bif twoB a b && curveB (plA a b) (plB a b) then .tuple #[.agg #[.int .i64 (plA a b), .int .i64 (plB a b)], .int .i64 (plV a), .bool true] else .tuple #[.agg #[.int .i64 0, .int .i64 0], .int .i64 0, .bool false]) w) := by
  cases h : twoB a b
  · go_enter Try.func28, Try.ntmps28
    go_wp2_with (go_at_call 46; refine (tcGood_any _ _ _).mono ?_; rintro e w' ⟨rfl, hb⟩; (try replace hb := aft2 hb (by assumption)); obtain ⟨hc, hf, hs1, hs2, hs3, hs4⟩ := aftz hb)
    refine bodyPost_ret (by simp (maxDischargeDepth := 3) [results, Try.results28, go_sem, *]; try rfl) rfl ?_
    exact ret_mk (by repeat (first | exact Below.refl _ _ | (with_reducible assumption) | refine bel_alloc ?_ _ | refine bel_drew ?_ | refine bel_drewN ?_ _ | refine Below.setCell ?_ (by dsimp only; omega) _ | refine bel_trans (by assumption) ?_))
  · obtain ⟨h1, h2, h3, h4, h5, _⟩ := twoB_true.1 h
    cases hcur : curveB (plA a b) (plB a b)
    all_goals
      go_enter Try.func28, Try.ntmps28
      go_wp2_with (first | (go_at_call 46; refine (tcGood_any _ _ _).mono ?_; rintro e w' ⟨rfl, hb⟩; (try replace hb := aft2 hb (by assumption)); obtain ⟨hc, hf, hs1, hs2, hs3, hs4⟩ := aftz hb) | (go_at_call 60; refine (tcPlain_any _ _ _ h1 h2 h3 h4).mono ?_; rintro e w' ⟨rfl, hb⟩; (try replace hb := aft2 hb (by assumption)); obtain ⟨hc, hf, hs1, hs2, hs3, hs4⟩ := aftz hb) | (go_at_call 53; refine (ecGood_any _ _ _).mono ?_; rintro e w' ⟨rfl, hb⟩; (try replace hb := aft2 hb (by assumption)); obtain ⟨hc, hf, hs1, hs2, hs3, hs4⟩ := aftz hb))
      refine bodyPost_ret (by simp (maxDischargeDepth := 3) [results, Try.results28, go_sem, *]; try rfl) rfl ?_
      exact ret_mk (by repeat (first | exact Below.refl _ _ | (with_reducible assumption) | refine bel_alloc ?_ _ | refine bel_drew ?_ | refine bel_drewN ?_ _ | refine Below.setCell ?_ (by dsimp only; omega) _ | refine bel_trans (by assumption) ?_))
end Go.Proofs.Ytcgnnhlopcnbpaa
