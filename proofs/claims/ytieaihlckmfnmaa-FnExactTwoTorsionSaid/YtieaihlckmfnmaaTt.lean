/- Tt: contracts: the order of the torsion of order two. No conditions. -/
import Derived.Test.YtieaihlckmfnmaaEr
import Derived.Test.YtieaihlckmfnmaaTwo
namespace Go.Proofs.Ytieaihlckmfnmaa
open Go.RowKit

noncomputable def ttI (a b : Int) : Int := if twoB a b = true then (if sqB (a * a - 4 * b) = true then 4 else 2) else 0
theorem iTwoTorsion_any (a b : Int) (w : World) :
    Calls Try.prog 47 #[.agg #[.int .i64 a, .int .i64 b]] w (Ret (.tuple #[.int .i64 (ttI a b), .bool (twoB a b)]) w) := by
  have htt : ttI a b = if twoB a b = true then (if sqB (a * a - 4 * b) = true then 4 else 2) else 0 := rfl
  have HT := Lib.hid htt; clear htt
  cases htw : twoB a b
  · have hv : ttI a b = 0 := by rw [HT.out, htw, if_neg (by simp)]
    rw [hv]; clear hv
    go_enter Try.func47, Try.ntmps47
    go_wp2_with (go_at_call 84; refine (isTwoCurve_any _ _ _).mono ?_; rintro e w' ⟨rfl, hb⟩; (try replace hb := aft2 hb (by assumption)); obtain ⟨hc, hf, hs1, hs2, hs3, hs4⟩ := aftz hb)
    go_returns
    exact ret_mk (by repeat (first | exact Below.refl _ _ | (with_reducible assumption) | refine bel_alloc ?_ _ | refine bel_drew ?_ | refine bel_drewN ?_ _ | refine Below.setCell ?_ (by dsimp only; omega) _ | refine bel_trans (by assumption) ?_))
  · obtain ⟨a1, a2, b1, b2, b3, b4⟩ := twoB_true.1 htw
    have aa := mul_bd (a := a) (b := a) (A := 300) (B := 300) a1 a2 a1 a2
    by_cases hn : a * a - 4 * b < 0
    · have hv : ttI a b = 2 := by rw [HT.out, htw, if_pos rfl, sqB_neg hn]; rfl
      rw [hv]; clear hv
      have hex := fun w => exactRoot_neg _ w hn
      go_enter Try.func47, Try.ntmps47
      go_wp2_with (first | (go_at_call 84; refine (isTwoCurve_any _ _ _).mono ?_; rintro e w' ⟨rfl, hb⟩; (try replace hb := aft2 hb (by assumption)); obtain ⟨hc, hf, hs1, hs2, hs3, hs4⟩ := aftz hb) | (go_at_call 85; refine (hex _).mono ?_; rintro e w' ⟨rfl, hb⟩; (try replace hb := aft2 hb (by assumption)); obtain ⟨hc, hf, hs1, hs2, hs3, hs4⟩ := aftz hb))
      go_returns
      exact ret_mk (by repeat (first | exact Below.refl _ _ | (with_reducible assumption) | refine bel_alloc ?_ _ | refine bel_drew ?_ | refine bel_drewN ?_ _ | refine Below.setCell ?_ (by dsimp only; omega) _ | refine bel_trans (by assumption) ?_))
    · obtain ⟨k, k0, h1, h2⟩ := root_exI (n := a * a - 4 * b) (by omega)
      have hex := fun w => exactRoot_any _ k w (by omega) (by omega) k0 h1 h2
      have hsq := sqB_root k0 h1 h2
      by_cases he : k * k = a * a - 4 * b
      · have hv : ttI a b = 4 := by rw [HT.out, htw, if_pos rfl, hsq, if_pos (by simp [he])]
        rw [hv]
        simp only [if_pos he] at hex
        clear hv h1 h2 hsq he hn
        go_enter Try.func47, Try.ntmps47
        go_wp2_with (first | (go_at_call 84; refine (isTwoCurve_any _ _ _).mono ?_; rintro e w' ⟨rfl, hb⟩; (try replace hb := aft2 hb (by assumption)); obtain ⟨hc, hf, hs1, hs2, hs3, hs4⟩ := aftz hb) | (go_at_call 85; refine (hex _).mono ?_; rintro e w' ⟨rfl, hb⟩; (try replace hb := aft2 hb (by assumption)); obtain ⟨hc, hf, hs1, hs2, hs3, hs4⟩ := aftz hb))
        go_returns
        exact ret_mk (by repeat (first | exact Below.refl _ _ | (with_reducible assumption) | refine bel_alloc ?_ _ | refine bel_drew ?_ | refine bel_drewN ?_ _ | refine Below.setCell ?_ (by dsimp only; omega) _ | refine bel_trans (by assumption) ?_))
      · have hv : ttI a b = 2 := by rw [HT.out, htw, if_pos rfl, hsq, if_neg (by simp [he])]
        rw [hv]
        simp only [if_neg he] at hex
        clear hv h1 h2 hsq he hn
        go_enter Try.func47, Try.ntmps47
        go_wp2_with (first | (go_at_call 84; refine (isTwoCurve_any _ _ _).mono ?_; rintro e w' ⟨rfl, hb⟩; (try replace hb := aft2 hb (by assumption)); obtain ⟨hc, hf, hs1, hs2, hs3, hs4⟩ := aftz hb) | (go_at_call 85; refine (hex _).mono ?_; rintro e w' ⟨rfl, hb⟩; (try replace hb := aft2 hb (by assumption)); obtain ⟨hc, hf, hs1, hs2, hs3, hs4⟩ := aftz hb))
        go_returns
        exact ret_mk (by repeat (first | exact Below.refl _ _ | (with_reducible assumption) | refine bel_alloc ?_ _ | refine bel_drew ?_ | refine bel_drewN ?_ _ | refine Below.setCell ?_ (by dsimp only; omega) _ | refine bel_trans (by assumption) ?_))
theorem sTwoTorsion_any (a b : Int) (w : World) :
    Calls Try.prog 45 #[.agg #[.int .i64 a, .int .i64 b]] w (Ret (.tuple #[.int .i64 (ttI a b), .bool (twoB a b)]) w) := by
  have htt : ttI a b = if twoB a b = true then (if sqB (a * a - 4 * b) = true then 4 else 2) else 0 := rfl
  have HT := Lib.hid htt; clear htt
  cases htw : twoB a b
  · have hv : ttI a b = 0 := by rw [HT.out, htw, if_neg (by simp)]
    rw [hv]; clear hv
    go_enter Try.func45, Try.ntmps45
    go_wp2_with (go_at_call 82; refine (tcGood_any _ _ _).mono ?_; rintro e w' ⟨rfl, hb⟩; (try replace hb := aft2 hb (by assumption)); obtain ⟨hc, hf, hs1, hs2, hs3, hs4⟩ := aftz hb)
    go_returns
    exact ret_mk (by repeat (first | exact Below.refl _ _ | (with_reducible assumption) | refine bel_alloc ?_ _ | refine bel_drew ?_ | refine bel_drewN ?_ _ | refine Below.setCell ?_ (by dsimp only; omega) _ | refine bel_trans (by assumption) ?_))
  · obtain ⟨a1, a2, b1, b2, b3, b4⟩ := twoB_true.1 htw
    have aa := mul_bd (a := a) (b := a) (A := 300) (B := 300) a1 a2 a1 a2
    by_cases hn : a * a - 4 * b < 0
    · have hv : ttI a b = 2 := by rw [HT.out, htw, if_pos rfl, sqB_neg hn]; rfl
      rw [hv]; clear hv
      have hpos : ¬ 0 < a * a - 4 * b := by omega
      go_enter Try.func45, Try.ntmps45
      go_wp2_with (go_at_call 82; refine (tcGood_any _ _ _).mono ?_; rintro e w' ⟨rfl, hb⟩; (try replace hb := aft2 hb (by assumption)); obtain ⟨hc, hf, hs1, hs2, hs3, hs4⟩ := aftz hb)
      go_returns
      exact ret_mk (by repeat (first | exact Below.refl _ _ | (with_reducible assumption) | refine bel_alloc ?_ _ | refine bel_drew ?_ | refine bel_drewN ?_ _ | refine Below.setCell ?_ (by dsimp only; omega) _ | refine bel_trans (by assumption) ?_))
    · obtain ⟨k, k0, h1, h2⟩ := root_exI (n := a * a - 4 * b) (by omega)
      have hfs := fun w => frSquare_any _ k w (by omega) (by omega) k0 h1 h2
      have hsq := sqB_root k0 h1 h2
      have hpos : 0 < a * a - 4 * b := by omega
      cases he : (k * k == a * a - 4 * b)
      · have hv : ttI a b = 2 := by rw [HT.out, htw, if_pos rfl, hsq, he]; rfl
        rw [hv]
        rw [he] at hfs
        clear hv h1 h2 hsq he hn
        go_enter Try.func45, Try.ntmps45
        go_wp2_with (first | (go_at_call 82; refine (tcGood_any _ _ _).mono ?_; rintro e w' ⟨rfl, hb⟩; (try replace hb := aft2 hb (by assumption)); obtain ⟨hc, hf, hs1, hs2, hs3, hs4⟩ := aftz hb) | (go_at_call 83; refine (hfs _).mono ?_; rintro e w' ⟨rfl, hb⟩; (try replace hb := aft2 hb (by assumption)); obtain ⟨hc, hf, hs1, hs2, hs3, hs4⟩ := aftz hb))
        go_returns
        exact ret_mk (by repeat (first | exact Below.refl _ _ | (with_reducible assumption) | refine bel_alloc ?_ _ | refine bel_drew ?_ | refine bel_drewN ?_ _ | refine Below.setCell ?_ (by dsimp only; omega) _ | refine bel_trans (by assumption) ?_))
      · have hv : ttI a b = 4 := by rw [HT.out, htw, if_pos rfl, hsq, he]; rfl
        rw [hv]
        rw [he] at hfs
        clear hv h1 h2 hsq he hn
        go_enter Try.func45, Try.ntmps45
        go_wp2_with (first | (go_at_call 82; refine (tcGood_any _ _ _).mono ?_; rintro e w' ⟨rfl, hb⟩; (try replace hb := aft2 hb (by assumption)); obtain ⟨hc, hf, hs1, hs2, hs3, hs4⟩ := aftz hb) | (go_at_call 83; refine (hfs _).mono ?_; rintro e w' ⟨rfl, hb⟩; (try replace hb := aft2 hb (by assumption)); obtain ⟨hc, hf, hs1, hs2, hs3, hs4⟩ := aftz hb))
        go_returns
        exact ret_mk (by repeat (first | exact Below.refl _ _ | (with_reducible assumption) | refine bel_alloc ?_ _ | refine bel_drew ?_ | refine bel_drewN ?_ _ | refine Below.setCell ?_ (by dsimp only; omega) _ | refine bel_trans (by assumption) ?_))
end Go.Proofs.Ytieaihlckmfnmaa
