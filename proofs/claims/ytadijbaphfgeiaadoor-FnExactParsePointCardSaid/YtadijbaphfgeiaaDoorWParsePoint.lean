/- The walk of FnExactParsePoint: where the library's variables lie as the text lays them. -/
import Derived.Test.YtadijbaphfgeiaaDoorQf
import Derived.Test.YtadijbaphfgeiaaDoorCur
namespace Go.Proofs.YtadijbaphfgeiaaDoor
open Go.RowKit
theorem ppt_off {a b : Int} {s : ByteArray} (h : curveB a b = false) : ppt a b s = .tuple #[.agg #[.int .i64 0, .int .i64 0, .int .i64 0], .bool false] := ppt_no fun x y e h1 _ => by
  unfold pointB at h1
  rw [h] at h1
  cases h1
set_option maxHeartbeats 2000000 in
theorem iParsePoint_any (a b : Int) (s : ByteArray) (w : World) (hs : s.size ≤ 1048576) (ht : LibT w) :
    Calls Tryd.prog 10 #[.agg #[.int .i64 a, .int .i64 b], .string s] w (Ret (ppt a b s) w) := by
  cases hcur : curveB a b
  · rw [ppt_off hcur]
    have hc := fun w => isCurve_any a b w
    rw [hcur] at hc
    have HC := Lib.hid hc; clear hc hcur
    go_enter Tryd.func10, Tryd.ntmps10
    go_wp2_with (go_at_call 16; refine (HC.out _).mono ?_; rintro e w' ⟨rfl, hb⟩; (try replace hb := aft2 hb (by assumption)); obtain ⟨hc, hf, hs1, hs2, hs3, hs4⟩ := aftz hb)
    refine bodyPost_ret (by simp (maxDischargeDepth := 3) [results, Tryd.results10, go_sem, *]; try rfl) rfl ?_
    exact ret_eq (by rfl) (by repeat (first | exact Below.refl _ _ | (with_reducible assumption) | refine bel_alloc ?_ _ | refine bel_drew ?_ | refine bel_drewN ?_ _ | refine Below.setCell ?_ (by dsimp only; omega) _ | refine bel_trans (by assumption) ?_))
  · have hp := fun w h => parsePoint_any a b s w hcur hs h
    obtain ⟨x, y, e, ok, hv, _⟩ := ppt_parts a b s
    rw [hv] at hp ⊢
    have hc := fun w => isCurve_any a b w
    rw [hcur] at hc
    clear hv hcur
    have HC := Lib.hid hc; clear hc
    have HP := Lib.hid hp; clear hp
    have HT := Lib.hid ht; clear ht
    go_enter Tryd.func10, Tryd.ntmps10
    go_wp2_with (go_at_call 16; refine (HC.out _).mono ?_; rintro e w' ⟨rfl, hb⟩; (try replace hb := aft2 hb (by assumption)); obtain ⟨hc, hf, hs1, hs2, hs3, hs4⟩ := aftz hb)
    refine (HP.out _ (HT.out.keep (by repeat (first | exact Below.refl _ _ | (with_reducible assumption) | refine bel_alloc ?_ _ | refine bel_drew ?_ | refine bel_drewN ?_ _ | refine Below.setCell ?_ (by dsimp only; omega) _ | refine bel_trans (by assumption) ?_)))).mono ?_; rintro e w1 ⟨rfl, hb1⟩
    replace hb1 := aft2 hb1 (by assumption)
    obtain ⟨hc1, hf1, hg1, hg2, hg3, hg4⟩ := aftz hb1
    go_wp2_with fail
    refine bodyPost_ret (by simp (maxDischargeDepth := 3) [results, Tryd.results10, go_sem, *]; try rfl) rfl ?_
    exact ret_mk (by repeat (first | exact Below.refl _ _ | (with_reducible assumption) | refine bel_alloc ?_ _ | refine bel_drew ?_ | refine bel_drewN ?_ _ | refine Below.setCell ?_ (by dsimp only; omega) _ | refine bel_trans (by assumption) ?_))
set_option maxHeartbeats 2000000 in
theorem sParsePoint_any (a b : Int) (s : ByteArray) (w : World) (hs : s.size ≤ 1048576) :
    Calls Tryd.prog 8 #[.agg #[.int .i64 a, .int .i64 b], .string s] w (Ret (ppt a b s) w) := by
  cases hcur : curveB a b
  · rw [ppt_off hcur]
    have hc := fun w => ecGood_any a b w
    rw [hcur] at hc
    have HC := Lib.hid hc; clear hc hcur
    go_enter Tryd.func8, Tryd.ntmps8
    go_wp2_with (go_at_call 14; refine (HC.out _).mono ?_; rintro e w' ⟨rfl, hb⟩; (try replace hb := aft2 hb (by assumption)); obtain ⟨hc, hf, hs1, hs2, hs3, hs4⟩ := aftz hb)
    refine bodyPost_ret (by simp (maxDischargeDepth := 3) [results, Tryd.results8, go_sem, *]; try rfl) rfl ?_
    exact ret_eq (by rfl) (by repeat (first | exact Below.refl _ _ | (with_reducible assumption) | refine bel_alloc ?_ _ | refine bel_drew ?_ | refine bel_drewN ?_ _ | refine Below.setCell ?_ (by dsimp only; omega) _ | refine bel_trans (by assumption) ?_))
  · have hp := fun w => ptParse_any a b s w hcur hs
    obtain ⟨x, y, e, ok, hv, _⟩ := ppt_parts a b s
    rw [hv] at hp ⊢
    have hc := fun w => ecGood_any a b w
    rw [hcur] at hc
    clear hv hcur
    have HC := Lib.hid hc; clear hc
    have HP := Lib.hid hp; clear hp
    go_enter Tryd.func8, Tryd.ntmps8
    go_wp2_with (go_at_call 14; refine (HC.out _).mono ?_; rintro e w' ⟨rfl, hb⟩; (try replace hb := aft2 hb (by assumption)); obtain ⟨hc, hf, hs1, hs2, hs3, hs4⟩ := aftz hb)
    refine (HP.out _).mono ?_; rintro e w1 ⟨rfl, hb1⟩
    replace hb1 := aft2 hb1 (by assumption)
    obtain ⟨hc1, hf1, hg1, hg2, hg3, hg4⟩ := aftz hb1
    go_wp2_with fail
    refine bodyPost_ret (by simp (maxDischargeDepth := 3) [results, Tryd.results8, go_sem, *]; try rfl) rfl ?_
    exact ret_mk (by repeat (first | exact Below.refl _ _ | (with_reducible assumption) | refine bel_alloc ?_ _ | refine bel_drew ?_ | refine bel_drewN ?_ _ | refine Below.setCell ?_ (by dsimp only; omega) _ | refine bel_trans (by assumption) ?_))
end Go.Proofs.YtadijbaphfgeiaaDoor
namespace Go.Proofs.YtadijbaphfgeiaaDoor.fnExactParsePoint
open Go.RowKit
set_option maxHeartbeats 2000000 in
theorem walk (a b : Int) (s : ByteArray) (w : World) (ht : LibT w) :
    Calls Tryd.prog 4 #[.agg #[.int .i64 a, .int .i64 b], .string s] w (Ret (.bool true) w) := by
  by_cases hs : s.size ≤ 1048576
  · have hs' : ¬ (1048576 : Int) < (s.size : Int) := by omega
    have hi := fun w h => iParsePoint_any a b s w hs h
    have hx := fun w => sParsePoint_any a b s w hs
    obtain ⟨x, y, e, ok, hv, _⟩ := ppt_parts a b s
    rw [hv] at hi hx
    clear hv
    have HI := Lib.hid hi; clear hi
    have HX := Lib.hid hx; clear hx
    have HT := Lib.hid ht; clear ht
    go_enter Tryd.func4, Tryd.ntmps4
    go_wp2_with (go_at_call 9; refine (toCurve_any _ _ _).mono ?_; rintro e w' ⟨rfl, hb⟩; (try replace hb := aft2 hb (by assumption)); obtain ⟨hc, hf, hs1, hs2, hs3, hs4⟩ := aftz hb)
    refine (HX.out _).mono ?_; rintro e w1 ⟨rfl, hb1⟩
    replace hb1 := aft2 hb1 (by assumption)
    obtain ⟨hc1, hf1, hg1, hg2, hg3, hg4⟩ := aftz hb1
    go_wp2_with (go_at_call 9; refine (toCurve_any _ _ _).mono ?_; rintro e w' ⟨rfl, hb⟩; (try replace hb := aft2 hb (by assumption)); obtain ⟨hc, hf, hs1, hs2, hs3, hs4⟩ := aftz hb)
    refine (HI.out _ (HT.out.keep (by repeat (first | exact Below.refl _ _ | (with_reducible assumption) | refine bel_alloc ?_ _ | refine bel_drew ?_ | refine bel_drewN ?_ _ | refine Below.setCell ?_ (by dsimp only; omega) _ | refine bel_trans (by assumption) ?_)))).mono ?_; rintro e w3 ⟨rfl, hb3⟩
    replace hb3 := aft2 hb3 (by assumption)
    obtain ⟨hc1, hf1, hg1, hg2, hg3, hg4⟩ := aftz hb3
    go_wp2_with (go_at_call 11; refine (eqPoint_same _ _ _ _).mono ?_; rintro e w' ⟨rfl, hb⟩; (try replace hb := aft2 hb (by assumption)); obtain ⟨hc, hf, hs1, hs2, hs3, hs4⟩ := aftz hb)
    go_ret
    exact ret_eq (by rfl) (by repeat (first | exact Below.refl _ _ | (with_reducible assumption) | refine bel_alloc ?_ _ | refine bel_drew ?_ | refine bel_drewN ?_ _ | refine Below.setCell ?_ (by dsimp only; omega) _ | refine bel_trans (by assumption) ?_))
  · have hs' : (1048576 : Int) < (s.size : Int) := by omega
    go_enter Tryd.func4, Tryd.ntmps4
    go_wp2_with fail
    go_ret
    exact ret_eq (by rfl) (by repeat (first | exact Below.refl _ _ | (with_reducible assumption) | refine bel_alloc ?_ _ | refine bel_drew ?_ | refine bel_drewN ?_ _ | refine Below.setCell ?_ (by dsimp only; omega) _ | refine bel_trans (by assumption) ?_))
end Go.Proofs.YtadijbaphfgeiaaDoor.fnExactParsePoint
