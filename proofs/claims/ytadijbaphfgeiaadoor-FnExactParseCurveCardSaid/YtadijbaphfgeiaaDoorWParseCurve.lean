/- The walk of FnExactParseCurve: where the library's variables lie as the text lays them. -/
import Derived.Test.YtadijbaphfgeiaaDoorPc
namespace Go.Proofs.YtadijbaphfgeiaaDoor
open Go.RowKit
theorem pcV_parts (s : ByteArray) : ∃ x y ok, pcV s = .tuple #[.agg #[.int .i64 x, .int .i64 y], .bool ok] := by
  unfold pcV
  split
  · split
    · exact ⟨_, _, _, rfl⟩
    · exact ⟨_, _, _, rfl⟩
  · exact ⟨_, _, _, rfl⟩
theorem iParseCurve_any (s : ByteArray) (w : World) (hs : s.size ≤ 1048576) (ht : LibT w) :
    Calls Tryd.prog 6 #[.string s] w (Ret (pcV s) w) := by
  have hp := fun w h => parseCurve_any s w hs h
  obtain ⟨x, y, ok, hv⟩ := pcV_parts s
  rw [hv] at hp ⊢
  clear hv
  have HP := Lib.hid hp; clear hp
  have HT := Lib.hid ht; clear ht
  go_enter Tryd.func6, Tryd.ntmps6
  go_wp2_with fail
  refine (HP.out _ (HT.out.keep (by repeat (first | exact Below.refl _ _ | (with_reducible assumption) | refine bel_alloc ?_ _ | refine bel_drew ?_ | refine bel_drewN ?_ _ | refine Below.setCell ?_ (by dsimp only; omega) _ | refine bel_trans (by assumption) ?_)))).mono ?_; rintro e w1 ⟨rfl, hb1⟩
  obtain ⟨hc1, hf1⟩ := aft hb1
  go_wp2_with fail
  refine bodyPost_ret (by simp (maxDischargeDepth := 3) [results, Tryd.results6, go_sem, *]; try rfl) rfl ?_
  exact ret_mk (by repeat (first | exact Below.refl _ _ | (with_reducible assumption) | refine bel_alloc ?_ _ | refine bel_drew ?_ | refine bel_drewN ?_ _ | refine Below.setCell ?_ (by dsimp only; omega) _ | refine bel_trans (by assumption) ?_))
theorem sParseCurve_any (s : ByteArray) (w : World) (hs : s.size ≤ 1048576) :
    Calls Tryd.prog 5 #[.string s] w (Ret (pcV s) w) := by
  have hp := fun w => ecParse_any s w hs
  obtain ⟨x, y, ok, hv⟩ := pcV_parts s
  rw [hv] at hp ⊢
  clear hv
  have HP := Lib.hid hp; clear hp
  go_enter Tryd.func5, Tryd.ntmps5
  go_wp2_with fail
  refine (HP.out _).mono ?_; rintro e w1 ⟨rfl, hb1⟩
  obtain ⟨hc1, hf1⟩ := aft hb1
  go_wp2_with fail
  refine bodyPost_ret (by simp (maxDischargeDepth := 3) [results, Tryd.results5, go_sem, *]; try rfl) rfl ?_
  exact ret_mk (by repeat (first | exact Below.refl _ _ | (with_reducible assumption) | refine bel_alloc ?_ _ | refine bel_drew ?_ | refine bel_drewN ?_ _ | refine Below.setCell ?_ (by dsimp only; omega) _ | refine bel_trans (by assumption) ?_))
end Go.Proofs.YtadijbaphfgeiaaDoor
namespace Go.Proofs.YtadijbaphfgeiaaDoor.fnExactParseCurve
open Go.RowKit
theorem walk (s : ByteArray) (w : World) (ht : LibT w) :
    Calls Tryd.prog 3 #[.string s] w (Ret (.bool true) w) := by
  by_cases hs : s.size ≤ 1048576
  · have hs' : ¬ (1048576 : Int) < (s.size : Int) := by omega
    have hi := fun w h => iParseCurve_any s w hs h
    have hx := fun w => sParseCurve_any s w hs
    obtain ⟨x, y, ok, hv⟩ := pcV_parts s
    rw [hv] at hi hx
    clear hv
    have HI := Lib.hid hi; clear hi
    have HX := Lib.hid hx; clear hx
    have HT := Lib.hid ht; clear ht
    go_enter Tryd.func3, Tryd.ntmps3
    go_wp2_with fail
    refine (HX.out _).mono ?_; rintro e w1 ⟨rfl, hb1⟩
    go_wp2_with fail
    have c5 : w1.heap.size < (w1.alloc (.cells #[.int .i64 x, .int .i64 y] 23)).heap.size := by simp
    have c6 : (w1.alloc (.cells #[.int .i64 x, .int .i64 y] 23)).cell? ⟨w1.heap.size, 0, none⟩ = some (.int .i64 x) := by simp [go_sem]
    have c7 : (w1.alloc (.cells #[.int .i64 x, .int .i64 y] 23)).cell? ⟨w1.heap.size, 1, none⟩ = some (.int .i64 y) := by simp [go_sem]
    have hb2 := bel_alloc hb1 (.cells #[.int .i64 x, .int .i64 y] 23)
    generalize w1.alloc (.cells #[.int .i64 x, .int .i64 y] 23) = w2 at *
    generalize w1.heap.size = B0 at *
    clear hb1
    refine (HI.out _ (HT.out.keep hb2)).mono ?_; rintro e w3 ⟨rfl, hb3⟩
    have d6 := (hb3.cell (p := ⟨B0, 0, none⟩) c5).trans c6
    have d7 := (hb3.cell (p := ⟨B0, 1, none⟩) c5).trans c7
    have d5 := Nat.lt_of_lt_of_le c5 hb3.size
    have hne : B0 ≠ w3.heap.size := by omega
    have hb4 := bel_trans hb3 hb2
    clear c5 c6 c7 hb3 hb2
    go_wp2_with fail
    refine (eqCurve_same _ _ _).mono ?_; rintro e w5 ⟨rfl, hb5⟩
    go_wp2_with fail
    go_ret
    exact ret_eq (by rfl) (by repeat (first | exact Below.refl _ _ | (with_reducible assumption) | refine bel_alloc ?_ _ | refine bel_drew ?_ | refine bel_drewN ?_ _ | refine Below.setCell ?_ (by dsimp only; omega) _ | refine bel_trans (by assumption) ?_))
  · have hs' : (1048576 : Int) < (s.size : Int) := by omega
    go_enter Tryd.func3, Tryd.ntmps3
    go_wp2_with fail
    go_ret
    exact ret_eq (by rfl) (by repeat (first | exact Below.refl _ _ | (with_reducible assumption) | refine bel_alloc ?_ _ | refine bel_drew ?_ | refine bel_drewN ?_ _ | refine Below.setCell ?_ (by dsimp only; omega) _ | refine bel_trans (by assumption) ?_))
end Go.Proofs.YtadijbaphfgeiaaDoor.fnExactParseCurve
