/- The walk of FnExactParseCurve: where the library's variables lie as the text lays them. -/
import Derived.Test.YtpjcfnjagknocaaGreatDoorPc
namespace Go.Proofs.YtpjcfnjagknocaaGreatDoor
open Go.RowKit
theorem pcV_parts (s : ByteArray) : ∃ x y ok, pcV s = .tuple #[.agg #[.int .i64 x, .int .i64 y], .bool ok] := by
  unfold pcV
  split
  · split
    · exact ⟨_, _, _, rfl⟩
    · exact ⟨_, _, _, rfl⟩
  · exact ⟨_, _, _, rfl⟩
theorem iParseCurve_any (s : ByteArray) (w : World) (hs : s.size ≤ 1048576) (ht : LibT w) :
    Calls Tryz.prog 22 #[.string s] w (Ret (pcV s) w) := by
  have hp := fun w h => parseCurve_any s w hs h
  obtain ⟨x, y, ok, hv⟩ := pcV_parts s
  rw [hv] at hp ⊢
  clear hv
  have HP := Lib.hid hp; clear hp
  have HT := Lib.hid ht; clear ht
  go_enter Tryz.func22, Tryz.ntmps22
  go_wp2_with fail
  refine (HP.out _ (HT.out.keep (by repeat (first | exact Below.refl _ _ | (with_reducible assumption) | refine bel_alloc ?_ _ | refine bel_drew ?_ | refine bel_drewN ?_ _ | refine Below.setCell ?_ (by dsimp only; omega) _ | refine bel_trans (by assumption) ?_)))).mono ?_; rintro e w1 ⟨rfl, hb1⟩
  obtain ⟨hc1, hf1⟩ := aft hb1
  go_wp2_with fail
  refine bodyPost_ret (by simp (maxDischargeDepth := 3) [results, Tryz.results22, go_sem, *]; try rfl) rfl ?_
  exact ret_mk (by repeat (first | exact Below.refl _ _ | (with_reducible assumption) | refine bel_alloc ?_ _ | refine bel_drew ?_ | refine bel_drewN ?_ _ | refine Below.setCell ?_ (by dsimp only; omega) _ | refine bel_trans (by assumption) ?_))
theorem sParseCurve_any (s : ByteArray) (w : World) (hs : s.size ≤ 1048576) :
    Calls Tryz.prog 24 #[.string s] w (Ret (pcV s) w) := by
  have hp := fun w => ecParse_any s w hs
  obtain ⟨x, y, ok, hv⟩ := pcV_parts s
  rw [hv] at hp ⊢
  clear hv
  have HP := Lib.hid hp; clear hp
  go_enter Tryz.func24, Tryz.ntmps24
  go_wp2_with fail
  refine (HP.out _).mono ?_; rintro e w1 ⟨rfl, hb1⟩
  obtain ⟨hc1, hf1⟩ := aft hb1
  go_wp2_with fail
  refine bodyPost_ret (by simp (maxDischargeDepth := 3) [results, Tryz.results24, go_sem, *]; try rfl) rfl ?_
  exact ret_mk (by repeat (first | exact Below.refl _ _ | (with_reducible assumption) | refine bel_alloc ?_ _ | refine bel_drew ?_ | refine bel_drewN ?_ _ | refine Below.setCell ?_ (by dsimp only; omega) _ | refine bel_trans (by assumption) ?_))
end Go.Proofs.YtpjcfnjagknocaaGreatDoor
namespace Go.Proofs.YtpjcfnjagknocaaGreatDoor.fnExactParseCurve
open Go.RowKit
end Go.Proofs.YtpjcfnjagknocaaGreatDoor.fnExactParseCurve
