/- Yl: contracts: wholes divided, laid out of numbers, compared by the laws. No conditions. -/
import Derived.Test.YtnhlcgbknkdbiaaYk
namespace Go.Proofs.Ytnhlcgbknkdbiaa
open Go.RowKit

theorem iIsWhole_any (v : Value) (n : Bool) (xs : List Int) (w : World) (hv : RW w v n xs) (hl : xs.length ≤ 1000) :
    Calls Try.prog 14 #[v] w (Ret (.bool (goodW n xs)) w) := by
  have hg := fun w' (hb : Below w.heap.size w w') => isWhole_any v n xs w' (hv.keep hb) (by omega)
  generalize goodW n xs = g at *
  obtain ⟨ad, cap, rfl, _, _⟩ := hv
  have HG := Lib.hid hg; clear hg
  go_enter Try.func14, Try.ntmps14
  go_wp2_with fail
  refine (HG.out _ (by repeat (first | exact Below.refl _ _ | (with_reducible assumption) | refine bel_alloc ?_ _ | refine bel_drew ?_ | refine bel_drewN ?_ _ | refine Below.setCell ?_ (by dsimp only; omega) _ | refine bel_trans (by assumption) ?_))).mono ?_; rintro e w1 ⟨rfl, hb1⟩
  obtain ⟨hc1, hf1⟩ := aft hb1
  go_wp2_with fail
  go_ret
  exact ret_eq rfl (by repeat (first | exact Below.refl _ _ | (with_reducible assumption) | refine bel_alloc ?_ _ | refine bel_drew ?_ | refine bel_drewN ?_ _ | refine Below.setCell ?_ (by dsimp only; omega) _ | refine bel_trans (by assumption) ?_))
set_option maxHeartbeats 2000000 in
theorem pSame_yes (v u : Value) (z : Int) (w : World) (hv : WV w v z) (hu : WV w u z) :
    Calls Try.prog 13 #[v, u] w (Ret (.bool true) w) := by
  obtain ⟨ad, cap, rfl, hr, _⟩ := hv
  obtain ⟨ad', cap', rfl, hr', _⟩ := hu
  have hs := fun w' (hb : Below w.heap.size w w') => sameInts_any _ _ _ _ w' (hr.keep hb) (hr'.keep hb)
  rw [decide_eq_true rfl] at hs
  have HS := Lib.hid hs; clear hs hr hr'
  generalize decide (z < 0) = b
  generalize (digs z.natAbs).length = l at *
  have hbb : (b == b) = true := by cases b <;> rfl
  go_enter Try.func13, Try.ntmps13
  go_wp2_with fail
  refine (HS.out _ (by repeat (first | exact Below.refl _ _ | (with_reducible assumption) | refine bel_alloc ?_ _ | refine bel_drew ?_ | refine bel_drewN ?_ _ | refine Below.setCell ?_ (by dsimp only; omega) _ | refine bel_trans (by assumption) ?_))).mono ?_; rintro e w1 ⟨rfl, hb1⟩
  obtain ⟨hc1, hf1⟩ := aft hb1
  go_wp2_with fail
  go_ret
  exact ret_eq rfl (by repeat (first | exact Below.refl _ _ | (with_reducible assumption) | refine bel_alloc ?_ _ | refine bel_drew ?_ | refine bel_drewN ?_ _ | refine Below.setCell ?_ (by dsimp only; omega) _ | refine bel_trans (by assumption) ?_))
set_option maxHeartbeats 2000000 in
theorem sWholeOf_any (k : Int) (w : World) :
    Calls Try.prog 18 #[.int .i64 k] w (RetOk (inB k (-1000000000000000) 1000000000000000) k w) := by
  cases hin : inB k (-1000000000000000) 1000000000000000
  · go_enter Try.func18, Try.ntmps18
    go_wp2_with (go_at_call 53; refine (l1In_any _ _ _ _).mono ?_; rintro e w' ⟨rfl, rfl⟩)
    refine bodyPost_ret (by simp (maxDischargeDepth := 3) [results, Try.results18, go_sem, *]; try rfl) rfl ?_
    exact ⟨_, rfl, (by repeat (first | exact Below.refl _ _ | (with_reducible assumption) | refine bel_alloc ?_ _ | refine bel_drew ?_ | refine bel_drewN ?_ _ | refine Below.setCell ?_ (by dsimp only; omega) _ | refine bel_trans (by assumption) ?_)), (zero_wo _ 0).wv⟩
  · obtain ⟨k0, k1⟩ := inB_true.1 hin
    have hof := fun w => bgOf_any k w (by omega) (by omega)
    have HOF := Lib.hid hof; clear hof
    go_enter Try.func18, Try.ntmps18
    go_wp2_with (go_at_call 53; refine (l1In_any _ _ _ _).mono ?_; rintro e w' ⟨rfl, rfl⟩)
    refine (HOF.out _).mono ?_; rintro e w1 ⟨v, rfl, hb1, ho⟩
    have HV := Lib.hid ho
    obtain ⟨ad1, cap1, hv, _⟩ := ho
    generalize decide (k < 0) = b1 at hv
    generalize (digs k.natAbs).length = l1 at hv
    subst hv
    obtain ⟨hc1, hf1⟩ := aft hb1
    go_wp2_with fail
    refine bodyPost_ret (by simp (maxDischargeDepth := 3) [results, Try.results18, go_sem, *]; try rfl) rfl ?_
    exact ⟨_, rfl, (by repeat (first | exact Below.refl _ _ | (with_reducible assumption) | refine bel_alloc ?_ _ | refine bel_drew ?_ | refine bel_drewN ?_ _ | refine Below.setCell ?_ (by dsimp only; omega) _ | refine bel_trans (by assumption) ?_)), by rw [if_pos rfl]; exact ((HV.out.setFar (by simp) _ _).setFar (by simp) _ _).wv⟩
/-- returned a quotient, a rest and whether there is one. -/
def RetDiv (ok : Bool) (q r : Int) (w : World) (e : Ending) (w' : World) : Prop := ∃ v, e = .returned (.tuple #[v, .int .i64 (if ok = true then r else 0), .bool ok]) ∧ Below w.heap.size w w' ∧ WV w' v (if ok = true then q else 0)
theorem bgSmall_any (k : Int) (w : World) : Calls Try.prog 51 #[.int .i64 k] w fun e w' => e = .returned (.bool (inB k 1 1000000000000)) ∧ w = w' := by
  go_enter Try.func51, Try.ntmps51
  go_wp2_with (go_at_call 53; refine (l1In_any _ _ _ _).mono ?_; rintro e w' ⟨rfl, rfl⟩)
  go_ret
  exact ⟨rfl, rfl⟩
theorem div_len {z k : Int} (h : (digs z.natAbs).length ≤ 400) : (digs (z / k).natAbs).length ≤ 400 := Nat.le_trans (digs_mono (Int.natAbs_ediv_le_natAbs z k)) h
set_option maxHeartbeats 4000000 in
theorem iDivideWhole_any (v : Value) (n : Bool) (xs : List Int) (k : Int) (w : World) (hv : RW w v n xs) (hl : xs.length ≤ 1000) :
    Calls Try.prog 16 #[v, .int .i64 k] w (RetDiv (goodW n xs && inB k 1 1000000000000) (valW n xs / k) (valW n xs % k) w) := by
  have hg := fun w' (hb : Below w.heap.size w w') => isWhole_any v n xs w' (hv.keep hb) (by omega)
  have hwv := fun (h : goodW n xs = true) => hv.wv h
  have hlv := fun (h : goodW n xs = true) => (good_val h).2.2
  generalize valW n xs = z at *
  generalize goodW n xs = g at *
  obtain ⟨ad, cap, rfl, _, _⟩ := hv
  generalize xs.length = la at *
  have HG := Lib.hid hg; clear hg
  cases g
  · clear hwv hlv
    go_enter Try.func16, Try.ntmps16
    go_wp2_with fail
    refine (HG.out _ (by repeat (first | exact Below.refl _ _ | (with_reducible assumption) | refine bel_alloc ?_ _ | refine bel_drew ?_ | refine bel_drewN ?_ _ | refine Below.setCell ?_ (by dsimp only; omega) _ | refine bel_trans (by assumption) ?_))).mono ?_; rintro e w1 ⟨rfl, hb1⟩
    obtain ⟨hc1, hf1⟩ := aft hb1
    go_wp2_with fail
    refine bodyPost_ret (by simp (maxDischargeDepth := 3) [results, Try.results16, go_sem, *]; try rfl) rfl ?_
    exact ⟨_, rfl, (by repeat (first | exact Below.refl _ _ | (with_reducible assumption) | refine bel_alloc ?_ _ | refine bel_drew ?_ | refine bel_drewN ?_ _ | refine Below.setCell ?_ (by dsimp only; omega) _ | refine bel_trans (by assumption) ?_)), (zero_wo _ 0).wv⟩
  cases hin : inB k 1 1000000000000
  · clear hwv hlv
    go_enter Try.func16, Try.ntmps16
    go_wp2_with fail
    refine (HG.out _ (by repeat (first | exact Below.refl _ _ | (with_reducible assumption) | refine bel_alloc ?_ _ | refine bel_drew ?_ | refine bel_drewN ?_ _ | refine Below.setCell ?_ (by dsimp only; omega) _ | refine bel_trans (by assumption) ?_))).mono ?_; rintro e w1 ⟨rfl, hb1⟩
    obtain ⟨hc1, hf1⟩ := aft hb1
    go_wp2_with (go_at_call 49; refine (inside_any _ _ _ _).mono ?_; rintro e w' ⟨rfl, rfl⟩)
    refine bodyPost_ret (by simp (maxDischargeDepth := 3) [results, Try.results16, go_sem, *]; try rfl) rfl ?_
    exact ⟨_, rfl, (by repeat (first | exact Below.refl _ _ | (with_reducible assumption) | refine bel_alloc ?_ _ | refine bel_drew ?_ | refine bel_drewN ?_ _ | refine Below.setCell ?_ (by dsimp only; omega) _ | refine bel_trans (by assumption) ?_)), (zero_wo _ 0).wv⟩
  obtain ⟨k0, k1⟩ := inB_true.1 hin
  have hdv := fun w' (hb : Below w.heap.size w w') => divWhole_any _ z k w' ((hwv rfl).keep hb) (by have := hlv rfl; omega) k0 k1
  generalize z / k = q at hdv ⊢
  generalize z % k = r at hdv ⊢
  have HDV := Lib.hid hdv; clear hdv hwv hlv
  go_enter Try.func16, Try.ntmps16
  go_wp2_with fail
  refine (HG.out _ (by repeat (first | exact Below.refl _ _ | (with_reducible assumption) | refine bel_alloc ?_ _ | refine bel_drew ?_ | refine bel_drewN ?_ _ | refine Below.setCell ?_ (by dsimp only; omega) _ | refine bel_trans (by assumption) ?_))).mono ?_; rintro e w1 ⟨rfl, hb1⟩
  obtain ⟨hc1, hf1⟩ := aft hb1
  go_wp2_with (go_at_call 49; refine (inside_any _ _ _ _).mono ?_; rintro e w' ⟨rfl, rfl⟩)
  refine (HDV.out _ (by repeat (first | exact Below.refl _ _ | (with_reducible assumption) | refine bel_alloc ?_ _ | refine bel_drew ?_ | refine bel_drewN ?_ _ | refine Below.setCell ?_ (by dsimp only; omega) _ | refine bel_trans (by assumption) ?_))).mono ?_; rintro e w2 ⟨v2, rfl, hb2, ho⟩
  have hz1 := hb1.size
  replace hb2 := aft2 hb2 hb1; clear hb1 hc1 hf1
  have HV := Lib.hid ho
  obtain ⟨ad1, cap1, hv1, _⟩ := ho
  generalize decide (q < 0) = b1 at hv1
  generalize (digs q.natAbs).length = l1 at hv1
  subst hv1
  obtain ⟨hc2, hf2, hs1, hs2, hs3, hs4⟩ := aftz hb2
  simp at hz1
  go_wp2_with fail
  refine bodyPost_ret (by simp (maxDischargeDepth := 3) [results, Try.results16, go_sem, *]; try rfl) rfl ?_
  exact ⟨_, rfl, (by repeat (first | exact Below.refl _ _ | (with_reducible assumption) | refine bel_alloc ?_ _ | refine bel_drew ?_ | refine bel_drewN ?_ _ | refine Below.setCell ?_ (by dsimp only; omega) _ | refine bel_trans (by assumption) ?_)), by show WV _ _ q; exact (((HV.out.setFar (by omega) _ _).setFar (by omega) _ _).keep (below_allocC _ _)).wv⟩
set_option maxHeartbeats 4000000 in
theorem sDivideWhole_any (v : Value) (n : Bool) (xs : List Int) (k : Int) (w : World) (hv : RW w v n xs) (hl : xs.length ≤ 1000) :
    Calls Try.prog 17 #[v, .int .i64 k] w (RetDiv (goodW n xs && inB k 1 1000000000000) (valW n xs / k) (valW n xs % k) w) := by
  have hg := fun w' (hb : Below w.heap.size w w') => bgGood_any v n xs w' (hv.keep hb) (by omega)
  have hwv := fun (h : goodW n xs = true) => hv.wv h
  have hlv := fun (h : goodW n xs = true) => (good_val h).2.2
  generalize valW n xs = z at *
  generalize goodW n xs = g at *
  obtain ⟨ad, cap, rfl, _, _⟩ := hv
  generalize xs.length = la at *
  have HG := Lib.hid hg; clear hg
  have hsm := fun w => bgSmall_any k w
  cases g
  · clear hwv hlv
    go_enter Try.func17, Try.ntmps17
    go_wp2_with fail
    refine (HG.out _ (by repeat (first | exact Below.refl _ _ | (with_reducible assumption) | refine bel_alloc ?_ _ | refine bel_drew ?_ | refine bel_drewN ?_ _ | refine Below.setCell ?_ (by dsimp only; omega) _ | refine bel_trans (by assumption) ?_))).mono ?_; rintro e w1 ⟨rfl, hb1⟩
    obtain ⟨hc1, hf1⟩ := aft hb1
    go_wp2_with fail
    refine bodyPost_ret (by simp (maxDischargeDepth := 3) [results, Try.results17, go_sem, *]; try rfl) rfl ?_
    exact ⟨_, rfl, (by repeat (first | exact Below.refl _ _ | (with_reducible assumption) | refine bel_alloc ?_ _ | refine bel_drew ?_ | refine bel_drewN ?_ _ | refine Below.setCell ?_ (by dsimp only; omega) _ | refine bel_trans (by assumption) ?_)), (zero_wo _ 0).wv⟩
  cases hin : inB k 1 1000000000000
  · rw [hin] at hsm
    have HSM := Lib.hid hsm; clear hwv hlv hsm
    go_enter Try.func17, Try.ntmps17
    go_wp2_with fail
    refine (HG.out _ (by repeat (first | exact Below.refl _ _ | (with_reducible assumption) | refine bel_alloc ?_ _ | refine bel_drew ?_ | refine bel_drewN ?_ _ | refine Below.setCell ?_ (by dsimp only; omega) _ | refine bel_trans (by assumption) ?_))).mono ?_; rintro e w1 ⟨rfl, hb1⟩
    obtain ⟨hc1, hf1⟩ := aft hb1
    go_wp2_with fail
    refine (HSM.out _).mono ?_; rintro e w' ⟨rfl, rfl⟩
    go_wp2_with fail
    refine bodyPost_ret (by simp (maxDischargeDepth := 3) [results, Try.results17, go_sem, *]; try rfl) rfl ?_
    exact ⟨_, rfl, (by repeat (first | exact Below.refl _ _ | (with_reducible assumption) | refine bel_alloc ?_ _ | refine bel_drew ?_ | refine bel_drewN ?_ _ | refine Below.setCell ?_ (by dsimp only; omega) _ | refine bel_trans (by assumption) ?_)), (zero_wo _ 0).wv⟩
  rw [hin] at hsm
  have HSM := Lib.hid hsm; clear hsm
  obtain ⟨k0, k1⟩ := inB_true.1 hin
  have hdv := fun w' (hb : Below w.heap.size w w') => bgOver_any _ z k w' ((hwv rfl).keep hb) (by have := hlv rfl; omega) k0 k1
  have hql := div_len (k := k) (hlv rfl)
  generalize z / k = q at hdv hql ⊢
  generalize z % k = r at hdv ⊢
  have hqg := fun v w (h : WV w v q) => bgGood_any v (decide (q < 0)) (digs q.natAbs) w h.rw (by omega)
  rw [good_of hql] at hqg
  have HQG := Lib.hid hqg
  have HDV := Lib.hid hdv; clear hdv hwv hlv hqg hql
  go_enter Try.func17, Try.ntmps17
  go_wp2_with fail
  refine (HG.out _ (by repeat (first | exact Below.refl _ _ | (with_reducible assumption) | refine bel_alloc ?_ _ | refine bel_drew ?_ | refine bel_drewN ?_ _ | refine Below.setCell ?_ (by dsimp only; omega) _ | refine bel_trans (by assumption) ?_))).mono ?_; rintro e w1 ⟨rfl, hb1⟩
  obtain ⟨hc1, hf1⟩ := aft hb1
  go_wp2_with fail
  refine (HSM.out _).mono ?_; rintro e w' ⟨rfl, rfl⟩
  go_wp2_with fail
  refine (HDV.out _ (by repeat (first | exact Below.refl _ _ | (with_reducible assumption) | refine bel_alloc ?_ _ | refine bel_drew ?_ | refine bel_drewN ?_ _ | refine Below.setCell ?_ (by dsimp only; omega) _ | refine bel_trans (by assumption) ?_))).mono ?_; rintro e w2 ⟨v2, rfl, hb2, ho⟩
  have hz1 := hb1.size
  replace hb2 := aft2 hb2 hb1; clear hb1 hc1 hf1
  have HV := Lib.hid ho
  obtain ⟨ad1, cap1, hv1, _⟩ := ho
  generalize decide (q < 0) = b1 at hv1
  generalize (digs q.natAbs).length = l1 at hv1
  subst hv1
  obtain ⟨hc2, hf2, hs1, hs2, hs3, hs4⟩ := aftz hb2
  simp at hz1
  go_wp2_with fail
  have hba : Below w2.heap.size w2 (w2.alloc (.cells #[.bool b1, .slice ad1 l1 cap1] 26)) := below_allocC _ _
  have HV2 := Lib.hid (HV.out.keep hba)
  refine (HQG.out _ _ HV2.out.wv).mono ?_; rintro e w3 ⟨rfl, hb3⟩
  have HV3 := Lib.hid (HV2.out.keep hb3)
  have q0 := (hb3.cell (p := ⟨w2.heap.size, 0, none⟩) (by simp)).trans (show _ = some (.bool b1) by simp [go_sem])
  have q1 := (hb3.cell (p := ⟨w2.heap.size, 1, none⟩) (by simp)).trans (show _ = some (.slice ad1 l1 cap1) by simp [go_sem])
  have hm2 : w.heap.size + 1 < w2.heap.size := by have := hb2.size; simp at this; omega
  have r0 := (hb3.cell (p := ⟨w.heap.size + 1, 0, none⟩) (by simp; omega)).trans ((hba.cell (p := ⟨w.heap.size + 1, 0, none⟩) hm2).trans ((hb2.cell (p := ⟨w.heap.size + 1, 0, none⟩) (by simp)).trans (show _ = some (.bool false) by simp [go_sem])))
  have r1 := (hb3.cell (p := ⟨w.heap.size + 1, 1, none⟩) (by simp; omega)).trans ((hba.cell (p := ⟨w.heap.size + 1, 1, none⟩) hm2).trans ((hb2.cell (p := ⟨w.heap.size + 1, 1, none⟩) (by simp)).trans (show _ = some (.slice none 0 0) by simp [go_sem])))
  have r2 := (hb3.frozen (p := ⟨w.heap.size + 1, 0, none⟩) (by simp; omega)).trans ((hba.frozen (p := ⟨w.heap.size + 1, 0, none⟩) hm2).trans ((hb2.frozen (p := ⟨w.heap.size + 1, 0, none⟩) (by simp)).trans (show _ = false by simp [go_sem])))
  have r3 := (hb3.frozen (p := ⟨w.heap.size + 1, 1, none⟩) (by simp; omega)).trans ((hba.frozen (p := ⟨w.heap.size + 1, 1, none⟩) hm2).trans ((hb2.frozen (p := ⟨w.heap.size + 1, 1, none⟩) (by simp)).trans (show _ = false by simp [go_sem])))
  have hbw : Below w.heap.size w w3 := bel_trans hb3 (bel_alloc (by repeat (first | exact Below.refl _ _ | (with_reducible assumption) | refine bel_alloc ?_ _ | refine bel_drew ?_ | refine bel_drewN ?_ _ | refine Below.setCell ?_ (by dsimp only; omega) _ | refine bel_trans (by assumption) ?_)) _)
  have hz3 : w2.heap.size < w3.heap.size := by have := hb3.size; simp at this; omega
  clear hb3 hba hb2 hc2 hf2 hs1 hs2 hs3 hs4 HV HV2
  generalize w2.heap.size = m at *
  go_wp2_with fail
  refine bodyPost_ret (by simp (maxDischargeDepth := 3) [results, Try.results17, go_sem, *]; try rfl) rfl ?_
  exact ⟨_, rfl, (by repeat (first | exact Below.refl _ _ | (with_reducible assumption) | refine bel_alloc ?_ _ | refine bel_drew ?_ | refine bel_drewN ?_ _ | refine Below.setCell ?_ (by dsimp only; omega) _ | refine bel_trans (by assumption) ?_)), by show WV _ _ q; exact ((HV3.out.setFar (by omega) _ _).setFar (by omega) _ _).wv⟩
end Go.Proofs.Ytnhlcgbknkdbiaa
