/- Za: contracts: wholes compared, both sides. No conditions. -/
import Derived.Test.YtakilincclnpdaaGreatDoorYdy
namespace Go.Proofs.YtakilincclnpdaaGreatDoor
open Go.RowKit

set_option maxHeartbeats 1000000 in
theorem bgCompare_any (v u : Value) (z y : Int) (w : World) (hv : WV w v z) (hu : WV w u y) (hl : (digs z.natAbs).length ≤ 1000000) (hl' : (digs y.natAbs).length ≤ 1000000) :
    Calls Tryz.prog 52 #[v, u] w (Ret (.int .i64 (cmpI z y)) w) := by
  obtain ⟨ad, cap, rfl, hr, _⟩ := hv
  obtain ⟨ad', cap', rfl, hr', _⟩ := hu
  have hcs := fun w' (hb : Below w.heap.size w w') => bgOrder_any _ _ _ _ w' (hr.keep hb) (hr'.keep hb) (digs_dig _) (digs_dig _) hl hl'
  have hcs' := fun w' (hb : Below w.heap.size w w') => bgOrder_any _ _ _ _ w' (hr'.keep hb) (hr.keep hb) (digs_dig _) (digs_dig _) hl' hl
  simp only [val_digs] at hcs hcs'
  clear hr hr'
  generalize hl1 : (digs z.natAbs).length = l1 at hcs hcs' ⊢
  generalize hl2 : (digs y.natAbs).length = l2 at hcs hcs' ⊢
  clear hl1 hl2
  by_cases hz : z < 0
  · rw [decide_eq_true hz]
    by_cases hy : y < 0
    · rw [decide_eq_true hy]
      have e : cmpI ((y.natAbs : Nat) : Int) ((z.natAbs : Nat) : Int) = cmpI z y := by rw [show ((z.natAbs : Nat) : Int) = -z by omega, show ((y.natAbs : Nat) : Int) = -y by omega, cmpI_anti]
      rw [e] at hcs'
      generalize cmpI z y = r at hcs' ⊢
      have HCS' := Lib.hid hcs'; clear hcs hcs' e
      go_enter Tryz.func52, Tryz.ntmps52
      go_wp2_with fail
      refine (HCS'.out _ (by repeat (first | exact Below.refl _ _ | (with_reducible assumption) | refine bel_alloc ?_ _ | refine bel_drew ?_ | refine bel_drewN ?_ _ | refine Below.setCell ?_ (by dsimp only; omega) _ | refine bel_trans (by assumption) ?_))).mono ?_; rintro e w' ⟨rfl, hb⟩
      go_wp2_with fail
      go_ret
      exact ret_eq rfl (by repeat (first | exact Below.refl _ _ | (with_reducible assumption) | refine bel_alloc ?_ _ | refine bel_drew ?_ | refine bel_drewN ?_ _ | refine Below.setCell ?_ (by dsimp only; omega) _ | refine bel_trans (by assumption) ?_))
    · rw [decide_eq_false hy]
      clear hcs hcs'
      have e : cmpI z y = -1 := by unfold cmpI; rw [if_pos (by omega)]
      rw [e]; clear e
      go_enter Tryz.func52, Tryz.ntmps52
      go_wp2_with fail
      go_ret
      exact ret_eq rfl (by repeat (first | exact Below.refl _ _ | (with_reducible assumption) | refine bel_alloc ?_ _ | refine bel_drew ?_ | refine bel_drewN ?_ _ | refine Below.setCell ?_ (by dsimp only; omega) _ | refine bel_trans (by assumption) ?_))
  · rw [decide_eq_false hz]
    by_cases hy : y < 0
    · rw [decide_eq_true hy]
      clear hcs hcs'
      have e : cmpI z y = 1 := by unfold cmpI; rw [if_neg (by omega), if_neg (by omega)]
      rw [e]; clear e
      go_enter Tryz.func52, Tryz.ntmps52
      go_wp2_with fail
      go_ret
      exact ret_eq rfl (by repeat (first | exact Below.refl _ _ | (with_reducible assumption) | refine bel_alloc ?_ _ | refine bel_drew ?_ | refine bel_drewN ?_ _ | refine Below.setCell ?_ (by dsimp only; omega) _ | refine bel_trans (by assumption) ?_))
    · rw [decide_eq_false hy]
      have e : cmpI ((z.natAbs : Nat) : Int) ((y.natAbs : Nat) : Int) = cmpI z y := by rw [show ((z.natAbs : Nat) : Int) = z by omega, show ((y.natAbs : Nat) : Int) = y by omega]
      rw [e] at hcs
      generalize cmpI z y = r at hcs ⊢
      have HCS := Lib.hid hcs; clear hcs hcs' e
      go_enter Tryz.func52, Tryz.ntmps52
      go_wp2_with fail
      refine (HCS.out _ (by repeat (first | exact Below.refl _ _ | (with_reducible assumption) | refine bel_alloc ?_ _ | refine bel_drew ?_ | refine bel_drewN ?_ _ | refine Below.setCell ?_ (by dsimp only; omega) _ | refine bel_trans (by assumption) ?_))).mono ?_; rintro e w' ⟨rfl, hb⟩
      go_wp2_with fail
      go_ret
      exact ret_eq rfl (by repeat (first | exact Below.refl _ _ | (with_reducible assumption) | refine bel_alloc ?_ _ | refine bel_drew ?_ | refine bel_drewN ?_ _ | refine Below.setCell ?_ (by dsimp only; omega) _ | refine bel_trans (by assumption) ?_))
/-- returned how two wholes compare, where both are valid. -/
def cmpV (n m : Bool) (xs ys : List Int) : Value := .tuple #[.int .i64 (if (goodW n xs && goodW m ys) = true then cmpI (valW n xs) (valW m ys) else 0), .bool (goodW n xs && goodW m ys)]
set_option maxHeartbeats 4000000 in
theorem iCompareWholes_any (v u : Value) (n m : Bool) (xs ys : List Int) (w : World) (hv : RW w v n xs) (hu : RW w u m ys) (hl : xs.length ≤ 1000) (hl' : ys.length ≤ 1000) :
    Calls Tryz.prog 7 #[v, u] w (Ret (cmpV n m xs ys) w) := by
  have hg := fun w' (hb : Below w.heap.size w w') => isWhole_any v n xs w' (hv.keep hb) (by omega)
  have hg' := fun w' (hb : Below w.heap.size w w') => isWhole_any u m ys w' (hu.keep hb) (by omega)
  have hc := fun (h1 : goodW n xs = true) (h2 : goodW m ys = true) w' (hb : Below w.heap.size w w') => compareWholes_any v u _ _ w' ((hv.wv h1).keep hb) ((hu.wv h2).keep hb) (by have := (good_val h1).2.2; omega) (by have := (good_val h2).2.2; omega)
  unfold cmpV
  generalize cmpI (valW n xs) (valW m ys) = r at *
  generalize goodW n xs = g at *
  generalize goodW m ys = g' at *
  obtain ⟨ad, cap, rfl, _, _⟩ := hv
  obtain ⟨ad', cap', rfl, _, _⟩ := hu
  generalize xs.length = la at *
  generalize ys.length = lb at *
  have HG := Lib.hid hg; have HG' := Lib.hid hg'; have HC := Lib.hid hc; clear hg hg' hc
  cases g
  · go_enter Tryz.func7, Tryz.ntmps7
    go_wp2_with fail
    refine (HG.out _ (by repeat (first | exact Below.refl _ _ | (with_reducible assumption) | refine bel_alloc ?_ _ | refine bel_drew ?_ | refine bel_drewN ?_ _ | refine Below.setCell ?_ (by dsimp only; omega) _ | refine bel_trans (by assumption) ?_))).mono ?_; rintro e w1 ⟨rfl, hb1⟩
    obtain ⟨hc1, hf1⟩ := aft hb1
    go_wp2_with fail
    go_returns
    exact ret_eq rfl (by repeat (first | exact Below.refl _ _ | (with_reducible assumption) | refine bel_alloc ?_ _ | refine bel_drew ?_ | refine bel_drewN ?_ _ | refine Below.setCell ?_ (by dsimp only; omega) _ | refine bel_trans (by assumption) ?_))
  cases g'
  · go_enter Tryz.func7, Tryz.ntmps7
    go_wp2_with fail
    refine (HG.out _ (by repeat (first | exact Below.refl _ _ | (with_reducible assumption) | refine bel_alloc ?_ _ | refine bel_drew ?_ | refine bel_drewN ?_ _ | refine Below.setCell ?_ (by dsimp only; omega) _ | refine bel_trans (by assumption) ?_))).mono ?_; rintro e w1 ⟨rfl, hb1⟩
    obtain ⟨hc1, hf1⟩ := aft hb1
    go_wp2_with fail
    refine (HG'.out _ (by repeat (first | exact Below.refl _ _ | (with_reducible assumption) | refine bel_alloc ?_ _ | refine bel_drew ?_ | refine bel_drewN ?_ _ | refine Below.setCell ?_ (by dsimp only; omega) _ | refine bel_trans (by assumption) ?_))).mono ?_; rintro e w2 ⟨rfl, hb2⟩
    replace hb2 := aft2 hb2 hb1; clear hb1 hc1 hf1
    obtain ⟨hc2, hf2⟩ := aft hb2
    go_wp2_with fail
    go_returns
    exact ret_eq rfl (by repeat (first | exact Below.refl _ _ | (with_reducible assumption) | refine bel_alloc ?_ _ | refine bel_drew ?_ | refine bel_drewN ?_ _ | refine Below.setCell ?_ (by dsimp only; omega) _ | refine bel_trans (by assumption) ?_))
  have HC2 := Lib.hid (HC.out rfl rfl); clear HC
  go_enter Tryz.func7, Tryz.ntmps7
  go_wp2_with fail
  refine (HG.out _ (by repeat (first | exact Below.refl _ _ | (with_reducible assumption) | refine bel_alloc ?_ _ | refine bel_drew ?_ | refine bel_drewN ?_ _ | refine Below.setCell ?_ (by dsimp only; omega) _ | refine bel_trans (by assumption) ?_))).mono ?_; rintro e w1 ⟨rfl, hb1⟩
  obtain ⟨hc1, hf1⟩ := aft hb1
  go_wp2_with fail
  refine (HG'.out _ (by repeat (first | exact Below.refl _ _ | (with_reducible assumption) | refine bel_alloc ?_ _ | refine bel_drew ?_ | refine bel_drewN ?_ _ | refine Below.setCell ?_ (by dsimp only; omega) _ | refine bel_trans (by assumption) ?_))).mono ?_; rintro e w2 ⟨rfl, hb2⟩
  replace hb2 := aft2 hb2 hb1; clear hb1 hc1 hf1
  obtain ⟨hc2, hf2⟩ := aft hb2
  go_wp2_with fail
  refine (HC2.out _ (by repeat (first | exact Below.refl _ _ | (with_reducible assumption) | refine bel_alloc ?_ _ | refine bel_drew ?_ | refine bel_drewN ?_ _ | refine Below.setCell ?_ (by dsimp only; omega) _ | refine bel_trans (by assumption) ?_))).mono ?_; rintro e w3 ⟨rfl, hb3⟩
  replace hb3 := aft2 hb3 hb2; clear hb2 hc2 hf2
  obtain ⟨hc3, hf3⟩ := aft hb3
  go_wp2_with fail
  go_returns
  exact ret_eq rfl (by repeat (first | exact Below.refl _ _ | (with_reducible assumption) | refine bel_alloc ?_ _ | refine bel_drew ?_ | refine bel_drewN ?_ _ | refine Below.setCell ?_ (by dsimp only; omega) _ | refine bel_trans (by assumption) ?_))
set_option maxHeartbeats 4000000 in
theorem sCompareWholes_any (v u : Value) (n m : Bool) (xs ys : List Int) (w : World) (hv : RW w v n xs) (hu : RW w u m ys) (hl : xs.length ≤ 1000) (hl' : ys.length ≤ 1000) :
    Calls Tryz.prog 8 #[v, u] w (Ret (cmpV n m xs ys) w) := by
  have hg := fun w' (hb : Below w.heap.size w w') => bgGood_any v n xs w' (hv.keep hb) (by omega)
  have hg' := fun w' (hb : Below w.heap.size w w') => bgGood_any u m ys w' (hu.keep hb) (by omega)
  have hc := fun (h1 : goodW n xs = true) (h2 : goodW m ys = true) w' (hb : Below w.heap.size w w') => bgCompare_any v u _ _ w' ((hv.wv h1).keep hb) ((hu.wv h2).keep hb) (by have := (good_val h1).2.2; omega) (by have := (good_val h2).2.2; omega)
  unfold cmpV
  generalize cmpI (valW n xs) (valW m ys) = r at *
  generalize goodW n xs = g at *
  generalize goodW m ys = g' at *
  obtain ⟨ad, cap, rfl, _, _⟩ := hv
  obtain ⟨ad', cap', rfl, _, _⟩ := hu
  generalize xs.length = la at *
  generalize ys.length = lb at *
  have HG := Lib.hid hg; have HG' := Lib.hid hg'; have HC := Lib.hid hc; clear hg hg' hc
  cases g
  · go_enter Tryz.func8, Tryz.ntmps8
    go_wp2_with fail
    refine (HG.out _ (by repeat (first | exact Below.refl _ _ | (with_reducible assumption) | refine bel_alloc ?_ _ | refine bel_drew ?_ | refine bel_drewN ?_ _ | refine Below.setCell ?_ (by dsimp only; omega) _ | refine bel_trans (by assumption) ?_))).mono ?_; rintro e w1 ⟨rfl, hb1⟩
    obtain ⟨hc1, hf1⟩ := aft hb1
    go_wp2_with fail
    go_returns
    exact ret_eq rfl (by repeat (first | exact Below.refl _ _ | (with_reducible assumption) | refine bel_alloc ?_ _ | refine bel_drew ?_ | refine bel_drewN ?_ _ | refine Below.setCell ?_ (by dsimp only; omega) _ | refine bel_trans (by assumption) ?_))
  cases g'
  · go_enter Tryz.func8, Tryz.ntmps8
    go_wp2_with fail
    refine (HG.out _ (by repeat (first | exact Below.refl _ _ | (with_reducible assumption) | refine bel_alloc ?_ _ | refine bel_drew ?_ | refine bel_drewN ?_ _ | refine Below.setCell ?_ (by dsimp only; omega) _ | refine bel_trans (by assumption) ?_))).mono ?_; rintro e w1 ⟨rfl, hb1⟩
    obtain ⟨hc1, hf1⟩ := aft hb1
    go_wp2_with fail
    refine (HG'.out _ (by repeat (first | exact Below.refl _ _ | (with_reducible assumption) | refine bel_alloc ?_ _ | refine bel_drew ?_ | refine bel_drewN ?_ _ | refine Below.setCell ?_ (by dsimp only; omega) _ | refine bel_trans (by assumption) ?_))).mono ?_; rintro e w2 ⟨rfl, hb2⟩
    replace hb2 := aft2 hb2 hb1; clear hb1 hc1 hf1
    obtain ⟨hc2, hf2⟩ := aft hb2
    go_wp2_with fail
    go_returns
    exact ret_eq rfl (by repeat (first | exact Below.refl _ _ | (with_reducible assumption) | refine bel_alloc ?_ _ | refine bel_drew ?_ | refine bel_drewN ?_ _ | refine Below.setCell ?_ (by dsimp only; omega) _ | refine bel_trans (by assumption) ?_))
  have HC2 := Lib.hid (HC.out rfl rfl); clear HC
  go_enter Tryz.func8, Tryz.ntmps8
  go_wp2_with fail
  refine (HG.out _ (by repeat (first | exact Below.refl _ _ | (with_reducible assumption) | refine bel_alloc ?_ _ | refine bel_drew ?_ | refine bel_drewN ?_ _ | refine Below.setCell ?_ (by dsimp only; omega) _ | refine bel_trans (by assumption) ?_))).mono ?_; rintro e w1 ⟨rfl, hb1⟩
  obtain ⟨hc1, hf1⟩ := aft hb1
  go_wp2_with fail
  refine (HG'.out _ (by repeat (first | exact Below.refl _ _ | (with_reducible assumption) | refine bel_alloc ?_ _ | refine bel_drew ?_ | refine bel_drewN ?_ _ | refine Below.setCell ?_ (by dsimp only; omega) _ | refine bel_trans (by assumption) ?_))).mono ?_; rintro e w2 ⟨rfl, hb2⟩
  replace hb2 := aft2 hb2 hb1; clear hb1 hc1 hf1
  obtain ⟨hc2, hf2⟩ := aft hb2
  go_wp2_with fail
  refine (HC2.out _ (by repeat (first | exact Below.refl _ _ | (with_reducible assumption) | refine bel_alloc ?_ _ | refine bel_drew ?_ | refine bel_drewN ?_ _ | refine Below.setCell ?_ (by dsimp only; omega) _ | refine bel_trans (by assumption) ?_))).mono ?_; rintro e w3 ⟨rfl, hb3⟩
  replace hb3 := aft2 hb3 hb2; clear hb2 hc2 hf2
  obtain ⟨hc3, hf3⟩ := aft hb3
  go_wp2_with fail
  go_returns
  exact ret_eq rfl (by repeat (first | exact Below.refl _ _ | (with_reducible assumption) | refine bel_alloc ?_ _ | refine bel_drew ?_ | refine bel_drewN ?_ _ | refine Below.setCell ?_ (by dsimp only; omega) _ | refine bel_trans (by assumption) ?_))
end Go.Proofs.YtakilincclnpdaaGreatDoor
