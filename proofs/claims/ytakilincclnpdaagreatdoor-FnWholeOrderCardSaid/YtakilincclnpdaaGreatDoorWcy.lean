/- Wc: contracts: the opposite of a whole number; which of two is greater. No conditions. -/
import Derived.Test.YtakilincclnpdaaGreatDoorPMy
namespace Go.Proofs.YtakilincclnpdaaGreatDoor
open Go.RowKit

set_option maxHeartbeats 1000000 in
theorem negated_any (v : Value) (z : Int) (w : World) (h : WV w v z) (hl : (digs z.natAbs).length ≤ 1000000) :
    Calls Tryz.prog 55 #[v] w (RetW (-z) w) := by
  obtain ⟨ad, cap, rfl, hr, hs⟩ := h
  have hval : (if (!decide (z < 0)) = true then -(val (digs z.natAbs)) else val (digs z.natAbs)) = -z := by
    rw [val_digs]
    by_cases hz : z < 0
    · rw [if_neg (by simp [hz])]; omega
    · rw [if_pos (by simpa using hz)]; omega
  have htr := fun w' hb => trimmed_any (!decide (z < 0)) (.slice ad (digs z.natAbs).length cap) (digs z.natAbs) w' (hr.keep hb) hs (digs_dig _) hl
  rw [hval] at htr
  have HTR := Lib.hid htr; clear htr hval hr hs
  generalize hbb : decide (z < 0) = bb at HTR ⊢
  generalize (digs z.natAbs).length = ln at HTR ⊢
  clear hbb
  go_enter Tryz.func55, Tryz.ntmps55
  go_wp2_with fail
  refine (HTR.out _ (by repeat (first | exact Below.refl _ _ | (with_reducible assumption) | refine bel_alloc ?_ _ | refine bel_drew ?_ | refine bel_drewN ?_ _ | refine Below.setCell ?_ (by dsimp only; omega) _ | refine bel_trans (by assumption) ?_))).mono ?_; rintro e w2 ⟨u, rfl, hb2, hv2⟩
  obtain ⟨hc2, hf2, hs1, hs2, hs3, hs4⟩ := aftz hb2
  have HV := Lib.hid hv2
  obtain ⟨ad2, cap2, hu, _⟩ := hv2
  subst hu
  generalize decide (-z < 0) = b2 at HV ⊢
  generalize (digs (-z).natAbs).length = l2 at HV ⊢
  go_wp2_with fail
  refine bodyPost_ret (by simp (maxDischargeDepth := 3) [results, Tryz.results55, go_sem, *]; try rfl) rfl ?_
  exact ⟨_, rfl, (by repeat (first | exact Below.refl _ _ | (with_reducible assumption) | refine bel_alloc ?_ _ | refine bel_drew ?_ | refine bel_drewN ?_ _ | refine Below.setCell ?_ (by dsimp only; omega) _ | refine bel_trans (by assumption) ?_)), ((HV.out.setFar (by simp) _ _).setFar (by simp) _ _).le (by simp; omega)⟩
theorem isNaN_any (n : Int) (w : World) : Calls Tryz.prog 167 #[.int .i64 n] w fun e w' => e = .returned (.bool false) ∧ w' = w := by
  go_enter Tryz.func167, Tryz.ntmps167
  go_wp2_with fail
  go_ret
  exact ⟨by simp, rfl⟩
theorem compare_same (x y : Int) (w : World) : Calls Tryz.prog 144 #[.int .i64 x, .int .i64 y] w fun e w' => e = .returned (.int .i64 (cmpI x y)) ∧ w' = w := by
  have hc : cmpI x y = if x < y then -1 else if x = y then 0 else 1 := rfl
  rcases Int.lt_trichotomy x y with h | h | h
  · rw [hc, if_pos h]; clear hc
    go_enter Tryz.func144, Tryz.ntmps144
    go_wp2_with ((go_at_call 167; refine (isNaN_any _ _).mono ?_; rintro e w' ⟨rfl, rfl⟩))
    go_ret
    exact ⟨rfl, rfl⟩
  · subst h
    rw [hc, if_neg (by omega), if_pos rfl]; clear hc
    go_enter Tryz.func144, Tryz.ntmps144
    go_wp2_with ((go_at_call 167; refine (isNaN_any _ _).mono ?_; rintro e w' ⟨rfl, rfl⟩))
    go_ret
    exact ⟨rfl, rfl⟩
  · rw [hc, if_neg (by omega), if_neg (by omega)]; clear hc
    go_enter Tryz.func144, Tryz.ntmps144
    go_wp2_with ((go_at_call 167; refine (isNaN_any _ _).mono ?_; rintro e w' ⟨rfl, rfl⟩))
    go_ret
    exact ⟨rfl, rfl⟩
theorem compare_any (x y : Int) (w : World) : Calls Tryz.prog 144 #[.int .i64 x, .int .i64 y] w (Ret (.int .i64 (cmpI x y)) w) :=
  (compare_same x y w).mono fun _ _ ⟨he, hw⟩ => ⟨he, by rw [hw]; exact Below.refl _ _⟩
theorem rd_cell {w : World} {ad : Option Addr} {cap : Nat} {xs : List Int} (h : Rd w (.slice ad xs.length cap) xs) (hp : 0 < xs.length) : ∃ b off, ad = some ⟨b, off, none⟩ ∧ b < w.heap.size ∧ ∀ i, i < xs.length → w.cell? ⟨b, off + i, none⟩ = some (.int .i64 (xs.getD i 0)) := by
  obtain ⟨ad', cap', hv, _, hc⟩ := h
  injection hv with h1 _ h3
  subst h1
  exact hc hp
set_option maxHeartbeats 2000000 in
theorem compareSizes_any (v u : Value) (z y : Int) (w : World) (hv : WV w v z) (hu : WV w u y) (hl : (digs z.natAbs).length ≤ 1000000) (hl' : (digs y.natAbs).length ≤ 1000000) :
    Calls Tryz.prog 107 #[v, u] w (Ret (.int .i64 (cmpI z.natAbs y.natAbs)) w) := by
  obtain ⟨ad, cap, rfl, hr, _⟩ := hv
  obtain ⟨ad', cap', rfl, hr', _⟩ := hu
  have hxd := digs_dig z.natAbs
  have hyd := digs_dig y.natAbs
  have hxv := val_digs z.natAbs
  have hyv := val_digs y.natAbs
  have hlt := len_cmp (m := z.natAbs) (n := y.natAbs)
  have hgt := len_cmp (m := y.natAbs) (n := z.natAbs)
  generalize decide (z < 0) = b1
  generalize decide (y < 0) = b2
  generalize z.natAbs = m at *
  generalize y.natAbs = n at *
  generalize digs m = xs at *
  generalize digs n = ys at *
  have HXD := Lib.hid hxd; clear hxd
  have HYD := Lib.hid hyd; clear hyd
  have HXV := Lib.hid hxv; clear hxv
  have HYV := Lib.hid hyv; clear hyv
  by_cases hlen : xs.length = ys.length
  · clear hlt hgt
    obtain ⟨L, hL⟩ : ∃ L, xs.length = L := ⟨_, rfl⟩
    have hL2 : ys.length = L := by omega
    by_cases hp : 0 < xs.length
    · obtain ⟨bb, off, rfl, hbb, hcell⟩ := rd_cell hr hp
      obtain ⟨bb', off', rfl, hbb', hcell'⟩ := rd_cell hr' (by omega)
      have HC := Lib.hid hcell; clear hcell hr
      have HC' := Lib.hid hcell'; clear hcell' hr'
      rw [hL, hL2]
      have HL := Lib.hid hL
      have HL2 := Lib.hid hL2
      have hLp : 0 < L := by omega
      have hLb : L ≤ 1000000 := by omega
      clear hlen hl hl' hp hL hL2
      go_enter Tryz.func107, Tryz.ntmps107
      go_wp2_with fail
      generalize hW : (w.alloc (.cells #[.bool b1, .slice (some ⟨bb, off, none⟩) L cap] 26)).alloc (.cells #[.bool b2, .slice (some ⟨bb', off', none⟩) L cap'] 26) = W
      obtain ⟨B0, hB0⟩ : ∃ B0, w.heap.size = B0 := ⟨_, rfl⟩
      obtain ⟨hbelW, hsz, hsz1, hca, hcb⟩ : Below w.heap.size w W ∧ B0 < W.heap.size ∧ B0 + 1 < W.heap.size ∧ W.cell? ⟨B0, 1, none⟩ = some (.slice (some ⟨bb, off, none⟩) L cap) ∧ W.cell? ⟨B0 + 1, 1, none⟩ = some (.slice (some ⟨bb', off', none⟩) L cap') := by
        subst hW; subst hB0
        exact ⟨(by repeat (first | exact Below.refl _ _ | (with_reducible assumption) | refine bel_alloc ?_ _ | refine bel_drew ?_ | refine bel_drewN ?_ _ | refine Below.setCell ?_ (by dsimp only; omega) _ | refine bel_trans (by assumption) ?_)), by simp, by simp, by simp [go_sem], by simp [go_sem]⟩
      clear hW
      (try rw [hB0])
      have hdr : xs.drop L = ys.drop L := by rw [List.drop_of_length_le (by rw [HL.out]; exact Nat.le_refl _), List.drop_of_length_le (by rw [HL2.out]; exact Nat.le_refl _)]
      go_loopw [5] (fun x wr => ∃ k : Nat, x = .int .i64 ((k : Int) - 1) ∧ k ≤ L ∧ Hid (xs.drop k = ys.drop k) ∧ Below W.heap.size W wr) (fun x _ => (intOf x + 1).toNat)
      case atStart => exact ⟨L, rfl, Nat.le_refl _, hdr, Below.refl _ _⟩
      case round =>
        obtain ⟨k, rfl, hk, HDR, hbel⟩ := hrel
        have hk0 : (0 : Int) ≤ (k : Int) := Int.natCast_nonneg _
        by_cases hz : k = 0
        · subst hz
          have hxy : xs = ys := by simpa using HDR.out
          have hmn : (m : Int) = (n : Int) := by rw [← HXV.out, ← HYV.out, hxy]
          have hcm : cmpI (m : Int) (n : Int) = 0 := by unfold cmpI; rw [if_neg (by omega), if_pos hmn]
          have HCM := Lib.hid hcm; clear hcm hmn hxy
          go_wp2_with fail
          go_ret
          exact ret_eq (by rw [HCM.out]; rfl) (bel_trans hbel hbelW)
        · obtain ⟨j, rfl⟩ : ∃ j, k = j + 1 := ⟨k - 1, by omega⟩
          have hjx : j < xs.length := by rw [HL.out]; omega
          have hjy : j < ys.length := by rw [HL2.out]; omega
          have hck : wr.cell? ⟨bb, off + j, none⟩ = some (.int .i64 (xs.getD j 0)) := ((bel_trans hbel hbelW).cell (p := ⟨bb, off + j, none⟩) hbb).trans (HC.out j hjx)
          have hck' : wr.cell? ⟨bb', off' + j, none⟩ = some (.int .i64 (ys.getD j 0)) := ((bel_trans hbel hbelW).cell (p := ⟨bb', off' + j, none⟩) hbb').trans (HC'.out j hjy)
          have kca := (hbel.cell (p := ⟨B0, 1, none⟩) hsz).trans hca
          have kcb := (hbel.cell (p := ⟨B0 + 1, 1, none⟩) hsz1).trans hcb
          have he : ((j + 1 : Nat) : Int) - 1 = (j : Int) := by omega
          rw [he]
          clear he
          have hj0 : (0 : Int) ≤ (j : Int) := Int.natCast_nonneg _
          have hj1 : (j : Int) < (L : Int) := by omega
          have h1 := fun h => val_cmp (xs := xs) (ys := ys) (i := j) HXD.out HYD.out (by rw [HL.out, HL2.out]) hjx HDR.out h
          have h2 := fun h => val_cmp (xs := ys) (ys := xs) (i := j) HYD.out HXD.out (by rw [HL.out, HL2.out]) hjy HDR.out.symm h
          have h3 := fun h => drop_eq_step hjx hjy HDR.out h
          rw [HXV.out, HYV.out] at h1 h2
          generalize xs.getD j 0 = p at hck h1 h2 h3
          generalize ys.getD j 0 = q at hck' h1 h2 h3
          by_cases hpq : p = q
          · subst hpq
            have H3 := Lib.hid (h3 rfl)
            clear h1 h2 h3
            go_wp2_with fail
            go_quiet (fail)
            go_wp2_with fail
            go_roundw
            case rel => exact ⟨j, rfl, by omega, H3, (by repeat (first | exact Below.refl _ _ | (with_reducible assumption) | refine bel_alloc ?_ _ | refine bel_drew ?_ | refine bel_drewN ?_ _ | refine Below.setCell ?_ (by dsimp only; omega) _ | refine bel_trans (by assumption) ?_))⟩
            case measure => first | (simp [intOf]; done) | (simp [intOf]; omega)
          · have hcm : cmpI p q = cmpI (m : Int) (n : Int) := by
              unfold cmpI
              rcases Int.lt_or_le p q with k | k
              · have := h1 k
                rw [if_pos k, if_pos (by omega)]
              · have := h2 (by omega)
                rw [if_neg (by omega), if_neg (by omega), if_neg (by omega), if_neg (by omega)]
            have HCM := Lib.hid hcm; clear hcm h1 h2 h3
            have hpb : (p != q) = true := by simp [hpq]
            go_wp2_with fail
            go_quiet (fail)
            go_wp2_with fail
            obtain ⟨Wd, hWd⟩ : ∃ Wd, wr.drewN nq = Wd := ⟨_, rfl⟩
            have d1 : Wd.cell? ⟨bb, off + j, none⟩ = some (.int .i64 p) := by rw [← hWd]; exact hck
            have d2 : Wd.cell? ⟨bb', off' + j, none⟩ = some (.int .i64 q) := by rw [← hWd]; exact hck'
            have d3 : Wd.cell? ⟨B0, 1, none⟩ = some (.slice (some ⟨bb, off, none⟩) L cap) := by rw [← hWd]; exact kca
            have d4 : Wd.cell? ⟨B0 + 1, 1, none⟩ = some (.slice (some ⟨bb', off', none⟩) L cap') := by rw [← hWd]; exact kcb
            have hbd : Below W.heap.size W Wd := by rw [← hWd]; exact bel_drewN hbel _
            rw [hWd]
            clear hWd hck hck' kca kcb
            go_quiet ((go_at_call 144; exact Calls.quiet_of_same (compare_same _ _ _)))
            go_wp2_with fail
            go_ret
            exact ret_eq (by rw [← HCM.out]; try rfl) (bel_trans (bel_drewN hbd _) hbelW)
    · have hx0 : xs = [] := List.eq_nil_of_length_eq_zero (by omega)
      have hy0 : ys = [] := List.eq_nil_of_length_eq_zero (by omega)
      have hcm : cmpI (m : Int) (n : Int) = 0 := by unfold cmpI; rw [if_neg, if_pos] <;> (rw [← HXV.out, ← HYV.out, hx0, hy0]; try first | rfl | decide)
      subst hx0; subst hy0
      have HCM := Lib.hid hcm; clear hcm hL hL2 hlen hp hr hr' hl hl'
      go_enter Tryz.func107, Tryz.ntmps107
      go_wp2_with fail
      refine wp_loop_rounds 1 ?_; rw [rounds_succ]
      go_wp2_with fail
      go_ret
      exact ret_eq (by rw [HCM.out]; rfl) (by repeat (first | exact Below.refl _ _ | (with_reducible assumption) | refine bel_alloc ?_ _ | refine bel_drew ?_ | refine bel_drewN ?_ _ | refine Below.setCell ?_ (by dsimp only; omega) _ | refine bel_trans (by assumption) ?_))
  · have hlb : ((xs.length : Int) != (ys.length : Int)) = true := by simp; omega
    have hcm : cmpI (xs.length : Int) (ys.length : Int) = cmpI (m : Int) (n : Int) := by
      unfold cmpI
      rcases Nat.lt_or_ge xs.length ys.length with k | k
      · have := hlt k
        rw [if_pos (by omega), if_pos (by omega)]
      · have := hgt (by omega)
        rw [if_neg (by omega), if_neg (by omega), if_neg (by omega), if_neg (by omega)]
    have HCM := Lib.hid hcm; clear hcm hlt hgt hr hr'
    go_enter Tryz.func107, Tryz.ntmps107
    go_wp2_with (go_at_call 144; refine (compare_any _ _ _).mono ?_; rintro e w' ⟨rfl, hb⟩; (try replace hb := aft2 hb (by assumption)); obtain ⟨hc, hf, hs1, hs2, hs3, hs4⟩ := aftz hb)
    go_ret
    exact ret_eq (by rw [← HCM.out]; rfl) (by repeat (first | exact Below.refl _ _ | (with_reducible assumption) | refine bel_alloc ?_ _ | refine bel_drew ?_ | refine bel_drewN ?_ _ | refine Below.setCell ?_ (by dsimp only; omega) _ | refine bel_trans (by assumption) ?_))
theorem cmpI_anti {x y : Int} : cmpI (-x) (-y) = cmpI y x := by
  unfold cmpI
  rcases Int.lt_trichotomy x y with h | h | h
  · rw [if_neg (by omega), if_neg (by omega), if_neg (by omega), if_neg (by omega)]
  · rw [if_neg (by omega), if_pos (by omega), if_neg (by omega), if_pos (by omega)]
  · rw [if_pos (by omega), if_pos (by omega)]
set_option maxHeartbeats 1000000 in
theorem compareWholes_any (v u : Value) (z y : Int) (w : World) (hv : WV w v z) (hu : WV w u y) (hl : (digs z.natAbs).length ≤ 1000000) (hl' : (digs y.natAbs).length ≤ 1000000) :
    Calls Tryz.prog 50 #[v, u] w (Ret (.int .i64 (cmpI z y)) w) := by
  have hcs := fun w' (hb : Below w.heap.size w w') => compareSizes_any v u z y w' (hv.keep hb) (hu.keep hb) hl hl'
  have hcs' := fun w' (hb : Below w.heap.size w w') => compareSizes_any u v y z w' (hu.keep hb) (hv.keep hb) hl' hl
  obtain ⟨ad, cap, rfl, _, _⟩ := hv
  obtain ⟨ad', cap', rfl, _, _⟩ := hu
  generalize hl1 : (digs z.natAbs).length = l1 at hcs hcs' ⊢
  generalize hl2 : (digs y.natAbs).length = l2 at hcs hcs' ⊢
  clear hl1 hl2
  by_cases hz : z < 0
  · rw [decide_eq_true hz] at hcs hcs' ⊢
    by_cases hy : y < 0
    · rw [decide_eq_true hy] at hcs hcs' ⊢
      have e : cmpI ((y.natAbs : Nat) : Int) ((z.natAbs : Nat) : Int) = cmpI z y := by rw [show ((z.natAbs : Nat) : Int) = -z by omega, show ((y.natAbs : Nat) : Int) = -y by omega, cmpI_anti]
      rw [e] at hcs'
      generalize cmpI z y = r at hcs' ⊢
      have HCS' := Lib.hid hcs'; clear hcs hcs' e
      go_enter Tryz.func50, Tryz.ntmps50
      go_wp2_with fail
      refine (HCS'.out _ (by repeat (first | exact Below.refl _ _ | (with_reducible assumption) | refine bel_alloc ?_ _ | refine bel_drew ?_ | refine bel_drewN ?_ _ | refine Below.setCell ?_ (by dsimp only; omega) _ | refine bel_trans (by assumption) ?_))).mono ?_; rintro e w' ⟨rfl, hb⟩
      go_wp2_with fail
      go_ret
      exact ret_eq rfl (by repeat (first | exact Below.refl _ _ | (with_reducible assumption) | refine bel_alloc ?_ _ | refine bel_drew ?_ | refine bel_drewN ?_ _ | refine Below.setCell ?_ (by dsimp only; omega) _ | refine bel_trans (by assumption) ?_))
    · rw [decide_eq_false hy]
      clear hcs hcs'
      have e : cmpI z y = -1 := by unfold cmpI; rw [if_pos (by omega)]
      rw [e]; clear e
      go_enter Tryz.func50, Tryz.ntmps50
      go_wp2_with fail
      go_ret
      exact ret_eq rfl (by repeat (first | exact Below.refl _ _ | (with_reducible assumption) | refine bel_alloc ?_ _ | refine bel_drew ?_ | refine bel_drewN ?_ _ | refine Below.setCell ?_ (by dsimp only; omega) _ | refine bel_trans (by assumption) ?_))
  · rw [decide_eq_false hz] at hcs hcs' ⊢
    by_cases hy : y < 0
    · rw [decide_eq_true hy]
      clear hcs hcs'
      have e : cmpI z y = 1 := by unfold cmpI; rw [if_neg (by omega), if_neg (by omega)]
      rw [e]; clear e
      go_enter Tryz.func50, Tryz.ntmps50
      go_wp2_with fail
      go_ret
      exact ret_eq rfl (by repeat (first | exact Below.refl _ _ | (with_reducible assumption) | refine bel_alloc ?_ _ | refine bel_drew ?_ | refine bel_drewN ?_ _ | refine Below.setCell ?_ (by dsimp only; omega) _ | refine bel_trans (by assumption) ?_))
    · rw [decide_eq_false hy] at hcs hcs' ⊢
      have e : cmpI ((z.natAbs : Nat) : Int) ((y.natAbs : Nat) : Int) = cmpI z y := by rw [show ((z.natAbs : Nat) : Int) = z by omega, show ((y.natAbs : Nat) : Int) = y by omega]
      rw [e] at hcs
      generalize cmpI z y = r at hcs ⊢
      have HCS := Lib.hid hcs; clear hcs hcs' e
      go_enter Tryz.func50, Tryz.ntmps50
      go_wp2_with fail
      refine (HCS.out _ (by repeat (first | exact Below.refl _ _ | (with_reducible assumption) | refine bel_alloc ?_ _ | refine bel_drew ?_ | refine bel_drewN ?_ _ | refine Below.setCell ?_ (by dsimp only; omega) _ | refine bel_trans (by assumption) ?_))).mono ?_; rintro e w' ⟨rfl, hb⟩
      go_wp2_with fail
      go_ret
      exact ret_eq rfl (by repeat (first | exact Below.refl _ _ | (with_reducible assumption) | refine bel_alloc ?_ _ | refine bel_drew ?_ | refine bel_drewN ?_ _ | refine Below.setCell ?_ (by dsimp only; omega) _ | refine bel_trans (by assumption) ?_))
end Go.Proofs.YtakilincclnpdaaGreatDoor
