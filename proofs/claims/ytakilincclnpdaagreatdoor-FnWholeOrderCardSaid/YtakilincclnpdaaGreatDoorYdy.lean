/- Yd: contracts: the reference's wholes: the order of limbs, sums of limbs. No conditions. -/
import Derived.Test.YtakilincclnpdaaGreatDoorYcy
namespace Go.Proofs.YtakilincclnpdaaGreatDoor
open Go.RowKit

theorem cmpI_lt {x y : Int} (h : x < y) : cmpI x y = -1 := by unfold cmpI; rw [if_pos h]
theorem cmpI_gt {x y : Int} (h : y < x) : cmpI x y = 1 := by unfold cmpI; rw [if_neg (by omega), if_neg (by omega)]
theorem cmpI_eq {x y : Int} (h : x = y) : cmpI x y = 0 := by unfold cmpI; rw [if_neg (by omega), if_pos h]
set_option maxHeartbeats 2000000 in
theorem bgOrder_any (v u : Value) (xs ys : List Int) (w : World) (hr : Rd w v xs) (hr' : Rd w u ys) (hxd : Dig xs) (hyd : Dig ys) (hl : xs.length ≤ 1000000) (hl' : ys.length ≤ 1000000) :
    Calls Tryz.prog 109 #[v, u] w (Ret (.int .i64 (cmpI (val xs) (val ys))) w) := by
  have hbx := fun (k : Nat) (wr : World) (hk : k ≤ 1000000) (hb : Below w.heap.size w wr) => bgLimb_any v xs k wr (hr.keep hb) (by omega) (by omega) hl
  have hby := fun (k : Nat) (wr : World) (hk : k ≤ 1000000) (hb : Below w.heap.size w wr) => bgLimb_any u ys k wr (hr'.keep hb) (by omega) (by omega) hl'
  obtain ⟨ad, cap, rfl, -, -⟩ := hr
  obtain ⟨ad', cap', rfl, -, -⟩ := hr'
  have hlt := fun i h1 h2 => cmpI_lt (val_order (xs := xs) (ys := ys) (i := i) hxd hyd h1 h2)
  have hgt := fun i h1 h2 => cmpI_gt (val_order (xs := ys) (ys := xs) (i := i) hyd hxd h1 h2)
  have heq := fun h => cmpI_eq (val_congr xs ys h)
  have hx0 := fun (i : Nat) (h : xs.length ≤ i) => getD_over h
  have hy0 := fun (i : Nat) (h : ys.length ≤ i) => getD_over h
  obtain ⟨C, hC⟩ : ∃ C, cmpI (val xs) (val ys) = C := ⟨_, rfl⟩
  rw [hC] at hlt hgt heq ⊢
  clear hC hxd hyd
  have HBX := Lib.hid hbx; have HBY := Lib.hid hby; have HLT := Lib.hid hlt; have HGT := Lib.hid hgt; have HEQ := Lib.hid heq; have HX0 := Lib.hid hx0; have HY0 := Lib.hid hy0
  clear hbx hby hlt hgt heq hx0 hy0
  generalize xs.length = la at *
  generalize ys.length = lb at *
  obtain ⟨M, hM⟩ : ∃ M : Nat, max la lb = M := ⟨_, rfl⟩
  have hM' : max (la : Int) (lb : Int) = (M : Int) := by omega
  have hMb : M ≤ 1000000 := by omega
  have hmost := fun w => l1Most_any (la : Int) (lb : Int) w
  rw [hM'] at hmost
  have HMO := Lib.hid hmost; clear hmost hM'
  have hML : la ≤ M ∧ lb ≤ M := by omega
  have HML := Lib.hid hML; clear hML hM
  go_enter Tryz.func109, Tryz.ntmps109
  go_wp2_with fail
  refine (HMO.out _).mono ?_; rintro e w' ⟨rfl, rfl⟩
  go_wp2_with fail
  go_loopw [5] (fun x wr => ∃ k : Nat, x = .int .i64 ((k : Int) - 1) ∧ k ≤ M ∧ Hid (∀ j, k ≤ j → xs.getD j 0 = ys.getD j 0) ∧ wr = w) (fun x _ => (intOf x + 1).toNat)
  case atStart => exact ⟨M, rfl, Nat.le_refl _, fun j hj => by have := HML.out; rw [HX0.out j (by omega), HY0.out j (by omega)], rfl⟩
  case round =>
    obtain ⟨k, rfl, hk, HE, rfl⟩ := hrel
    by_cases hk0 : k = 0
    · subst hk0
      have hc : C = 0 := HEQ.out fun j => HE.out j (Nat.zero_le _)
      subst hc
      go_wp2_with fail
      go_ret
      exact ret_eq rfl (by repeat (first | exact Below.refl _ _ | (with_reducible assumption) | refine bel_alloc ?_ _ | refine bel_drew ?_ | refine bel_drewN ?_ _ | refine Below.setCell ?_ (by dsimp only; omega) _ | refine bel_trans (by assumption) ?_))
    · obtain ⟨q, rfl⟩ : ∃ q, k = q + 1 := ⟨k - 1, by omega⟩
      have eq1 : ((q + 1 : Nat) : Int) - 1 = (q : Int) := by omega
      rw [eq1]
      clear hk0 eq1
      have hq0 : (0 : Int) ≤ (q : Int) := Int.natCast_nonneg _
      have hx := HBX.out q wr (by omega) (Below.refl _ _)
      have hy := HBY.out q wr (by omega) (Below.refl _ _)
      rw [Int.toNat_natCast] at hx hy
      have h1 := HLT.out q (fun j hj => HE.out j (by omega))
      have h2 := HGT.out q (fun j hj => (HE.out j (by omega)).symm)
      have h3 : xs.getD q 0 = ys.getD q 0 → ∀ j, q ≤ j → xs.getD j 0 = ys.getD j 0 := fun h j hj => by
        by_cases e : j = q
        · rw [e]; exact h
        · exact HE.out j (by omega)
      generalize xs.getD q 0 = x at hx h1 h2 h3
      generalize ys.getD q 0 = y at hy h1 h2 h3
      have HX := Lib.hid hx; have HY := Lib.hid hy; have H3 := Lib.hid h3; clear hx hy h3
      rcases Int.lt_trichotomy x y with hxy | hxy | hxy
      · have hc := h1 hxy
        clear h1 h2
        subst hc
        go_wp2_with fail
        refine HX.out.mono ?_; rintro e w' ⟨rfl, rfl⟩
        go_wp2_with fail
        refine HY.out.mono ?_; rintro e w' ⟨rfl, rfl⟩
        go_wp2_with fail
        go_ret
        exact ret_eq rfl (by repeat (first | exact Below.refl _ _ | (with_reducible assumption) | refine bel_alloc ?_ _ | refine bel_drew ?_ | refine bel_drewN ?_ _ | refine Below.setCell ?_ (by dsimp only; omega) _ | refine bel_trans (by assumption) ?_))
      · clear h1 h2
        have hnl : ¬ x < y := by omega
        have hng : ¬ y < x := by omega
        go_wp2_with fail
        refine HX.out.mono ?_; rintro e w' ⟨rfl, rfl⟩
        go_wp2_with fail
        refine HY.out.mono ?_; rintro e w' ⟨rfl, rfl⟩
        go_wp2_with fail
        go_roundw
        case rel => exact ⟨q, by first | rfl | go_num, by omega, fun j hj => H3.out hxy j hj, by first | rfl | trivial⟩
        case measure => first | (simp [intOf]; done) | (simp [intOf]; omega)
      · have hc := h2 hxy
        clear h1 h2
        subst hc
        have hnl : ¬ x < y := by omega
        go_wp2_with fail
        refine HX.out.mono ?_; rintro e w' ⟨rfl, rfl⟩
        go_wp2_with fail
        refine HY.out.mono ?_; rintro e w' ⟨rfl, rfl⟩
        go_wp2_with fail
        go_ret
        exact ret_eq rfl (by repeat (first | exact Below.refl _ _ | (with_reducible assumption) | refine bel_alloc ?_ _ | refine bel_drew ?_ | refine bel_drewN ?_ _ | refine Below.setCell ?_ (by dsimp only; omega) _ | refine bel_trans (by assumption) ?_))
set_option maxRecDepth 4000 in
set_option maxHeartbeats 4000000 in
theorem bgCombine_any (v u : Value) (xs ys : List Int) (sg : Int) (w : World) (hr : Rd w v xs) (hr' : Rd w u ys) (hxd : Dig xs) (hyd : Dig ys) (hl : xs.length ≤ 1000) (hl' : ys.length ≤ 1000) (hsg : sg = 1 ∨ (sg = -1 ∧ val ys ≤ val xs)) :
    Calls Tryz.prog 146 #[v, u, .int .i64 sg] w (RetLimbs (val xs + sg * val ys) w) := by
  obtain ⟨i0, hi, hz0, hz1, hz2⟩ := info_parts Tryz.info_int
  have hbx := fun (k : Nat) (wr : World) (hk : k ≤ 1000000) (hb : Below w.heap.size w wr) => bgLimb_any v xs k wr (hr.keep hb) (by omega) (by omega) (by omega)
  have hby := fun (k : Nat) (wr : World) (hk : k ≤ 1000000) (hb : Below w.heap.size w wr) => bgLimb_any u ys k wr (hr'.keep hb) (by omega) (by omega) (by omega)
  obtain ⟨ad, cap, rfl, -, -⟩ := hr
  obtain ⟨ad', cap', rfl, -, -⟩ := hr'
  obtain ⟨t, ht⟩ : ∃ t, val xs + sg * val ys = t := ⟨_, rfl⟩
  have ht0 : 0 ≤ t := by
    have h1 := val_nonneg hxd
    have h2 := val_nonneg hyd
    rw [← ht]
    rcases hsg with rfl | ⟨rfl, h⟩ <;> omega
  have hs2 : sg = 1 ∨ sg = -1 := by rcases hsg with h | h; exact .inl h; exact .inr h.1
  rw [ht]
  have hfin := fun out i (h : CombSt xs ys sg i 0 out) h1 h2 => (h.finish h1 h2).trans ht
  have hnn := fun out i c (h : CombSt xs ys sg i c out) h1 h2 => h.nonneg h1 h2 (by rw [ht]; exact ht0)
  have hst := fun out i c c' r (h : CombSt xs ys sg i c out) => h.step (c' := c') (r := r)
  have hab := fun i => hxd.at' i
  have hcb := fun i => hyd.at' i
  have hx0 := fun (i : Nat) (h : xs.length ≤ i) => getD_over h
  have hy0 := fun (i : Nat) (h : ys.length ≤ i) => getD_over h
  have hstart := CombSt.start xs ys sg
  have HBX := Lib.hid hbx; have HBY := Lib.hid hby; have HFIN := Lib.hid hfin; have HNN := Lib.hid hnn; have HST := Lib.hid hst; have HAB := Lib.hid hab; have HCB := Lib.hid hcb; have HX0 := Lib.hid hx0; have HY0 := Lib.hid hy0; have HS0 := Lib.hid hstart
  clear hbx hby hfin hnn hst hab hcb hx0 hy0 hstart ht ht0 hsg hxd hyd
  generalize xs.length = la at *
  generalize ys.length = lb at *
  obtain ⟨M, hM⟩ : ∃ M : Nat, max la lb = M := ⟨_, rfl⟩
  have hMb : M ≤ 1000 := by omega
  rcases hs2 with hs | hs
  · subst hs
    go_enter Tryz.func146, Tryz.ntmps146
    go_wp2_with fail
    go_loopw [7, 8, 9] (fun y p q wr => ∃ (c : Int) (i : Nat) (out : List Int), p = .int .i64 c ∧ q = .int .i64 i ∧ -1 ≤ c ∧ c ≤ 1 ∧ (i ≤ M ∨ (i = M + 1 ∧ c = 0)) ∧ Below w.heap.size w wr ∧ Own wr w.heap.size y out ∧ Hid (CombSt xs ys _ i c out)) (fun _ _ q _ => M + 1 - (intOf q).toNat)
    case atStart => exact ⟨0, 0, [], rfl, rfl, by omega, by omega, .inl (Nat.zero_le _), Below.refl _ _, Own.nil _ _, HS0.out⟩
    case round =>
      obtain ⟨c, i, out, rfl, rfl, c0, c1, hiM, hbel, hown, HI⟩ := hrel
      have hi0 : (0 : Int) ≤ (i : Int) := Int.natCast_nonneg _
      have hlen : out.length = i := HI.out.1
      by_cases hend : la ≤ i ∧ lb ≤ i ∧ c = 0
      · obtain ⟨e1, e2, rfl⟩ := hend
        have hv := HFIN.out out i HI.out e1 e2
        have hd := HI.out.2.1
        have e1' : ¬ (i : Int) < (la : Int) := by omega
        have e2' : ¬ (i : Int) < (lb : Int) := by omega
        have HV := Lib.hid hv; have HD := Lib.hid hd; clear hv hd
        have HO := Lib.hid hown; clear hown
        have HB := Lib.hid hbel; clear hbel
        go_wp2_with fail
        go_ret
        exact ⟨_, out, rfl, HB.out, HO.out, HD.out, HV.out, by omega⟩
      · have hcn : la ≤ i → lb ≤ i → 0 ≤ c := fun h1 h2 => HNN.out out i c HI.out h1 h2
        have hcz : i = M + 1 → c = 0 := fun h => by rcases hiM with h1 | h1; omega; exact h1.2
        have hi1 : i ≤ M := by omega
        have hx := HBX.out i wr (by omega) hbel
        have hy := HBY.out i wr (by omega) hbel
        rw [Int.toNat_natCast] at hx hy
        have ha := HAB.out i
        have hb := HCB.out i
        have hz1' := HX0.out i
        have hz2' := HY0.out i
        have hstep := fun c' r => HST.out out i c c' r HI.out
        generalize xs.getD i 0 = x at hx ha hz1' hstep
        generalize ys.getD i 0 = y at hy hb hz2' hstep
        have HX := Lib.hid hx; have HY := Lib.hid hy; have HSTEP := Lib.hid hstep; clear hx hy hstep
        have hguard : (i : Int) < (la : Int) ∨ (¬ (i : Int) < (la : Int) ∧ (i : Int) < (lb : Int)) ∨ (¬ (i : Int) < (la : Int) ∧ ¬ (i : Int) < (lb : Int) ∧ c ≠ 0) := by omega
        have hown' : wr.ownsRow w.heap.size 3 1 _ out.length (out.map (Value.int .i64)) := hown
        have HLEN := Lib.hid hlen; clear hlen
        rcases hguard with g1 | ⟨g1, g2⟩ | ⟨g1, g2, g3⟩
        all_goals
          (try have g4 : (c != 0) = true := by simp [g3])
          rcases Int.lt_or_le (x + 1 * y + c) 0 with n1 | n1
          all_goals (try rcases Int.lt_or_le (x + 1 * y + c) 10000 with n2 | n2)
          all_goals
            go_wp2_with fail
            refine (HX.out).mono ?_; rintro e w' ⟨rfl, rfl⟩
            go_wp2_with fail
            refine (HY.out).mono ?_; rintro e w' ⟨rfl, rfl⟩
            go_wp2_with (first | (at_builtin; refine wpList_append_own _ rfl _ _ 24 rfl w.heap.size 3 i0 (.int .i64 0) 1 8 Tryz.underlying24 hi hz0 hz1 hz2 rfl (by decide) _ _ _ rfl (hown'.alloc _) ⟨wr.heap.size, 0, none⟩ 1 1 [.int .i64 _] rfl rfl (cell_one_new _ _ _) ?_ ?_ ?_ ?_ ?_))
            all_goals first
              | (have := HLEN.out; unfold maxLen; omega)
              | (have := HLEN.out; omega)
              | (have := hbel.size; simp; omega)
              | rfl
              | (intro u hu; simp at hu; subst hu; rfl)
              | skip
            all_goals
              intro v' w5 hown5 hgrow _
              obtain ⟨hb5, ho5⟩ := own_snoc hbel hown hown5 hgrow
              clear hown5 hgrow hown hown' hbel HX HY
              go_wp2_with fail
              go_roundw
              case rel => exact ⟨_, i + 1, _, rfl, by go_num, by omega, by omega, by omega, hb5, ho5, HSTEP.out _ _ (by omega) (by omega) (by omega)⟩
              case measure => simp [intOf]; omega
  · subst hs
    go_enter Tryz.func146, Tryz.ntmps146
    go_wp2_with fail
    go_loopw [7, 8, 9] (fun y p q wr => ∃ (c : Int) (i : Nat) (out : List Int), p = .int .i64 c ∧ q = .int .i64 i ∧ -1 ≤ c ∧ c ≤ 1 ∧ (i ≤ M ∨ (i = M + 1 ∧ c = 0)) ∧ Below w.heap.size w wr ∧ Own wr w.heap.size y out ∧ Hid (CombSt xs ys _ i c out)) (fun _ _ q _ => M + 1 - (intOf q).toNat)
    case atStart => exact ⟨0, 0, [], rfl, rfl, by omega, by omega, .inl (Nat.zero_le _), Below.refl _ _, Own.nil _ _, HS0.out⟩
    case round =>
      obtain ⟨c, i, out, rfl, rfl, c0, c1, hiM, hbel, hown, HI⟩ := hrel
      have hi0 : (0 : Int) ≤ (i : Int) := Int.natCast_nonneg _
      have hlen : out.length = i := HI.out.1
      by_cases hend : la ≤ i ∧ lb ≤ i ∧ c = 0
      · obtain ⟨e1, e2, rfl⟩ := hend
        have hv := HFIN.out out i HI.out e1 e2
        have hd := HI.out.2.1
        have e1' : ¬ (i : Int) < (la : Int) := by omega
        have e2' : ¬ (i : Int) < (lb : Int) := by omega
        have HV := Lib.hid hv; have HD := Lib.hid hd; clear hv hd
        have HO := Lib.hid hown; clear hown
        have HB := Lib.hid hbel; clear hbel
        go_wp2_with fail
        go_ret
        exact ⟨_, out, rfl, HB.out, HO.out, HD.out, HV.out, by omega⟩
      · have hcn : la ≤ i → lb ≤ i → 0 ≤ c := fun h1 h2 => HNN.out out i c HI.out h1 h2
        have hcz : i = M + 1 → c = 0 := fun h => by rcases hiM with h1 | h1; omega; exact h1.2
        have hi1 : i ≤ M := by omega
        have hx := HBX.out i wr (by omega) hbel
        have hy := HBY.out i wr (by omega) hbel
        rw [Int.toNat_natCast] at hx hy
        have ha := HAB.out i
        have hb := HCB.out i
        have hz1' := HX0.out i
        have hz2' := HY0.out i
        have hstep := fun c' r => HST.out out i c c' r HI.out
        generalize xs.getD i 0 = x at hx ha hz1' hstep
        generalize ys.getD i 0 = y at hy hb hz2' hstep
        have HX := Lib.hid hx; have HY := Lib.hid hy; have HSTEP := Lib.hid hstep; clear hx hy hstep
        have hguard : (i : Int) < (la : Int) ∨ (¬ (i : Int) < (la : Int) ∧ (i : Int) < (lb : Int)) ∨ (¬ (i : Int) < (la : Int) ∧ ¬ (i : Int) < (lb : Int) ∧ c ≠ 0) := by omega
        have hown' : wr.ownsRow w.heap.size 3 1 _ out.length (out.map (Value.int .i64)) := hown
        have HLEN := Lib.hid hlen; clear hlen
        rcases hguard with g1 | ⟨g1, g2⟩ | ⟨g1, g2, g3⟩
        all_goals
          (try have g4 : (c != 0) = true := by simp [g3])
          rcases Int.lt_or_le (x + -1 * y + c) 0 with n1 | n1
          all_goals (try rcases Int.lt_or_le (x + -1 * y + c) 10000 with n2 | n2)
          all_goals
            go_wp2_with fail
            refine (HX.out).mono ?_; rintro e w' ⟨rfl, rfl⟩
            go_wp2_with fail
            refine (HY.out).mono ?_; rintro e w' ⟨rfl, rfl⟩
            go_wp2_with (first | (at_builtin; refine wpList_append_own _ rfl _ _ 24 rfl w.heap.size 3 i0 (.int .i64 0) 1 8 Tryz.underlying24 hi hz0 hz1 hz2 rfl (by decide) _ _ _ rfl (hown'.alloc _) ⟨wr.heap.size, 0, none⟩ 1 1 [.int .i64 _] rfl rfl (cell_one_new _ _ _) ?_ ?_ ?_ ?_ ?_))
            all_goals first
              | (have := HLEN.out; unfold maxLen; omega)
              | (have := HLEN.out; omega)
              | (have := hbel.size; simp; omega)
              | rfl
              | (intro u hu; simp at hu; subst hu; rfl)
              | skip
            all_goals
              intro v' w5 hown5 hgrow _
              obtain ⟨hb5, ho5⟩ := own_snoc hbel hown hown5 hgrow
              clear hown5 hgrow hown hown' hbel HX HY
              go_wp2_with fail
              go_roundw
              case rel => exact ⟨_, i + 1, _, rfl, by go_num, by omega, by omega, by omega, hb5, ho5, HSTEP.out _ _ (by omega) (by omega) (by omega)⟩
              case measure => simp [intOf]; omega
end Go.Proofs.YtakilincclnpdaaGreatDoor
