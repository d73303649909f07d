/- Co: contracts: how many points times a number are infinity. No conditions. -/
import Derived.Test.YtpjcfnjagknocaaPm
import Derived.Test.YtpjcfnjagknocaaTj
namespace Go.Proofs.Ytpjcfnjagknocaa
open Go.RowKit

theorem ptsN_on {a b : Int} {q : Nat} (hq : 0 < q) : ∀ k, k ≤ q * q → ∀ r ∈ ptsN a b q k, onF a b q r = true
  | 0, _, r, h => by simp [ptsN] at h
  | k + 1, hk, r, h => by
    rw [ptsN] at h
    split at h
    · rename_i hc
      rcases List.mem_append.1 h with h | h
      · exact ptsN_on hq k (by omega) r h
      · rw [List.mem_singleton] at h
        subst h
        unfold ptC at hc
        have h1 : k / q < q := Nat.div_lt_of_lt_mul (by omega)
        have h2 : k % q < q := Nat.mod_lt _ hq
        exact on_pair (Int.natCast_nonneg _) (Int.ofNat_lt.2 h1) (Int.natCast_nonneg _) (Int.ofNat_lt.2 h2) (by simpa using hc)
    · exact ptsN_on hq k (by omega) r h
theorem ptsL_on {a b p : Int} (hp : 5 ≤ p) {k : Nat} (hk : k < (ptsL a b p).length) : onF a b p ((ptsL a b p).getD k []) = true := by
  have hm : (ptsL a b p).getD k [] ∈ ptsL a b p := by
    rw [List.getD_eq_getElem?_getD, List.getElem?_eq_getElem hk]
    exact List.getElem_mem hk
  unfold ptsL at hm ⊢
  rcases List.mem_cons.1 hm with h | h
  · rw [h]; rfl
  · have := ptsN_on (q := p.toNat) (by omega) _ (Nat.le_refl _) _ h
    rwa [Int.toNat_of_nonneg (by omega)] at this
theorem ptsL_len {a b p : Int} (hp : 5 ≤ p) (hp2 : p ≤ 199) : (ptsL a b p).length ≤ 50000 := by
  unfold ptsL
  have h1 := ptsN_len a b p.toNat (p.toNat * p.toNat)
  have h2 : p.toNat * p.toNat ≤ 199 * 199 := Nat.mul_le_mul (by omega) (by omega)
  rw [List.length_cons]
  omega
def cntL (a p n : Int) (rows : List (List Int)) : Nat := (rows.filter fun r => decide (timesL a p n r = [])).length
theorem cntL_le (a p n : Int) (rows : List (List Int)) : cntL a p n rows ≤ rows.length := List.length_filter_le _ _
theorem cntL_step {a p n : Int} {L : List (List Int)} {k : Nat} (hk : k < L.length) : cntL a p n (L.take (k + 1)) = if timesL a p n (L.getD k []) = [] then cntL a p n (L.take k) + 1 else cntL a p n (L.take k) := by
  have e : L.take (k + 1) = L.take k ++ [L.getD k []] := by rw [List.take_add_one, List.getD_eq_getElem?_getD, List.getElem?_eq_getElem hk]; rfl
  unfold cntL
  rw [e, List.filter_append, List.length_append]
  generalize L.getD k [] = z at *
  split
  · rename_i h; simp [h]
  · rename_i h; simp [h]
noncomputable def coB (a b p n : Int) : Bool := smallB a b p && inB n 1 1000
def coV (a b p n : Int) : Int := (cntL a p n (ptsL a b p) : Nat)
set_option maxHeartbeats 2000000 in
theorem iCountOrders_any (a b p n : Int) (w : World) :
    Calls Try.prog 30 #[.agg #[.int .i64 a, .int .i64 b], .int .i64 p, .int .i64 n] w (Ret (.tuple #[.int .i64 (if coB a b p n = true then coV a b p n else 0), .bool (coB a b p n)]) w) := by
  have hco : coB a b p n = (smallB a b p && inB n 1 1000) := rfl
  cases hsm : smallB a b p
  · rw [hco, hsm, Bool.false_and, if_neg (by simp)]
    go_enter Try.func30, Try.ntmps30
    go_wp2_with (go_at_call 77; refine (fieldFits_any _ _ _ _).mono ?_; rintro e w' ⟨rfl, hb⟩; (try replace hb := aft2 hb (by assumption)); obtain ⟨hc, hf, hs1, hs2, hs3, hs4⟩ := aftz hb)
    go_returns
    exact ret_mk (by repeat (first | exact Below.refl _ _ | (with_reducible assumption) | refine bel_alloc ?_ _ | refine bel_drew ?_ | refine bel_drewN ?_ _ | refine Below.setCell ?_ (by dsimp only; omega) _ | refine bel_trans (by assumption) ?_))
  · cases hin : inB n 1 1000
    · rw [hco, hsm, hin, Bool.and_false, if_neg (by simp)]
      go_enter Try.func30, Try.ntmps30
      go_wp2_with (first | (go_at_call 77; refine (fieldFits_any _ _ _ _).mono ?_; rintro e w' ⟨rfl, hb⟩; (try replace hb := aft2 hb (by assumption)); obtain ⟨hc, hf, hs1, hs2, hs3, hs4⟩ := aftz hb) | (go_at_call 70; refine (inside_any _ _ _ _).mono ?_; rintro e w' ⟨rfl, rfl⟩))
      go_returns
      exact ret_mk (by repeat (first | exact Below.refl _ _ | (with_reducible assumption) | refine bel_alloc ?_ _ | refine bel_drew ?_ | refine bel_drewN ?_ _ | refine Below.setCell ?_ (by dsimp only; omega) _ | refine bel_trans (by assumption) ?_))
    · rw [hco, hsm, hin, Bool.and_true, if_pos rfl]
      obtain ⟨hcur, _, p1, p2⟩ := small_bd hsm
      have hp5 := small_p5 hsm
      obtain ⟨h1, h2, h3, h4, _⟩ := curveB_true.1 hcur
      have hnb := inB_true.1 hin
      have hlen := ptsL_len (a := a) (b := b) p1 p2
      have hon := fun k h => ptsL_on (a := a) (b := b) (k := k) p1 h
      have hv : coV a b p n = ((cntL a p n (ptsL a b p) : Nat) : Int) := rfl
      rw [hv]; clear hv
      have hpts := fun w => pointsModulo_any a b p w h1 h2 h3 h4 p1 p2
      obtain ⟨L, hL⟩ : ∃ L, ptsL a b p = L := ⟨_, rfl⟩
      rw [hL] at hlen hon hpts ⊢
      have HON := Lib.hid hon; clear hon hL
      go_enter Try.func30, Try.ntmps30
      go_wp2_with fail
      generalize hW : w.alloc (.cells #[.int .i64 a, .int .i64 b] 39) = W
      obtain ⟨B0, hB0⟩ : ∃ B0, w.heap.size = B0 := ⟨_, rfl⟩
      obtain ⟨hbW, g0, ca0, cb0⟩ : Below w.heap.size w W ∧ B0 < W.heap.size ∧ W.cell? ⟨B0, 0, none⟩ = some (.int .i64 a) ∧ W.cell? ⟨B0, 1, none⟩ = some (.int .i64 b) := by
        subst hW; subst hB0
        exact ⟨(by repeat (first | exact Below.refl _ _ | (with_reducible assumption) | refine bel_alloc ?_ _ | refine bel_drew ?_ | refine bel_drewN ?_ _ | refine Below.setCell ?_ (by dsimp only; omega) _ | refine bel_trans (by assumption) ?_)), by simp, by simp [go_sem], by simp [go_sem]⟩
      clear hW
      (try rw [hB0])
      refine (fieldFits_any _ _ _ _).mono ?_; rintro e w1 ⟨rfl, hb1⟩
      rw [hsm]
      have ca1 := (hb1.cell (p := ⟨B0, 0, none⟩) g0).trans ca0
      have cb1 := (hb1.cell (p := ⟨B0, 1, none⟩) g0).trans cb0
      go_wp2_with (go_at_call 70; refine (inside_any _ _ _ _).mono ?_; rintro e w' ⟨rfl, rfl⟩)
      refine (hpts _).mono ?_; rintro e w2 ⟨v, rfl, hb2, ho2⟩
      have hbl2 : Below W.heap.size W w2 := bel_trans hb2 hb1
      clear hb1 ca1 cb1
      obtain ⟨vs, hrow, hvl, hin2, _⟩ := ho2
      have HIN := Lib.hid hin2; clear hin2
      rcases hrow.2 with ⟨rfl, hz⟩ | ⟨g, cap, cur, rfl, hg, hh, hnc, hcm, _⟩
      · have hnil : L = [] := List.eq_nil_of_length_eq_zero hz
        clear hz
        subst hnil
        go_wp2_with fail
        refine wp_loop_rounds 1 ?_; rw [rounds_succ]
        go_wp2_with fail
        go_returns
        exact ret_mk (bel_trans hbl2 hbW)
      · clear hh
        unfold maxLen at hcm
        go_wp2_with fail
        go_loopw [8, 24] (fun c x wr => ∃ k : Nat, x = .int .i64 k ∧ k ≤ L.length ∧ c = .int .i64 ((cntL a p n (L.take k) : Nat) : Int) ∧ Below w2.heap.size w2 wr) (fun _ x _ => L.length - (intOf x).toNat)
        case atStart => exact ⟨0, rfl, Nat.zero_le _, rfl, Below.refl _ _⟩
        case round =>
          obtain ⟨k, rfl, hk, rfl, hbel⟩ := hrel
          by_cases hlt : k < L.length
          · have hcl := cntL_le a p n (L.take k)
            rw [List.length_take] at hcl
            have hst := cntL_step (a := a) (p := p) (n := n) hlt
            obtain ⟨c, hc⟩ : ∃ c, cntL a p n (L.take k) = c := ⟨_, rfl⟩
            rw [hc] at hst hcl
            have hr1 := (row_keep hrow hbel).cellAt k (by omega)
            have hi1 := (HIN.out k hlt).keep hbel
            rw [show vs[k]? = some (vs.getD k undef) by rw [List.getD_eq_getElem?_getD, List.getElem?_eq_getElem (by omega)]; rfl] at hr1
            have honk := HON.out k hlt
            obtain ⟨r, hr⟩ : ∃ r, L.getD k [] = r := ⟨_, rfl⟩
            rw [hr] at hst hi1 honk
            obtain ⟨u, hu⟩ : ∃ u, vs.getD k undef = u := ⟨_, rfl⟩
            rw [hu] at hi1 hr1
            clear hr hu
            have hbw : Below W.heap.size W wr := bel_trans hbel hbl2
            have ca2 := (hbw.cell (p := ⟨B0, 0, none⟩) g0).trans ca0
            have cb2 := (hbw.cell (p := ⟨B0, 1, none⟩) g0).trans cb0
            have hk0 : (0 : Int) ≤ (k : Int) := Int.natCast_nonneg _
            have hk1 : (k : Int) < (L.length : Int) := by omega
            obtain ⟨ci, hci⟩ : ∃ ci : Int, ((cntL a p n (L.take k) : Nat) : Int) = ci := ⟨_, rfl⟩
            have hcb : 0 ≤ ci ∧ ci ≤ 50000 := by rw [← hci, hc]; omega
            rw [hci]
            rw [hc] at hci
            have HCI := Lib.hid hci; clear hci hc
            have HST := Lib.hid hst; clear hst
            have hsh := hi1.len
            have HI1 := Lib.hid hi1; clear hi1
            obtain ⟨ad3, cap3, rfl⟩ := hsh
            go_wp2_with fail
            refine (timesModulo_any a b p n _ r _ HI1.out.rd HI1.out.nilz honk h1 h2 hp5 (by omega) (by omega)).mono ?_; rintro e w3 ⟨v3, rfl, hb3, ho3⟩
            have hb4 : Below w2.heap.size w2 w3 := bel_trans hb3 hbel
            obtain ⟨ad4, cap4, rfl⟩ := ho3.len
            clear HI1 hr1 ca2 cb2
            by_cases hz : timesL a p n r = []
            · have hx : Hid (((cntL a p n (L.take (k + 1)) : Nat) : Int) = ci + 1) := by unfold Hid; rw [HST.out, if_pos hz, ← HCI.out]; rfl
              rw [hz]
              clear ho3
              go_wp2_with fail
              go_roundw
              case rel => exact ⟨k + 1, by go_num, by omega, by rw [hx.out], hb4⟩
              case measure => simp [intOf]; omega
            · have hx : Hid (((cntL a p n (L.take (k + 1)) : Nat) : Int) = ci) := by unfold Hid; rw [HST.out, if_neg hz, HCI.out]
              have hlz : (((timesL a p n r).length : Int) == 0) = false := by
                have : (timesL a p n r).length ≠ 0 := fun h => hz (List.eq_nil_of_length_eq_zero h)
                simp; omega
              obtain ⟨m, hm⟩ : ∃ m, (timesL a p n r).length = m := ⟨_, rfl⟩
              rw [hm] at hlz ⊢
              clear ho3 hm hz
              go_wp2_with fail
              go_roundw
              case rel => exact ⟨k + 1, by go_num, by omega, by rw [hx.out], hb4⟩
              case measure => simp [intOf]; omega
          · have hkl : k = L.length := by omega
            have hfin : Hid (((cntL a p n (L.take k) : Nat) : Int) = ((cntL a p n L : Nat) : Int)) := by unfold Hid; rw [hkl, List.take_length]
            rw [hfin.out]
            go_wp2_with fail
            go_returns
            exact ret_mk (bel_trans (bel_trans hbel hbl2) hbW)
set_option maxHeartbeats 2000000 in
theorem sCountOrders_any (a b p n : Int) (w : World) :
    Calls Try.prog 31 #[.agg #[.int .i64 a, .int .i64 b], .int .i64 p, .int .i64 n] w (Ret (.tuple #[.int .i64 (if coB a b p n = true then coV a b p n else 0), .bool (coB a b p n)]) w) := by
  have hco : coB a b p n = (smallB a b p && inB n 1 1000) := rfl
  cases hsm : smallB a b p
  · rw [hco, hsm, Bool.false_and, if_neg (by simp)]
    go_enter Try.func31, Try.ntmps31
    go_wp2_with (go_at_call 80; refine (fmSmall_any _ _ _ _).mono ?_; rintro e w' ⟨rfl, hb⟩; (try replace hb := aft2 hb (by assumption)); obtain ⟨hc, hf, hs1, hs2, hs3, hs4⟩ := aftz hb)
    go_returns
    exact ret_mk (by repeat (first | exact Below.refl _ _ | (with_reducible assumption) | refine bel_alloc ?_ _ | refine bel_drew ?_ | refine bel_drewN ?_ _ | refine Below.setCell ?_ (by dsimp only; omega) _ | refine bel_trans (by assumption) ?_))
  · cases hin : inB n 1 1000
    · rw [hco, hsm, hin, Bool.and_false, if_neg (by simp)]
      go_enter Try.func31, Try.ntmps31
      go_wp2_with (first | (go_at_call 80; refine (fmSmall_any _ _ _ _).mono ?_; rintro e w' ⟨rfl, hb⟩; (try replace hb := aft2 hb (by assumption)); obtain ⟨hc, hf, hs1, hs2, hs3, hs4⟩ := aftz hb) | (go_at_call 74; refine (l1In_any _ _ _ _).mono ?_; rintro e w' ⟨rfl, rfl⟩))
      go_returns
      exact ret_mk (by repeat (first | exact Below.refl _ _ | (with_reducible assumption) | refine bel_alloc ?_ _ | refine bel_drew ?_ | refine bel_drewN ?_ _ | refine Below.setCell ?_ (by dsimp only; omega) _ | refine bel_trans (by assumption) ?_))
    · rw [hco, hsm, hin, Bool.and_true, if_pos rfl]
      obtain ⟨hcur, _, p1, p2⟩ := small_bd hsm
      have hp5 := small_p5 hsm
      obtain ⟨h1, h2, h3, h4, _⟩ := curveB_true.1 hcur
      have hnb := inB_true.1 hin
      have hlen := ptsL_len (a := a) (b := b) p1 p2
      have hon := fun k h => ptsL_on (a := a) (b := b) (k := k) p1 h
      have hv : coV a b p n = ((cntL a p n (ptsL a b p) : Nat) : Int) := rfl
      rw [hv]; clear hv
      have hpts := fun w => fmPoints_any a b p w h1 h2 h3 h4 p1 p2
      obtain ⟨L, hL⟩ : ∃ L, ptsL a b p = L := ⟨_, rfl⟩
      rw [hL] at hlen hon hpts ⊢
      have HON := Lib.hid hon; clear hon hL
      go_enter Try.func31, Try.ntmps31
      go_wp2_with fail
      generalize hW : w.alloc (.cells #[.int .i64 a, .int .i64 b] 39) = W
      obtain ⟨B0, hB0⟩ : ∃ B0, w.heap.size = B0 := ⟨_, rfl⟩
      obtain ⟨hbW, g0, ca0, cb0⟩ : Below w.heap.size w W ∧ B0 < W.heap.size ∧ W.cell? ⟨B0, 0, none⟩ = some (.int .i64 a) ∧ W.cell? ⟨B0, 1, none⟩ = some (.int .i64 b) := by
        subst hW; subst hB0
        exact ⟨(by repeat (first | exact Below.refl _ _ | (with_reducible assumption) | refine bel_alloc ?_ _ | refine bel_drew ?_ | refine bel_drewN ?_ _ | refine Below.setCell ?_ (by dsimp only; omega) _ | refine bel_trans (by assumption) ?_)), by simp, by simp [go_sem], by simp [go_sem]⟩
      clear hW
      (try rw [hB0])
      refine (fmSmall_any _ _ _ _).mono ?_; rintro e w1 ⟨rfl, hb1⟩
      rw [hsm]
      have ca1 := (hb1.cell (p := ⟨B0, 0, none⟩) g0).trans ca0
      have cb1 := (hb1.cell (p := ⟨B0, 1, none⟩) g0).trans cb0
      go_wp2_with (go_at_call 74; refine (l1In_any _ _ _ _).mono ?_; rintro e w' ⟨rfl, rfl⟩)
      refine (hpts _).mono ?_; rintro e w2 ⟨v, rfl, hb2, ho2⟩
      have hbl2 : Below W.heap.size W w2 := bel_trans hb2 hb1
      clear hb1 ca1 cb1
      obtain ⟨vs, hrow, hvl, hin2, _⟩ := ho2
      have HIN := Lib.hid hin2; clear hin2
      rcases hrow.2 with ⟨rfl, hz⟩ | ⟨g, cap, cur, rfl, hg, hh, hnc, hcm, _⟩
      · have hnil : L = [] := List.eq_nil_of_length_eq_zero hz
        clear hz
        subst hnil
        go_wp2_with fail
        refine wp_loop_rounds 1 ?_; rw [rounds_succ]
        go_wp2_with fail
        go_returns
        exact ret_mk (bel_trans hbl2 hbW)
      · clear hh
        unfold maxLen at hcm
        go_wp2_with fail
        go_loopw [8, 24] (fun c x wr => ∃ k : Nat, x = .int .i64 k ∧ k ≤ L.length ∧ c = .int .i64 ((cntL a p n (L.take k) : Nat) : Int) ∧ Below w2.heap.size w2 wr) (fun _ x _ => L.length - (intOf x).toNat)
        case atStart => exact ⟨0, rfl, Nat.zero_le _, rfl, Below.refl _ _⟩
        case round =>
          obtain ⟨k, rfl, hk, rfl, hbel⟩ := hrel
          by_cases hlt : k < L.length
          · have hcl := cntL_le a p n (L.take k)
            rw [List.length_take] at hcl
            have hst := cntL_step (a := a) (p := p) (n := n) hlt
            obtain ⟨c, hc⟩ : ∃ c, cntL a p n (L.take k) = c := ⟨_, rfl⟩
            rw [hc] at hst hcl
            have hr1 := (row_keep hrow hbel).cellAt k (by omega)
            have hi1 := (HIN.out k hlt).keep hbel
            rw [show vs[k]? = some (vs.getD k undef) by rw [List.getD_eq_getElem?_getD, List.getElem?_eq_getElem (by omega)]; rfl] at hr1
            have honk := HON.out k hlt
            obtain ⟨r, hr⟩ : ∃ r, L.getD k [] = r := ⟨_, rfl⟩
            rw [hr] at hst hi1 honk
            obtain ⟨u, hu⟩ : ∃ u, vs.getD k undef = u := ⟨_, rfl⟩
            rw [hu] at hi1 hr1
            clear hr hu
            have hbw : Below W.heap.size W wr := bel_trans hbel hbl2
            have ca2 := (hbw.cell (p := ⟨B0, 0, none⟩) g0).trans ca0
            have cb2 := (hbw.cell (p := ⟨B0, 1, none⟩) g0).trans cb0
            have hk0 : (0 : Int) ≤ (k : Int) := Int.natCast_nonneg _
            have hk1 : (k : Int) < (L.length : Int) := by omega
            obtain ⟨ci, hci⟩ : ∃ ci : Int, ((cntL a p n (L.take k) : Nat) : Int) = ci := ⟨_, rfl⟩
            have hcb : 0 ≤ ci ∧ ci ≤ 50000 := by rw [← hci, hc]; omega
            rw [hci]
            rw [hc] at hci
            have HCI := Lib.hid hci; clear hci hc
            have HST := Lib.hid hst; clear hst
            have hsh := hi1.len
            have HI1 := Lib.hid hi1; clear hi1
            obtain ⟨ad3, cap3, rfl⟩ := hsh
            go_wp2_with fail
            have hte : timI a p n.toNat [] r = timesL a p n r := by unfold timesL; rw [if_neg (by omega), show n.natAbs = n.toNat by omega]
            have htm := fmTimes_any a b p n _ r _ HI1.out.rd HI1.out.nilz honk h1 h2 hp5 (by omega) (by omega)
            rw [hte] at htm
            refine htm.mono ?_; rintro e w3 ⟨v3, rfl, hb3, ho3⟩
            have hb4 : Below w2.heap.size w2 w3 := bel_trans hb3 hbel
            obtain ⟨ad4, cap4, rfl⟩ := ho3.len
            clear HI1 hr1 ca2 cb2
            by_cases hz : timesL a p n r = []
            · have hx : Hid (((cntL a p n (L.take (k + 1)) : Nat) : Int) = ci + 1) := by unfold Hid; rw [HST.out, if_pos hz, ← HCI.out]; rfl
              rw [hz]
              clear ho3
              go_wp2_with fail
              go_roundw
              case rel => exact ⟨k + 1, by go_num, by omega, by rw [hx.out], hb4⟩
              case measure => simp [intOf]; omega
            · have hx : Hid (((cntL a p n (L.take (k + 1)) : Nat) : Int) = ci) := by unfold Hid; rw [HST.out, if_neg hz, HCI.out]
              have hlz : (((timesL a p n r).length : Int) == 0) = false := by
                have : (timesL a p n r).length ≠ 0 := fun h => hz (List.eq_nil_of_length_eq_zero h)
                simp; omega
              obtain ⟨m, hm⟩ : ∃ m, (timesL a p n r).length = m := ⟨_, rfl⟩
              rw [hm] at hlz ⊢
              clear ho3 hm hz
              go_wp2_with fail
              go_roundw
              case rel => exact ⟨k + 1, by go_num, by omega, by rw [hx.out], hb4⟩
              case measure => simp [intOf]; omega
          · have hkl : k = L.length := by omega
            have hfin : Hid (((cntL a p n (L.take k) : Nat) : Int) = ((cntL a p n L : Nat) : Int)) := by unfold Hid; rw [hkl, List.take_length]
            rw [hfin.out]
            go_wp2_with fail
            go_returns
            exact ret_mk (bel_trans (bel_trans hbel hbl2) hbW)
end Go.Proofs.Ytpjcfnjagknocaa
