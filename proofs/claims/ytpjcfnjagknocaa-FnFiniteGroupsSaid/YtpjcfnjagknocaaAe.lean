/- Ae: contracts: the sum of two points modulo a prime, walked. No conditions. -/
import Derived.Test.YtpjcfnjagknocaaAd
namespace Go.Proofs.Ytpjcfnjagknocaa
open Go.RowKit

theorem p5_pr2 {p : Int} (h : p5B p = true) : Pr p := by unfold p5B at h; rw [Bool.and_eq_true] at h; exact primeB_true.1 h.2
theorem addI_pair (a p s0 s1 t0 t1 : Int) : addI a p [s0, s1] [t0, t1] = if s0 = t0 ∧ (s1 + t1) % p = 0 then [] else
      [sumX (slopeI a p s0 s1 t0 t1) p s0 t0, sumY (slopeI a p s0 s1 t0 t1) p s0 s1 (sumX (slopeI a p s0 s1 t0 t1) p s0 t0)] := rfl
theorem RdCells {w : World} {v : Value} {x y : Int} (h : Rd w v [x, y]) : ∃ b o cap, v = .slice (some ⟨b, o, none⟩) 2 cap ∧ b < w.heap.size ∧ w.cell? ⟨b, o, none⟩ = some (.int .i64 x) ∧ w.cell? ⟨b, o + 1, none⟩ = some (.int .i64 y) := by
  obtain ⟨ad, cap, rfl, hl, hcs⟩ := h
  obtain ⟨bb, off, rfl, hbb, hcell⟩ := hcs (by simp)
  exact ⟨bb, off, cap, rfl, hbb, hcell 0 (by simp), hcell 1 (by simp)⟩
theorem RdNil {w : World} {v : Value} (h : Rd w v []) : ∃ ad cap, v = .slice ad 0 cap := by
  obtain ⟨ad, cap, rfl, _⟩ := h
  exact ⟨ad, cap, rfl⟩
theorem RdTwo {w : World} {v : Value} {x y : Int} (h : Rd w v [x, y]) : ∃ ad cap, v = .slice ad 2 cap := by
  obtain ⟨ad, cap, rfl, _⟩ := h
  exact ⟨ad, cap, rfl⟩
set_option maxHeartbeats 4000000 in
theorem addModulo_any (a b p : Int) (v v' : Value) (s t : List Int) (w : World) (hrd : Rd w v s) (hrd' : Rd w v' t) (hn : NilZ v) (hn' : NilZ v') (hs : onF a b p s = true) (ht : onF a b p t = true)
    (h1 : -1000 ≤ a) (h2 : a ≤ 1000) (hp : p5B p = true) :
    Calls Try.prog 126 #[.agg #[.int .i64 a, .int .i64 b], .int .i64 p, v, v'] w (RetSl (addI a p s t) w) := by
  obtain ⟨p1, p2⟩ := p5_bd hp
  have hpr := p5_pr2 hp
  rcases onF_cases hs with rfl | ⟨s0, s1, rfl, sa, sb, sc, sd, hsq⟩
  · rw [addI_nil]
    have htl : t.length ≤ 1048576 := by rcases onF_cases ht with rfl | ⟨_, _, rfl, _⟩ <;> simp
    obtain ⟨ad, cap, rfl⟩ := RdNil hrd
    clear hrd hn hs ht hpr hp
    go_enter Try.func126, Try.ntmps126
    go_wp2_with fail
    refine (clone_any _ _ _ (hrd'.keep (by repeat (first | exact Below.refl _ _ | (with_reducible assumption) | refine bel_alloc ?_ _ | refine bel_drew ?_ | refine bel_drewN ?_ _ | refine Below.setCell ?_ (by dsimp only; omega) _ | refine bel_trans (by assumption) ?_))) hn' htl).mono ?_; rintro e w1 ⟨u, rfl, hb1, ho⟩
    go_wp2_with fail
    go_ret
    exact ⟨_, rfl, (by repeat (first | exact Below.refl _ _ | (with_reducible assumption) | refine bel_alloc ?_ _ | refine bel_drew ?_ | refine bel_drewN ?_ _ | refine Below.setCell ?_ (by dsimp only; omega) _ | refine bel_trans (by assumption) ?_)), ho.le (by simp)⟩
  · rcases onF_cases ht with rfl | ⟨t0, t1, rfl, ta, tb, tc, td, htq⟩
    · rw [addI_nil']
      obtain ⟨ad, cap, rfl⟩ := RdNil hrd'
      have hsl : [s0, s1].length ≤ 1048576 := by simp
      have hrd0 := hrd
      obtain ⟨ad2, cap2, rfl⟩ := RdTwo hrd
      clear hrd' hn' hs ht hpr hp hrd
      have HR := Lib.hid hrd0; clear hrd0
      go_enter Try.func126, Try.ntmps126
      go_wp2_with fail
      refine (clone_any _ [s0, s1] _ (HR.out.keep (by repeat (first | exact Below.refl _ _ | (with_reducible assumption) | refine bel_alloc ?_ _ | refine bel_drew ?_ | refine bel_drewN ?_ _ | refine Below.setCell ?_ (by dsimp only; omega) _ | refine bel_trans (by assumption) ?_))) hn hsl).mono ?_; rintro e w1 ⟨u, rfl, hb1, ho⟩
      go_wp2_with fail
      go_ret
      exact ⟨_, rfl, (by repeat (first | exact Below.refl _ _ | (with_reducible assumption) | refine bel_alloc ?_ _ | refine bel_drew ?_ | refine bel_drewN ?_ _ | refine Below.setCell ?_ (by dsimp only; omega) _ | refine bel_trans (by assumption) ?_)), ho.le (by simp)⟩
    · obtain ⟨bs, os, cs, rfl, hbs, c0, c1⟩ := RdCells hrd
      obtain ⟨bt, ot, ct, rfl, hbt, d0, d1⟩ := RdCells hrd'
      clear hrd hrd' hn hn' hs ht
      have hpn : ¬ p = 0 := by omega
      have hp0 : (p == 0) = false := by simp; omega
      by_cases hx : s0 = t0
      · subst hx
        rcases sum_zero hpr p1 sc sd tc td (hsq.trans htq.symm) with hz | ⟨rfl, hs1⟩
        · have hr : addI a p [s0, s1] [s0, t1] = [] := by rw [addI_pair, if_pos ⟨rfl, hz⟩]
          rw [hr]; clear hr
          clear hpr hp hsq htq
          go_enter Try.func126, Try.ntmps126
          go_wp2_with fail
          generalize hW : w.alloc (.cells #[.int .i64 a, .int .i64 b] 39) = W
          obtain ⟨B0, hB0⟩ : ∃ B0, w.heap.size = B0 := ⟨_, rfl⟩
          obtain ⟨hbelW, h0, cA, e0, e1, f0, f1⟩ : Below w.heap.size w W ∧ B0 < W.heap.size ∧ W.cell? ⟨B0, 0, none⟩ = some (.int .i64 a) ∧ W.cell? ⟨bs, os, none⟩ = some (.int .i64 s0) ∧ W.cell? ⟨bs, os + 1, none⟩ = some (.int .i64 s1) ∧ W.cell? ⟨bt, ot, none⟩ = some (.int .i64 s0) ∧ W.cell? ⟨bt, ot + 1, none⟩ = some (.int .i64 t1) := by
            have hk := below_alloc w (.cells #[.int .i64 a, .int .i64 b] 39)
            subst hW; subst hB0
            exact ⟨hk, by simp, by simp [go_sem], (hk.cell (p := ⟨bs, os, none⟩) hbs).trans c0, (hk.cell (p := ⟨bs, os + 1, none⟩) hbs).trans c1, (hk.cell (p := ⟨bt, ot, none⟩) hbt).trans d0, (hk.cell (p := ⟨bt, ot + 1, none⟩) hbt).trans d1⟩
          have gs : bs < W.heap.size := Nat.lt_of_lt_of_le hbs hbelW.size
          have gt : bt < W.heap.size := Nat.lt_of_lt_of_le hbt hbelW.size
          clear hW c0 c1 d0 d1 hbs hbt
          have HbelW : True → Below w.heap.size w W := fun _ => hbelW
          clear hbelW
          (try rw [hB0])
          refine wp_region_grow (by kernel_rfl) (by kernel_rfl) ?_
          repeat (go_big_quiet_step ((fail)))
          refine wpQuiet_nil ?_
          rintro wg hbg
          (try replace hbg := aft2 hbg (by assumption))
          obtain ⟨hcg, hfg, hg1, hg2, hg3, hg4⟩ := aftz hbg
          go_wp2_with fail
          go_ret
          exact ⟨_, rfl, bel_trans hbg (HbelW trivial), Own.nil _ _⟩
        · have hnz : ¬ (t1 + t1) % p = 0 := fun h => (sum_zero' hpr p1 sc sd h).elim (fun h => h rfl) hs1
          have hnzb : ((t1 + t1) % p == 0) = false := by simp [hnz]
          have hs1b : (t1 == 0) = false := by simp [hs1]
          have k1 := mul_bd (a := 3 * s0) (b := s0) (A := 2991) (B := 997) (by omega) (by omega) (by omega) (by omega)
          have hr : addI a p [s0, t1] [s0, t1] = [sumX (slopeI a p s0 t1 s0 t1) p s0 s0, sumY (slopeI a p s0 t1 s0 t1) p s0 t1 (sumX (slopeI a p s0 t1 s0 t1) p s0 s0)] := by rw [addI_pair, if_neg (fun h => hnz h.2)]
          have hsl : slopeI a p s0 t1 s0 t1 = (3 * s0 * s0 + a) % p * powI (2 * t1) (p - 2) p % p := by unfold slopeI numI denI; rw [if_pos rfl, if_pos rfl]
          rw [hr]; clear hr
          obtain ⟨num, hnum⟩ : ∃ num, 3 * s0 * s0 + a = num := ⟨_, rfl⟩
          rw [hnum] at hsl
          have hnb : -4000000 ≤ num ∧ num ≤ 4000000 := by omega
          have HS := Lib.hid hsl; clear hsl
          obtain ⟨m, hm⟩ : ∃ m, slopeI a p s0 t1 s0 t1 = m := ⟨_, rfl⟩
          rw [hm] at HS ⊢
          clear hm
          obtain ⟨x, hxx⟩ : ∃ x, sumX m p s0 s0 = x := ⟨_, rfl⟩
          obtain ⟨y, hyy⟩ : ∃ y, sumY m p s0 t1 x = y := ⟨_, rfl⟩
          rw [hxx, hyy]
          have HX := Lib.hid hxx; clear hxx
          have HY := Lib.hid hyy; clear hyy
          obtain ⟨u, hu⟩ : ∃ u, num % p = u := ⟨_, rfl⟩
          obtain ⟨i, hi⟩ : ∃ i, powI (2 * t1) (p - 2) p = i := ⟨_, rfl⟩
          have hub : 0 ≤ u ∧ u < p := by rw [← hu]; exact ⟨Int.emod_nonneg _ (by omega), Int.emod_lt_of_pos _ (by omega)⟩
          have hib : 0 ≤ i ∧ i < p := by rw [← hi]; exact powI_bd (by omega)
          have HS2 : Hid (u * i % p = m) := by unfold Hid; rw [HS.out, hu, hi]
          have hmb : 0 ≤ m ∧ m < p := by rw [← HS2.out]; exact ⟨Int.emod_nonneg _ (by omega), Int.emod_lt_of_pos _ (by omega)⟩
          have hxb2 : 0 ≤ x ∧ x < p := by rw [← HX.out]; unfold sumX; exact ⟨Int.emod_nonneg _ (by omega), Int.emod_lt_of_pos _ (by omega)⟩
          have ui0 := Int.mul_nonneg hub.1 hib.1
          have ui1 := (mul_bd (a := u) (b := i) (A := 997) (B := 997) (by omega) (by omega) (by omega) (by omega)).2
          have mm0 := Int.mul_nonneg hmb.1 hmb.1
          have mm1 := (mul_bd (a := m) (b := m) (A := 997) (B := 997) (by omega) (by omega) (by omega) (by omega)).2
          have mx := mul_bd (a := m) (b := s0 - x) (A := 997) (B := 997) (by omega) (by omega) (by omega) (by omega)
          have ni := mul_bd (a := num) (b := i) (A := 4000000) (B := 997) (by omega) (by omega) (by omega) (by omega)
          have wx1 : IntKind.i64.wrap (s0 - x) = s0 - x := wrapb (by omega) (by omega)
          have wx2 : IntKind.i64.wrap (m * (s0 - x)) = m * (s0 - x) := wrapb (by omega) (by omega)
          have wx3 : IntKind.i64.wrap (m * (s0 - x) - t1) = m * (s0 - x) - t1 := wrapb (by omega) (by omega)
          have hcx : ∀ w, Calls Try.prog 134 #[.int .i64 (m * m - s0 - s0), .int .i64 p] w (Ret (.int .i64 x) w) := fun w => HX.out ▸ modulo_any _ p w (by omega) (by omega)
          have hcy : ∀ w, Calls Try.prog 134 #[.int .i64 (m * (s0 - x) - t1), .int .i64 p] w (Ret (.int .i64 y) w) := fun w => HY.out ▸ modulo_any _ p w (by omega) (by omega)
          have hci : ∀ w, Calls Try.prog 156 #[.int .i64 (2 * t1), .int .i64 p] w (Ret (.int .i64 i) w) := fun w => hi ▸ inverse_any _ p w (by omega) (by omega)
          have hcu : ∀ w, Calls Try.prog 134 #[.int .i64 (3 * s0 * s0 + a), .int .i64 p] w (Ret (.int .i64 u) w) := fun w => by rw [hnum]; exact hu ▸ modulo_any num p w (by omega) (by omega)
          clear hpr hp hsq htq hi hu hnum HS
          go_enter Try.func126, Try.ntmps126
          go_wp2_with fail
          generalize hW : w.alloc (.cells #[.int .i64 a, .int .i64 b] 39) = W
          obtain ⟨B0, hB0⟩ : ∃ B0, w.heap.size = B0 := ⟨_, rfl⟩
          obtain ⟨hbelW, h0, cA, e0, e1, f0, f1⟩ : Below w.heap.size w W ∧ B0 < W.heap.size ∧ W.cell? ⟨B0, 0, none⟩ = some (.int .i64 a) ∧ W.cell? ⟨bs, os, none⟩ = some (.int .i64 s0) ∧ W.cell? ⟨bs, os + 1, none⟩ = some (.int .i64 t1) ∧ W.cell? ⟨bt, ot, none⟩ = some (.int .i64 s0) ∧ W.cell? ⟨bt, ot + 1, none⟩ = some (.int .i64 t1) := by
            have hk := below_alloc w (.cells #[.int .i64 a, .int .i64 b] 39)
            subst hW; subst hB0
            exact ⟨hk, by simp, by simp [go_sem], (hk.cell (p := ⟨bs, os, none⟩) hbs).trans c0, (hk.cell (p := ⟨bs, os + 1, none⟩) hbs).trans c1, (hk.cell (p := ⟨bt, ot, none⟩) hbt).trans d0, (hk.cell (p := ⟨bt, ot + 1, none⟩) hbt).trans d1⟩
          have gs : bs < W.heap.size := Nat.lt_of_lt_of_le hbs hbelW.size
          have gt : bt < W.heap.size := Nat.lt_of_lt_of_le hbt hbelW.size
          clear hW c0 c1 d0 d1 hbs hbt
          have HbelW : True → Below w.heap.size w W := fun _ => hbelW
          clear hbelW
          (try rw [hB0])
          refine wp_region_grow (by kernel_rfl) (by kernel_rfl) ?_
          repeat (go_big_quiet_step ((fail)))
          refine wpQuiet_nil ?_
          rintro wg hbg
          (try replace hbg := aft2 hbg (by assumption))
          obtain ⟨hcg, hfg, hg1, hg2, hg3, hg4⟩ := aftz hbg
          go_wp2_with fail
          refine wp_region_grow (by kernel_rfl) (by kernel_rfl) ?_
          repeat (go_big_quiet_step ((fail)))
          refine wpQuiet_nil ?_
          rintro wg hbg
          (try replace hbg := aft2 hbg (by assumption))
          obtain ⟨hcg, hfg, hg1, hg2, hg3, hg4⟩ := aftz hbg
          go_wp2_with fail
          refine wp_region_grow (by kernel_rfl) (by kernel_rfl) ?_
          repeat (go_big_quiet_step ((fail)))
          refine wpQuiet_nil ?_
          rintro wg hbg
          (try replace hbg := aft2 hbg (by assumption))
          obtain ⟨hcg, hfg, hg1, hg2, hg3, hg4⟩ := aftz hbg
          go_wp2_with fail
          refine wp_region_grow (by kernel_rfl) (by kernel_rfl) ?_
          repeat (go_big_quiet_step ((fail)))
          refine wpQuiet_nil ?_
          rintro wg hbg
          (try replace hbg := aft2 hbg (by assumption))
          obtain ⟨hcg, hfg, hg1, hg2, hg3, hg4⟩ := aftz hbg
          go_wp2_with fail
          refine (hcu _).mono ?_; rintro e w5 ⟨rfl, hb5⟩
          replace hb5 := aft2 hb5 hbg; clear hbg
          go_wp2_with fail
          refine (hci _).mono ?_; rintro e w6 ⟨rfl, hb6⟩
          replace hb6 := aft2 hb6 hb5; clear hb5
          go_wp2_with fail
          rw [HS2.out]
          obtain ⟨hc6, hf6, hs1, hs2, hs3, hs4⟩ := aftz hb6
          refine wp_region_grow (by kernel_rfl) (by kernel_rfl) ?_
          repeat (go_big_quiet_step (((go_at_call 134; exact grow_ret (hcx _)))))
          refine wpQuiet_nil ?_
          rintro wg hbg
          (try replace hbg := aft2 hbg (by assumption))
          obtain ⟨hcg, hfg, hg1, hg2, hg3, hg4⟩ := aftz hbg
          go_wp2_with fail
          have z0 : wg.cell? ⟨bs, os, none⟩ = some (.int .i64 s0) := (hbg.cell (p := ⟨bs, os, none⟩) gs).trans e0
          have z1 : wg.cell? ⟨bs, os + 1, none⟩ = some (.int .i64 t1) := (hbg.cell (p := ⟨bs, os + 1, none⟩) gs).trans e1
          have gz : bs < wg.heap.size := Nat.lt_of_lt_of_le gs hbg.size
          clear hcg hfg hg1 hg2 hg3 hg4 hc6 hf6 cA e0 e1 f0 f1
          refine' wp_region_lit (a0 := _) 117 8 (fun v w' => Below wg.heap.size wg w' ∧ Own w' wg.heap.size v [x, y]) ?_ ?_
          rotate_left
          · go_region_held3 (fun w' => Below wg.heap.size wg w' ∧ w'.cell? ⟨bs, os, none⟩ = some (.int .i64 s0) ∧ w'.cell? ⟨bs, os + 1, none⟩ = some (.int .i64 t1)) ((refine held2 ?_ gz z0 z1; go_split_ands; repeat (first | exact Below.refl _ _ | (with_reducible assumption) | refine bel_alloc ?_ _ | refine bel_drew ?_ | refine bel_trans (by assumption) ?_))) ((first | (go_at_call 134; refine (hcy _).mono ?_; rintro e w' ⟨rfl, hb⟩; (try replace hb := aft2 hb (by assumption)); have hz := hb.size; obtain ⟨hc, hf, hs1, hs2, hs3, hs4⟩ := aftz hb; (try simp at hz))))
            all_goals
              rename_i hHeld
              refine ⟨rfl, _, ⟨_, ⟨by first | rfl | (simp [Act.put]; done) | (simp [Act.put]; rfl), by first | rfl | (simp; done) | (simp; rfl)⟩, by first | rfl | (simp [Act.put]; done) | (simp [Act.put]; rfl), by first | rfl | (simp; done) | (simp; rfl)⟩, hHeld.1, own_pair _ _ (by show wg.heap.size ≤ _; omega) _ _⟩
          · rintro v w' ⟨hb', ho⟩
            simp only [Act.put, List.setIfInBounds_toArray, List.set_cons_zero, List.set_cons_succ]
            go_wp2_with fail
            go_ret
            have hbw := bel_trans hbg (HbelW trivial)
            exact ⟨_, rfl, bel_trans hb' hbw, ho.le hbw.size⟩
      · have hxb : (s0 == t0) = false := by simp [hx]
        have hr : addI a p [s0, s1] [t0, t1] = [sumX (slopeI a p s0 s1 t0 t1) p s0 t0, sumY (slopeI a p s0 s1 t0 t1) p s0 s1 (sumX (slopeI a p s0 s1 t0 t1) p s0 t0)] := by rw [addI_pair, if_neg (fun h => hx h.1)]
        have hsl : slopeI a p s0 s1 t0 t1 = (t1 - s1) % p * powI (t0 - s0) (p - 2) p % p := by unfold slopeI numI denI; rw [if_neg hx, if_neg hx]
        rw [hr]; clear hr
        obtain ⟨num, hnum⟩ : ∃ num, t1 - s1 = num := ⟨_, rfl⟩
        rw [hnum] at hsl
        have hnb : -4000000 ≤ num ∧ num ≤ 4000000 := by omega
        have HS := Lib.hid hsl; clear hsl
        obtain ⟨m, hm⟩ : ∃ m, slopeI a p s0 s1 t0 t1 = m := ⟨_, rfl⟩
        rw [hm] at HS ⊢
        clear hm
        obtain ⟨x, hxx⟩ : ∃ x, sumX m p s0 t0 = x := ⟨_, rfl⟩
        obtain ⟨y, hyy⟩ : ∃ y, sumY m p s0 s1 x = y := ⟨_, rfl⟩
        rw [hxx, hyy]
        have HX := Lib.hid hxx; clear hxx
        have HY := Lib.hid hyy; clear hyy
        obtain ⟨u, hu⟩ : ∃ u, num % p = u := ⟨_, rfl⟩
        obtain ⟨i, hi⟩ : ∃ i, powI (t0 - s0) (p - 2) p = i := ⟨_, rfl⟩
        have hub : 0 ≤ u ∧ u < p := by rw [← hu]; exact ⟨Int.emod_nonneg _ (by omega), Int.emod_lt_of_pos _ (by omega)⟩
        have hib : 0 ≤ i ∧ i < p := by rw [← hi]; exact powI_bd (by omega)
        have HS2 : Hid (u * i % p = m) := by unfold Hid; rw [HS.out, hu, hi]
        have hmb : 0 ≤ m ∧ m < p := by rw [← HS2.out]; exact ⟨Int.emod_nonneg _ (by omega), Int.emod_lt_of_pos _ (by omega)⟩
        have hxb2 : 0 ≤ x ∧ x < p := by rw [← HX.out]; unfold sumX; exact ⟨Int.emod_nonneg _ (by omega), Int.emod_lt_of_pos _ (by omega)⟩
        have ui0 := Int.mul_nonneg hub.1 hib.1
        have ui1 := (mul_bd (a := u) (b := i) (A := 997) (B := 997) (by omega) (by omega) (by omega) (by omega)).2
        have mm0 := Int.mul_nonneg hmb.1 hmb.1
        have mm1 := (mul_bd (a := m) (b := m) (A := 997) (B := 997) (by omega) (by omega) (by omega) (by omega)).2
        have mx := mul_bd (a := m) (b := s0 - x) (A := 997) (B := 997) (by omega) (by omega) (by omega) (by omega)
        have ni := mul_bd (a := num) (b := i) (A := 4000000) (B := 997) (by omega) (by omega) (by omega) (by omega)
        have wx1 : IntKind.i64.wrap (s0 - x) = s0 - x := wrapb (by omega) (by omega)
        have wx2 : IntKind.i64.wrap (m * (s0 - x)) = m * (s0 - x) := wrapb (by omega) (by omega)
        have wx3 : IntKind.i64.wrap (m * (s0 - x) - s1) = m * (s0 - x) - s1 := wrapb (by omega) (by omega)
        have hcx : ∀ w, Calls Try.prog 134 #[.int .i64 (m * m - s0 - t0), .int .i64 p] w (Ret (.int .i64 x) w) := fun w => HX.out ▸ modulo_any _ p w (by omega) (by omega)
        have hcy : ∀ w, Calls Try.prog 134 #[.int .i64 (m * (s0 - x) - s1), .int .i64 p] w (Ret (.int .i64 y) w) := fun w => HY.out ▸ modulo_any _ p w (by omega) (by omega)
        have hci : ∀ w, Calls Try.prog 156 #[.int .i64 (t0 - s0), .int .i64 p] w (Ret (.int .i64 i) w) := fun w => hi ▸ inverse_any _ p w (by omega) (by omega)
        have hcu : ∀ w, Calls Try.prog 134 #[.int .i64 (t1 - s1), .int .i64 p] w (Ret (.int .i64 u) w) := fun w => by rw [hnum]; exact hu ▸ modulo_any num p w (by omega) (by omega)
        clear hpr hp hsq htq hi hu hnum HS
        go_enter Try.func126, Try.ntmps126
        go_wp2_with fail
        generalize hW : w.alloc (.cells #[.int .i64 a, .int .i64 b] 39) = W
        obtain ⟨B0, hB0⟩ : ∃ B0, w.heap.size = B0 := ⟨_, rfl⟩
        obtain ⟨hbelW, h0, cA, e0, e1, f0, f1⟩ : Below w.heap.size w W ∧ B0 < W.heap.size ∧ W.cell? ⟨B0, 0, none⟩ = some (.int .i64 a) ∧ W.cell? ⟨bs, os, none⟩ = some (.int .i64 s0) ∧ W.cell? ⟨bs, os + 1, none⟩ = some (.int .i64 s1) ∧ W.cell? ⟨bt, ot, none⟩ = some (.int .i64 t0) ∧ W.cell? ⟨bt, ot + 1, none⟩ = some (.int .i64 t1) := by
          have hk := below_alloc w (.cells #[.int .i64 a, .int .i64 b] 39)
          subst hW; subst hB0
          exact ⟨hk, by simp, by simp [go_sem], (hk.cell (p := ⟨bs, os, none⟩) hbs).trans c0, (hk.cell (p := ⟨bs, os + 1, none⟩) hbs).trans c1, (hk.cell (p := ⟨bt, ot, none⟩) hbt).trans d0, (hk.cell (p := ⟨bt, ot + 1, none⟩) hbt).trans d1⟩
        have gs : bs < W.heap.size := Nat.lt_of_lt_of_le hbs hbelW.size
        have gt : bt < W.heap.size := Nat.lt_of_lt_of_le hbt hbelW.size
        clear hW c0 c1 d0 d1 hbs hbt
        have HbelW : True → Below w.heap.size w W := fun _ => hbelW
        clear hbelW
        (try rw [hB0])
        refine wp_region_grow (by kernel_rfl) (by kernel_rfl) ?_
        repeat (go_big_quiet_step ((fail)))
        refine wpQuiet_nil ?_
        rintro wg hbg
        (try replace hbg := aft2 hbg (by assumption))
        obtain ⟨hcg, hfg, hg1, hg2, hg3, hg4⟩ := aftz hbg
        go_wp2_with fail
        refine wp_region_grow (by kernel_rfl) (by kernel_rfl) ?_
        repeat (go_big_quiet_step ((fail)))
        refine wpQuiet_nil ?_
        rintro wg hbg
        (try replace hbg := aft2 hbg (by assumption))
        obtain ⟨hcg, hfg, hg1, hg2, hg3, hg4⟩ := aftz hbg
        go_wp2_with fail
        refine wp_region_grow (by kernel_rfl) (by kernel_rfl) ?_
        repeat (go_big_quiet_step ((fail)))
        refine wpQuiet_nil ?_
        rintro wg hbg
        (try replace hbg := aft2 hbg (by assumption))
        obtain ⟨hcg, hfg, hg1, hg2, hg3, hg4⟩ := aftz hbg
        go_wp2_with fail
        refine (hcu _).mono ?_; rintro e w5 ⟨rfl, hb5⟩
        replace hb5 := aft2 hb5 hbg; clear hbg
        go_wp2_with fail
        refine (hci _).mono ?_; rintro e w6 ⟨rfl, hb6⟩
        replace hb6 := aft2 hb6 hb5; clear hb5
        go_wp2_with fail
        rw [HS2.out]
        obtain ⟨hc6, hf6, hs1, hs2, hs3, hs4⟩ := aftz hb6
        refine wp_region_grow (by kernel_rfl) (by kernel_rfl) ?_
        repeat (go_big_quiet_step (((go_at_call 134; exact grow_ret (hcx _)))))
        refine wpQuiet_nil ?_
        rintro wg hbg
        (try replace hbg := aft2 hbg (by assumption))
        obtain ⟨hcg, hfg, hg1, hg2, hg3, hg4⟩ := aftz hbg
        go_wp2_with fail
        have z0 : wg.cell? ⟨bs, os, none⟩ = some (.int .i64 s0) := (hbg.cell (p := ⟨bs, os, none⟩) gs).trans e0
        have z1 : wg.cell? ⟨bs, os + 1, none⟩ = some (.int .i64 s1) := (hbg.cell (p := ⟨bs, os + 1, none⟩) gs).trans e1
        have gz : bs < wg.heap.size := Nat.lt_of_lt_of_le gs hbg.size
        clear hcg hfg hg1 hg2 hg3 hg4 hc6 hf6 cA e0 e1 f0 f1
        refine' wp_region_lit (a0 := _) 117 8 (fun v w' => Below wg.heap.size wg w' ∧ Own w' wg.heap.size v [x, y]) ?_ ?_
        rotate_left
        · go_region_held3 (fun w' => Below wg.heap.size wg w' ∧ w'.cell? ⟨bs, os, none⟩ = some (.int .i64 s0) ∧ w'.cell? ⟨bs, os + 1, none⟩ = some (.int .i64 s1)) ((refine held2 ?_ gz z0 z1; go_split_ands; repeat (first | exact Below.refl _ _ | (with_reducible assumption) | refine bel_alloc ?_ _ | refine bel_drew ?_ | refine bel_trans (by assumption) ?_))) ((first | (go_at_call 134; refine (hcy _).mono ?_; rintro e w' ⟨rfl, hb⟩; (try replace hb := aft2 hb (by assumption)); have hz := hb.size; obtain ⟨hc, hf, hs1, hs2, hs3, hs4⟩ := aftz hb; (try simp at hz))))
          all_goals
            rename_i hHeld
            refine ⟨rfl, _, ⟨_, ⟨by first | rfl | (simp [Act.put]; done) | (simp [Act.put]; rfl), by first | rfl | (simp; done) | (simp; rfl)⟩, by first | rfl | (simp [Act.put]; done) | (simp [Act.put]; rfl), by first | rfl | (simp; done) | (simp; rfl)⟩, hHeld.1, own_pair _ _ (by show wg.heap.size ≤ _; omega) _ _⟩
        · rintro v w' ⟨hb', ho⟩
          simp only [Act.put, List.setIfInBounds_toArray, List.set_cons_zero, List.set_cons_succ]
          go_wp2_with fail
          go_ret
          have hbw := bel_trans hbg (HbelW trivial)
          exact ⟨_, rfl, bel_trans hb' hbw, ho.le hbw.size⟩
set_option maxHeartbeats 4000000 in
theorem fmAdd_any (a b p : Int) (v v' : Value) (s t : List Int) (w : World) (hrd : Rd w v s) (hrd' : Rd w v' t) (hn : NilZ v) (hn' : NilZ v') (hs : onF a b p s = true) (ht : onF a b p t = true)
    (h1 : -1000 ≤ a) (h2 : a ≤ 1000) (hp : p5B p = true) :
    Calls Try.prog 135 #[.agg #[.int .i64 a, .int .i64 b], .int .i64 p, v, v'] w (RetSl (addI a p s t) w) := by
  obtain ⟨p1, p2⟩ := p5_bd hp
  have hpr := p5_pr2 hp
  rcases onF_cases hs with rfl | ⟨s0, s1, rfl, sa, sb, sc, sd, hsq⟩
  · rw [addI_nil]
    have htl : t.length ≤ 1048576 := by rcases onF_cases ht with rfl | ⟨_, _, rfl, _⟩ <;> simp
    obtain ⟨ad, cap, rfl⟩ := RdNil hrd
    clear hrd hn hs ht hpr hp
    go_enter Try.func135, Try.ntmps135
    go_wp2_with fail
    refine (l1Own_any _ _ _ (hrd'.keep (by repeat (first | exact Below.refl _ _ | (with_reducible assumption) | refine bel_alloc ?_ _ | refine bel_drew ?_ | refine bel_drewN ?_ _ | refine Below.setCell ?_ (by dsimp only; omega) _ | refine bel_trans (by assumption) ?_))) hn' htl).mono ?_; rintro e w1 ⟨u, rfl, hb1, ho⟩
    go_wp2_with fail
    go_ret
    exact ⟨_, rfl, (by repeat (first | exact Below.refl _ _ | (with_reducible assumption) | refine bel_alloc ?_ _ | refine bel_drew ?_ | refine bel_drewN ?_ _ | refine Below.setCell ?_ (by dsimp only; omega) _ | refine bel_trans (by assumption) ?_)), ho.le (by simp)⟩
  · rcases onF_cases ht with rfl | ⟨t0, t1, rfl, ta, tb, tc, td, htq⟩
    · rw [addI_nil']
      obtain ⟨ad, cap, rfl⟩ := RdNil hrd'
      have hsl : [s0, s1].length ≤ 1048576 := by simp
      have hrd0 := hrd
      obtain ⟨ad2, cap2, rfl⟩ := RdTwo hrd
      clear hrd' hn' hs ht hpr hp hrd
      have HR := Lib.hid hrd0; clear hrd0
      go_enter Try.func135, Try.ntmps135
      go_wp2_with fail
      refine (l1Own_any _ [s0, s1] _ (HR.out.keep (by repeat (first | exact Below.refl _ _ | (with_reducible assumption) | refine bel_alloc ?_ _ | refine bel_drew ?_ | refine bel_drewN ?_ _ | refine Below.setCell ?_ (by dsimp only; omega) _ | refine bel_trans (by assumption) ?_))) hn hsl).mono ?_; rintro e w1 ⟨u, rfl, hb1, ho⟩
      go_wp2_with fail
      go_ret
      exact ⟨_, rfl, (by repeat (first | exact Below.refl _ _ | (with_reducible assumption) | refine bel_alloc ?_ _ | refine bel_drew ?_ | refine bel_drewN ?_ _ | refine Below.setCell ?_ (by dsimp only; omega) _ | refine bel_trans (by assumption) ?_)), ho.le (by simp)⟩
    · obtain ⟨bs, os, cs, rfl, hbs, c0, c1⟩ := RdCells hrd
      obtain ⟨bt, ot, ct, rfl, hbt, d0, d1⟩ := RdCells hrd'
      clear hrd hrd' hn hn' hs ht
      have hpn : ¬ p = 0 := by omega
      have hp0 : (p == 0) = false := by simp; omega
      by_cases hx : s0 = t0
      · subst hx
        rcases sum_zero hpr p1 sc sd tc td (hsq.trans htq.symm) with hz | ⟨rfl, hs1⟩
        · have hr : addI a p [s0, s1] [s0, t1] = [] := by rw [addI_pair, if_pos ⟨rfl, hz⟩]
          rw [hr]; clear hr
          have hc : s1 ≠ t1 ∨ s1 = 0 := sum_zero' hpr p1 sc sd hz
          by_cases hst : s1 = t1
          · obtain rfl := hst
            have hs0 : s1 = 0 := by omega
            have hs0b : (s1 == 0) = true := by simp [hs0]
            clear hs0
            clear hc
            clear hpr hp hsq htq
            go_enter Try.func135, Try.ntmps135
            go_wp2_with fail
            generalize hW : w.alloc (.cells #[.int .i64 a, .int .i64 b] 39) = W
            obtain ⟨B0, hB0⟩ : ∃ B0, w.heap.size = B0 := ⟨_, rfl⟩
            obtain ⟨hbelW, h0, cA, e0, e1, f0, f1⟩ : Below w.heap.size w W ∧ B0 < W.heap.size ∧ W.cell? ⟨B0, 0, none⟩ = some (.int .i64 a) ∧ W.cell? ⟨bs, os, none⟩ = some (.int .i64 s0) ∧ W.cell? ⟨bs, os + 1, none⟩ = some (.int .i64 s1) ∧ W.cell? ⟨bt, ot, none⟩ = some (.int .i64 s0) ∧ W.cell? ⟨bt, ot + 1, none⟩ = some (.int .i64 s1) := by
              have hk := below_alloc w (.cells #[.int .i64 a, .int .i64 b] 39)
              subst hW; subst hB0
              exact ⟨hk, by simp, by simp [go_sem], (hk.cell (p := ⟨bs, os, none⟩) hbs).trans c0, (hk.cell (p := ⟨bs, os + 1, none⟩) hbs).trans c1, (hk.cell (p := ⟨bt, ot, none⟩) hbt).trans d0, (hk.cell (p := ⟨bt, ot + 1, none⟩) hbt).trans d1⟩
            have gs : bs < W.heap.size := Nat.lt_of_lt_of_le hbs hbelW.size
            have gt : bt < W.heap.size := Nat.lt_of_lt_of_le hbt hbelW.size
            clear hW c0 c1 d0 d1 hbs hbt
            have HbelW : True → Below w.heap.size w W := fun _ => hbelW
            clear hbelW
            (try rw [hB0])
            refine wp_region_grow (by kernel_rfl) (by kernel_rfl) ?_
            repeat (go_big_quiet_step ((fail)))
            refine wpQuiet_nil ?_
            rintro wg hbg
            (try replace hbg := aft2 hbg (by assumption))
            obtain ⟨hcg, hfg, hg1, hg2, hg3, hg4⟩ := aftz hbg
            go_wp2_with fail
            refine wp_region_grow (by kernel_rfl) (by kernel_rfl) ?_
            repeat (go_big_quiet_step ((fail)))
            refine wpQuiet_nil ?_
            rintro wg hbg
            (try replace hbg := aft2 hbg (by assumption))
            obtain ⟨hcg, hfg, hg1, hg2, hg3, hg4⟩ := aftz hbg
            go_wp2_with fail
            go_ret
            exact ⟨_, rfl, bel_trans hbg (HbelW trivial), Own.nil _ _⟩
          · have hstb : (s1 != t1) = true := by simp [hst]
            clear hc
            clear hpr hp hsq htq
            go_enter Try.func135, Try.ntmps135
            go_wp2_with fail
            generalize hW : w.alloc (.cells #[.int .i64 a, .int .i64 b] 39) = W
            obtain ⟨B0, hB0⟩ : ∃ B0, w.heap.size = B0 := ⟨_, rfl⟩
            obtain ⟨hbelW, h0, cA, e0, e1, f0, f1⟩ : Below w.heap.size w W ∧ B0 < W.heap.size ∧ W.cell? ⟨B0, 0, none⟩ = some (.int .i64 a) ∧ W.cell? ⟨bs, os, none⟩ = some (.int .i64 s0) ∧ W.cell? ⟨bs, os + 1, none⟩ = some (.int .i64 s1) ∧ W.cell? ⟨bt, ot, none⟩ = some (.int .i64 s0) ∧ W.cell? ⟨bt, ot + 1, none⟩ = some (.int .i64 t1) := by
              have hk := below_alloc w (.cells #[.int .i64 a, .int .i64 b] 39)
              subst hW; subst hB0
              exact ⟨hk, by simp, by simp [go_sem], (hk.cell (p := ⟨bs, os, none⟩) hbs).trans c0, (hk.cell (p := ⟨bs, os + 1, none⟩) hbs).trans c1, (hk.cell (p := ⟨bt, ot, none⟩) hbt).trans d0, (hk.cell (p := ⟨bt, ot + 1, none⟩) hbt).trans d1⟩
            have gs : bs < W.heap.size := Nat.lt_of_lt_of_le hbs hbelW.size
            have gt : bt < W.heap.size := Nat.lt_of_lt_of_le hbt hbelW.size
            clear hW c0 c1 d0 d1 hbs hbt
            have HbelW : True → Below w.heap.size w W := fun _ => hbelW
            clear hbelW
            (try rw [hB0])
            refine wp_region_grow (by kernel_rfl) (by kernel_rfl) ?_
            repeat (go_big_quiet_step ((fail)))
            refine wpQuiet_nil ?_
            rintro wg hbg
            (try replace hbg := aft2 hbg (by assumption))
            obtain ⟨hcg, hfg, hg1, hg2, hg3, hg4⟩ := aftz hbg
            go_wp2_with fail
            refine wp_region_grow (by kernel_rfl) (by kernel_rfl) ?_
            repeat (go_big_quiet_step ((fail)))
            refine wpQuiet_nil ?_
            rintro wg hbg
            (try replace hbg := aft2 hbg (by assumption))
            obtain ⟨hcg, hfg, hg1, hg2, hg3, hg4⟩ := aftz hbg
            go_wp2_with fail
            go_ret
            exact ⟨_, rfl, bel_trans hbg (HbelW trivial), Own.nil _ _⟩
        · have hnz : ¬ (t1 + t1) % p = 0 := fun h => (sum_zero' hpr p1 sc sd h).elim (fun h => h rfl) hs1
          have hnzb : ((t1 + t1) % p == 0) = false := by simp [hnz]
          have hs1b : (t1 == 0) = false := by simp [hs1]
          have k1 := mul_bd (a := 3 * s0) (b := s0) (A := 2991) (B := 997) (by omega) (by omega) (by omega) (by omega)
          have hr : addI a p [s0, t1] [s0, t1] = [sumX (slopeI a p s0 t1 s0 t1) p s0 s0, sumY (slopeI a p s0 t1 s0 t1) p s0 t1 (sumX (slopeI a p s0 t1 s0 t1) p s0 s0)] := by rw [addI_pair, if_neg (fun h => hnz h.2)]
          have hsl : slopeI a p s0 t1 s0 t1 = (3 * s0 * s0 + a) % p * powI (2 * t1) (p - 2) p % p := by unfold slopeI numI denI; rw [if_pos rfl, if_pos rfl]
          rw [hr]; clear hr
          obtain ⟨num, hnum⟩ : ∃ num, 3 * s0 * s0 + a = num := ⟨_, rfl⟩
          rw [hnum] at hsl
          have hnb : -4000000 ≤ num ∧ num ≤ 4000000 := by omega
          have HS := Lib.hid hsl; clear hsl
          obtain ⟨m, hm⟩ : ∃ m, slopeI a p s0 t1 s0 t1 = m := ⟨_, rfl⟩
          rw [hm] at HS ⊢
          clear hm
          obtain ⟨x, hxx⟩ : ∃ x, sumX m p s0 s0 = x := ⟨_, rfl⟩
          obtain ⟨y, hyy⟩ : ∃ y, sumY m p s0 t1 x = y := ⟨_, rfl⟩
          rw [hxx, hyy]
          have HX := Lib.hid hxx; clear hxx
          have HY := Lib.hid hyy; clear hyy
          obtain ⟨u, hu⟩ : ∃ u, num % p = u := ⟨_, rfl⟩
          obtain ⟨i, hi⟩ : ∃ i, powI (2 * t1) (p - 2) p = i := ⟨_, rfl⟩
          have hub : 0 ≤ u ∧ u < p := by rw [← hu]; exact ⟨Int.emod_nonneg _ (by omega), Int.emod_lt_of_pos _ (by omega)⟩
          have hib : 0 ≤ i ∧ i < p := by rw [← hi]; exact powI_bd (by omega)
          have HS2 : Hid (u * i % p = m) := by unfold Hid; rw [HS.out, hu, hi]
          have hmb : 0 ≤ m ∧ m < p := by rw [← HS2.out]; exact ⟨Int.emod_nonneg _ (by omega), Int.emod_lt_of_pos _ (by omega)⟩
          have hxb2 : 0 ≤ x ∧ x < p := by rw [← HX.out]; unfold sumX; exact ⟨Int.emod_nonneg _ (by omega), Int.emod_lt_of_pos _ (by omega)⟩
          have ui0 := Int.mul_nonneg hub.1 hib.1
          have ui1 := (mul_bd (a := u) (b := i) (A := 997) (B := 997) (by omega) (by omega) (by omega) (by omega)).2
          have mm0 := Int.mul_nonneg hmb.1 hmb.1
          have mm1 := (mul_bd (a := m) (b := m) (A := 997) (B := 997) (by omega) (by omega) (by omega) (by omega)).2
          have mx := mul_bd (a := m) (b := s0 - x) (A := 997) (B := 997) (by omega) (by omega) (by omega) (by omega)
          have ni := mul_bd (a := num) (b := i) (A := 4000000) (B := 997) (by omega) (by omega) (by omega) (by omega)
          have wx1 : IntKind.i64.wrap (s0 - x) = s0 - x := wrapb (by omega) (by omega)
          have wx2 : IntKind.i64.wrap (m * (s0 - x)) = m * (s0 - x) := wrapb (by omega) (by omega)
          have wx3 : IntKind.i64.wrap (m * (s0 - x) - t1) = m * (s0 - x) - t1 := wrapb (by omega) (by omega)
          have hcx : ∀ w, Calls Try.prog 131 #[.int .i64 (m * m - s0 - s0), .int .i64 p] w (Ret (.int .i64 x) w) := fun w => HX.out ▸ mdMod_any _ p w (by omega) (by omega)
          have hcy : ∀ w, Calls Try.prog 131 #[.int .i64 (m * (s0 - x) - t1), .int .i64 p] w (Ret (.int .i64 y) w) := fun w => HY.out ▸ mdMod_any _ p w (by omega) (by omega)
          have hci : ∀ w, Calls Try.prog 159 #[.int .i64 (2 * t1), .int .i64 p] w (Ret (.int .i64 i) w) := fun w => hi ▸ mdInverse_any _ p w (by omega) (by omega)
          have hcm : ∀ w, Calls Try.prog 131 #[.int .i64 ((3 * s0 * s0 + a) * i), .int .i64 p] w (Ret (.int .i64 m) w) := fun w => by
            rw [hnum, ← HS2.out, ← hu, mul_emod_l]
            exact mdMod_any (num * i) p w (by omega) (by omega)
          rw [← hnum] at ni
          clear hpr hp hsq htq hi hu hnum HS
          go_enter Try.func135, Try.ntmps135
          go_wp2_with fail
          generalize hW : w.alloc (.cells #[.int .i64 a, .int .i64 b] 39) = W
          obtain ⟨B0, hB0⟩ : ∃ B0, w.heap.size = B0 := ⟨_, rfl⟩
          obtain ⟨hbelW, h0, cA, e0, e1, f0, f1⟩ : Below w.heap.size w W ∧ B0 < W.heap.size ∧ W.cell? ⟨B0, 0, none⟩ = some (.int .i64 a) ∧ W.cell? ⟨bs, os, none⟩ = some (.int .i64 s0) ∧ W.cell? ⟨bs, os + 1, none⟩ = some (.int .i64 t1) ∧ W.cell? ⟨bt, ot, none⟩ = some (.int .i64 s0) ∧ W.cell? ⟨bt, ot + 1, none⟩ = some (.int .i64 t1) := by
            have hk := below_alloc w (.cells #[.int .i64 a, .int .i64 b] 39)
            subst hW; subst hB0
            exact ⟨hk, by simp, by simp [go_sem], (hk.cell (p := ⟨bs, os, none⟩) hbs).trans c0, (hk.cell (p := ⟨bs, os + 1, none⟩) hbs).trans c1, (hk.cell (p := ⟨bt, ot, none⟩) hbt).trans d0, (hk.cell (p := ⟨bt, ot + 1, none⟩) hbt).trans d1⟩
          have gs : bs < W.heap.size := Nat.lt_of_lt_of_le hbs hbelW.size
          have gt : bt < W.heap.size := Nat.lt_of_lt_of_le hbt hbelW.size
          clear hW c0 c1 d0 d1 hbs hbt
          have HbelW : True → Below w.heap.size w W := fun _ => hbelW
          clear hbelW
          (try rw [hB0])
          refine wp_region_grow (by kernel_rfl) (by kernel_rfl) ?_
          repeat (go_big_quiet_step ((fail)))
          refine wpQuiet_nil ?_
          rintro wg hbg
          (try replace hbg := aft2 hbg (by assumption))
          obtain ⟨hcg, hfg, hg1, hg2, hg3, hg4⟩ := aftz hbg
          go_wp2_with fail
          refine wp_region_grow (by kernel_rfl) (by kernel_rfl) ?_
          repeat (go_big_quiet_step ((fail)))
          refine wpQuiet_nil ?_
          rintro wg hbg
          (try replace hbg := aft2 hbg (by assumption))
          obtain ⟨hcg, hfg, hg1, hg2, hg3, hg4⟩ := aftz hbg
          go_wp2_with fail
          refine wp_region_grow (by kernel_rfl) (by kernel_rfl) ?_
          repeat (go_big_quiet_step (((go_at_call 159; exact grow_ret (hci _)))))
          refine wpQuiet_nil ?_
          rintro wg hbg
          (try replace hbg := aft2 hbg (by assumption))
          obtain ⟨hcg, hfg, hg1, hg2, hg3, hg4⟩ := aftz hbg
          go_wp2_with fail
          refine (hcm _).mono ?_; rintro e w6 ⟨rfl, hb6⟩
          replace hb6 := aft2 hb6 hbg; clear hbg
          go_wp2_with fail
          obtain ⟨hc6, hf6, hs1, hs2, hs3, hs4⟩ := aftz hb6
          refine wp_region_grow (by kernel_rfl) (by kernel_rfl) ?_
          repeat (go_big_quiet_step (((go_at_call 131; exact grow_ret (hcx _)))))
          refine wpQuiet_nil ?_
          rintro wg hbg
          (try replace hbg := aft2 hbg (by assumption))
          obtain ⟨hcg, hfg, hg1, hg2, hg3, hg4⟩ := aftz hbg
          go_wp2_with fail
          have z0 : wg.cell? ⟨bs, os, none⟩ = some (.int .i64 s0) := (hbg.cell (p := ⟨bs, os, none⟩) gs).trans e0
          have z1 : wg.cell? ⟨bs, os + 1, none⟩ = some (.int .i64 t1) := (hbg.cell (p := ⟨bs, os + 1, none⟩) gs).trans e1
          have gz : bs < wg.heap.size := Nat.lt_of_lt_of_le gs hbg.size
          clear hcg hfg hg1 hg2 hg3 hg4 hc6 hf6 cA e0 e1 f0 f1
          refine' wp_region_lit (a0 := _) 110 8 (fun v w' => Below wg.heap.size wg w' ∧ Own w' wg.heap.size v [x, y]) ?_ ?_
          rotate_left
          · go_region_held3 (fun w' => Below wg.heap.size wg w' ∧ w'.cell? ⟨bs, os, none⟩ = some (.int .i64 s0) ∧ w'.cell? ⟨bs, os + 1, none⟩ = some (.int .i64 t1)) ((refine held2 ?_ gz z0 z1; go_split_ands; repeat (first | exact Below.refl _ _ | (with_reducible assumption) | refine bel_alloc ?_ _ | refine bel_drew ?_ | refine bel_trans (by assumption) ?_))) ((first | (go_at_call 131; refine (hcy _).mono ?_; rintro e w' ⟨rfl, hb⟩; (try replace hb := aft2 hb (by assumption)); have hz := hb.size; obtain ⟨hc, hf, hs1, hs2, hs3, hs4⟩ := aftz hb; (try simp at hz))))
            all_goals
              rename_i hHeld
              refine ⟨rfl, _, ⟨_, ⟨by first | rfl | (simp [Act.put]; done) | (simp [Act.put]; rfl), by first | rfl | (simp; done) | (simp; rfl)⟩, by first | rfl | (simp [Act.put]; done) | (simp [Act.put]; rfl), by first | rfl | (simp; done) | (simp; rfl)⟩, hHeld.1, own_pair _ _ (by show wg.heap.size ≤ _; omega) _ _⟩
          · rintro v w' ⟨hb', ho⟩
            simp only [Act.put, List.setIfInBounds_toArray, List.set_cons_zero, List.set_cons_succ]
            go_wp2_with fail
            go_ret
            have hbw := bel_trans hbg (HbelW trivial)
            exact ⟨_, rfl, bel_trans hb' hbw, ho.le hbw.size⟩
      · have hxb : (s0 == t0) = false := by simp [hx]
        have hr : addI a p [s0, s1] [t0, t1] = [sumX (slopeI a p s0 s1 t0 t1) p s0 t0, sumY (slopeI a p s0 s1 t0 t1) p s0 s1 (sumX (slopeI a p s0 s1 t0 t1) p s0 t0)] := by rw [addI_pair, if_neg (fun h => hx h.1)]
        have hsl : slopeI a p s0 s1 t0 t1 = (t1 - s1) % p * powI (t0 - s0) (p - 2) p % p := by unfold slopeI numI denI; rw [if_neg hx, if_neg hx]
        rw [hr]; clear hr
        obtain ⟨num, hnum⟩ : ∃ num, t1 - s1 = num := ⟨_, rfl⟩
        rw [hnum] at hsl
        have hnb : -4000000 ≤ num ∧ num ≤ 4000000 := by omega
        have HS := Lib.hid hsl; clear hsl
        obtain ⟨m, hm⟩ : ∃ m, slopeI a p s0 s1 t0 t1 = m := ⟨_, rfl⟩
        rw [hm] at HS ⊢
        clear hm
        obtain ⟨x, hxx⟩ : ∃ x, sumX m p s0 t0 = x := ⟨_, rfl⟩
        obtain ⟨y, hyy⟩ : ∃ y, sumY m p s0 s1 x = y := ⟨_, rfl⟩
        rw [hxx, hyy]
        have HX := Lib.hid hxx; clear hxx
        have HY := Lib.hid hyy; clear hyy
        obtain ⟨u, hu⟩ : ∃ u, num % p = u := ⟨_, rfl⟩
        obtain ⟨i, hi⟩ : ∃ i, powI (t0 - s0) (p - 2) p = i := ⟨_, rfl⟩
        have hub : 0 ≤ u ∧ u < p := by rw [← hu]; exact ⟨Int.emod_nonneg _ (by omega), Int.emod_lt_of_pos _ (by omega)⟩
        have hib : 0 ≤ i ∧ i < p := by rw [← hi]; exact powI_bd (by omega)
        have HS2 : Hid (u * i % p = m) := by unfold Hid; rw [HS.out, hu, hi]
        have hmb : 0 ≤ m ∧ m < p := by rw [← HS2.out]; exact ⟨Int.emod_nonneg _ (by omega), Int.emod_lt_of_pos _ (by omega)⟩
        have hxb2 : 0 ≤ x ∧ x < p := by rw [← HX.out]; unfold sumX; exact ⟨Int.emod_nonneg _ (by omega), Int.emod_lt_of_pos _ (by omega)⟩
        have ui0 := Int.mul_nonneg hub.1 hib.1
        have ui1 := (mul_bd (a := u) (b := i) (A := 997) (B := 997) (by omega) (by omega) (by omega) (by omega)).2
        have mm0 := Int.mul_nonneg hmb.1 hmb.1
        have mm1 := (mul_bd (a := m) (b := m) (A := 997) (B := 997) (by omega) (by omega) (by omega) (by omega)).2
        have mx := mul_bd (a := m) (b := s0 - x) (A := 997) (B := 997) (by omega) (by omega) (by omega) (by omega)
        have ni := mul_bd (a := num) (b := i) (A := 4000000) (B := 997) (by omega) (by omega) (by omega) (by omega)
        have wx1 : IntKind.i64.wrap (s0 - x) = s0 - x := wrapb (by omega) (by omega)
        have wx2 : IntKind.i64.wrap (m * (s0 - x)) = m * (s0 - x) := wrapb (by omega) (by omega)
        have wx3 : IntKind.i64.wrap (m * (s0 - x) - s1) = m * (s0 - x) - s1 := wrapb (by omega) (by omega)
        have hcx : ∀ w, Calls Try.prog 131 #[.int .i64 (m * m - s0 - t0), .int .i64 p] w (Ret (.int .i64 x) w) := fun w => HX.out ▸ mdMod_any _ p w (by omega) (by omega)
        have hcy : ∀ w, Calls Try.prog 131 #[.int .i64 (m * (s0 - x) - s1), .int .i64 p] w (Ret (.int .i64 y) w) := fun w => HY.out ▸ mdMod_any _ p w (by omega) (by omega)
        have hci : ∀ w, Calls Try.prog 159 #[.int .i64 (t0 - s0), .int .i64 p] w (Ret (.int .i64 i) w) := fun w => hi ▸ mdInverse_any _ p w (by omega) (by omega)
        have hcm : ∀ w, Calls Try.prog 131 #[.int .i64 ((t1 - s1) * i), .int .i64 p] w (Ret (.int .i64 m) w) := fun w => by
          rw [hnum, ← HS2.out, ← hu, mul_emod_l]
          exact mdMod_any (num * i) p w (by omega) (by omega)
        rw [← hnum] at ni
        clear hpr hp hsq htq hi hu hnum HS
        go_enter Try.func135, Try.ntmps135
        go_wp2_with fail
        generalize hW : w.alloc (.cells #[.int .i64 a, .int .i64 b] 39) = W
        obtain ⟨B0, hB0⟩ : ∃ B0, w.heap.size = B0 := ⟨_, rfl⟩
        obtain ⟨hbelW, h0, cA, e0, e1, f0, f1⟩ : Below w.heap.size w W ∧ B0 < W.heap.size ∧ W.cell? ⟨B0, 0, none⟩ = some (.int .i64 a) ∧ W.cell? ⟨bs, os, none⟩ = some (.int .i64 s0) ∧ W.cell? ⟨bs, os + 1, none⟩ = some (.int .i64 s1) ∧ W.cell? ⟨bt, ot, none⟩ = some (.int .i64 t0) ∧ W.cell? ⟨bt, ot + 1, none⟩ = some (.int .i64 t1) := by
          have hk := below_alloc w (.cells #[.int .i64 a, .int .i64 b] 39)
          subst hW; subst hB0
          exact ⟨hk, by simp, by simp [go_sem], (hk.cell (p := ⟨bs, os, none⟩) hbs).trans c0, (hk.cell (p := ⟨bs, os + 1, none⟩) hbs).trans c1, (hk.cell (p := ⟨bt, ot, none⟩) hbt).trans d0, (hk.cell (p := ⟨bt, ot + 1, none⟩) hbt).trans d1⟩
        have gs : bs < W.heap.size := Nat.lt_of_lt_of_le hbs hbelW.size
        have gt : bt < W.heap.size := Nat.lt_of_lt_of_le hbt hbelW.size
        clear hW c0 c1 d0 d1 hbs hbt
        have HbelW : True → Below w.heap.size w W := fun _ => hbelW
        clear hbelW
        (try rw [hB0])
        refine wp_region_grow (by kernel_rfl) (by kernel_rfl) ?_
        repeat (go_big_quiet_step ((fail)))
        refine wpQuiet_nil ?_
        rintro wg hbg
        (try replace hbg := aft2 hbg (by assumption))
        obtain ⟨hcg, hfg, hg1, hg2, hg3, hg4⟩ := aftz hbg
        go_wp2_with fail
        refine wp_region_grow (by kernel_rfl) (by kernel_rfl) ?_
        repeat (go_big_quiet_step (((go_at_call 159; exact grow_ret (hci _)))))
        refine wpQuiet_nil ?_
        rintro wg hbg
        (try replace hbg := aft2 hbg (by assumption))
        obtain ⟨hcg, hfg, hg1, hg2, hg3, hg4⟩ := aftz hbg
        go_wp2_with fail
        refine (hcm _).mono ?_; rintro e w6 ⟨rfl, hb6⟩
        replace hb6 := aft2 hb6 hbg; clear hbg
        go_wp2_with fail
        obtain ⟨hc6, hf6, hs1, hs2, hs3, hs4⟩ := aftz hb6
        refine wp_region_grow (by kernel_rfl) (by kernel_rfl) ?_
        repeat (go_big_quiet_step (((go_at_call 131; exact grow_ret (hcx _)))))
        refine wpQuiet_nil ?_
        rintro wg hbg
        (try replace hbg := aft2 hbg (by assumption))
        obtain ⟨hcg, hfg, hg1, hg2, hg3, hg4⟩ := aftz hbg
        go_wp2_with fail
        have z0 : wg.cell? ⟨bs, os, none⟩ = some (.int .i64 s0) := (hbg.cell (p := ⟨bs, os, none⟩) gs).trans e0
        have z1 : wg.cell? ⟨bs, os + 1, none⟩ = some (.int .i64 s1) := (hbg.cell (p := ⟨bs, os + 1, none⟩) gs).trans e1
        have gz : bs < wg.heap.size := Nat.lt_of_lt_of_le gs hbg.size
        clear hcg hfg hg1 hg2 hg3 hg4 hc6 hf6 cA e0 e1 f0 f1
        refine' wp_region_lit (a0 := _) 110 8 (fun v w' => Below wg.heap.size wg w' ∧ Own w' wg.heap.size v [x, y]) ?_ ?_
        rotate_left
        · go_region_held3 (fun w' => Below wg.heap.size wg w' ∧ w'.cell? ⟨bs, os, none⟩ = some (.int .i64 s0) ∧ w'.cell? ⟨bs, os + 1, none⟩ = some (.int .i64 s1)) ((refine held2 ?_ gz z0 z1; go_split_ands; repeat (first | exact Below.refl _ _ | (with_reducible assumption) | refine bel_alloc ?_ _ | refine bel_drew ?_ | refine bel_trans (by assumption) ?_))) ((first | (go_at_call 131; refine (hcy _).mono ?_; rintro e w' ⟨rfl, hb⟩; (try replace hb := aft2 hb (by assumption)); have hz := hb.size; obtain ⟨hc, hf, hs1, hs2, hs3, hs4⟩ := aftz hb; (try simp at hz))))
          all_goals
            rename_i hHeld
            refine ⟨rfl, _, ⟨_, ⟨by first | rfl | (simp [Act.put]; done) | (simp [Act.put]; rfl), by first | rfl | (simp; done) | (simp; rfl)⟩, by first | rfl | (simp [Act.put]; done) | (simp [Act.put]; rfl), by first | rfl | (simp; done) | (simp; rfl)⟩, hHeld.1, own_pair _ _ (by show wg.heap.size ≤ _; omega) _ _⟩
        · rintro v w' ⟨hb', ho⟩
          simp only [Act.put, List.setIfInBounds_toArray, List.set_cons_zero, List.set_cons_succ]
          go_wp2_with fail
          go_ret
          have hbw := bel_trans hbg (HbelW trivial)
          exact ⟨_, rfl, bel_trans hb' hbw, ho.le hbw.size⟩
end Go.Proofs.Ytpjcfnjagknocaa
