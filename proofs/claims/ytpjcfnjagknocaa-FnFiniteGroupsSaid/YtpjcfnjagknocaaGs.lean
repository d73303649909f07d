/- Gs: contracts: the shape of the group of the points modulo a prime. No conditions. -/
import Derived.Test.YtpjcfnjagknocaaAs
import Derived.Test.YtpjcfnjagknocaaCo
import Derived.Test.YtpjcfnjagknocaaOd
import Derived.Test.YtpjcfnjagknocaaMf
namespace Go.Proofs.Ytpjcfnjagknocaa
open Go.RowKit
set_option linter.unusedVariables false

theorem seq_add {a b p : Int} {s : List Int} (hp : p5B p = true) (hdisc : discI a b % p ≠ 0) (hs : onF a b p s = true) (m : Nat) : ∀ n, seqI a p s (m + n) = addI a p (seqI a p s m) (seqI a p s n)
  | 0 => by show seqI a p s m = addI a p _ []; rw [addI_nil']
  | n + 1 => by
    show addI a p (seqI a p s (m + n)) s = addI a p (seqI a p s m) (addI a p (seqI a p s n) s)
    rw [seq_add hp hdisc hs m n, add_assoc_pt hp hdisc (on_seq hp hs m) (on_seq hp hs n) hs]
theorem seq_one (a p : Int) (s : List Int) : seqI a p s 1 = s := by show addI a p [] s = s; rw [addI_nil]
theorem seq_dbl {a b p : Int} {s : List Int} (hp : p5B p = true) (hdisc : discI a b % p ≠ 0) (hs : onF a b p s = true) : ∀ m, seqI a p (addI a p s s) m = seqI a p s (m + m)
  | 0 => rfl
  | m + 1 => by
    show addI a p (seqI a p (addI a p s s) m) (addI a p s s) = _
    rw [seq_dbl hp hdisc hs m, show m + 1 + (m + 1) = (m + m) + 2 by omega, seq_add hp hdisc hs (m + m) 2]
    have e : seqI a p s 2 = addI a p s s := by show addI a p (seqI a p s 1) s = _; rw [seq_one]
    rw [e]
theorem tim_seq {a b p : Int} (hp : p5B p = true) (hdisc : discI a b % p ≠ 0) : ∀ (n : Nat) (out s : List Int), onF a b p out = true → onF a b p s = true → timI a p n out s = addI a p out (seqI a p s n) := by
  intro n
  induction n using Nat.strongRecOn with
  | ind n ih =>
    intro out s ho hs
    by_cases h0 : n = 0
    · subst h0
      rw [timI_zero]; show out = addI a p out []; rw [addI_nil']
    by_cases h1 : n % 2 = 1
    · rw [timI_odd a p out s h1, ih (n / 2) (by omega) _ _ (on_add hp ho hs) (on_add hp hs hs), seq_dbl hp hdisc hs, add_assoc_pt hp hdisc ho hs (on_seq hp hs _)]
      congr 1
      have := seq_add hp hdisc hs 1 (n / 2 + n / 2)
      rw [seq_one, show 1 + (n / 2 + n / 2) = n by omega] at this
      exact this.symm
    · rw [timI_even a p out s h0 h1, ih (n / 2) (by omega) _ _ ho (on_add hp hs hs), seq_dbl hp hdisc hs, show n / 2 + n / 2 = n by omega]
noncomputable def ordN (a p : Int) (s : List Int) : Nat := @dite _ (∃ K, IsOrd a p s K) (Classical.propDecidable _) (fun h => h.choose) (fun _ => 0)
theorem ordN_is {a b p : Int} {s : List Int} (hp : p5B p = true) (hdisc : discI a b % p ≠ 0) (hs : onF a b p s = true) : IsOrd a p s (ordN a p s) := by
  have h := ord_ex hp hdisc hs
  unfold ordN
  rw [dif_pos h]
  exact h.choose_spec
theorem times_ord {a b p n : Int} {s : List Int} (hp : p5B p = true) (hdisc : discI a b % p ≠ 0) (hs : onF a b p s = true) (n1 : 1 ≤ n) (h : timesL a p n s = []) : (ordN a p s : Int) ≤ n := by
  unfold timesL at h
  rw [if_neg (by omega), tim_seq hp hdisc _ _ _ rfl hs, addI_nil] at h
  obtain ⟨_, _, _, h4⟩ := ordN_is hp hdisc hs
  rcases Nat.lt_or_ge n.natAbs (ordN a p s) with g | g
  · exact absurd h (h4 n.natAbs (by omega) g)
  · omega
/-- the greatest order in a list of points. -/
noncomputable def moL (a p : Int) (l : List (List Int)) : Nat := l.foldl (fun m s => max m (ordN a p s)) 0
theorem moL_step {a p : Int} {L : List (List Int)} {k : Nat} (hk : k < L.length) : moL a p (L.take (k + 1)) = max (moL a p (L.take k)) (ordN a p (L.getD k [])) := by
  have e : L.take (k + 1) = L.take k ++ [L.getD k []] := by rw [List.take_add_one, List.getD_eq_getElem?_getD, List.getElem?_eq_getElem hk]; rfl
  unfold moL
  rw [e, List.foldl_append]
  rfl
theorem moL_le {a p : Int} {L : List (List Int)} (h : ∀ k, k < L.length → ordN a p (L.getD k []) ≤ 1000000) : ∀ k, k ≤ L.length → moL a p (L.take k) ≤ 1000000
  | 0, _ => by show (0 : Nat) ≤ _; omega
  | k + 1, hk => by rw [moL_step hk]; have := moL_le h k (by omega); have := h k hk; omega
theorem moL_pos {a p : Int} {L : List (List Int)} (h : ∀ k, k < L.length → 1 ≤ ordN a p (L.getD k [])) : ∀ k, 1 ≤ k → k ≤ L.length → 1 ≤ moL a p (L.take k)
  | 0, h0, _ => by omega
  | k + 1, _, hk => by rw [moL_step hk]; have := h k hk; omega
noncomputable def shM (a b p : Int) : Int := (moL a p (ptsL a b p) : Nat)
noncomputable def shV (a b p : Int) : Value := if smallB a b p = true then .tuple #[.int .i64 (((ptsL a b p).length : Int) / (shM a b p)), .int .i64 (shM a b p), .bool true] else .tuple #[.int .i64 0, .int .i64 0, .bool false]
theorem ptsL_pos (a b p : Int) : 1 ≤ (ptsL a b p).length := by unfold ptsL; rw [List.length_cons]; omega
set_option maxRecDepth 100000 in
set_option maxHeartbeats 4000000 in
theorem iGroupShape_any (a b p : Int) (w : World) :
    Calls Try.prog 21 #[.agg #[.int .i64 a, .int .i64 b], .int .i64 p] w (Ret (shV a b p) w) := by
  have hsv : shV a b p = if smallB a b p = true then .tuple #[.int .i64 (((ptsL a b p).length : Int) / (shM a b p)), .int .i64 (shM a b p), .bool true] else .tuple #[.int .i64 0, .int .i64 0, .bool false] := rfl
  cases hsm : smallB a b p
  · rw [hsv, hsm, if_neg (by simp)]
    clear hsv
    go_enter Try.func21, Try.ntmps21
    go_wp2_with (go_at_call 77; refine (fieldFits_any _ _ _ _).mono ?_; rintro e w' ⟨rfl, hb⟩; (try replace hb := aft2 hb (by assumption)); obtain ⟨hc, hf, hs1, hs2, hs3, hs4⟩ := aftz hb)
    refine bodyPost_ret (by simp (maxDischargeDepth := 3) [results, Try.results21, go_sem, *]; try rfl) rfl ?_
    exact ret_eq rfl (by repeat (first | exact Below.refl _ _ | (with_reducible assumption) | refine bel_alloc ?_ _ | refine bel_drew ?_ | refine bel_drewN ?_ _ | refine Below.setCell ?_ (by dsimp only; omega) _ | refine bel_trans (by assumption) ?_))
  · rw [hsv, hsm, if_pos rfl]
    clear hsv
    obtain ⟨hcur, _, p1, p2⟩ := small_bd hsm
    have hp5 := small_p5 hsm
    have hdisc := small_disc hsm
    obtain ⟨h1, h2, h3, h4, _⟩ := curveB_true.1 hcur
    have hlen := ptsL_len (a := a) (b := b) p1 p2
    have hpos := ptsL_pos a b p
    have hon := fun k h => ptsL_on (a := a) (b := b) (k := k) p1 h
    have hpts := fun w => pointsModulo_any a b p w h1 h2 h3 h4 p1 p2
    have hmv : shM a b p = ((moL a p (ptsL a b p) : Nat) : Int) := rfl
    rw [hmv]; clear hmv
    obtain ⟨L, hL⟩ : ∃ L, ptsL a b p = L := ⟨_, rfl⟩
    rw [hL] at hlen hon hpts hpos ⊢
    have hoi := fun k h => ordN_is hp5 hdisc (hon k h)
    have hml := moL_le (a := a) (p := p) (L := L) (fun k h => (hoi k h).2.1)
    have hmp := moL_pos (a := a) (p := p) (L := L) (fun k h => (hoi k h).1) L.length hpos (Nat.le_refl _)
    rw [List.take_length] at hmp
    have HOI := Lib.hid hoi; clear hoi
    have HML := Lib.hid hml; clear hml
    have HON := Lib.hid hon; clear hon hL
    go_enter Try.func21, Try.ntmps21
    go_wp2_with fail
    generalize hW : w.alloc (.cells #[.int .i64 a, .int .i64 b] 39) = W
    obtain ⟨B0, hB0⟩ : ∃ B0, w.heap.size = B0 := ⟨_, rfl⟩
    obtain ⟨hbW, g0, ca0, cb0⟩ : Below w.heap.size w W ∧ B0 < W.heap.size ∧ W.cell? ⟨B0, 0, none⟩ = some (.int .i64 a) ∧ W.cell? ⟨B0, 1, none⟩ = some (.int .i64 b) := by
      subst hW; subst hB0
      exact ⟨(by repeat (first | exact Below.refl _ _ | (with_reducible assumption) | refine bel_alloc ?_ _ | refine bel_drew ?_ | refine bel_drewN ?_ _ | refine Below.setCell ?_ (by dsimp only; omega) _ | refine bel_trans (by assumption) ?_)), by simp, by simp [go_sem], by simp [go_sem]⟩
    clear hW
    (try rw [hB0])
    refine (fieldFits_any _ _ _ _).mono ?_; rintro e w1 ⟨rfl, hb1⟩
    rw [hsm]
    have ca1 := (hb1.cell (p := ⟨B0, 0, none⟩) g0).trans ca0
    have cb1 := (hb1.cell (p := ⟨B0, 1, none⟩) g0).trans cb0
    go_wp2_with fail
    refine (hpts _).mono ?_; rintro e w2 ⟨v, rfl, hb2, ho2⟩
    have hbl2 : Below W.heap.size W w2 := bel_trans hb2 hb1
    clear hb1 ca1 cb1
    obtain ⟨vs, hrow, hvl, hin2, _⟩ := ho2
    have HIN := Lib.hid hin2; clear hin2
    rcases hrow.2 with ⟨rfl, hz⟩ | ⟨g, cap, cur, rfl, hg, hh, hnc, hcm, _⟩
    · omega
    · clear hh
      unfold maxLen at hcm
      go_wp2_with fail
      go_loopw [8, 20] (fun c x wr => ∃ k : Nat, x = .int .i64 k ∧ k ≤ L.length ∧ c = .int .i64 ((moL a p (L.take k) : Nat) : Int) ∧ Below w2.heap.size w2 wr) (fun _ x _ => L.length - (intOf x).toNat)
      case atStart => exact ⟨0, rfl, Nat.zero_le _, rfl, Below.refl _ _⟩
      case round =>
        obtain ⟨k, rfl, hk, rfl, hbel⟩ := hrel
        by_cases hlt : k < L.length
        · have hst := moL_step (a := a) (p := p) hlt
          have hmk := HML.out k hk
          have hmk1 := HML.out (k + 1) hlt
          have hr1 := (row_keep hrow hbel).cellAt k (by omega)
          have hi1 := (HIN.out k hlt).keep hbel
          rw [show vs[k]? = some (vs.getD k undef) by rw [List.getD_eq_getElem?_getD, List.getElem?_eq_getElem (by omega)]; rfl] at hr1
          have honk := HON.out k hlt
          have hok := HOI.out k hlt
          obtain ⟨r, hr⟩ : ∃ r, L.getD k [] = r := ⟨_, rfl⟩
          rw [hr] at hst hi1 honk hok
          obtain ⟨u, hu⟩ : ∃ u, vs.getD k undef = u := ⟨_, rfl⟩
          rw [hu] at hi1 hr1
          clear hr hu
          obtain ⟨O, hO⟩ : ∃ O, ordN a p r = O := ⟨_, rfl⟩
          rw [hO] at hst hok
          have hO2 := hok.2.1
          have HOK := Lib.hid hok; clear hok hO
          obtain ⟨m, hm⟩ : ∃ m, moL a p (L.take k) = m := ⟨_, rfl⟩
          obtain ⟨m1, hm1⟩ : ∃ m1, moL a p (L.take (k + 1)) = m1 := ⟨_, rfl⟩
          rw [hm, hm1] at hst
          rw [hm] at hmk ⊢
          rw [hm1] at hmk1
          have HM1 := Lib.hid hm1; clear hm1 hm
          have hbw : Below W.heap.size W wr := bel_trans hbel hbl2
          have ca2 := (hbw.cell (p := ⟨B0, 0, none⟩) g0).trans ca0
          have cb2 := (hbw.cell (p := ⟨B0, 1, none⟩) g0).trans cb0
          have hk0 : (0 : Int) ≤ (k : Int) := Int.natCast_nonneg _
          have hk1 : (k : Int) < (L.length : Int) := by omega
          have hsh := hi1.len
          have HI1 := Lib.hid hi1; clear hi1
          obtain ⟨ad3, cap3, rfl⟩ := hsh
          go_wp2_with fail
          refine (orderModulo_any a b p O _ r _ HI1.out.rd HI1.out.nilz honk h1 h2 hp5 HOK.out).mono ?_; rintro e w3 ⟨rfl, hb3⟩
          have hb4 : Below w2.heap.size w2 w3 := bel_trans hb3 hbel
          clear HI1 hr1 ca2 cb2
          have hmx : max (m : Int) (O : Int) = (m1 : Int) := by omega
          have hmx2 : max (O : Int) (m : Int) = (m1 : Int) := by omega
          go_wp2_with fail
          all_goals
            go_roundw
            case rel => exact ⟨k + 1, by go_num, by omega, by rw [HM1.out]; first | rfl | (congr 1; omega), hb4⟩
            case measure => simp [intOf]; omega
        · have hkl : k = L.length := by omega
          have hfin : Hid (((moL a p (L.take k) : Nat) : Int) = ((moL a p L : Nat) : Int)) := by unfold Hid; rw [hkl, List.take_length]
          rw [hfin.out]
          have hmk := HML.out L.length (Nat.le_refl _)
          rw [List.take_length] at hmk
          obtain ⟨M, hM⟩ : ∃ M, moL a p L = M := ⟨_, rfl⟩
          rw [hM] at hmp hmk ⊢
          have hM0 : ((M : Int) == 0) = false := by simp; omega
          have hMn : ¬ (M : Int) = 0 := by omega
          have hq0 : 0 ≤ (L.length : Int) / (M : Int) := Int.ediv_nonneg (by omega) (by omega)
          have hq1 : (L.length : Int) / (M : Int) ≤ (L.length : Int) := Int.ediv_le_self _ (by omega)
          have HM := Lib.hid hM; clear hM
          go_wp2_with fail
          refine bodyPost_ret (by simp (maxDischargeDepth := 3) [results, Try.results21, go_sem, *]; try rfl) rfl ?_
          exact ret_eq (by rw [HM.out]) (bel_trans (bel_trans hbel hbl2) hbW)
set_option maxRecDepth 100000 in
set_option maxHeartbeats 4000000 in
theorem fmShape_any (a b p : Int) (w : World) (hsm : smallB a b p = true) :
    Calls Try.prog 81 #[.agg #[.int .i64 a, .int .i64 b], .int .i64 p] w (Ret (.tuple #[.int .i64 (((ptsL a b p).length : Int) / (shM a b p)), .int .i64 (shM a b p)]) w) := by
  obtain ⟨hcur, _, p1, p2⟩ := small_bd hsm
  have hp5 := small_p5 hsm
  have hdisc := small_disc hsm
  obtain ⟨h1, h2, h3, h4, _⟩ := curveB_true.1 hcur
  have hlen := ptsL_len (a := a) (b := b) p1 p2
  have hpos := ptsL_pos a b p
  have hon := fun k h => ptsL_on (a := a) (b := b) (k := k) p1 h
  have hpts := fun w => fmPoints_any a b p w h1 h2 h3 h4 p1 p2
  have hmv : shM a b p = ((moL a p (ptsL a b p) : Nat) : Int) := rfl
  rw [hmv]; clear hmv
  obtain ⟨L, hL⟩ : ∃ L, ptsL a b p = L := ⟨_, rfl⟩
  rw [hL] at hlen hon hpts hpos ⊢
  have hoi := fun k h => ordN_is hp5 hdisc (hon k h)
  have hml := moL_le (a := a) (p := p) (L := L) (fun k h => (hoi k h).2.1)
  have hmp := moL_pos (a := a) (p := p) (L := L) (fun k h => (hoi k h).1) L.length hpos (Nat.le_refl _)
  rw [List.take_length] at hmp
  have HOI := Lib.hid hoi; clear hoi
  have HML := Lib.hid hml; clear hml
  have HON := Lib.hid hon; clear hon hL
  go_enter Try.func81, Try.ntmps81
  go_wp2_with fail
  generalize hW : w.alloc (.cells #[.int .i64 a, .int .i64 b] 39) = W
  obtain ⟨B0, hB0⟩ : ∃ B0, w.heap.size = B0 := ⟨_, rfl⟩
  obtain ⟨hbW, g0, ca0, cb0⟩ : Below w.heap.size w W ∧ B0 < W.heap.size ∧ W.cell? ⟨B0, 0, none⟩ = some (.int .i64 a) ∧ W.cell? ⟨B0, 1, none⟩ = some (.int .i64 b) := by
    subst hW; subst hB0
    exact ⟨(by repeat (first | exact Below.refl _ _ | (with_reducible assumption) | refine bel_alloc ?_ _ | refine bel_drew ?_ | refine bel_drewN ?_ _ | refine Below.setCell ?_ (by dsimp only; omega) _ | refine bel_trans (by assumption) ?_)), by simp, by simp [go_sem], by simp [go_sem]⟩
  clear hW
  (try rw [hB0])
  refine (hpts _).mono ?_; rintro e w2 ⟨v, rfl, hbl2, ho2⟩
  obtain ⟨vs, hrow, hvl, hin2, _⟩ := ho2
  have HIN := Lib.hid hin2; clear hin2
  rcases hrow.2 with ⟨rfl, hz⟩ | ⟨g, cap, cur, rfl, hg, hh, hnc, hcm, _⟩
  · omega
  · clear hh
    unfold maxLen at hcm
    go_wp2_with fail
    go_loopw [7, 15] (fun c x wr => ∃ k : Nat, x = .int .i64 k ∧ k ≤ L.length ∧ c = .int .i64 ((max 1 (moL a p (L.take k)) : Nat) : Int) ∧ Below w2.heap.size w2 wr) (fun _ x _ => L.length - (intOf x).toNat)
    case atStart => exact ⟨0, rfl, Nat.zero_le _, rfl, Below.refl _ _⟩
    case round =>
      obtain ⟨k, rfl, hk, rfl, hbel⟩ := hrel
      by_cases hlt : k < L.length
      · have hst := moL_step (a := a) (p := p) hlt
        have hmk := HML.out k hk
        have hmk1 := HML.out (k + 1) hlt
        have hto := times_ord (n := ((max 1 (moL a p (L.take k)) : Nat) : Int)) hp5 hdisc (HON.out k hlt) (by omega)
        have hr1 := (row_keep hrow hbel).cellAt k (by omega)
        have hi1 := (HIN.out k hlt).keep hbel
        rw [show vs[k]? = some (vs.getD k undef) by rw [List.getD_eq_getElem?_getD, List.getElem?_eq_getElem (by omega)]; rfl] at hr1
        have honk := HON.out k hlt
        have hok := HOI.out k hlt
        obtain ⟨r, hr⟩ : ∃ r, L.getD k [] = r := ⟨_, rfl⟩
        rw [hr] at hst hi1 honk hok hto
        obtain ⟨u, hu⟩ : ∃ u, vs.getD k undef = u := ⟨_, rfl⟩
        rw [hu] at hi1 hr1
        clear hr hu
        obtain ⟨O, hO⟩ : ∃ O, ordN a p r = O := ⟨_, rfl⟩
        rw [hO] at hst hok hto
        have hO2 := hok.2.1
        have HOK := Lib.hid hok; clear hok hO
        obtain ⟨m, hm⟩ : ∃ m, max 1 (moL a p (L.take k)) = m := ⟨_, rfl⟩
        obtain ⟨m1, hm1⟩ : ∃ m1, max 1 (moL a p (L.take (k + 1))) = m1 := ⟨_, rfl⟩
        have hst2 : m1 = max m O := by omega
        have hm2 : 1 ≤ m ∧ m ≤ 1000000 := by omega
        have hm3 : m1 ≤ 1000000 := by omega
        clear hst hmk hmk1
        rw [hm] at hto ⊢
        have HTO := Lib.hid hto; clear hto
        have HM1 := Lib.hid hm1; clear hm1 hm
        have hbw : Below W.heap.size W wr := bel_trans hbel hbl2
        have ca2 := (hbw.cell (p := ⟨B0, 0, none⟩) g0).trans ca0
        have cb2 := (hbw.cell (p := ⟨B0, 1, none⟩) g0).trans cb0
        have hk0 : (0 : Int) ≤ (k : Int) := Int.natCast_nonneg _
        have hk1 : (k : Int) < (L.length : Int) := by omega
        have hsh := hi1.len
        have HI1 := Lib.hid hi1; clear hi1
        obtain ⟨ad3, cap3, rfl⟩ := hsh
        go_wp2_with fail
        have hte : timI a p (m : Int).toNat [] r = timesL a p m r := by unfold timesL; rw [if_neg (by omega), show ((m : Int)).natAbs = (m : Int).toNat by omega]
        have htm := fmTimes_any a b p m _ r wr HI1.out.rd HI1.out.nilz honk h1 h2 hp5 (by omega) (by omega)
        rw [hte] at htm
        refine htm.mono ?_; rintro e w3 ⟨v3, rfl, hb3, ho3⟩
        have hb4 : Below w2.heap.size w2 w3 := bel_trans hb3 hbel
        obtain ⟨ad4, cap4, rfl⟩ := ho3.len
        by_cases hz : timesL a p m r = []
        · have hOm := HTO.out hz
          rw [hz]
          clear ho3 hz HTO htm hte
          have hmm : m1 = m := by omega
          clear hst2
          subst hmm
          go_wp2_with fail
          go_roundw
          case rel => exact ⟨k + 1, by go_num, by omega, by rw [HM1.out], hb4⟩
          case measure => simp [intOf]; omega
        · have hlz : (0 : Int) < ((timesL a p m r).length : Int) := by
            have : (timesL a p m r).length ≠ 0 := fun h => hz (List.eq_nil_of_length_eq_zero h)
            omega
          obtain ⟨tl, htl⟩ : ∃ tl, (timesL a p m r).length = tl := ⟨_, rfl⟩
          rw [htl] at hlz ⊢
          have hi3 := HI1.out.keep hb3
          have HI3 := Lib.hid hi3; clear hi3
          have hbw3 := bel_trans hb3 hbw
          have ca3 := (hbw3.cell (p := ⟨B0, 0, none⟩) g0).trans ca0
          have cb3 := (hbw3.cell (p := ⟨B0, 1, none⟩) g0).trans cb0
          clear ho3 hz HTO htm hte htl HI1 hr1 ca2 cb2
          go_wp2_with fail
          refine (fmOrder_any a b p O _ r _ HI3.out.rd HI3.out.nilz honk h1 h2 hp5 HOK.out).mono ?_; rintro e w4 ⟨rfl, hb5⟩
          have hb6 : Below w2.heap.size w2 w4 := bel_trans hb5 hb4
          go_wp2_with fail
          refine (l1Most_any _ _ _).mono ?_; rintro e w5 ⟨rfl, rfl⟩
          have hmx : max (m : Int) (O : Int) = (m1 : Int) := by omega
          rw [hmx]
          go_wp2_with fail
          go_roundw
          case rel => exact ⟨k + 1, by go_num, by omega, by rw [HM1.out]; first | rfl | (congr 1; omega), hb6⟩
          case measure => simp [intOf]; omega
      · have hkl : k = L.length := by omega
        have hfin : Hid (((max 1 (moL a p (L.take k)) : Nat) : Int) = ((moL a p L : Nat) : Int)) := by unfold Hid; rw [hkl, List.take_length]; omega
        rw [hfin.out]
        have hmk := HML.out L.length (Nat.le_refl _)
        rw [List.take_length] at hmk
        obtain ⟨M, hM⟩ : ∃ M, moL a p L = M := ⟨_, rfl⟩
        rw [hM] at hmp hmk ⊢
        have hM0 : ((M : Int) == 0) = false := by simp; omega
        have hMn : ¬ (M : Int) = 0 := by omega
        have hq0 : 0 ≤ (L.length : Int) / (M : Int) := Int.ediv_nonneg (by omega) (by omega)
        have hq1 : (L.length : Int) / (M : Int) ≤ (L.length : Int) := Int.ediv_le_self _ (by omega)
        have HM := Lib.hid hM; clear hM
        go_wp2_with fail
        refine bodyPost_ret (by simp (maxDischargeDepth := 3) [results, Try.results81, go_sem, *]; try rfl) rfl ?_
        exact ret_eq (by rw [HM.out]) (bel_trans (bel_trans hbel hbl2) hbW)
theorem sGroupShape_any (a b p : Int) (w : World) :
    Calls Try.prog 22 #[.agg #[.int .i64 a, .int .i64 b], .int .i64 p] w (Ret (shV a b p) w) := by
  have hsv : shV a b p = if smallB a b p = true then .tuple #[.int .i64 (((ptsL a b p).length : Int) / (shM a b p)), .int .i64 (shM a b p), .bool true] else .tuple #[.int .i64 0, .int .i64 0, .bool false] := rfl
  cases hsm : smallB a b p
  · rw [hsv, hsm, if_neg (by simp)]
    clear hsv
    go_enter Try.func22, Try.ntmps22
    go_wp2_with (go_at_call 80; refine (fmSmall_any _ _ _ _).mono ?_; rintro e w' ⟨rfl, hb⟩; (try replace hb := aft2 hb (by assumption)); obtain ⟨hc, hf, hs1, hs2, hs3, hs4⟩ := aftz hb)
    refine bodyPost_ret (by simp (maxDischargeDepth := 3) [results, Try.results22, go_sem, *]; try rfl) rfl ?_
    exact ret_eq rfl (by repeat (first | exact Below.refl _ _ | (with_reducible assumption) | refine bel_alloc ?_ _ | refine bel_drew ?_ | refine bel_drewN ?_ _ | refine Below.setCell ?_ (by dsimp only; omega) _ | refine bel_trans (by assumption) ?_))
  · rw [hsv, hsm, if_pos rfl]
    clear hsv
    have hfs := fun w => fmShape_any a b p w hsm
    generalize ((ptsL a b p).length : Int) / (shM a b p) = X at *
    generalize shM a b p = Y at *
    go_enter Try.func22, Try.ntmps22
    go_wp2_with (first | (go_at_call 80; refine (fmSmall_any _ _ _ _).mono ?_; rintro e w' ⟨rfl, hb⟩; (try replace hb := aft2 hb (by assumption)); obtain ⟨hc, hf, hs1, hs2, hs3, hs4⟩ := aftz hb) | (go_at_call 81; refine (hfs _).mono ?_; rintro e w' ⟨rfl, hb⟩; (try replace hb := aft2 hb (by assumption)); obtain ⟨hc, hf, hs1, hs2, hs3, hs4⟩ := aftz hb))
    refine bodyPost_ret (by simp (maxDischargeDepth := 3) [results, Try.results22, go_sem, *]; try rfl) rfl ?_
    exact ret_eq rfl (by repeat (first | exact Below.refl _ _ | (with_reducible assumption) | refine bel_alloc ?_ _ | refine bel_drew ?_ | refine bel_drewN ?_ _ | refine Below.setCell ?_ (by dsimp only; omega) _ | refine bel_trans (by assumption) ?_))
theorem shV_shape (a b p : Int) : ∃ (m n : Int) (ok : Bool), shV a b p = .tuple #[.int .i64 m, .int .i64 n, .bool ok] := by
  unfold shV
  split
  · exact ⟨_, _, _, rfl⟩
  · exact ⟨_, _, _, rfl⟩
end Go.Proofs.Ytpjcfnjagknocaa
