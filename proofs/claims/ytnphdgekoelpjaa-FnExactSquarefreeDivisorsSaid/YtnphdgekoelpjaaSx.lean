/- Sx: contracts: the squarefree divisors of a number, the reference's side; SquarefreeDivisors of both. No conditions. -/
import Derived.Test.YtnphdgekoelpjaaSw
import Derived.Test.YtnphdgekoelpjaaFx
namespace Go.Proofs.Ytnphdgekoelpjaa
open Go.RowKit
set_option linter.unusedVariables false

theorem fac_at {N : Int} {k : Nat} (hk : k < (primesL N).length) : (facL N).getD k [] = [(primesL N).getD k 0, valP N ((primesL N).getD k 0)] := by
  unfold facL
  simp [List.getD_eq_getElem?_getD, List.getElem?_map, List.getElem?_eq_getElem hk]
theorem sqF_neg (N : Int) : ∀ k, (-1 : Int) ∈ sqF N k := fun k => by
  unfold sqF
  have : ∀ (l : List Int) (L : List Int), (-1 : Int) ∈ L → (-1 : Int) ∈ l.foldl (fun l p => dblI p l) L := fun l => by
    induction l with
    | nil => exact fun L h => h
    | cons p ps ih => exact fun L h => ih _ (dblI_mem.2 (.inl h))
  exact this _ _ (by simp)
theorem fac_len (N : Int) : (facL N).length = (primesL N).length := by unfold facL; rw [List.length_map]
set_option maxRecDepth 100000 in
set_option maxHeartbeats 4000000 in
theorem tcDivisors_any (n0 N : Int) (w : World) (hc : n0 = N ∨ n0 = -N) (h1 : 1 ≤ N) (h2 : N ≤ 1000000000) :
    Calls Try.prog 105 #[.int .i64 n0] w (RetSl (divL N) w) := by
  have hinv := fun k hk => sqF_inv (N := N) (by omega) k hk
  have HINV := Lib.hid hinv; clear hinv
  have hfa := fun w => mdFactors_any N w h1 (by omega)
  have HPA := Lib.hid (fun k (hk : k < (primesL N).length) => primes_at (N := N) (by omega) hk)
  have HST := Lib.hid (fun k (hk : k < (primesL N).length) => sqF_step hk)
  have HFA := Lib.hid (fun k (hk : k < (primesL N).length) => fac_at hk)
  have hfl := fac_len N
  have hdiv : divL N = (sqF N (primesL N).length).mergeSort fun x y => decide (x ≤ y) := rfl
  obtain ⟨R, hR⟩ : ∃ R, divL N = R := ⟨_, rfl⟩
  rw [hR] at hdiv ⊢
  have HDIV := Lib.hid hdiv; clear hdiv hR
  have h0 : Own (w.alloc (.cells #[.int .i64 (-1), .int .i64 1] 3)) w.heap.size (.slice (some ⟨w.heap.size, 0, none⟩) 2 2) [-1, 1] := by
    have h := World.ownsRow_lit (base := w.heap.size) (e := 3) (size := 1) w #[.int .i64 (-1), .int .i64 1] 2 (Nat.le_refl _) (by simp [maxLen]) (by simp)
    unfold Own; simpa using h
  have H0 := Lib.hid h0; clear h0
  have hab : (n0.natAbs : Int) = N := by omega
  obtain ⟨ps, hps⟩ : ∃ ps, primesL N = ps := ⟨_, rfl⟩
  obtain ⟨F, hF⟩ : ∃ F, facL N = F := ⟨_, rfl⟩
  rw [hF] at hfa
  rw [hF, hps] at hfl
  rw [hF, hps] at HFA
  rw [hps] at HINV HPA HST HDIV
  clear hps hF
  go_enter Try.func105, Try.ntmps105
  go_wp2_with (go_at_call 149; refine (l1Abs_any _ _ (by omega) (by omega)).mono ?_; rintro e w' ⟨rfl, rfl⟩)
  (try rw [hab])
  refine (hfa _).mono ?_; rintro e w2 ⟨v, rfl, hb2, ho2⟩
  have hbl2 : Below w.heap.size w w2 := bel_trans hb2 (by repeat (first | exact Below.refl _ _ | (with_reducible assumption) | refine bel_alloc ?_ _ | refine bel_drew ?_ | refine bel_drewN ?_ _ | refine Below.setCell ?_ (by dsimp only; omega) _ | refine bel_trans (by assumption) ?_))
  have hout0 := H0.out.keep hb2
  have HO0 := Lib.hid hout0; clear hout0 H0 hfa
  obtain ⟨vs, hrow, hvl, hin2, _⟩ := ho2
  have HIN := Lib.hid hin2; clear hin2
  rcases hrow.2 with ⟨rfl, hz⟩ | ⟨g, cap, cur, rfl, hg, hh, hnc, hcm, _⟩
  · have hpz : ps.length = 0 := by omega
    have hR1 : R = [-1, 1] := by
      rw [HDIV.out, hpz]
      have h := sort_eq (L := [-1, 1]) (S := [-1, 1]) (by decide) (by unfold Inc; simp) (fun x => Iff.rfl)
      exact h
    have HR1 := Lib.hid hR1; clear hR1
    have hF0 : F = [] := List.eq_nil_of_length_eq_zero (by omega)
    subst hF0
    go_wp2_with fail
    refine wp_loop_rounds 1 ?_; rw [rounds_succ]
    go_wp2_with fail
    go_ret
    rw [HR1.out]
    exact ⟨_, rfl, hbl2, HO0.out⟩
  · clear hh
    unfold maxLen at hcm
    obtain ⟨m, hm⟩ : ∃ m, F.length = m := ⟨_, rfl⟩
    have hpm : ps.length = m := by omega
    rw [hm] at hrow hnc hvl ⊢
    have HM := Lib.hid hm; clear hm hfl
    have HPM := Lib.hid hpm; clear hpm
    go_wp2_with fail
    go_loopw [3, 14] (fun out x wr => ∃ k : Nat, x = .int .i64 k ∧ k ≤ m ∧ Below w2.heap.size w2 wr ∧ ∃ S, Hid (Inc S ∧ ∀ x, x ∈ S ↔ x ∈ sqF N k) ∧ Own wr w.heap.size out S) (fun _ x _ => m - (intOf x).toNat)
    case atStart => exact ⟨0, rfl, Nat.zero_le _, Below.refl _ _, [-1, 1], ⟨by unfold Inc; simp, fun x => Iff.rfl⟩, HO0.out⟩
    case round =>
      obtain ⟨k, rfl, hk, hbel, S, HS, hout⟩ := hrel
      by_cases hlt : k < m
      · have hkp : k < ps.length := by rw [HPM.out]; exact hlt
        obtain ⟨pp, pd, pn⟩ := HPA.out k hkp
        have hstep := HST.out k hkp
        have hfk := HFA.out k hkp
        have hi1 := HINV.out k (Nat.le_of_lt hkp)
        have hi2 := HINV.out (k + 1) hkp
        obtain ⟨p, hp⟩ : ∃ p, ps.getD k 0 = p := ⟨_, rfl⟩
        rw [hp] at pp pd pn hstep hfk
        rw [hstep] at hi2
        have hp2 := pp.1
        have hpN : p ≤ N := Int.le_of_dvd (by omega) pd
        have hSb : ∀ d ∈ S, -N ≤ d ∧ d ≤ N := fun d hd => hi1.bd h1 ((HS.out.2 d).1 hd)
        have hDb : ∀ d ∈ S, -N ≤ d * p ∧ d * p ≤ N := fun d hd => hi2.bd h1 (dblI_mem.2 (.inr ⟨d, (HS.out.2 d).1 hd, rfl⟩))
        have hneg : (-1 : Int) ∈ S := by
          exact (HS.out.2 _).2 (sqF_neg N k)
        have HSB := Lib.hid hSb; clear hSb
        have HDB := Lib.hid hDb; clear hDb
        have HNEG := Lib.hid hneg; clear hneg
        have HI1 := Lib.hid hi1; clear hi1 hi2
        have HPP := Lib.hid pp; clear pp
        have HPN := Lib.hid pn; clear pn pd
        have HSTEP := Lib.hid hstep; clear hstep hkp
        have hr1 := (row_keep hrow hbel).cellAt k (by omega)
        have hi3 := (HIN.out k (by rw [HM.out]; exact hlt)).keep hbel
        rw [show vs[k]? = some (vs.getD k undef) by rw [List.getD_eq_getElem?_getD, List.getElem?_eq_getElem (by omega)]; rfl] at hr1
        rw [hfk] at hi3
        obtain ⟨u, hu⟩ : ∃ u, vs.getD k undef = u := ⟨_, rfl⟩
        rw [hu] at hi3 hr1
        clear hu hfk
        rcases hi3.shape with ⟨_, hnil⟩ | ⟨bu, cu, rfl, _, hbu, _, _⟩
        · cases hnil
        have cu0 := hi3.cellAt 0 (by simp)
        simp only [List.getD_cons_zero, List.length_cons, List.length_nil, Nat.zero_add] at cu0 hr1
        clear hi3
        have hw2 : w.heap.size ≤ w2.heap.size := hbl2.size
        have hwr : w2.heap.size ≤ wr.heap.size := hbel.size
        have hSl : 0 < S.length := by
          cases hS : S with
          | nil => have := HNEG.out; rw [hS] at this; simp at this
          | cons => simp
        rcases hout.shape with ⟨_, hnil⟩ | ⟨bo, co, rfl, _, hbo, _, hcoB⟩
        · rw [hnil] at hSl; simp at hSl
        have hSm : S.length ≤ maxLen := by omega
        have HOUT := Lib.hid hout; clear hout
        have HBEL := Lib.hid hbel; clear hbel
        have hk0 : (0 : Int) ≤ (k : Int) := Int.natCast_nonneg _
        have hk1 : (k : Int) < (m : Int) := by omega
        unfold maxLen at hSm
        go_wp2_with fail
        obtain ⟨W1, hW1⟩ : ∃ W1, wr = W1 := ⟨_, rfl⟩
        rw [hW1] at HOUT HBEL hwr hbu hbo cu0 ⊢
        clear hr1 hW1
        go_loopw [6, 21] (fun more x wr => ∃ j : Nat, x = .int .i64 j ∧ j ≤ S.length ∧ Below W1.heap.size W1 wr ∧ ∃ M, Hid (PutInv p S j M) ∧ Own wr w.heap.size more M) (fun _ x _ => S.length - (intOf x).toNat)
        case atStart => exact ⟨0, rfl, Nat.zero_le _, Below.refl _ _, S, PutInv.start HS.out.1, HOUT.out⟩
        case round =>
          obtain ⟨j, rfl, hj, ib, M, HPI, im⟩ := hrel
          by_cases hjl : j < S.length
          · have cj := ((HOUT.out.keep ib).cellAt j hjl)
            have cu1 := (ib.cell (p := ⟨bu, 0, none⟩) hbu).trans cu0
            have hdS : S.getD j 0 ∈ S := by rw [List.getD_eq_getElem?_getD, List.getElem?_eq_getElem hjl]; exact List.getElem_mem hjl
            have hd1 := HSB.out _ hdS
            have hd2 := HDB.out _ hdS
            have hnew := PutInv.new HI1.out HS.out.2 HS.out.1 HPP.out HPN.out HPI.out hjl
            have hnext := HPI.out.step hjl
            have hMb : ∀ q ∈ M, -N ≤ q ∧ q < N + 1 := fun q hq => by
              rcases (HPI.out.mem q).1 hq with h | ⟨d, h, rfl⟩
              · have := HSB.out q h; omega
              · have := HDB.out d (List.mem_of_mem_take h); omega
            have hMl : M.length ≤ 10000000000 := by
              rcases inc_length M (-N) (N + 1) HPI.out.inc hMb with h | h
              · omega
              · rw [h]; simp
            have hMn : M ≠ [] := fun h => by
              have := (HPI.out.mem (-1)).2 (.inl HNEG.out)
              rw [h] at this; simp at this
            obtain ⟨adm, cm, hml⟩ := im.len
            subst hml
            obtain ⟨K, k1, k2, k3, k4⟩ := putI_at M hnew HPI.out.inc
            have hput := l1Put_at _ M (S.getD j 0 * p) w.heap.size K wr im hMn k1 k2 k3 hMl
            rw [← k4] at hput
            clear k1 k2 k3 k4 hMb hMn hnew hdS HPI
            obtain ⟨d, hd⟩ : ∃ d, S.getD j 0 = d := ⟨_, rfl⟩
            rw [hd] at cj hd1 hd2 hput hnext
            obtain ⟨M2, hM2⟩ : ∃ M2, putI M (d * p) = M2 := ⟨_, rfl⟩
            rw [hM2] at hput hnext
            clear hd hM2
            have HNX := Lib.hid hnext; clear hnext
            have hj0 : (0 : Int) ≤ (j : Int) := Int.natCast_nonneg _
            have hj1 : (j : Int) < (S.length : Int) := by omega
            have HIM := Lib.hid im; clear im
            have HIB := Lib.hid ib; clear ib
            go_wp2_with fail
            refine hput.mono ?_; rintro ee w3 ⟨v3, rfl, hb3, ho3⟩
            have hws3 : w.heap.size ≤ wr.heap.size := by have := HIB.out.size; omega
            have hb4 : Below W1.heap.size W1 w3 := bel_trans hb3 HIB.out
            have ho4 := ho3.le hws3
            clear ho3 hput cj cu1
            go_wp2_with fail
            go_roundw
            case rel => exact ⟨j + 1, by go_num, by omega, hb4, M2, HNX.out, ho4⟩
            case measure => simp [intOf]; omega
          · have hjl2 : j = S.length := by omega
            subst hjl2
            obtain ⟨e1, e2⟩ := HPI.out.done
            have hS2 : Inc M ∧ ∀ x, x ∈ M ↔ x ∈ sqF N (k + 1) := ⟨e1, fun x => by rw [e2, HSTEP.out]; exact dblI_congr HS.out.2 x⟩
            have HS2 := Lib.hid hS2; clear hS2 e1 e2
            have hb5 : Below w2.heap.size w2 wr := bel_trans ib HBEL.out
            clear ib
            go_wp2_with fail
            go_roundw
            case rel => exact ⟨k + 1, by go_num, by omega, hb5, M, HS2.out, im⟩
            case measure => simp [intOf]; omega
      · have hkm : k = m := by omega
        subst hkm
        have hRS : R = S := by
          rw [HDIV.out, HPM.out]
          exact sort_eq ((HINV.out k (by rw [HPM.out]; exact Nat.le_refl _)).nd) HS.out.1 HS.out.2
        have HRS := Lib.hid hRS; clear hRS
        go_wp2_with fail
        go_ret
        rw [HRS.out]
        exact ⟨_, rfl, bel_trans hbel hbl2, hout⟩
def sdB (n : Int) : Bool := inB n (-1000000000) 1000000000 && !(n == 0)
noncomputable def sdL (n : Int) : List Int := bif sdB n then divL (n.natAbs : Int) else []
theorem sdB_true {n : Int} (h : sdB n = true) : -1000000000 ≤ n ∧ n ≤ 1000000000 ∧ n ≠ 0 := by
  unfold sdB at h
  rw [Bool.and_eq_true] at h
  obtain ⟨h1, h2⟩ := h
  have := inB_true.1 h1
  refine ⟨this.1, this.2, ?_⟩
  rintro rfl
  simp at h2
theorem sdL_len (n : Int) : (sdL n).length ≤ 2147483648 := by
  unfold sdL
  cases h : sdB n
  · simp
  · obtain ⟨h1, h2, h3⟩ := sdB_true h
    exact divL_len (by omega) (by omega)
theorem iSquarefreeDivisors_any (n : Int) (w : World) :
    Calls Try.prog 37 #[.int .i64 n] w (RetSlB (sdL n) (sdB n) w) := by
  unfold sdL
  have hsd : sdB n = (inB n (-1000000000) 1000000000 && !(n == 0)) := rfl
  cases hin : inB n (-1000000000) 1000000000
  · have hs : sdB n = false := by rw [hsd, hin]; rfl
    rw [hs]
    clear hsd hs
    go_enter Try.func37, Try.ntmps37
    go_wp2_with (go_at_call 93; refine (inside_any _ _ _ _).mono ?_; rintro e w' ⟨rfl, rfl⟩; rw [hin])
    refine bodyPost_ret (by simp (maxDischargeDepth := 3) [results, Try.results37, go_sem, *]; try rfl) rfl ?_
    exact ⟨_, rfl, (by repeat (first | exact Below.refl _ _ | (with_reducible assumption) | refine bel_alloc ?_ _ | refine bel_drew ?_ | refine bel_drewN ?_ _ | refine Below.setCell ?_ (by dsimp only; omega) _ | refine bel_trans (by assumption) ?_)), Own.nil _ _⟩
  · by_cases hz : n = 0
    · subst hz
      have hs : sdB 0 = false := by rw [hsd, hin]; rfl
      rw [hs]
      clear hsd hs
      go_enter Try.func37, Try.ntmps37
      go_wp2_with (go_at_call 93; refine (inside_any _ _ _ _).mono ?_; rintro e w' ⟨rfl, rfl⟩; rw [hin])
      refine bodyPost_ret (by simp (maxDischargeDepth := 3) [results, Try.results37, go_sem, *]; try rfl) rfl ?_
      exact ⟨_, rfl, (by repeat (first | exact Below.refl _ _ | (with_reducible assumption) | refine bel_alloc ?_ _ | refine bel_drew ?_ | refine bel_drewN ?_ _ | refine Below.setCell ?_ (by dsimp only; omega) _ | refine bel_trans (by assumption) ?_)), Own.nil _ _⟩
    · have hzb : (n == 0) = false := by simp [hz]
      have hs : sdB n = true := by rw [hsd, hin, hzb]; rfl
      have hb := inB_true.1 hin
      have hsq := fun w => squarefreeDivisors_any n (n.natAbs : Int) w (by omega) (by omega) (by omega)
      rw [hs]
      obtain ⟨X, hX⟩ : ∃ X, divL (n.natAbs : Int) = X := ⟨_, rfl⟩
      rw [hX] at hsq ⊢
      clear hsd hs hX
      go_enter Try.func37, Try.ntmps37
      go_wp2_with (first | (go_at_call 93; refine (inside_any _ _ _ _).mono ?_; rintro e w' ⟨rfl, rfl⟩; rw [hin]) | (go_at_call 106; refine (hsq _).mono ?_; rintro e w' ⟨v, rfl, hbq, ho⟩))
      refine bodyPost_ret (by simp (maxDischargeDepth := 3) [results, Try.results37, go_sem, *]; try rfl) rfl ?_
      exact ⟨_, rfl, hbq, ho⟩
theorem sSquarefreeDivisors_any (n : Int) (w : World) :
    Calls Try.prog 36 #[.int .i64 n] w (RetSlB (sdL n) (sdB n) w) := by
  unfold sdL
  have hsd : sdB n = (inB n (-1000000000) 1000000000 && !(n == 0)) := rfl
  have hsm : sdB n = smallN n := by
    rw [Bool.eq_iff_iff, smallN_true]
    refine ⟨sdB_true, fun h => ?_⟩
    rw [hsd, inB_true.2 ⟨h.1, h.2.1⟩, Bool.true_and]
    simp [h.2.2]
  have htc := fun w => tcSmall_any n w
  rw [← hsm] at htc
  cases hs : sdB n
  · rw [hs] at htc
    clear hsd hsm
    go_enter Try.func36, Try.ntmps36
    go_wp2_with (go_at_call 104; refine (htc _).mono ?_; rintro e w' ⟨rfl, hb⟩; (try replace hb := aft2 hb (by assumption)); obtain ⟨hc, hf, hs1, hs2, hs3, hs4⟩ := aftz hb)
    refine bodyPost_ret (by simp (maxDischargeDepth := 3) [results, Try.results36, go_sem, *]; try rfl) rfl ?_
    exact ⟨_, rfl, (by repeat (first | exact Below.refl _ _ | (with_reducible assumption) | refine bel_alloc ?_ _ | refine bel_drew ?_ | refine bel_drewN ?_ _ | refine Below.setCell ?_ (by dsimp only; omega) _ | refine bel_trans (by assumption) ?_)), Own.nil _ _⟩
  · rw [hs] at htc
    obtain ⟨h1, h2, h3⟩ := sdB_true hs
    have hsq := fun w => tcDivisors_any n (n.natAbs : Int) w (by omega) (by omega) (by omega)
    obtain ⟨X, hX⟩ : ∃ X, divL (n.natAbs : Int) = X := ⟨_, rfl⟩
    rw [hX] at hsq ⊢
    clear hsd hsm hX
    go_enter Try.func36, Try.ntmps36
    go_wp2_with (first | (go_at_call 104; refine (htc _).mono ?_; rintro e w' ⟨rfl, hb⟩; (try replace hb := aft2 hb (by assumption)); obtain ⟨hc, hf, hs1, hs2, hs3, hs4⟩ := aftz hb) | (go_at_call 105; refine (hsq _).mono ?_; rintro e wq ⟨v, rfl, hbq, ho⟩))
    refine bodyPost_ret (by simp (maxDischargeDepth := 3) [results, Try.results36, go_sem, *]; try rfl) rfl ?_
    exact ⟨_, rfl, bel_trans hbq hb, ho.le hb.size⟩
end Go.Proofs.Ytnphdgekoelpjaa
