/- Bf: contracts: the bad primes from five on. No conditions. -/
import Derived.Test.YtpjcfnjagknocaaDoorKj
import Derived.Test.YtpjcfnjagknocaaDoorFx
import Derived.Test.YtpjcfnjagknocaaDoorMk
namespace Go.Proofs.YtpjcfnjagknocaaDoor
open Go.RowKit

def badP (a b p : Int) : Bool := decide (5 ≤ p) && (kindN (minA a b p) b p != 0)
def badF (a b : Int) (l : List Int) : List Int := l.filter (badP a b)
noncomputable def bfL (a b : Int) : List Int := primesL ((discI a b).natAbs : Int)
noncomputable def bfOk (a b : Int) : Bool := (bfL a b).all fun p => decide (p ≤ 997)
noncomputable def bfX (a b : Int) : List Int := bif bfOk a b then badF a b (bfL a b) else []
theorem badF_step (a b : Int) {xs : List Int} {i : Nat} (h : i < xs.length) : badF a b (xs.take (i + 1)) = badF a b (xs.take i) ++ (if badP a b (xs.getD i 0) = true then [xs.getD i 0] else []) := by
  unfold badF
  rw [List.take_add_one, List.filter_append, List.getElem?_eq_getElem h]
  simp [List.filter_cons, List.getD_eq_getElem?_getD, List.getElem?_eq_getElem h]
theorem badF_len (a b : Int) (l : List Int) : (badF a b l).length ≤ l.length := List.length_filter_le _ _
theorem all_take {xs : List Int} {i : Nat} (h : i < xs.length) (h1 : ∀ q ∈ xs.take i, q ≤ 997) (h2 : xs.getD i 0 ≤ 997) : ∀ q ∈ xs.take (i + 1), q ≤ 997 := by
  intro q hq
  rw [List.take_add_one, List.getElem?_eq_getElem h, List.mem_append] at hq
  rcases hq with hq | hq
  · exact h1 q hq
  · rw [List.getD_eq_getElem?_getD, List.getElem?_eq_getElem h] at h2
    have e : q = xs[i] := by simpa using hq
    rw [e]; exact h2
theorem ok_true {xs : List Int} (h : ∀ q ∈ xs.take xs.length, q ≤ 997) : (xs.all fun p => decide (p ≤ 997)) = true := by
  rw [List.take_length] at h
  simpa using h
theorem ok_false {xs : List Int} {i : Nat} (h : i < xs.length) (h2 : 997 < xs.getD i 0) : (xs.all fun p => decide (p ≤ 997)) = false := by
  rw [← Bool.not_eq_true]
  intro k
  rw [List.all_eq_true] at k
  have hm : xs.getD i 0 ∈ xs := by simp [List.getD_eq_getElem?_getD, List.getElem?_eq_getElem h]
  have := k _ hm
  simp only [decide_eq_true_eq] at this
  omega
theorem pr_p5 {p : Int} (h : Pr p) (h5 : 5 ≤ p) (h6 : p ≤ 997) : p5B p = true := by
  unfold p5B; rw [inB_true.2 ⟨h5, h6⟩, primeB_true.2 h]; rfl
set_option maxRecDepth 4000 in
set_option maxHeartbeats 4000000 in
theorem badFromFive_any (a b : Int) (w : World) (hcur : curveB a b = true) :
    Calls Tryd.prog 25 #[.agg #[.int .i64 a, .int .i64 b]] w (RetSlB (bfX a b) (bfOk a b) w) := by
  obtain ⟨i0, hi, hz0, hz1, hz2⟩ := info_parts Tryd.info_int
  obtain ⟨q1, q2, q3, q4, q5⟩ := curveB_true.1 hcur
  obtain ⟨d1, d2⟩ := disc_bd q1 q2 q3 q4
  have hX : bfX a b = bif (bfL a b).all (fun p => decide (p ≤ 997)) then badF a b (bfL a b) else [] := rfl
  have hO : bfOk a b = (bfL a b).all (fun p => decide (p ≤ 997)) := rfl
  obtain ⟨D, hD⟩ : ∃ D, discI a b = D := ⟨_, rfl⟩
  obtain ⟨N, hN⟩ : ∃ N : Int, ((discI a b).natAbs : Int) = N := ⟨_, rfl⟩
  have hL : bfL a b = primesL N := by unfold bfL; rw [hN]
  rw [hL] at hX hO
  clear hL
  rw [hD] at q5 d1 d2 hN
  have hNb : 1 ≤ N ∧ N ≤ 20000000000 ∧ (D = N ∨ D = -N) := by omega
  have HD := Lib.hid hD; clear hD
  have HNN := Lib.hid hN; clear hN
  have hmem : ∀ k, k < (primesL N).length → _ := fun k hk => primesL_mem hNb.1 (N := N) (k := k) hk
  have hll := primesL_len hNb.1
  obtain ⟨L, hL⟩ : ∃ L, primesL N = L := ⟨_, rfl⟩
  have HL := Lib.hid hL
  rw [hL] at hX hO hmem hll
  clear hL
  have HM := Lib.hid hmem; clear hmem
  have HX := Lib.hid hX; clear hX
  have HO := Lib.hid hO; clear hO
  obtain ⟨hn1, hn2, hn3⟩ := hNb
  have HQ := Lib.hid q5; clear q5
  have HN3 := Lib.hid hn3; clear hn3
  go_enter Tryd.func25, Tryd.ntmps25
  go_wp2_with fail
  generalize hW : w.alloc (.cells #[.int .i64 a, .int .i64 b] 24) = W
  obtain ⟨B0, hB0⟩ : ∃ B0, w.heap.size = B0 := ⟨_, rfl⟩
  obtain ⟨hbelW, hsz, hca, hcb⟩ : Below w.heap.size w W ∧ B0 < W.heap.size ∧ W.cell? ⟨B0, 0, none⟩ = some (.int .i64 a) ∧ W.cell? ⟨B0, 1, none⟩ = some (.int .i64 b) := by
    subst hW; subst hB0
    exact ⟨(by repeat (first | exact Below.refl _ _ | (with_reducible assumption) | refine bel_alloc ?_ _ | refine bel_drew ?_ | refine bel_drewN ?_ _ | refine Below.setCell ?_ (by dsimp only; omega) _ | refine bel_trans (by assumption) ?_)), by simp, by simp [go_sem], by simp [go_sem]⟩
  clear hW
  (try rw [hB0])
  refine (core_any _ _ _ q1 q2 q3 q4).mono ?_; rintro e w1 ⟨rfl, hb1⟩
  rw [HD.out]
  go_wp2_with fail
  refine (primesOf_any D N _ HN3.out hn1 hn2).mono ?_; rintro e w2 ⟨v, rfl, hb2, ho2⟩
  rw [HL.out] at ho2
  replace hb2 := aft2 hb2 hb1; clear hb1
  have hrow := ho2
  rcases ho2.shape with ⟨rfl, hnil⟩ | ⟨g, cap, rfl, hg, hglt, hnc, hcm⟩
  · subst hnil
    go_wp2_with fail
    refine wp_loop_rounds 1 ?_; rw [rounds_succ]
    go_wp2_with fail
    refine bodyPost_ret (by simp (maxDischargeDepth := 3) [results, Tryd.results25, go_sem, *]; try rfl) rfl ?_
    exact ⟨.slice none 0 0, by rw [HO.out]; rfl, bel_trans hb2 hbelW, by rw [HX.out]; exact Own.nil _ _⟩
  · clear ho2
    have hsz2 : B0 < w2.heap.size := Nat.lt_of_lt_of_le hsz hb2.size
    have hca2 : w2.cell? ⟨B0, 0, none⟩ = some (.int .i64 a) := (hb2.cell (p := ⟨B0, 0, none⟩) hsz).trans hca
    have hcb2 : w2.cell? ⟨B0, 1, none⟩ = some (.int .i64 b) := (hb2.cell (p := ⟨B0, 1, none⟩) hsz).trans hcb
    have hbw := bel_trans hb2 hbelW
    clear hca hcb
    unfold maxLen at hcm
    go_wp2_with fail
    go_loopw [4, 11] (fun y x wr => ∃ k : Nat, x = .int .i64 k ∧ k ≤ L.length ∧ Hid (∀ q ∈ L.take k, q ≤ 997) ∧ Below w2.heap.size w2 wr ∧ Own wr w2.heap.size y (badF a b (L.take k))) (fun _ x _ => L.length - (intOf x).toNat)
    case atStart => exact ⟨0, rfl, Nat.zero_le _, fun q hq => by simp at hq, Below.refl _ _, Own.nil _ _⟩
    case round =>
      obtain ⟨k, rfl, hk, HK, hbel, hown⟩ := hrel
      have hlen0 := badF_len a b (L.take k)
      rw [List.length_take] at hlen0
      have hstp := fun h => badF_step a b (xs := L) (i := k) h
      have HST := Lib.hid hstp; clear hstp
      obtain ⟨acc, hacc⟩ : ∃ acc, badF a b (L.take k) = acc := ⟨_, rfl⟩
      rw [hacc] at hown hlen0
      have HACC := Lib.hid hacc; clear hacc
      obtain ⟨ad, cap2, rfl⟩ := hown.len
      have hsz3 : B0 < wr.heap.size := Nat.lt_of_lt_of_le hsz2 hbel.size
      have hca3 : wr.cell? ⟨B0, 0, none⟩ = some (.int .i64 a) := (hbel.cell (p := ⟨B0, 0, none⟩) hsz2).trans hca2
      have hcb3 : wr.cell? ⟨B0, 1, none⟩ = some (.int .i64 b) := (hbel.cell (p := ⟨B0, 1, none⟩) hsz2).trans hcb2
      by_cases hlt : k < L.length
      · obtain ⟨q2', _, hpr⟩ := HM.out k hlt
        have hat := fun h => all_take hlt HK.out h
        have HAT := Lib.hid hat; clear hat
        have hof := fun h => ok_false hlt h
        have HOF := Lib.hid hof; clear hof
        have hst := HST.out hlt
        rw [HACC.out] at hst
        have hck := (hrow.keep hbel).cellAt k hlt
        obtain ⟨p, hp⟩ : ∃ p, L.getD k 0 = p := ⟨_, rfl⟩
        rw [hp] at hck hst hpr q2' HAT HOF
        clear hp
        have hk0 : (0 : Int) ≤ (k : Int) := Int.natCast_nonneg _
        have hk1 : (k : Int) < (L.length : Int) := by omega
        have HST2 := Lib.hid hst; clear hst
        by_cases hbig : 997 < p
        · have hokf := HOF.out hbig
          have HOKF := Lib.hid hokf; clear hokf
          go_wp2_with fail
          refine bodyPost_ret (by simp (maxDischargeDepth := 3) [results, Tryd.results25, go_sem, *]; try rfl) rfl ?_
          exact ⟨.slice none 0 0, by rw [HO.out, HOKF.out], bel_trans hbel hbw, by rw [HX.out, HOKF.out]; exact Own.nil _ _⟩
        · have hle : p ≤ 997 := by omega
          have hnx := HAT.out hle
          have HNX := Lib.hid hnx; clear hnx hbig
          by_cases h5 : 5 ≤ p
          · have hp5 : p5B p = true := pr_p5 hpr h5 hle
            have HPR := Lib.hid hpr; clear hpr
            rcases kind_cases (minA a b p) b p with hkd | hkd | hkd | hkd
            · have hx : Hid (badF a b (L.take (k + 1)) = acc) := by unfold Hid; rw [HST2.out, if_neg (by unfold badP; rw [hkd]; simp)]; simp
              go_wp2_with fail
              refine (kindAt_any a b p _ hcur hp5).mono ?_; rintro e w3 ⟨rfl, hb3⟩
              rw [hkd]
              have hown3 := hown.keep hb3
              replace hb3 : Below w2.heap.size w2 w3 := bel_trans hb3 hbel; clear hbel hown
              go_wp2_with fail
              go_roundw
              case rel => exact ⟨k + 1, by go_num, by omega, HNX, hb3, by rw [hx.out]; exact hown3⟩
              case measure => simp [intOf]; omega
            all_goals
              have hx : Hid (badF a b (L.take (k + 1)) = acc ++ [p]) := by unfold Hid; rw [HST2.out, if_pos (by unfold badP; rw [hkd]; simp [h5])]
              go_wp2_with fail
              refine (kindAt_any a b p _ hcur hp5).mono ?_; rintro e w3 ⟨rfl, hb3⟩
              rw [hkd]
              have hown3 := hown.keep hb3
              replace hb3 : Below w2.heap.size w2 w3 := bel_trans hb3 hbel; clear hbel hown
              have hown' : w3.ownsRow w2.heap.size 3 1 _ acc.length (acc.map (Value.int .i64)) := hown3
              go_wp2_with (first | (at_builtin; refine wpList_append_own _ rfl _ _ 26 rfl w2.heap.size 3 i0 (.int .i64 0) 1 8 Tryd.underlying26 hi hz0 hz1 hz2 rfl (by decide) _ _ _ rfl (hown'.alloc _) ⟨w3.heap.size, 0, none⟩ 1 1 [.int .i64 p] rfl rfl (cell_one_new _ _ _) ?_ ?_ ?_ ?_ ?_))
              · first | rfl | (intro u hu; simp at hu; subst hu; rfl)
              · unfold maxLen; omega
              · omega
              · have := hb3.size; simp; omega
              · intro v' w4 hown4 hgrow _
                obtain ⟨hb4, ho4⟩ := own_snoc hb3 hown3 hown4 hgrow
                clear hown4 hgrow hown3 hown' hb3
                go_wp2_with fail
                go_roundw
                case rel => exact ⟨k + 1, by go_num, by omega, HNX, hb4, by rw [hx.out]; exact ho4⟩
                case measure => simp [intOf]; omega
          · have hx : Hid (badF a b (L.take (k + 1)) = acc) := by unfold Hid; rw [HST2.out, if_neg (by unfold badP; simp [h5])]; simp
            clear hpr
            go_wp2_with fail
            go_roundw
            case rel => exact ⟨k + 1, by go_num, by omega, HNX, hbel, by rw [hx.out]; exact hown⟩
            case measure => simp [intOf]; omega
      · have hkl : k = L.length := by omega
        have hok : Hid ((L.all fun p => decide (p ≤ 997)) = true) := ok_true (by rw [← hkl]; exact HK.out)
        have hfin : Hid (badF a b L = acc) := by unfold Hid; rw [← HACC.out, hkl, List.take_length]
        clear hlt
        subst hkl
        go_wp2_with fail
        refine bodyPost_ret (by simp (maxDischargeDepth := 3) [results, Tryd.results25, go_sem, *]; try rfl) rfl ?_
        exact ⟨.slice ad acc.length cap2, by rw [HO.out, hok.out], bel_trans hbel hbw, by rw [HX.out, hok.out, cond_true, hfin.out]; exact hown.le hbw.size⟩
set_option maxRecDepth 4000 in
set_option maxHeartbeats 4000000 in
theorem rtBad_any (a b : Int) (w : World) (hcur : curveB a b = true) :
    Calls Tryd.prog 27 #[.agg #[.int .i64 a, .int .i64 b]] w (RetSlB (bfX a b) (bfOk a b) w) := by
  obtain ⟨i0, hi, hz0, hz1, hz2⟩ := info_parts Tryd.info_int
  obtain ⟨q1, q2, q3, q4, q5⟩ := curveB_true.1 hcur
  obtain ⟨d1, d2⟩ := disc_bd q1 q2 q3 q4
  have hX : bfX a b = bif (bfL a b).all (fun p => decide (p ≤ 997)) then badF a b (bfL a b) else [] := rfl
  have hO : bfOk a b = (bfL a b).all (fun p => decide (p ≤ 997)) := rfl
  obtain ⟨D, hD⟩ : ∃ D, discI a b = D := ⟨_, rfl⟩
  obtain ⟨N, hN⟩ : ∃ N : Int, ((discI a b).natAbs : Int) = N := ⟨_, rfl⟩
  have hL : bfL a b = primesL N := by unfold bfL; rw [hN]
  rw [hL] at hX hO
  clear hL
  rw [hD] at q5 d1 d2 hN
  have hNb : 1 ≤ N ∧ N ≤ 20000000000 ∧ (D = N ∨ D = -N) := by omega
  have HD := Lib.hid hD; clear hD
  have HNN := Lib.hid hN; clear hN
  have hmem : ∀ k, k < (primesL N).length → _ := fun k hk => primesL_mem hNb.1 (N := N) (k := k) hk
  have hll := primesL_len hNb.1
  obtain ⟨L, hL⟩ : ∃ L, primesL N = L := ⟨_, rfl⟩
  have HL := Lib.hid hL
  rw [hL] at hX hO hmem hll
  clear hL
  have HM := Lib.hid hmem; clear hmem
  have HX := Lib.hid hX; clear hX
  have HO := Lib.hid hO; clear hO
  obtain ⟨hn1, hn2, hn3⟩ := hNb
  have HQ := Lib.hid q5; clear q5
  have HN3 := Lib.hid hn3; clear hn3
  go_enter Tryd.func27, Tryd.ntmps27
  go_wp2_with fail
  generalize hW : w.alloc (.cells #[.int .i64 a, .int .i64 b] 24) = W
  obtain ⟨B0, hB0⟩ : ∃ B0, w.heap.size = B0 := ⟨_, rfl⟩
  obtain ⟨hbelW, hsz, hca, hcb⟩ : Below w.heap.size w W ∧ B0 < W.heap.size ∧ W.cell? ⟨B0, 0, none⟩ = some (.int .i64 a) ∧ W.cell? ⟨B0, 1, none⟩ = some (.int .i64 b) := by
    subst hW; subst hB0
    exact ⟨(by repeat (first | exact Below.refl _ _ | (with_reducible assumption) | refine bel_alloc ?_ _ | refine bel_drew ?_ | refine bel_drewN ?_ _ | refine Below.setCell ?_ (by dsimp only; omega) _ | refine bel_trans (by assumption) ?_)), by simp, by simp [go_sem], by simp [go_sem]⟩
  clear hW
  (try rw [hB0])
  refine (ecDisc_any _ _ _ q1 q2 q3 q4).mono ?_; rintro e w1 ⟨rfl, hb1⟩
  rw [HD.out]
  go_wp2_with (go_at_call 57; refine (l1Abs_any _ _ (by omega) (by omega)).mono ?_; rintro e w' ⟨rfl, rfl⟩)
  rw [HNN.out]
  refine (mdFactors_any N _ hn1 hn2).mono ?_; rintro e w2 ⟨v, rfl, hb2, ho2⟩
  rw [show facL N = L.map fun q => [q, valP N q] by unfold facL; rw [HL.out]] at ho2
  replace hb2 := aft2 hb2 hb1; clear hb1
  obtain ⟨vs, hrow, hvl, hin, _⟩ := ho2
  rw [List.length_map] at hrow hvl hin
  have HIN := Lib.hid hin; clear hin
  rcases hrow.2 with ⟨rfl, hz⟩ | ⟨g, cap, cur, rfl, hg, hh, hnc, hcm, _⟩
  · have hnil : L = [] := List.eq_nil_of_length_eq_zero hz
    clear hz
    subst hnil
    go_wp2_with fail
    refine wp_loop_rounds 1 ?_; rw [rounds_succ]
    go_wp2_with fail
    refine bodyPost_ret (by simp (maxDischargeDepth := 3) [results, Tryd.results27, go_sem, *]; try rfl) rfl ?_
    exact ⟨.slice none 0 0, by rw [HO.out]; rfl, bel_trans hb2 hbelW, by rw [HX.out]; exact Own.nil _ _⟩
  · clear hh
    have hsz2 : B0 < w2.heap.size := Nat.lt_of_lt_of_le hsz hb2.size
    have hca2 : w2.cell? ⟨B0, 0, none⟩ = some (.int .i64 a) := (hb2.cell (p := ⟨B0, 0, none⟩) hsz).trans hca
    have hcb2 : w2.cell? ⟨B0, 1, none⟩ = some (.int .i64 b) := (hb2.cell (p := ⟨B0, 1, none⟩) hsz).trans hcb
    have hbw := bel_trans hb2 hbelW
    clear hca hcb
    unfold maxLen at hcm
    go_wp2_with fail
    go_loopw [4, 13] (fun y x wr => ∃ k : Nat, x = .int .i64 k ∧ k ≤ L.length ∧ Hid (∀ q ∈ L.take k, q ≤ 997) ∧ Below w2.heap.size w2 wr ∧ Own wr w2.heap.size y (badF a b (L.take k))) (fun _ x _ => L.length - (intOf x).toNat)
    case atStart => exact ⟨0, rfl, Nat.zero_le _, fun q hq => by simp at hq, Below.refl _ _, Own.nil _ _⟩
    case round =>
      obtain ⟨k, rfl, hk, HK, hbel, hown⟩ := hrel
      have hlen0 := badF_len a b (L.take k)
      rw [List.length_take] at hlen0
      have hstp := fun h => badF_step a b (xs := L) (i := k) h
      have HST := Lib.hid hstp; clear hstp
      obtain ⟨acc, hacc⟩ : ∃ acc, badF a b (L.take k) = acc := ⟨_, rfl⟩
      rw [hacc] at hown hlen0
      have HACC := Lib.hid hacc; clear hacc
      obtain ⟨ad, cap2, rfl⟩ := hown.len
      have hsz3 : B0 < wr.heap.size := Nat.lt_of_lt_of_le hsz2 hbel.size
      have hca3 : wr.cell? ⟨B0, 0, none⟩ = some (.int .i64 a) := (hbel.cell (p := ⟨B0, 0, none⟩) hsz2).trans hca2
      have hcb3 : wr.cell? ⟨B0, 1, none⟩ = some (.int .i64 b) := (hbel.cell (p := ⟨B0, 1, none⟩) hsz2).trans hcb2
      by_cases hlt : k < L.length
      · obtain ⟨q2', _, hpr⟩ := HM.out k hlt
        have hat := fun h => all_take hlt HK.out h
        have HAT := Lib.hid hat; clear hat
        have hof := fun h => ok_false hlt h
        have HOF := Lib.hid hof; clear hof
        have hst := HST.out hlt
        rw [HACC.out] at hst
        have hr1 := (row_keep hrow hbel).cellAt k (by omega)
        have hi1 := (HIN.out k hlt).keep hbel
        rw [show vs[k]? = some (vs.getD k undef) by rw [List.getD_eq_getElem?_getD, List.getElem?_eq_getElem (by omega)]; rfl] at hr1
        rw [show (L.map fun q => [q, valP N q]).getD k [] = [L.getD k 0, valP N (L.getD k 0)] by simp [List.getD_eq_getElem?_getD, List.getElem?_eq_getElem hlt]] at hi1
        obtain ⟨p, hp⟩ : ∃ p, L.getD k 0 = p := ⟨_, rfl⟩
        rw [hp] at hi1 hst hpr q2' HAT HOF
        clear hp
        rcases hi1.shape with ⟨_, hbad⟩ | ⟨g2, cap3, hv2, _, hg2, _, _⟩
        · cases hbad
        rw [hv2] at hr1 hi1
        have hc0 := hi1.cellAt 0 (by simp)
        simp only [List.getD_cons_zero] at hc0
        clear hi1 hv2
        simp only [List.length_cons, List.length_nil] at hr1
        have hk0 : (0 : Int) ≤ (k : Int) := Int.natCast_nonneg _
        have hk1 : (k : Int) < (L.length : Int) := by omega
        have HST2 := Lib.hid hst; clear hst
        by_cases hbig : 997 < p
        · have hokf := HOF.out hbig
          have HOKF := Lib.hid hokf; clear hokf
          go_wp2_with fail
          refine bodyPost_ret (by simp (maxDischargeDepth := 3) [results, Tryd.results27, go_sem, *]; try rfl) rfl ?_
          exact ⟨.slice none 0 0, by rw [HO.out, HOKF.out], bel_trans hbel hbw, by rw [HX.out, HOKF.out]; exact Own.nil _ _⟩
        · have hle : p ≤ 997 := by omega
          have hnx := HAT.out hle
          have HNX := Lib.hid hnx; clear hnx hbig
          by_cases h5 : 5 ≤ p
          · have hp5 : p5B p = true := pr_p5 hpr h5 hle
            have HPR := Lib.hid hpr; clear hpr
            rcases kind_cases (minA a b p) b p with hkd | hkd | hkd | hkd
            · have hx : Hid (badF a b (L.take (k + 1)) = acc) := by unfold Hid; rw [HST2.out, if_neg (by unfold badP; rw [hkd]; simp)]; simp
              go_wp2_with fail
              refine (rtExponent_any a b p _ hcur hp5).mono ?_; rintro e w3 ⟨rfl, hb3⟩
              rw [hkd]
              have hown3 := hown.keep hb3
              replace hb3 : Below w2.heap.size w2 w3 := bel_trans hb3 hbel; clear hbel hown
              go_wp2_with fail
              go_roundw
              case rel => exact ⟨k + 1, by go_num, by omega, HNX, hb3, by rw [hx.out]; exact hown3⟩
              case measure => simp [intOf]; omega
            all_goals
              have hx : Hid (badF a b (L.take (k + 1)) = acc ++ [p]) := by unfold Hid; rw [HST2.out, if_pos (by unfold badP; rw [hkd]; simp [h5])]
              go_wp2_with fail
              refine (rtExponent_any a b p _ hcur hp5).mono ?_; rintro e w3 ⟨rfl, hb3⟩
              rw [hkd]
              have hown3 := hown.keep hb3
              replace hb3 : Below w2.heap.size w2 w3 := bel_trans hb3 hbel; clear hbel hown
              have hown' : w3.ownsRow w2.heap.size 3 1 _ acc.length (acc.map (Value.int .i64)) := hown3
              go_wp2_with (first | (at_builtin; refine wpList_append_own _ rfl _ _ 26 rfl w2.heap.size 3 i0 (.int .i64 0) 1 8 Tryd.underlying26 hi hz0 hz1 hz2 rfl (by decide) _ _ _ rfl (hown'.alloc _) ⟨w3.heap.size, 0, none⟩ 1 1 [.int .i64 p] rfl rfl (cell_one_new _ _ _) ?_ ?_ ?_ ?_ ?_))
              · first | rfl | (intro u hu; simp at hu; subst hu; rfl)
              · unfold maxLen; omega
              · omega
              · have := hb3.size; simp; omega
              · intro v' w4 hown4 hgrow _
                obtain ⟨hb4, ho4⟩ := own_snoc hb3 hown3 hown4 hgrow
                clear hown4 hgrow hown3 hown' hb3
                go_wp2_with fail
                go_roundw
                case rel => exact ⟨k + 1, by go_num, by omega, HNX, hb4, by rw [hx.out]; exact ho4⟩
                case measure => simp [intOf]; omega
          · have hx : Hid (badF a b (L.take (k + 1)) = acc) := by unfold Hid; rw [HST2.out, if_neg (by unfold badP; simp [h5])]; simp
            clear hpr
            go_wp2_with fail
            go_roundw
            case rel => exact ⟨k + 1, by go_num, by omega, HNX, hbel, by rw [hx.out]; exact hown⟩
            case measure => simp [intOf]; omega
      · have hkl : k = L.length := by omega
        have hok : Hid ((L.all fun p => decide (p ≤ 997)) = true) := ok_true (by rw [← hkl]; exact HK.out)
        have hfin : Hid (badF a b L = acc) := by unfold Hid; rw [← HACC.out, hkl, List.take_length]
        clear hlt
        subst hkl
        go_wp2_with fail
        refine bodyPost_ret (by simp (maxDischargeDepth := 3) [results, Tryd.results27, go_sem, *]; try rfl) rfl ?_
        exact ⟨.slice ad acc.length cap2, by rw [HO.out, hok.out], bel_trans hbel hbw, by rw [HX.out, hok.out, cond_true, hfin.out]; exact hown.le hbw.size⟩
end Go.Proofs.YtpjcfnjagknocaaDoor
