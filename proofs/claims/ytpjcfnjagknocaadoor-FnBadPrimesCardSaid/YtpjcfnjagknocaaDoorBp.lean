/- Bp: contracts: the bad primes of a curve. No conditions. -/
import Derived.Test.YtpjcfnjagknocaaDoorFx
import Derived.Test.YtpjcfnjagknocaaDoorPu
import Derived.Test.YtpjcfnjagknocaaDoorCur
namespace Go.Proofs.YtpjcfnjagknocaaDoor
open Go.RowKit

def bpF (xs : List Int) : List Int := 2 :: xs.filter fun q => decide (q ≠ 2)
noncomputable def badL (a b : Int) : List Int := bpF (primesL ((discI a b).natAbs : Int))
theorem pr_two : Pr 2 := ⟨by omega, fun d h1 h2 => by omega⟩
theorem badL_eq {N : Int} (hN : 1 ≤ N) : bpF (primesL N) = primesL (2 * N) := by
  obtain ⟨hinc, hmem⟩ := primesL_spec (N := N) (by omega)
  refine primesL_eq (by omega) ⟨?_, fun q => ?_⟩
  · unfold bpF Inc
    rw [List.pairwise_cons]
    refine ⟨fun q hq => ?_, List.Pairwise.filter _ hinc⟩
    obtain ⟨h1, h2⟩ := List.mem_filter.1 hq
    have h3 := ((hmem q).1 h1).1.1
    have h4 : q ≠ 2 := by simpa using h2
    omega
  · unfold bpF
    rw [List.mem_cons, List.mem_filter]
    constructor
    · rintro (rfl | ⟨h1, _⟩)
      · exact ⟨pr_two, ⟨N, rfl⟩⟩
      · obtain ⟨h2, h3⟩ := (hmem q).1 h1
        exact ⟨h2, Int.dvd_mul_of_dvd_right h3⟩
    · rintro ⟨h1, h2⟩
      by_cases h : q = 2
      · exact .inl h
      · right
        refine ⟨(hmem q).2 ⟨h1, ?_⟩, by simp [h]⟩
        rcases pr_dvd_mul h1 h2 with k | k
        · have := Int.le_of_dvd (by omega) k
          have := h1.1
          omega
        · exact k
theorem bpF_step {L : List Int} {k : Nat} (hk : k < L.length) : bpF (L.take (k + 1)) = if L.getD k 0 = 2 then bpF (L.take k) else bpF (L.take k) ++ [L.getD k 0] := by
  have e : L.take (k + 1) = L.take k ++ [L.getD k 0] := by rw [List.take_add_one, List.getD_eq_getElem?_getD, List.getElem?_eq_getElem hk]; rfl
  unfold bpF
  rw [e, List.filter_append]
  split
  · rename_i h; rw [h]; simp
  · rename_i h; generalize L.getD k 0 = z at *; simp [h]
theorem bpF_lt {L : List Int} (hinc : Inc L) (h2 : ∀ q ∈ L, 2 ≤ q) {k : Nat} (hk : k < L.length) (hne : L.getD k 0 ≠ 2) : ∀ x ∈ bpF (L.take k), x < L.getD k 0 := by
  have hgk : L.getD k 0 = L[k] := by rw [List.getD_eq_getElem?_getD, List.getElem?_eq_getElem hk]; rfl
  intro x hx
  unfold bpF at hx
  rcases List.mem_cons.1 hx with rfl | hx
  · have := h2 L[k] (List.getElem_mem hk)
    rw [hgk] at hne ⊢
    omega
  · obtain ⟨h1, _⟩ := List.mem_filter.1 hx
    obtain ⟨i, hi, rfl⟩ := List.mem_take_iff_getElem.1 h1
    rw [hgk]
    exact List.pairwise_iff_getElem.1 hinc i k _ hk (by omega)
theorem bpF_two {L : List Int} (hinc : Inc L) (h2 : ∀ q ∈ L, 2 ≤ q) {k : Nat} (hk : k < L.length) (he : L.getD k 0 = 2) : bpF (L.take k) = [2] := by
  have hgk : L.getD k 0 = L[k] := by rw [List.getD_eq_getElem?_getD, List.getElem?_eq_getElem hk]; rfl
  have hk0 : k = 0 := by
    rcases Nat.eq_zero_or_pos k with h | h
    · exact h
    · have h3 := List.pairwise_iff_getElem.1 hinc 0 k (by omega) hk h
      have h4 := h2 L[0] (List.getElem_mem (by omega))
      omega
  subst hk0
  rfl
theorem bpF_len (L : List Int) (k : Nat) : (bpF (L.take k)).length ≤ k + 1 := by
  unfold bpF
  rw [List.length_cons]
  have h1 := List.length_filter_le (fun q => decide (q ≠ 2)) (L.take k)
  have h2 := List.length_take_le k L
  omega
theorem iBadPrimes_any (a b : Int) (w : World) :
    Calls Tryd.prog 18 #[.agg #[.int .i64 a, .int .i64 b]] w (RetSlB (if curveB a b = true then badL a b else []) (curveB a b) w) := by
  cases hcv : curveB a b
  · rw [if_neg (by simp)]
    go_enter Tryd.func18, Tryd.ntmps18
    go_wp2_with (go_at_call 24; refine (isCurve_any _ _ _).mono ?_; rintro e w' ⟨rfl, hb⟩; (try replace hb := aft2 hb (by assumption)); obtain ⟨hc, hf, hs1, hs2, hs3, hs4⟩ := aftz hb)
    go_returns
    exact ⟨_, rfl, (by repeat (first | exact Below.refl _ _ | (with_reducible assumption) | refine bel_alloc ?_ _ | refine bel_drew ?_ | refine bel_drewN ?_ _ | refine Below.setCell ?_ (by dsimp only; omega) _ | refine bel_trans (by assumption) ?_)), Own.nil _ _⟩
  · obtain ⟨h1, h2, h3, h4, h5⟩ := curveB_true.1 hcv
    obtain ⟨d1, d2⟩ := disc_bd h1 h2 h3 h4
    rw [if_pos rfl]
    have hbl : badL a b = primesL (2 * ((discI a b).natAbs : Int)) := by unfold badL; exact badL_eq (by omega)
    rw [hbl]; clear hbl
    have hpo := fun w => primesOf_any (2 * discI a b) (2 * ((discI a b).natAbs : Int)) w (by omega) (by omega) (by omega)
    go_enter Tryd.func18, Tryd.ntmps18
    go_wp2_with (first | (go_at_call 24; refine (isCurve_any _ _ _).mono ?_; rintro e w' ⟨rfl, hb⟩; (try replace hb := aft2 hb (by assumption)); obtain ⟨hc, hf, hs1, hs2, hs3, hs4⟩ := aftz hb) | (go_at_call 46; refine (core_any _ _ _ h1 h2 h3 h4).mono ?_; rintro e w' ⟨rfl, hb⟩; (try replace hb := aft2 hb (by assumption)); obtain ⟨hc, hf, hs1, hs2, hs3, hs4⟩ := aftz hb))
    refine (hpo _).mono ?_; rintro e w2 ⟨v2, rfl, hb2, ho2⟩
    go_wp2_with fail
    go_returns
    exact ⟨_, rfl, (by repeat (first | exact Below.refl _ _ | (with_reducible assumption) | refine bel_alloc ?_ _ | refine bel_drew ?_ | refine bel_drewN ?_ _ | refine Below.setCell ?_ (by dsimp only; omega) _ | refine bel_trans (by assumption) ?_)), ho2.le (Below.size (by repeat (first | exact Below.refl _ _ | (with_reducible assumption) | refine bel_alloc ?_ _ | refine bel_drew ?_ | refine bel_drewN ?_ _ | refine Below.setCell ?_ (by dsimp only; omega) _ | refine bel_trans (by assumption) ?_)))⟩
set_option maxHeartbeats 4000000 in
theorem ecBad_any (a b : Int) (w : World) (hcv : curveB a b = true) :
    Calls Tryd.prog 47 #[.agg #[.int .i64 a, .int .i64 b]] w (RetSl (badL a b) w) := by
  obtain ⟨q1, q2, q3, q4, q5⟩ := curveB_true.1 hcv
  obtain ⟨d1, d2⟩ := disc_bd q1 q2 q3 q4
  obtain ⟨N, hN⟩ : ∃ N : Int, ((discI a b).natAbs : Int) = N := ⟨_, rfl⟩
  have hX : badL a b = bpF (primesL N) := by unfold badL; rw [hN]
  obtain ⟨D, hD⟩ : ∃ D, discI a b = D := ⟨_, rfl⟩
  rw [hD] at q5 d1 d2 hN
  have hNb : 1 ≤ N ∧ N ≤ 20000000000 := by omega
  have hll := primesL_len hNb.1
  obtain ⟨hinc, hmem⟩ := primesL_spec (N := N) (by omega)
  have h2 : ∀ q ∈ primesL N, 2 ≤ q := fun q hq => ((hmem q).1 hq).1.1
  clear hmem
  have hlen8 : (primesL N).length ≤ 9000000000 := by omega
  obtain ⟨L, hL⟩ : ∃ L, primesL N = L := ⟨_, rfl⟩
  rw [hL] at hX hinc h2 hlen8
  have HL := Lib.hid hL; clear hL hll
  have HD := Lib.hid hD; clear hD
  have HNN := Lib.hid hN; clear hN
  have HX := Lib.hid hX; clear hX
  have HI : Hid (Inc L) := hinc
  have HT : Hid (∀ q ∈ L, 2 ≤ q) := h2
  clear hinc h2
  obtain ⟨hn1, hn2⟩ := hNb
  have HQ := Lib.hid q5; clear q5
  go_enter Tryd.func47, Tryd.ntmps47
  go_wp2_with fail
  refine (ecDisc_any _ _ _ q1 q2 q3 q4).mono ?_; rintro e w1 ⟨rfl, hb1⟩
  rw [HD.out]
  go_wp2_with (go_at_call 57; refine (l1Abs_any _ _ (by omega) (by omega)).mono ?_; rintro e w' ⟨rfl, rfl⟩)
  rw [HNN.out]
  refine (mdFactors_any N _ hn1 hn2).mono ?_; rintro e w2 ⟨v, rfl, hb2, ho2⟩
  rw [show facL N = L.map fun q => [q, valP N q] by unfold facL; rw [HL.out]] at ho2
  replace hb2 := aft2 hb2 hb1; clear hb1
  have hbw : Below w.heap.size w w2 := (by repeat (first | exact Below.refl _ _ | (with_reducible assumption) | refine bel_alloc ?_ _ | refine bel_drew ?_ | refine bel_drewN ?_ _ | refine Below.setCell ?_ (by dsimp only; omega) _ | refine bel_trans (by assumption) ?_))
  have hout : Own w2 w.heap.size (.slice (some ⟨w.heap.size + 1, 0, none⟩) 1 1) [2] := by
    have h := World.ownsRow_lit (base := w.heap.size) (e := 3) (size := 1) (w.alloc (.cells #[.int .i64 a, .int .i64 b] 24)) #[.int .i64 2] 1 (by simp) (by unfold maxLen; omega) (by simp)
    have h' : Own ((w.alloc (.cells #[.int .i64 a, .int .i64 b] 24)).alloc (.cells #[.int .i64 2] 3)) w.heap.size (.slice (some ⟨w.heap.size + 1, 0, none⟩) 1 1) [2] := by
      unfold Own; simpa using h
    exact h'.keep hb2
  clear hb2
  obtain ⟨vs, hrow, hvl, hin, _⟩ := ho2
  rw [List.length_map] at hrow hvl hin
  have HIN := Lib.hid hin; clear hin
  rcases hrow.2 with ⟨rfl, hz⟩ | ⟨g, cap, cur, rfl, hg, hh, hnc, hcm, _⟩
  · have hnil : L = [] := List.eq_nil_of_length_eq_zero hz
    clear hz
    subst hnil
    go_wp2_with fail
    refine wp_loop_rounds 1 ?_; rw [rounds_succ]
    go_wp2_with fail
    go_ret
    exact ⟨_, rfl, hbw, by rw [HX.out]; exact hout⟩
  · clear hh
    unfold maxLen at hcm
    go_wp2_with fail
    go_loopw [3, 12] (fun y x wr => ∃ k : Nat, x = .int .i64 k ∧ k ≤ L.length ∧ Below w2.heap.size w2 wr ∧ Own wr w.heap.size y (bpF (L.take k))) (fun _ x _ => L.length - (intOf x).toNat)
    case atStart => exact ⟨0, rfl, Nat.zero_le _, Below.refl _ _, by simpa [bpF] using hout⟩
    case round =>
      obtain ⟨k, rfl, hk, hbel, hown⟩ := hrel
      by_cases hlt : k < L.length
      · have hst := bpF_step hlt
        have hlen0 := bpF_len L k
        have hr1 := (row_keep hrow hbel).cellAt k (by omega)
        have hi1 := (HIN.out k hlt).keep hbel
        rw [show vs[k]? = some (vs.getD k undef) by rw [List.getD_eq_getElem?_getD, List.getElem?_eq_getElem (by omega)]; rfl] at hr1
        rw [show (L.map fun q => [q, valP N q]).getD k [] = [L.getD k 0, valP N (L.getD k 0)] by simp [List.getD_eq_getElem?_getD, List.getElem?_eq_getElem hlt]] at hi1
        have htwo := fun h => bpF_two HI.out HT.out hlt h
        have hltp := fun h => bpF_lt HI.out HT.out hlt h
        obtain ⟨p, hp⟩ : ∃ p, L.getD k 0 = p := ⟨_, rfl⟩
        rw [hp] at hi1 hst htwo hltp
        clear hp
        obtain ⟨acc, hacc⟩ : ∃ acc, bpF (L.take k) = acc := ⟨_, rfl⟩
        rw [hacc] at hown hlen0 htwo hltp hst
        have hane : acc ≠ [] := by rw [← hacc]; unfold bpF; simp
        clear hacc
        rcases hi1.shape with ⟨_, hbad⟩ | ⟨g2, cap3, hv2, _, hg2, _, _⟩
        · cases hbad
        rw [hv2] at hr1 hi1
        have hc0 := hi1.cellAt 0 (by simp)
        simp only [List.getD_cons_zero] at hc0
        clear hi1 hv2
        simp only [List.length_cons, List.length_nil] at hr1
        have hk0 : (0 : Int) ≤ (k : Int) := Int.natCast_nonneg _
        have hk1 : (k : Int) < (L.length : Int) := by omega
        have HST2 := Lib.hid hst; clear hst
        have HLT := Lib.hid hltp; clear hltp
        have HTW := Lib.hid htwo; clear htwo
        have HOWN := Lib.hid hown; clear hown
        have HANE := Lib.hid hane; clear hane
        have hbz := hbel.size
        have hwz := hbw.size
        by_cases hp2 : p = 2
        · subst hp2
          have hx : Hid (bpF (L.take (k + 1)) = acc) := by unfold Hid; rw [HST2.out, if_pos rfl]
          have hr2 := HOWN.out.rd
          rw [HTW.out rfl] at hr2
          have HR2 := Lib.hid hr2; clear hr2
          go_wp2_with fail
          refine (l1Put_two _ _ HR2.out).mono ?_; rintro e w3 ⟨rfl, hb3⟩
          have ho3 := HOWN.out.keep hb3
          have hb3' := bel_trans hb3 hbel
          clear hb3 HOWN HR2 hr1 hc0
          go_wp2_with fail
          go_roundw
          case rel => exact ⟨k + 1, by go_num, by omega, hb3', by rw [hx.out]; exact ho3⟩
          case measure => simp [intOf]; omega
        · have hx : Hid (bpF (L.take (k + 1)) = acc ++ [p]) := by unfold Hid; rw [HST2.out, if_neg hp2]
          go_wp2_with fail
          refine (l1Put_last _ acc p _ _ HOWN.out HANE.out (HLT.out hp2) (by omega)).mono ?_; rintro e w3 ⟨v3, rfl, hb3, ho3⟩
          have hb3' := bel_trans hb3 hbel
          clear HOWN hr1 hc0
          go_wp2_with fail
          go_roundw
          case rel => exact ⟨k + 1, by go_num, by omega, hb3', by rw [hx.out]; exact ho3.le (by omega)⟩
          case measure => simp [intOf]; omega
      · have hkl : k = L.length := by omega
        have hfin : Own wr w.heap.size u3 (bpF L) := by rw [hkl, List.take_length] at hown; exact hown
        clear hown
        obtain ⟨ad, cap2, rfl⟩ := hfin.len
        subst hkl
        go_wp2_with fail
        go_ret
        exact ⟨_, rfl, bel_trans hbel hbw, by rw [HX.out]; exact hfin⟩
theorem sBadPrimes_any (a b : Int) (w : World) :
    Calls Tryd.prog 19 #[.agg #[.int .i64 a, .int .i64 b]] w (RetSlB (if curveB a b = true then badL a b else []) (curveB a b) w) := by
  cases hcv : curveB a b
  · rw [if_neg (by simp)]
    go_enter Tryd.func19, Tryd.ntmps19
    go_wp2_with (go_at_call 26; refine (ecGood_any _ _ _).mono ?_; rintro e w' ⟨rfl, hb⟩; (try replace hb := aft2 hb (by assumption)); obtain ⟨hc, hf, hs1, hs2, hs3, hs4⟩ := aftz hb)
    go_returns
    exact ⟨_, rfl, (by repeat (first | exact Below.refl _ _ | (with_reducible assumption) | refine bel_alloc ?_ _ | refine bel_drew ?_ | refine bel_drewN ?_ _ | refine Below.setCell ?_ (by dsimp only; omega) _ | refine bel_trans (by assumption) ?_)), Own.nil _ _⟩
  · rw [if_pos rfl]
    go_enter Tryd.func19, Tryd.ntmps19
    go_wp2_with (go_at_call 26; refine (ecGood_any _ _ _).mono ?_; rintro e w' ⟨rfl, hb⟩; (try replace hb := aft2 hb (by assumption)); obtain ⟨hc, hf, hs1, hs2, hs3, hs4⟩ := aftz hb)
    refine (ecBad_any _ _ _ hcv).mono ?_; rintro e w2 ⟨v2, rfl, hb2, ho2⟩
    go_wp2_with fail
    go_returns
    exact ⟨_, rfl, (by repeat (first | exact Below.refl _ _ | (with_reducible assumption) | refine bel_alloc ?_ _ | refine bel_drew ?_ | refine bel_drewN ?_ _ | refine Below.setCell ?_ (by dsimp only; omega) _ | refine bel_trans (by assumption) ?_)), ho2.le (Below.size (by repeat (first | exact Below.refl _ _ | (with_reducible assumption) | refine bel_alloc ?_ _ | refine bel_drew ?_ | refine bel_drewN ?_ _ | refine Below.setCell ?_ (by dsimp only; omega) _ | refine bel_trans (by assumption) ?_)))⟩
theorem badR_len (a b : Int) : (if curveB a b = true then badL a b else []).length ≤ 10000000000 := by
  split
  · rename_i h
    obtain ⟨q1, q2, q3, q4, q5⟩ := curveB_true.1 h
    obtain ⟨d1, d2⟩ := disc_bd q1 q2 q3 q4
    have h1 := primesL_len (N := ((discI a b).natAbs : Int)) (by omega)
    have h2 := bpF_len (primesL ((discI a b).natAbs : Int)) (primesL ((discI a b).natAbs : Int)).length
    rw [List.take_length] at h2
    unfold badL
    omega
  · simp
end Go.Proofs.YtpjcfnjagknocaaDoor
