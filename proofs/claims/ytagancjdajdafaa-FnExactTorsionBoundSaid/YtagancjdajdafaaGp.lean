/- Gp: contracts: the first good primes, in the program. No conditions. -/
import Derived.Test.YtagancjdajdafaaGl
import Derived.Test.YtagancjdajdafaaFac
import Derived.Test.YtagancjdajdafaaMk
import Derived.Test.YtagancjdajdafaaCur
namespace Go.Proofs.Ytagancjdajdafaa
open Go.RowKit

set_option maxHeartbeats 2000000 in
theorem goodPrimes_any (a b : Int) (k : Nat) (w : World) (h : curveB a b = true) (hk1 : 1 ≤ k) (hk2 : k ≤ 8) :
    Calls Try.prog 54 #[.agg #[.int .i64 a, .int .i64 b], .int .i64 k] w (RetSl (goodK a b k) w) := by
  obtain ⟨i0, hi, hz0, hz1, hz2⟩ := info_parts Try.info_int
  obtain ⟨q1, q2, q3, q4, q5⟩ := curveB_true.1 h
  have HQ := Lib.hid q5; clear q5
  go_enter Try.func54, Try.ntmps54
  go_wp2_with fail
  generalize hW : w.alloc (.cells #[.int .i64 a, .int .i64 b] 27) = W
  obtain ⟨B0, hB0⟩ : ∃ B0, w.heap.size = B0 := ⟨_, rfl⟩
  obtain ⟨hbelW, hsz, hca, hcb⟩ : Below w.heap.size w W ∧ B0 < W.heap.size ∧ W.cell? ⟨B0, 0, none⟩ = some (.int .i64 a) ∧ W.cell? ⟨B0, 1, none⟩ = some (.int .i64 b) := by
    subst hW; subst hB0
    exact ⟨(by repeat (first | exact Below.refl _ _ | (with_reducible assumption) | refine bel_alloc ?_ _ | refine bel_drew ?_ | refine bel_drewN ?_ _ | refine Below.setCell ?_ (by dsimp only; omega) _ | refine bel_trans (by assumption) ?_)), by simp, by simp [go_sem], by simp [go_sem]⟩
  clear hW
  rw [hB0]
  go_loopw [5, 6] (fun v y wr => ∃ (n : Nat) (p : Int), y = .int .i64 p ∧ Hid (p = (n : Int) + 5) ∧ (gl a b n).length ≤ k ∧ n ≤ 57 ∧ Below W.heap.size W wr ∧ Own wr W.heap.size v (gl a b n))
    (fun _ y _ => (100 - intOf y).toNat)
  case atStart => exact ⟨0, 5, rfl, rfl, Nat.zero_le _, by omega, Below.refl _ _, Own.nil _ _⟩
  case round =>
    obtain ⟨n, p, rfl, HP, hlen, hn, hbel, hown⟩ := hrel
    have hsz1 : B0 < wr.heap.size := Nat.lt_of_lt_of_le hsz hbel.size
    have hca1 : wr.cell? ⟨B0, 0, none⟩ = some (.int .i64 a) := (hbel.cell (p := ⟨B0, 0, none⟩) hsz).trans hca
    have hcb1 : wr.cell? ⟨B0, 1, none⟩ = some (.int .i64 b) := (hbel.cell (p := ⟨B0, 1, none⟩) hsz).trans hcb
    have hlt' := gl_less (n := n) (k := k) h hk2
    have HLT := Lib.hid hlt'; clear hlt'
    have hgs := gl_succ a b n
    rw [← HP.out] at hgs
    have HGS := Lib.hid hgs; clear hgs
    have hdn := gl_done (a := a) (b := b) (k := k) hn
    have HDN := Lib.hid hdn; clear hdn
    obtain ⟨l, hl⟩ : ∃ l, gl a b n = l := ⟨_, rfl⟩
    rw [hl] at hown hlen
    have HL := Lib.hid hl; clear hl
    obtain ⟨ad, cap, rfl⟩ := hown.len
    by_cases hlk : l.length < k
    · have hn57 := HLT.out (by rw [HL.out]; exact hlk)
      have hp1 : 5 ≤ p := by have := HP.out; omega
      have hp2 : p ≤ 61 := by have := HP.out; omega
      have HN := Lib.hid hn57; clear hn57 hn
      have hlki : (l.length : Int) < (k : Int) := by omega
      have HLEN := Lib.hid hlen; clear hlen hlk
      have HK := Lib.hid hk1; clear hk1
      cases hg : goodB a b p
      · have hx : Hid (gl a b (n + 1) = l) := by unfold Hid; rw [HGS.out, HL.out, hg]; simp
        have HG := Lib.hid hg
        go_wp2_with fail
        refine (isGood_any _ _ _ _ q1 q2 q3 q4).mono ?_; rintro e w1 ⟨rfl, hb1⟩
        rw [HG.out]
        have hown1 := hown.keep hb1
        have hbel1 := bel_trans hb1 hbel
        clear hb1 hown hbel hca1 hcb1
        go_wp2_with fail
        go_roundw
        case rel => exact ⟨n + 1, p + 1, rfl, by unfold Hid; have := HP.out; omega, by rw [hx.out]; exact HLEN.out, by have := HN.out; omega, hbel1, by rw [hx.out]; exact hown1⟩
        case measure => simp [intOf]; omega
      · have hx : Hid (gl a b (n + 1) = l ++ [p]) := by unfold Hid; rw [HGS.out, HL.out, hg]; simp
        have HG := Lib.hid hg
        go_wp2_with fail
        refine (isGood_any _ _ _ _ q1 q2 q3 q4).mono ?_; rintro e w1 ⟨rfl, hb1⟩
        rw [HG.out]
        have hown1 := hown.keep hb1
        have hbel1 := bel_trans hb1 hbel
        clear hb1 hown hbel hca1 hcb1
        have hown' : w1.ownsRow W.heap.size 3 1 _ l.length (l.map (Value.int .i64)) := hown1
        go_wp2_with (first | (at_builtin; refine wpList_append_own _ rfl _ _ 24 rfl W.heap.size 3 i0 (.int .i64 0) 1 8 Try.underlying24 hi hz0 hz1 hz2 rfl (by decide) _ _ _ rfl (hown'.alloc _) ⟨w1.heap.size, 0, none⟩ 1 1 [.int .i64 p] rfl rfl (cell_one_new _ _ _) ?_ ?_ ?_ ?_ ?_))
        · first | rfl | (intro u hu; simp at hu; subst hu; rfl)
        · unfold maxLen; have := HLEN.out; omega
        · have := HLEN.out; omega
        · have := hbel1.size; simp; omega
        · intro v' w2 hown2 hgrow _
          obtain ⟨hb2, ho2⟩ := own_snoc hbel1 hown1 hown2 hgrow
          clear hown2 hgrow hown1 hown' hbel1
          go_wp2_with fail
          go_roundw
          case rel => exact ⟨n + 1, p + 1, rfl, by unfold Hid; have := HP.out; omega, by rw [hx.out]; simp; have := HLEN.out; omega, by have := HN.out; omega, hb2, by rw [hx.out]; exact ho2⟩
          case measure => simp [intOf]; omega
    · have hlk2 : l.length = k := by omega
      subst hlk2
      have hfin : Hid (goodK a b l.length = l) := (HDN.out (by rw [HL.out])).symm.trans HL.out
      clear hlk
      go_wp2_with fail
      go_ret
      exact ⟨_, rfl, bel_trans hbel hbelW, (by rw [hfin.out]; exact hown.le hbelW.size : Own wr w.heap.size (.slice ad l.length cap) (goodK a b l.length))⟩
set_option maxHeartbeats 2000000 in
theorem toPrimes_any (a b : Int) (k : Nat) (w : World) (h : curveB a b = true) (hk1 : 1 ≤ k) (hk2 : k ≤ 8) :
    Calls Try.prog 51 #[.agg #[.int .i64 a, .int .i64 b], .int .i64 k] w (RetSl (goodK a b k) w) := by
  obtain ⟨i0, hi, hz0, hz1, hz2⟩ := info_parts Try.info_int
  obtain ⟨q1, q2, q3, q4, q5⟩ := curveB_true.1 h
  have HQ := Lib.hid q5; clear q5
  go_enter Try.func51, Try.ntmps51
  go_wp2_with fail
  generalize hW : w.alloc (.cells #[.int .i64 a, .int .i64 b] 27) = W
  obtain ⟨B0, hB0⟩ : ∃ B0, w.heap.size = B0 := ⟨_, rfl⟩
  obtain ⟨hbelW, hsz, hca, hcb⟩ : Below w.heap.size w W ∧ B0 < W.heap.size ∧ W.cell? ⟨B0, 0, none⟩ = some (.int .i64 a) ∧ W.cell? ⟨B0, 1, none⟩ = some (.int .i64 b) := by
    subst hW; subst hB0
    exact ⟨(by repeat (first | exact Below.refl _ _ | (with_reducible assumption) | refine bel_alloc ?_ _ | refine bel_drew ?_ | refine bel_drewN ?_ _ | refine Below.setCell ?_ (by dsimp only; omega) _ | refine bel_trans (by assumption) ?_)), by simp, by simp [go_sem], by simp [go_sem]⟩
  clear hW
  rw [hB0]
  go_loopw [5, 6] (fun v y wr => ∃ (n : Nat) (p : Int), y = .int .i64 p ∧ Hid (p = (n : Int) + 5) ∧ (gl a b n).length ≤ k ∧ n ≤ 57 ∧ Below W.heap.size W wr ∧ Own wr W.heap.size v (gl a b n))
    (fun _ y _ => (100 - intOf y).toNat)
  case atStart => exact ⟨0, 5, rfl, rfl, Nat.zero_le _, by omega, Below.refl _ _, Own.nil _ _⟩
  case round =>
    obtain ⟨n, p, rfl, HP, hlen, hn, hbel, hown⟩ := hrel
    have hsz1 : B0 < wr.heap.size := Nat.lt_of_lt_of_le hsz hbel.size
    have hca1 : wr.cell? ⟨B0, 0, none⟩ = some (.int .i64 a) := (hbel.cell (p := ⟨B0, 0, none⟩) hsz).trans hca
    have hcb1 : wr.cell? ⟨B0, 1, none⟩ = some (.int .i64 b) := (hbel.cell (p := ⟨B0, 1, none⟩) hsz).trans hcb
    have hlt' := gl_less (n := n) (k := k) h hk2
    have HLT := Lib.hid hlt'; clear hlt'
    have hgs := gl_succ a b n
    rw [← HP.out] at hgs
    have HGS := Lib.hid hgs; clear hgs
    have hdn := gl_done (a := a) (b := b) (k := k) hn
    have HDN := Lib.hid hdn; clear hdn
    obtain ⟨l, hl⟩ : ∃ l, gl a b n = l := ⟨_, rfl⟩
    rw [hl] at hown hlen
    have HL := Lib.hid hl; clear hl
    obtain ⟨ad, cap, rfl⟩ := hown.len
    by_cases hlk : l.length < k
    · have hn57 := HLT.out (by rw [HL.out]; exact hlk)
      have hp1 : 5 ≤ p := by have := HP.out; omega
      have hp2 : p ≤ 61 := by have := HP.out; omega
      have HN := Lib.hid hn57; clear hn57 hn
      have hlki : (l.length : Int) < (k : Int) := by omega
      have HLEN := Lib.hid hlen; clear hlen hlk
      have HK := Lib.hid hk1; clear hk1
      cases hg : goodB a b p
      · have hx : Hid (gl a b (n + 1) = l) := by unfold Hid; rw [HGS.out, HL.out, hg]; simp
        have HG := Lib.hid hg
        go_wp2_with fail
        refine (fmGood_any _ _ _ _).mono ?_; rintro e w1 ⟨rfl, hb1⟩
        rw [h, HG.out, Bool.true_and]
        have hown1 := hown.keep hb1
        have hbel1 := bel_trans hb1 hbel
        clear hb1 hown hbel hca1 hcb1
        go_wp2_with fail
        go_roundw
        case rel => exact ⟨n + 1, p + 1, rfl, by unfold Hid; have := HP.out; omega, by rw [hx.out]; exact HLEN.out, by have := HN.out; omega, hbel1, by rw [hx.out]; exact hown1⟩
        case measure => simp [intOf]; omega
      · have hx : Hid (gl a b (n + 1) = l ++ [p]) := by unfold Hid; rw [HGS.out, HL.out, hg]; simp
        have HG := Lib.hid hg
        go_wp2_with fail
        refine (fmGood_any _ _ _ _).mono ?_; rintro e w1 ⟨rfl, hb1⟩
        rw [h, HG.out, Bool.true_and]
        have hown1 := hown.keep hb1
        have hbel1 := bel_trans hb1 hbel
        clear hb1 hown hbel hca1 hcb1
        have hown' : w1.ownsRow W.heap.size 3 1 _ l.length (l.map (Value.int .i64)) := hown1
        go_wp2_with (first | (at_builtin; refine wpList_append_own _ rfl _ _ 24 rfl W.heap.size 3 i0 (.int .i64 0) 1 8 Try.underlying24 hi hz0 hz1 hz2 rfl (by decide) _ _ _ rfl (hown'.alloc _) ⟨w1.heap.size, 0, none⟩ 1 1 [.int .i64 p] rfl rfl (cell_one_new _ _ _) ?_ ?_ ?_ ?_ ?_))
        · first | rfl | (intro u hu; simp at hu; subst hu; rfl)
        · unfold maxLen; have := HLEN.out; omega
        · have := HLEN.out; omega
        · have := hbel1.size; simp; omega
        · intro v' w2 hown2 hgrow _
          obtain ⟨hb2, ho2⟩ := own_snoc hbel1 hown1 hown2 hgrow
          clear hown2 hgrow hown1 hown' hbel1
          go_wp2_with fail
          go_roundw
          case rel => exact ⟨n + 1, p + 1, rfl, by unfold Hid; have := HP.out; omega, by rw [hx.out]; simp; have := HLEN.out; omega, by have := HN.out; omega, hb2, by rw [hx.out]; exact ho2⟩
          case measure => simp [intOf]; omega
    · have hlk2 : l.length = k := by omega
      subst hlk2
      have hfin : Hid (goodK a b l.length = l) := (HDN.out (by rw [HL.out])).symm.trans HL.out
      clear hlk
      go_wp2_with fail
      go_ret
      exact ⟨_, rfl, bel_trans hbel hbelW, (by rw [hfin.out]; exact hown.le hbelW.size : Own wr w.heap.size (.slice ad l.length cap) (goodK a b l.length))⟩

def gpB (a b k : Int) : Bool := curveB a b && inB k 1 8
theorem gpL_len (a b k : Int) : (bif gpB a b k then goodK a b k.toNat else []).length ≤ 1000000 := by
  unfold gpB
  cases hcur : curveB a b
  · simp
  · cases hk : inB k 1 8
    · simp
    · have := inB_true.1 hk
      have hl := goodK_len (a := a) (b := b) (k := k.toNat) hcur (by omega)
      simp only [Bool.and_self, cond_true, hl]; omega
theorem iGoodPrimesOf_any (a b k : Int) (w : World) (_hk : I64 k) :
    Calls Try.prog 17 #[.agg #[.int .i64 a, .int .i64 b], .int .i64 k] w (RetSlB (bif gpB a b k then goodK a b k.toNat else []) (gpB a b k) w) := by
  unfold gpB
  cases hcur : curveB a b
  · go_enter Try.func17, Try.ntmps17
    go_wp2_with (go_at_call 52; refine (isCurve_any _ _ _).mono ?_; rintro e w' ⟨rfl, hb⟩; (try replace hb := aft2 hb (by assumption)); obtain ⟨hc, hf⟩ := aft hb)
    refine bodyPost_ret (by simp (maxDischargeDepth := 3) [results, Try.results17, go_sem, *]; try rfl) rfl ?_
    exact ⟨.slice none 0 0, rfl, (by repeat (first | exact Below.refl _ _ | (with_reducible assumption) | refine bel_alloc ?_ _ | refine bel_drew ?_ | refine bel_drewN ?_ _ | refine Below.setCell ?_ (by dsimp only; omega) _ | refine bel_trans (by assumption) ?_)), Own.nil _ _⟩
  · by_cases h : 1 ≤ k ∧ k ≤ 8
    · have i1 := inB_true.2 h
      obtain ⟨n, rfl⟩ : ∃ n : Nat, k = n := ⟨k.toNat, by omega⟩
      go_enter Try.func17, Try.ntmps17
      go_wp2_with (first | (go_at_call 52; refine (isCurve_any _ _ _).mono ?_; rintro e w' ⟨rfl, hb⟩; (try replace hb := aft2 hb (by assumption)); obtain ⟨hc, hf⟩ := aft hb) | (go_at_call 53; refine (inside_any _ _ _ _).mono ?_; rintro e w' ⟨rfl, rfl⟩))
      refine (goodPrimes_any a b n _ hcur (by omega) (by omega)).mono ?_; rintro e w2 ⟨v, rfl, hb2, ho2⟩
      go_wp2_with fail
      refine bodyPost_ret (by simp (maxDischargeDepth := 3) [results, Try.results17, go_sem, *]; try rfl) rfl ?_
      exact ⟨v, by rw [i1]; rfl, (by repeat (first | exact Below.refl _ _ | (with_reducible assumption) | refine bel_alloc ?_ _ | refine bel_drew ?_ | refine bel_drewN ?_ _ | refine Below.setCell ?_ (by dsimp only; omega) _ | refine bel_trans (by assumption) ?_)), by simp only [i1, Bool.and_self, cond_true, Int.toNat_natCast]; exact ho2.le (by have := hb.size; simp at this; omega)⟩
    · have i1 := inB_false.2 h
      go_enter Try.func17, Try.ntmps17
      go_wp2_with (first | (go_at_call 52; refine (isCurve_any _ _ _).mono ?_; rintro e w' ⟨rfl, hb⟩; (try replace hb := aft2 hb (by assumption)); obtain ⟨hc, hf⟩ := aft hb) | (go_at_call 53; refine (inside_any _ _ _ _).mono ?_; rintro e w' ⟨rfl, rfl⟩))
      refine bodyPost_ret (by simp (maxDischargeDepth := 3) [results, Try.results17, go_sem, *]; try rfl) rfl ?_
      exact ⟨.slice none 0 0, by rw [i1]; rfl, (by repeat (first | exact Below.refl _ _ | (with_reducible assumption) | refine bel_alloc ?_ _ | refine bel_drew ?_ | refine bel_drewN ?_ _ | refine Below.setCell ?_ (by dsimp only; omega) _ | refine bel_trans (by assumption) ?_)), by rw [i1]; exact Own.nil _ _⟩
theorem toMany_any (k : Int) (w : World) : Calls Try.prog 50 #[.int .i64 k] w (fun e w' => e = .returned (.bool (inB k 1 8)) ∧ w = w') := by
  go_enter Try.func50, Try.ntmps50
  go_wp2_with (go_at_call 78; refine (l1In_any _ _ _ _).mono ?_; rintro e w' ⟨rfl, rfl⟩)
  go_ret
  exact ⟨rfl, rfl⟩
theorem sGoodPrimesOf_any (a b k : Int) (w : World) (_hk : I64 k) :
    Calls Try.prog 15 #[.agg #[.int .i64 a, .int .i64 b], .int .i64 k] w (RetSlB (bif gpB a b k then goodK a b k.toNat else []) (gpB a b k) w) := by
  unfold gpB
  cases hcur : curveB a b
  · go_enter Try.func15, Try.ntmps15
    go_wp2_with (go_at_call 49; refine (ecGood_any _ _ _).mono ?_; rintro e w' ⟨rfl, hb⟩; (try replace hb := aft2 hb (by assumption)); obtain ⟨hc, hf⟩ := aft hb)
    refine bodyPost_ret (by simp (maxDischargeDepth := 3) [results, Try.results15, go_sem, *]; try rfl) rfl ?_
    exact ⟨.slice none 0 0, rfl, (by repeat (first | exact Below.refl _ _ | (with_reducible assumption) | refine bel_alloc ?_ _ | refine bel_drew ?_ | refine bel_drewN ?_ _ | refine Below.setCell ?_ (by dsimp only; omega) _ | refine bel_trans (by assumption) ?_)), Own.nil _ _⟩
  · by_cases h : 1 ≤ k ∧ k ≤ 8
    · have i1 := inB_true.2 h
      obtain ⟨n, rfl⟩ : ∃ n : Nat, k = n := ⟨k.toNat, by omega⟩
      go_enter Try.func15, Try.ntmps15
      go_wp2_with (first | (go_at_call 49; refine (ecGood_any _ _ _).mono ?_; rintro e w' ⟨rfl, hb⟩; (try replace hb := aft2 hb (by assumption)); obtain ⟨hc, hf⟩ := aft hb) | (go_at_call 50; refine (toMany_any _ _).mono ?_; rintro e w' ⟨rfl, rfl⟩))
      refine (toPrimes_any a b n _ hcur (by omega) (by omega)).mono ?_; rintro e w2 ⟨v, rfl, hb2, ho2⟩
      go_wp2_with fail
      refine bodyPost_ret (by simp (maxDischargeDepth := 3) [results, Try.results15, go_sem, *]; try rfl) rfl ?_
      exact ⟨v, by rw [i1]; rfl, (by repeat (first | exact Below.refl _ _ | (with_reducible assumption) | refine bel_alloc ?_ _ | refine bel_drew ?_ | refine bel_drewN ?_ _ | refine Below.setCell ?_ (by dsimp only; omega) _ | refine bel_trans (by assumption) ?_)), by simp only [i1, Bool.and_self, cond_true, Int.toNat_natCast]; exact ho2.le (by have := hb.size; simp at this; omega)⟩
    · have i1 := inB_false.2 h
      go_enter Try.func15, Try.ntmps15
      go_wp2_with (first | (go_at_call 49; refine (ecGood_any _ _ _).mono ?_; rintro e w' ⟨rfl, hb⟩; (try replace hb := aft2 hb (by assumption)); obtain ⟨hc, hf⟩ := aft hb) | (go_at_call 50; refine (toMany_any _ _).mono ?_; rintro e w' ⟨rfl, rfl⟩))
      refine bodyPost_ret (by simp (maxDischargeDepth := 3) [results, Try.results15, go_sem, *]; try rfl) rfl ?_
      exact ⟨.slice none 0 0, by rw [i1]; rfl, (by repeat (first | exact Below.refl _ _ | (with_reducible assumption) | refine bel_alloc ?_ _ | refine bel_drew ?_ | refine bel_drewN ?_ _ | refine Below.setCell ?_ (by dsimp only; omega) _ | refine bel_trans (by assumption) ?_)), by rw [i1]; exact Own.nil _ _⟩
end Go.Proofs.Ytagancjdajdafaa
