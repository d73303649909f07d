/- Zd: contracts: powers of wholes, both sides; wholes of numbers. No conditions. -/
import Derived.Test.YtakilincclnpdaaGreatDoorZby
namespace Go.Proofs.YtakilincclnpdaaGreatDoor
open Go.RowKit

/-- all powers up to a number have their limbs. -/
def powOk (z : Int) : Nat → Bool
  | 0 => true
  | k + 1 => powOk z k && len4 (z ^ (k + 1))
theorem powOk_mono {z : Int} {j k : Nat} (h : powOk z j = false) (hk : j ≤ k) : powOk z k = false := by
  induction k with
  | zero => obtain rfl : j = 0 := by omega
            exact h
  | succ k ih =>
    by_cases e : j = k + 1
    · rw [← e]; exact h
    · show (powOk z k && _) = false
      rw [ih (by omega)]; rfl
theorem powOk_len {z : Int} : ∀ {k : Nat}, powOk z k = true → (digs (z ^ k).natAbs).length ≤ 400
  | 0, _ => by
    rw [Int.pow_zero]
    have h : (digs (1 : Int).natAbs).length ≤ 1 := digs_lt (by decide)
    omega
  | k + 1, h => by
    have h2 : (powOk z k && len4 (z ^ (k + 1))) = true := h
    rw [Bool.and_eq_true] at h2
    have h3 := h2.2
    unfold len4 at h3
    exact of_decide_eq_true h3
theorem powOk_next {z : Int} {k : Nat} (h : powOk z k = true) : powOk z (k + 1) = len4 (z ^ k * z) := by
  show (powOk z k && len4 (z ^ (k + 1))) = _
  rw [h, Int.pow_succ]; rfl
theorem Bx.far {w : World} {n m : Nat} {u0 u1 : Value} (h : Bx w n u0 u1) (_hne : n ≠ m) (o : Nat) (v : Value) : Bx (w.setCell ⟨m, o, none⟩ v) n u0 u1 := by
  obtain ⟨h1, h3, h4, h5, h6⟩ := h
  exact ⟨by simpa using h1, by simp [go_sem, h3], by simp [go_sem, h4], by simp [go_sem, h5], by simp [go_sem, h6]⟩
theorem WO.put {w : World} {B r : Nat} {v : Value} {z : Int} (h : WO w B v z) (hr : r < B) (u u' : Value) : WO ((w.setCell ⟨r, 0, none⟩ u).setCell ⟨r, 1, none⟩ u') B v z := (h.setFar hr 0 u).setFar hr 1 u'
theorem WV.put {w : World} {n : Nat} {u0 u1 : Value} {v : Value} {z : Int} {b : Bool} {ad : Option Addr} {l c : Nat} (h : WV w v z) (hx : Bx w n (.bool b) (.slice ad l c)) : WV ((w.setCell ⟨n, 0, none⟩ u0).setCell ⟨n, 1, none⟩ u1) v z := wv_set2 h hx.2.1 hx.2.2.1 u0 u1
theorem l1In_k {n lo hi : Int} {r : Bool} (h : inB n lo hi = r) (w : World) : Calls Tryz.prog 68 #[.int .i64 n, .int .i64 lo, .int .i64 hi] w (fun e w' => e = .returned (.bool r) ∧ w = w') := by
  subst h
  exact l1In_any _ _ _ _
set_option maxHeartbeats 8000000 in
theorem powerOfWhole_any (v : Value) (z : Int) (k : Nat) (w : World) (hv : WV w v z) (hl : (digs z.natAbs).length ≤ 400) (hk : k ≤ 64) :
    Calls Tryz.prog 67 #[v, .int .i64 (k : Int)] w (RetOk (powOk z k) (z ^ k) w) := by
  have hmul := fun (j : Nat) (u : Value) (w' : World) (hj : powOk z j = true) (hu : WV w' u (z ^ j)) (hw : WV w' v z) => mulWholes_any u v (z ^ j) z w' hu hw (by have := powOk_len hj; omega) (by omega)
  have hone := fun w => wholeOf_any 1 w (by omega) (by omega)
  have HVW := Lib.hid hv
  obtain ⟨ad, cap, rfl, _, _⟩ := hv
  have HMUL := Lib.hid hmul; have HONE := Lib.hid hone; clear hmul hone
  generalize decide (z < 0) = bz at *
  generalize (digs z.natAbs).length = lz at *
  go_enter Tryz.func67, Tryz.ntmps67
  go_wp2_with fail
  have g0 := Bx.new (.bool bz) (.slice ad lz cap) w 26
  have g1 := g0.keep (below_allocC _ (.cells #[.bool false, .slice none 0 0] 26))
  have g2 := Bx.new (.bool false) (.slice none 0 0) (w.alloc (.cells #[.bool bz, .slice ad lz cap] 26)) 26
  rw [show (w.alloc (.cells #[.bool bz, .slice ad lz cap] 26)).heap.size = w.heap.size + 1 by simp] at g2
  have hb0 : Below w.heap.size w ((w.alloc (.cells #[.bool bz, .slice ad lz cap] 26)).alloc (.cells #[.bool false, .slice none 0 0] 26)) := bel_alloc (below_allocC _ _) _
  have hs0 : w.heap.size + 2 ≤ ((w.alloc (.cells #[.bool bz, .slice ad lz cap] 26)).alloc (.cells #[.bool false, .slice none 0 0] 26)).heap.size := by simp
  generalize (w.alloc (.cells #[.bool bz, .slice ad lz cap] 26)).alloc (.cells #[.bool false, .slice none 0 0] 26) = W0 at g1 g2 hb0 hs0 ⊢
  clear g0
  refine (HONE.out _).mono ?_; rintro e w1 ⟨v1, rfl, hb1, ho1⟩
  replace g1 := g1.keep hb1; replace g2 := g2.keep hb1
  have hB1 := bel_trans hb1 hb0
  have ho1' := ho1.le hs0
  have hb6 : w.heap.size + 2 ≤ w1.heap.size := Nat.le_trans hs0 hb1.size
  clear hb1 ho1 hb0 hs0
  obtain ⟨n1, ad1, l1, cap1, rfl⟩ : ∃ n1 ad1 l1 cap1, v1 = .agg #[.bool n1, .slice ad1 l1 cap1] := by obtain ⟨ad1, cap1, hv1, _⟩ := ho1'; exact ⟨_, _, _, _, hv1⟩
  go_wp2_with fail
  have g3 := Bx.new (.bool n1) (.slice ad1 l1 cap1) w1 26
  replace g1 := g1.keep (below_allocC _ (.cells #[.bool n1, .slice ad1 l1 cap1] 26))
  replace g2 := g2.keep (below_allocC _ (.cells #[.bool n1, .slice ad1 l1 cap1] 26))
  replace ho1' := ho1'.keep (below_allocC _ (.cells #[.bool n1, .slice ad1 l1 cap1] 26))
  replace hB1 := bel_alloc hB1 (.cells #[.bool n1, .slice ad1 l1 cap1] 26)
  generalize w1.alloc (.cells #[.bool n1, .slice ad1 l1 cap1] 26) = w2 at g1 g2 g3 ho1' hB1 ⊢
  generalize w1.heap.size = b6 at g3 hb6 ⊢
  obtain ⟨b2, hb2⟩ : ∃ b2, w.heap.size = b2 := ⟨_, rfl⟩
  have hwv2 := HVW.out.keep (by rw [hb2] at hB1 ⊢; exact hB1)
  rw [hb2] at g1 g2 ho1' hB1 hb6 ⊢
  have HB2 := Lib.hid hb2; clear hb2
  go_loopw [9] (fun i wr => ∃ (j : Nat) (nj : Bool) (aj : Option Addr) (lj cj : Nat), i = .int .i64 (j : Int) ∧ j ≤ k ∧ Hid (powOk z j = true) ∧ Bx wr b2 (.bool bz) (.slice ad lz cap) ∧ Bx wr (b2 + 1) (.bool false) (.slice none 0 0) ∧ Bx wr b6 (.bool nj) (.slice aj lj cj) ∧ WO wr (b2 + 2) (.agg #[.bool nj, .slice aj lj cj]) (z ^ j) ∧ WV wr (.agg #[.bool bz, .slice ad lz cap]) z ∧ Below b2 w wr) (fun i _ => k - (intOf i).toNat)
  case atStart => exact ⟨0, n1, ad1, l1, cap1, rfl, Nat.zero_le _, rfl, g1, g2, g3, by rw [Int.pow_zero]; exact ho1', hwv2, hB1⟩
  case round =>
    obtain ⟨j, nj, aj, lj, cj, rfl, hj, HJ, g1, g2, g3, hoj, hwv, hbel⟩ := hrel
    by_cases hjk : j < k
    · have hmul := HMUL.out j _ wr HJ.out hoj.wv hwv
      have hnx := powOk_next HJ.out
      have hw1 : IntKind.i64.wrap ((j : Int) + 1) = ((j + 1 : Nat) : Int) := by rw [wrapi (by omega) (by omega)]; omega
      have hpw : z ^ (j + 1) = z ^ j * z := Int.pow_succ _ _
      obtain ⟨Q, hQ⟩ : ∃ Q, z ^ j * z = Q := ⟨_, rfl⟩
      rw [hQ] at hmul hnx hpw
      have HMU := Lib.hid hmul; have HNX := Lib.hid hnx; have HPW := Lib.hid hpw
      clear hmul hnx hpw hQ hoj
      have G1 := Lib.hid g1; have G2 := Lib.hid g2; have G3 := Lib.hid g3; have HWV := Lib.hid hwv; have HB := Lib.hid hbel
      obtain ⟨x0, x1, x2, x3, x4⟩ := g1
      obtain ⟨y0, y1, y2, y3, y4⟩ := g3
      clear g2 hwv hbel
      go_wp2_with fail
      refine HMU.out.mono ?_; rintro e w3 ⟨v3, rfl, hb3, ho3⟩
      have ho3' := ho3.le (show b6 + 1 ≤ wr.heap.size from y0)
      have k1 := G1.out.keep hb3; have k2 := G2.out.keep hb3; have k3 := G3.out.keep hb3; have kw := HWV.out.keep hb3
      have kB := (HB.out).trans (hb3.mono (Nat.le_trans (show b2 ≤ b6 by omega) (Nat.le_of_lt y0)))
      clear x0 x1 x2 x3 x4 y0 y1 y2 y3 y4 G1 G2 G3 HWV HB HMU hb3 ho3
      obtain ⟨n3, a3, l3, c3, rfl, hl3⟩ : ∃ n3 a3 l3 c3, v3 = .agg #[.bool n3, .slice a3 l3 c3] ∧ (digs Q.natAbs).length = l3 := by obtain ⟨a3, c3, hv3, _⟩ := ho3'; exact ⟨_, _, _, _, hv3, rfl⟩
      have q1 := (k1.far (m := b6) (by omega) 0 (.bool n3)).far (m := b6) (by omega) 1 (.slice a3 l3 c3)
      have q2 := (k2.far (m := b6) (by omega) 0 (.bool n3)).far (m := b6) (by omega) 1 (.slice a3 l3 c3)
      have q3 := k3.put (.bool n3) (.slice a3 l3 c3)
      have qo := ((ho3'.put (Nat.lt_succ_self b6) (.bool n3) (.slice a3 l3 c3))).le (show b2 + 2 ≤ b6 + 1 by omega)
      have qw := kw.put (u0 := .bool n3) (u1 := .slice a3 l3 c3) k3
      have qB := (kB.setCell (p := ⟨b6, 0, none⟩) (by dsimp only; omega) (.bool n3)).setCell (p := ⟨b6, 1, none⟩) (by dsimp only; omega) (.slice a3 l3 c3)
      obtain ⟨y0, y1, y2, y3, y4⟩ := k3
      have hlq : len4 Q = decide (l3 ≤ 400) := by unfold len4; rw [hl3]
      have HLQ := Lib.hid hlq; clear hlq hl3
      by_cases h4 : (400 : Int) < (l3 : Int)
      · have hbad := powOk_mono (k := k) (HNX.out.trans (HLQ.out.trans (decide_eq_false (by omega)))) (by omega)
        have HBAD := Lib.hid hbad
        clear q1 qo qw ho3' k1 k2 kw kB
        have QB := Lib.hid qB; clear qB hbad
        have hsz : b2 + 1 < ((w3.setCell ⟨b6, 0, none⟩ (.bool n3)).setCell ⟨b6, 1, none⟩ (.slice a3 l3 c3)).heap.size := q2.1
        obtain ⟨z0, z1, z2, z3, z4⟩ := q2
        go_upto_region 6 with fail
        generalize (w3.setCell ⟨b6, 0, none⟩ (.bool n3)).setCell ⟨b6, 1, none⟩ (.slice a3 l3 c3) = w4 at z0 z1 z2 z3 z4 QB q3 ⊢
        clear y0 y1 y2 y3 y4 q3 hsz
        go_wp2_with fail
        refine bodyPost_ret (by simp (maxDischargeDepth := 3) [results, Tryz.results67, go_sem, *]; try rfl) rfl ?_
        have hbx := HB2.out
        have hbad := HBAD.out
        rw [hbad]
        exact ⟨_, rfl, by rw [hbx]; exact (QB.out.setCell (p := ⟨b2 + 1, 0, none⟩) (by dsimp only; omega) _).setCell (p := ⟨b2 + 1, 1, none⟩) (by dsimp only; omega) _, (zero_wo _ 0).wv⟩
      · have hgood : powOk z (j + 1) = true := HNX.out.trans (HLQ.out.trans (decide_eq_true (by omega)))
        have HG := Lib.hid hgood; clear hgood ho3' k1 k2 kw kB
        rw [← HPW.out] at qo
        have Q1 := Lib.hid q1; have Q2 := Lib.hid q2; have Q3 := Lib.hid q3; have QO := Lib.hid qo; have QW := Lib.hid qw; have QB := Lib.hid qB
        clear q1 q2 q3 qo qw qB
        go_wp2_with fail
        go_roundw
        case rel => exact ⟨j + 1, n3, a3, l3, c3, by first | rfl | go_num, by omega, HG.out, Q1.out, Q2.out, Q3.out, QO.out, QW.out, QB.out⟩
        case measure => first | (simp [intOf]; done) | (simp [intOf]; omega)
    · obtain rfl : j = k := by omega
      have hoj2 := hoj
      have HO := Lib.hid hoj; have HB := Lib.hid hbel
      obtain ⟨y0, y1, y2, y3, y4⟩ := g3
      obtain ⟨z0, z1, z2, z3, z4⟩ := g2
      clear g1 hwv hoj hoj2 hbel
      go_wp2_with fail
      refine bodyPost_ret (by simp (maxDischargeDepth := 3) [results, Tryz.results67, go_sem, *]; try rfl) rfl ?_
      have hbx := HB2.out
      have hjj := HJ.out
      rw [hjj]
      exact ⟨_, rfl, by rw [hbx]; exact (HB.out.setCell (p := ⟨b2 + 1, 0, none⟩) (by dsimp only; omega) _).setCell (p := ⟨b2 + 1, 1, none⟩) (by dsimp only; omega) _, by rw [if_pos rfl]; exact ((HO.out.setFar (show b2 + 1 < b2 + 2 by omega) _ _).setFar (show b2 + 1 < b2 + 2 by omega) _ _).wv⟩
set_option maxHeartbeats 8000000 in
theorem sPow_any (v : Value) (z : Int) (k : Nat) (w : World) (hv : WV w v z) (hl : (digs z.natAbs).length ≤ 400) (hk : k ≤ 64) :
    Calls Tryz.prog 21 #[v, .int .i64 (k : Int)] w (RetOk (powOk z k) (z ^ k) w) := by
  have hmul := fun (j : Nat) (u : Value) (w' : World) (hj : powOk z j = true) (hu : WV w' u (z ^ j)) (hw : WV w' v z) => bgMul_any u v (z ^ j) z w' hu hw (by have := powOk_len hj; omega) (by omega)
  have hone := fun w => bgOf_any 1 w (by omega) (by omega)
  have hgd := fun w' (hb : Below w.heap.size w w') => bgGood_any v (decide (z < 0)) (digs z.natAbs) w' (hv.keep hb).rw (by omega)
  rw [good_of hl] at hgd
  have hin : inB (k : Int) 0 64 = true := inB_true.2 ⟨by omega, by omega⟩
  have hpl := fun (j : Nat) (hj : powOk z j = true) => digs_mul_len (z ^ j).natAbs z.natAbs
  have hq1000 := fun (j : Nat) (hj : powOk z j = true) => (show (digs (z ^ j * z).natAbs).length ≤ 1000 by
    have h1 := digs_mul_len (z ^ j).natAbs z.natAbs
    have h2 := powOk_len hj
    rw [Int.natAbs_mul]; omega)
  have HQ1 := Lib.hid hq1000; clear hpl hq1000
  have HVW := Lib.hid hv
  obtain ⟨ad, cap, rfl, _, _⟩ := hv
  have HMUL := Lib.hid hmul; have HONE := Lib.hid hone; have HGDA := Lib.hid hgd; clear hmul hone hgd
  generalize decide (z < 0) = bz at *
  generalize (digs z.natAbs).length = lz at *
  go_enter Tryz.func21, Tryz.ntmps21
  go_wp2_with fail
  refine (HGDA.out _ (by repeat (first | exact Below.refl _ _ | (with_reducible assumption) | refine bel_alloc ?_ _ | refine bel_drew ?_ | refine bel_drewN ?_ _ | refine Below.setCell ?_ (by dsimp only; omega) _ | refine bel_trans (by assumption) ?_))).mono ?_; rintro e wa ⟨rfl, hba⟩
  have g0 := Bx.new (.bool bz) (.slice ad lz cap) w 26
  have g1 := (g0.keep (below_allocC _ (.cells #[.bool false, .slice none 0 0] 26))).keep hba
  have g2 := Bx.new (.bool false) (.slice none 0 0) (w.alloc (.cells #[.bool bz, .slice ad lz cap] 26)) 26
  rw [show (w.alloc (.cells #[.bool bz, .slice ad lz cap] 26)).heap.size = w.heap.size + 1 by simp] at g2
  replace g2 := g2.keep hba
  have hb0 : Below w.heap.size w wa := bel_trans hba (bel_alloc (below_allocC _ _) _)
  have hs0 : w.heap.size + 2 ≤ wa.heap.size := g2.1
  clear g0 hba
  go_wp2_with fail
  refine (l1In_k hin _).mono ?_; rintro e w' ⟨rfl, rfl⟩
  go_wp2_with fail
  refine (HONE.out _).mono ?_; rintro e w1 ⟨v1, rfl, hb1, ho1⟩
  replace g1 := g1.keep hb1; replace g2 := g2.keep hb1
  have hB1 := bel_trans hb1 hb0
  have ho1' := ho1.le hs0
  have hb6 : w.heap.size + 2 ≤ w1.heap.size := Nat.le_trans hs0 hb1.size
  clear hb1 ho1 hb0 hs0
  obtain ⟨n1, ad1, l1, cap1, rfl⟩ : ∃ n1 ad1 l1 cap1, v1 = .agg #[.bool n1, .slice ad1 l1 cap1] := by obtain ⟨ad1, cap1, hv1, _⟩ := ho1'; exact ⟨_, _, _, _, hv1⟩
  go_wp2_with fail
  have g3 := Bx.new (.bool n1) (.slice ad1 l1 cap1) w1 26
  replace g1 := g1.keep (below_allocC _ (.cells #[.bool n1, .slice ad1 l1 cap1] 26))
  replace g2 := g2.keep (below_allocC _ (.cells #[.bool n1, .slice ad1 l1 cap1] 26))
  replace ho1' := ho1'.keep (below_allocC _ (.cells #[.bool n1, .slice ad1 l1 cap1] 26))
  replace hB1 := bel_alloc hB1 (.cells #[.bool n1, .slice ad1 l1 cap1] 26)
  generalize w1.alloc (.cells #[.bool n1, .slice ad1 l1 cap1] 26) = w2 at g1 g2 g3 ho1' hB1 ⊢
  generalize w1.heap.size = b6 at g3 hb6 ⊢
  obtain ⟨b2, hb2⟩ : ∃ b2, w.heap.size = b2 := ⟨_, rfl⟩
  have hwv2 := HVW.out.keep (by rw [hb2] at hB1 ⊢; exact hB1)
  rw [hb2] at g1 g2 ho1' hB1 hb6 ⊢
  have HB2 := Lib.hid hb2; clear hb2
  go_loopw [7] (fun i wr => ∃ (j : Nat) (nj : Bool) (aj : Option Addr) (lj cj : Nat), i = .int .i64 (j : Int) ∧ j ≤ k ∧ Hid (powOk z j = true) ∧ Bx wr b2 (.bool bz) (.slice ad lz cap) ∧ Bx wr (b2 + 1) (.bool false) (.slice none 0 0) ∧ Bx wr b6 (.bool nj) (.slice aj lj cj) ∧ WO wr (b2 + 2) (.agg #[.bool nj, .slice aj lj cj]) (z ^ j) ∧ WV wr (.agg #[.bool bz, .slice ad lz cap]) z ∧ Below b2 w wr) (fun i _ => k - (intOf i).toNat)
  case atStart => exact ⟨0, n1, ad1, l1, cap1, rfl, Nat.zero_le _, rfl, g1, g2, g3, by rw [Int.pow_zero]; exact ho1', hwv2, hB1⟩
  case round =>
    obtain ⟨j, nj, aj, lj, cj, rfl, hj, HJ, g1, g2, g3, hoj, hwv, hbel⟩ := hrel
    by_cases hjk : j < k
    · have hmul := HMUL.out j _ wr HJ.out hoj.wv hwv
      have hnx := powOk_next HJ.out
      have hw1 : IntKind.i64.wrap ((j : Int) + 1) = ((j + 1 : Nat) : Int) := by rw [wrapi (by omega) (by omega)]; omega
      have hpw : z ^ (j + 1) = z ^ j * z := Int.pow_succ _ _
      obtain ⟨Q, hQ⟩ : ∃ Q, z ^ j * z = Q := ⟨_, rfl⟩
      have hql := HQ1.out j HJ.out
      rw [hQ] at hmul hnx hpw hql
      have HQL := Lib.hid hql; clear hql
      have HMU := Lib.hid hmul; have HNX := Lib.hid hnx; have HPW := Lib.hid hpw
      clear hmul hnx hpw hQ hoj
      have G1 := Lib.hid g1; have G2 := Lib.hid g2; have G3 := Lib.hid g3; have HWV := Lib.hid hwv; have HB := Lib.hid hbel
      obtain ⟨x0, x1, x2, x3, x4⟩ := g1
      obtain ⟨y0, y1, y2, y3, y4⟩ := g3
      clear g2 hwv hbel
      go_wp2_with fail
      refine HMU.out.mono ?_; rintro e w3 ⟨v3, rfl, hb3, ho3⟩
      have ho3' := ho3.le (show b6 + 1 ≤ wr.heap.size from y0)
      have k1 := G1.out.keep hb3; have k2 := G2.out.keep hb3; have k3 := G3.out.keep hb3; have kw := HWV.out.keep hb3
      have kB := (HB.out).trans (hb3.mono (Nat.le_trans (show b2 ≤ b6 by omega) (Nat.le_of_lt y0)))
      clear x0 x1 x2 x3 x4 y0 y1 y2 y3 y4 G1 G2 G3 HWV HB HMU hb3 ho3
      obtain ⟨n3, a3, l3, c3, rfl, hl3⟩ : ∃ n3 a3 l3 c3, v3 = .agg #[.bool n3, .slice a3 l3 c3] ∧ (digs Q.natAbs).length = l3 := by obtain ⟨a3, c3, hv3, _⟩ := ho3'; exact ⟨_, _, _, _, hv3, rfl⟩
      have q1 := (k1.far (m := b6) (by omega) 0 (.bool n3)).far (m := b6) (by omega) 1 (.slice a3 l3 c3)
      have q2 := (k2.far (m := b6) (by omega) 0 (.bool n3)).far (m := b6) (by omega) 1 (.slice a3 l3 c3)
      have q3 := k3.put (.bool n3) (.slice a3 l3 c3)
      have qo := ((ho3'.put (Nat.lt_succ_self b6) (.bool n3) (.slice a3 l3 c3))).le (show b2 + 2 ≤ b6 + 1 by omega)
      have qw := kw.put (u0 := .bool n3) (u1 := .slice a3 l3 c3) k3
      have qB := (kB.setCell (p := ⟨b6, 0, none⟩) (by dsimp only; omega) (.bool n3)).setCell (p := ⟨b6, 1, none⟩) (by dsimp only; omega) (.slice a3 l3 c3)
      obtain ⟨y0, y1, y2, y3, y4⟩ := k3
      have hlq : len4 Q = decide (l3 ≤ 400) := by unfold len4; rw [hl3]
      have HLQ := Lib.hid hlq
      have hl4 : (digs Q.natAbs).length ≤ 1000 := HQL.out
      have HL3 := Lib.hid hl4; clear hlq hl3 hl4
      have hg := fun w' (h : WV w' (.agg #[.bool n3, .slice a3 l3 c3]) Q) => bgGood_any _ (decide (Q < 0)) (digs Q.natAbs) w' h.rw (by have := HL3.out; omega)
      rw [goodW_dig] at hg
      have e4 : decide ((digs Q.natAbs).length ≤ 400) = decide (l3 ≤ 400) := HLQ.out
      rw [e4] at hg
      have hgd := hg _ qo.wv
      have HGD := Lib.hid hgd; clear hg hgd e4 ho3' k1 k2 kw kB
      rw [← HPW.out] at qo
      have Q1 := Lib.hid q1; have Q2 := Lib.hid q2; have Q3 := Lib.hid q3; have QO := Lib.hid qo; have QW := Lib.hid qw; have QB := Lib.hid qB
      clear q1 q2 q3 qo qw qB
      go_upto_region 8 with fail
      obtain ⟨y0, y1, y2, y3, y4⟩ := Q3.out
      generalize (w3.setCell ⟨b6, 0, none⟩ (.bool n3)).setCell ⟨b6, 1, none⟩ (.slice a3 l3 c3) = w4 at *
      go_wp2_with fail
      refine HGD.out.mono ?_; rintro e w5 ⟨rfl, hb5⟩
      have q1 := Q1.out.keep hb5; have q2 := Q2.out.keep hb5; have q3 := Q3.out.keep hb5; have qo := QO.out.keep hb5; have qw := QW.out.keep hb5; have qB := (QB.out).trans (hb5.mono (Nat.le_trans (show b2 ≤ b6 by omega) (Nat.le_of_lt y0)))
      clear y0 y1 y2 y3 y4 Q1 Q2 Q3 QO QW QB HGD hb5
      by_cases h4 : l3 ≤ 400
      · have hgood : powOk z (j + 1) = true := HNX.out.trans (HLQ.out.trans (decide_eq_true h4))
        have HG := Lib.hid hgood; clear hgood
        rw [decide_eq_true h4]
        have Q1 := Lib.hid q1; have Q2 := Lib.hid q2; have Q3 := Lib.hid q3; have QO := Lib.hid qo; have QW := Lib.hid qw; have QB := Lib.hid qB
        clear q1 q2 q3 qo qw qB
        go_wp2_with fail
        go_roundw
        case rel => exact ⟨j + 1, n3, a3, l3, c3, by first | rfl | go_num, by omega, HG.out, Q1.out, Q2.out, Q3.out, QO.out, QW.out, QB.out⟩
        case measure => first | (simp [intOf]; done) | (simp [intOf]; omega)
      · have hbad := powOk_mono (k := k) (HNX.out.trans (HLQ.out.trans (decide_eq_false h4))) (by omega)
        have HBAD := Lib.hid hbad
        rw [decide_eq_false h4]
        have QB := Lib.hid qB; clear qB hbad q1 q3 qo qw
        obtain ⟨z0, z1, z2, z3, z4⟩ := q2
        go_wp2_with fail
        refine bodyPost_ret (by simp (maxDischargeDepth := 3) [results, Tryz.results21, go_sem, *]; try rfl) rfl ?_
        have hbx := HB2.out
        have hbad := HBAD.out
        rw [hbad]
        exact ⟨_, rfl, by rw [hbx]; exact (QB.out.setCell (p := ⟨b2 + 1, 0, none⟩) (by dsimp only; omega) _).setCell (p := ⟨b2 + 1, 1, none⟩) (by dsimp only; omega) _, (zero_wo _ 0).wv⟩
    · obtain rfl : j = k := by omega
      have hoj2 := hoj
      have HO := Lib.hid hoj; have HB := Lib.hid hbel
      obtain ⟨y0, y1, y2, y3, y4⟩ := g3
      obtain ⟨z0, z1, z2, z3, z4⟩ := g2
      clear g1 hwv hoj hoj2 hbel
      go_wp2_with fail
      refine bodyPost_ret (by simp (maxDischargeDepth := 3) [results, Tryz.results21, go_sem, *]; try rfl) rfl ?_
      have hbx := HB2.out
      have hjj := HJ.out
      rw [hjj]
      exact ⟨_, rfl, by rw [hbx]; exact (HB.out.setCell (p := ⟨b2 + 1, 0, none⟩) (by dsimp only; omega) _).setCell (p := ⟨b2 + 1, 1, none⟩) (by dsimp only; omega) _, by rw [if_pos rfl]; exact ((HO.out.setFar (show b2 + 1 < b2 + 2 by omega) _ _).setFar (show b2 + 1 < b2 + 2 by omega) _ _).wv⟩
set_option maxHeartbeats 4000000 in
theorem iPowerOfWhole_any (v : Value) (n : Bool) (xs : List Int) (k : Int) (w : World) (hv : RW w v n xs) (hl : xs.length ≤ 1000) :
    Calls Tryz.prog 20 #[v, .int .i64 k] w (RetOk (goodW n xs && inB k 0 64 && powOk (valW n xs) k.toNat) (valW n xs ^ k.toNat) w) := by
  have hg := fun w' (hb : Below w.heap.size w w') => isWhole_any v n xs w' (hv.keep hb) (by omega)
  have hpw := fun (h : goodW n xs = true) (hk0 : 0 ≤ k) (hk1 : k ≤ 64) w' (hb : Below w.heap.size w w') => powerOfWhole_any v (valW n xs) k.toNat w' ((hv.wv h).keep hb) (good_val h).2.2 (by omega)
  generalize powOk (valW n xs) k.toNat = ok at *
  generalize valW n xs ^ k.toNat = S at *
  generalize goodW n xs = g at *
  obtain ⟨ad, cap, rfl, _, _⟩ := hv
  generalize xs.length = la at *
  have HG := Lib.hid hg; have HP := Lib.hid hpw; clear hg hpw
  cases g
  · go_enter Tryz.func20, Tryz.ntmps20
    go_wp2_with fail
    refine (HG.out _ (by repeat (first | exact Below.refl _ _ | (with_reducible assumption) | refine bel_alloc ?_ _ | refine bel_drew ?_ | refine bel_drewN ?_ _ | refine Below.setCell ?_ (by dsimp only; omega) _ | refine bel_trans (by assumption) ?_))).mono ?_; rintro e w1 ⟨rfl, hb1⟩
    obtain ⟨hc1, hf1⟩ := aft hb1
    go_wp2_with fail
    refine bodyPost_ret (by simp (maxDischargeDepth := 3) [results, Tryz.results20, go_sem, *]; try rfl) rfl ?_
    exact ⟨_, rfl, (by repeat (first | exact Below.refl _ _ | (with_reducible assumption) | refine bel_alloc ?_ _ | refine bel_drew ?_ | refine bel_drewN ?_ _ | refine Below.setCell ?_ (by dsimp only; omega) _ | refine bel_trans (by assumption) ?_)), (zero_wo _ 0).wv⟩
  cases hin : inB k 0 64
  · go_enter Tryz.func20, Tryz.ntmps20
    go_wp2_with fail
    refine (HG.out _ (by repeat (first | exact Below.refl _ _ | (with_reducible assumption) | refine bel_alloc ?_ _ | refine bel_drew ?_ | refine bel_drewN ?_ _ | refine Below.setCell ?_ (by dsimp only; omega) _ | refine bel_trans (by assumption) ?_))).mono ?_; rintro e w1 ⟨rfl, hb1⟩
    obtain ⟨hc1, hf1⟩ := aft hb1
    go_wp2_with (go_at_call 66; refine (inside_any _ _ _ _).mono ?_; rintro e w' ⟨rfl, rfl⟩)
    refine bodyPost_ret (by simp (maxDischargeDepth := 3) [results, Tryz.results20, go_sem, *]; try rfl) rfl ?_
    exact ⟨_, rfl, (by repeat (first | exact Below.refl _ _ | (with_reducible assumption) | refine bel_alloc ?_ _ | refine bel_drew ?_ | refine bel_drewN ?_ _ | refine Below.setCell ?_ (by dsimp only; omega) _ | refine bel_trans (by assumption) ?_)), (zero_wo _ 0).wv⟩
  obtain ⟨k0, k1⟩ := inB_true.1 hin
  have hpp := HP.out rfl k0 k1
  rw [Int.toNat_of_nonneg k0] at hpp
  have HPP := Lib.hid hpp; clear hpp HP
  go_enter Tryz.func20, Tryz.ntmps20
  go_wp2_with fail
  refine (HG.out _ (by repeat (first | exact Below.refl _ _ | (with_reducible assumption) | refine bel_alloc ?_ _ | refine bel_drew ?_ | refine bel_drewN ?_ _ | refine Below.setCell ?_ (by dsimp only; omega) _ | refine bel_trans (by assumption) ?_))).mono ?_; rintro e w1 ⟨rfl, hb1⟩
  obtain ⟨hc1, hf1⟩ := aft hb1
  go_wp2_with (go_at_call 66; refine (inside_any _ _ _ _).mono ?_; rintro e w' ⟨rfl, rfl⟩)
  refine (HPP.out _ (by repeat (first | exact Below.refl _ _ | (with_reducible assumption) | refine bel_alloc ?_ _ | refine bel_drew ?_ | refine bel_drewN ?_ _ | refine Below.setCell ?_ (by dsimp only; omega) _ | refine bel_trans (by assumption) ?_))).mono ?_; rintro e w2 ⟨v2, rfl, hb2, ho⟩
  have hz1 := hb1.size
  replace hb2 := aft2 hb2 hb1; clear hb1 hc1 hf1
  obtain ⟨n2, a2, l2, c2, rfl⟩ : ∃ n2 a2 l2 c2, v2 = .agg #[.bool n2, .slice a2 l2 c2] := by obtain ⟨a2, c2, hv2, _⟩ := ho; exact ⟨_, _, _, _, hv2⟩
  have HV := Lib.hid ho; clear ho
  obtain ⟨hc2, hf2, hs1, hs2, hs3, hs4⟩ := aftz hb2
  simp at hz1
  have r0 : w2.cell? ⟨w.heap.size + 1, 0, none⟩ = some (.bool false) := (hb2.cell (p := ⟨w.heap.size + 1, 0, none⟩) (by simp)).trans (by simp [go_sem])
  have r1 : w2.cell? ⟨w.heap.size + 1, 1, none⟩ = some (.slice none 0 0) := (hb2.cell (p := ⟨w.heap.size + 1, 1, none⟩) (by simp)).trans (by simp [go_sem])
  have HR := Lib.hid (And.intro r0 r1)
  go_wp2_with fail
  refine bodyPost_ret (by simp (maxDischargeDepth := 3) [results, Tryz.results20, go_sem, *]; try rfl) rfl ?_
  exact ⟨_, rfl, (by repeat (first | exact Below.refl _ _ | (with_reducible assumption) | refine bel_alloc ?_ _ | refine bel_drew ?_ | refine bel_drewN ?_ _ | refine Below.setCell ?_ (by dsimp only; omega) _ | refine bel_trans (by assumption) ?_)), wv_set2 HV.out HR.out.1 HR.out.2 _ _⟩
set_option maxHeartbeats 4000000 in
theorem sPowerOfWhole_any (v : Value) (n : Bool) (xs : List Int) (k : Int) (w : World) (hv : RW w v n xs) (hl : xs.length ≤ 1000) :
    Calls Tryz.prog 21 #[v, .int .i64 k] w (RetOk (goodW n xs && inB k 0 64 && powOk (valW n xs) k.toNat) (valW n xs ^ k.toNat) w) := by
  have hg := fun w' (hb : Below w.heap.size w w') => bgGood_any v n xs w' (hv.keep hb) (by omega)
  have hpw := fun (h : goodW n xs = true) (hk0 : 0 ≤ k) (hk1 : k ≤ 64) => sPow_any v (valW n xs) k.toNat w (hv.wv h) (good_val h).2.2 (by omega)
  generalize powOk (valW n xs) k.toNat = ok at *
  generalize valW n xs ^ k.toNat = S at *
  generalize goodW n xs = g at *
  cases g
  · obtain ⟨ad, cap, rfl, _, _⟩ := hv
    generalize xs.length = la at *
    have HG := Lib.hid hg; clear hg hpw
    go_enter Tryz.func21, Tryz.ntmps21
    go_wp2_with fail
    refine (HG.out _ (by repeat (first | exact Below.refl _ _ | (with_reducible assumption) | refine bel_alloc ?_ _ | refine bel_drew ?_ | refine bel_drewN ?_ _ | refine Below.setCell ?_ (by dsimp only; omega) _ | refine bel_trans (by assumption) ?_))).mono ?_; rintro e w1 ⟨rfl, hb1⟩
    obtain ⟨hc1, hf1⟩ := aft hb1
    go_wp2_with fail
    refine bodyPost_ret (by simp (maxDischargeDepth := 3) [results, Tryz.results21, go_sem, *]; try rfl) rfl ?_
    exact ⟨_, rfl, (by repeat (first | exact Below.refl _ _ | (with_reducible assumption) | refine bel_alloc ?_ _ | refine bel_drew ?_ | refine bel_drewN ?_ _ | refine Below.setCell ?_ (by dsimp only; omega) _ | refine bel_trans (by assumption) ?_)), (zero_wo _ 0).wv⟩
  cases hin : inB k 0 64
  · obtain ⟨ad, cap, rfl, _, _⟩ := hv
    generalize xs.length = la at *
    have HG := Lib.hid hg; clear hg hpw
    have HIN := Lib.hid (fun w => l1In_k hin w); clear hin
    go_enter Tryz.func21, Tryz.ntmps21
    go_wp2_with fail
    refine (HG.out _ (by repeat (first | exact Below.refl _ _ | (with_reducible assumption) | refine bel_alloc ?_ _ | refine bel_drew ?_ | refine bel_drewN ?_ _ | refine Below.setCell ?_ (by dsimp only; omega) _ | refine bel_trans (by assumption) ?_))).mono ?_; rintro e w1 ⟨rfl, hb1⟩
    obtain ⟨hc1, hf1⟩ := aft hb1
    go_wp2_with fail
    refine (HIN.out _).mono ?_; rintro e w' ⟨rfl, rfl⟩
    go_wp2_with fail
    refine bodyPost_ret (by simp (maxDischargeDepth := 3) [results, Tryz.results21, go_sem, *]; try rfl) rfl ?_
    exact ⟨_, rfl, (by repeat (first | exact Below.refl _ _ | (with_reducible assumption) | refine bel_alloc ?_ _ | refine bel_drew ?_ | refine bel_drewN ?_ _ | refine Below.setCell ?_ (by dsimp only; omega) _ | refine bel_trans (by assumption) ?_)), (zero_wo _ 0).wv⟩
  obtain ⟨k0, k1⟩ := inB_true.1 hin
  have := hpw rfl k0 k1
  rw [Int.toNat_of_nonneg k0] at this
  simpa using this
set_option maxHeartbeats 2000000 in
theorem iWholeOf_any (k : Int) (w : World) :
    Calls Tryz.prog 30 #[.int .i64 k] w (RetOk (inB k (-1000000000000000) 1000000000000000) k w) := by
  cases hin : inB k (-1000000000000000) 1000000000000000
  · go_enter Tryz.func30, Tryz.ntmps30
    go_wp2_with (go_at_call 66; refine (inside_any _ _ _ _).mono ?_; rintro e w' ⟨rfl, rfl⟩)
    refine bodyPost_ret (by simp (maxDischargeDepth := 3) [results, Tryz.results30, go_sem, *]; try rfl) rfl ?_
    exact ⟨_, rfl, (by repeat (first | exact Below.refl _ _ | (with_reducible assumption) | refine bel_alloc ?_ _ | refine bel_drew ?_ | refine bel_drewN ?_ _ | refine Below.setCell ?_ (by dsimp only; omega) _ | refine bel_trans (by assumption) ?_)), (zero_wo _ 0).wv⟩
  · obtain ⟨k0, k1⟩ := inB_true.1 hin
    have hof := fun w => wholeOf_any k w (by omega) (by omega)
    have HOF := Lib.hid hof; clear hof
    go_enter Tryz.func30, Tryz.ntmps30
    go_wp2_with (go_at_call 66; refine (inside_any _ _ _ _).mono ?_; rintro e w' ⟨rfl, rfl⟩)
    refine (HOF.out _).mono ?_; rintro e w1 ⟨v, rfl, hb1, ho⟩
    have HV := Lib.hid ho
    obtain ⟨ad1, cap1, hv, _⟩ := ho
    generalize decide (k < 0) = b1 at hv
    generalize (digs k.natAbs).length = l1 at hv
    subst hv
    obtain ⟨hc1, hf1⟩ := aft hb1
    go_wp2_with fail
    refine bodyPost_ret (by simp (maxDischargeDepth := 3) [results, Tryz.results30, go_sem, *]; try rfl) rfl ?_
    exact ⟨_, rfl, (by repeat (first | exact Below.refl _ _ | (with_reducible assumption) | refine bel_alloc ?_ _ | refine bel_drew ?_ | refine bel_drewN ?_ _ | refine Below.setCell ?_ (by dsimp only; omega) _ | refine bel_trans (by assumption) ?_)), by rw [if_pos rfl]; exact ((HV.out.setFar (by simp) _ _).setFar (by simp) _ _).wv⟩
end Go.Proofs.YtakilincclnpdaaGreatDoor
