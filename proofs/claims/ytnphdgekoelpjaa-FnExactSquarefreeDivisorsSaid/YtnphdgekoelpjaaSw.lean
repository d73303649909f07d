/- Sw: contracts: the squarefree divisors of a number, the program's side. No conditions. -/
import Derived.Test.YtnphdgekoelpjaaPv
import Derived.Test.YtnphdgekoelpjaaAd
import Derived.Test.YtnphdgekoelpjaaShp
import Derived.Sort.OwnSortedInts
namespace Go.Proofs.Ytnphdgekoelpjaa
open Go.RowKit
set_option linter.unusedVariables false

/-- the sort, as it is met by a row of the call's own. -/
theorem sort_any (g cap B : Nat) (xs : List Int) (w : World) (h : Own w B (.slice (some ⟨g, 0, none⟩) xs.length cap) xs) (hsm : xs.length < 4611686018427387904) :
    Calls Try.prog 160 #[.slice (some ⟨g, 0, none⟩) xs.length cap] w (fun e w' => e = .returned (.tuple #[]) ∧ w.grownBy w' (some g) ∧ Own w' B (.slice (some ⟨g, 0, none⟩) xs.length cap) (xs.mergeSort fun x y => decide (x ≤ y))) := by
  have h0 := h
  obtain ⟨hl, hr⟩ := h
  rcases hr with ⟨hv, _⟩ | ⟨g', cap', cur, hv, hB, hh, hn, hm, hcs, htake⟩
  · cases hv
  · simp only [Value.slice.injEq, Option.some.injEq, Addr.mk.injEq, and_true, true_and] at hv
    obtain ⟨rfl, rfl⟩ := hv
    rw [Nat.mul_one] at htake hcs
    refine (Try.slices_Sort_int g 0 cap xs w (Go.holds_of_blockI hh htake) (by
      rcases Nat.lt_or_ge g w.heap.size with k | k
      · exact k
      · rw [Array.getElem?_eq_none k] at hh; cases hh) hsm).mono ?_
    rintro e w' ⟨rfl, n, os, rfl⟩
    refine ⟨rfl, Go.grownBy_sortedI _, ?_⟩
    unfold Own
    rw [List.length_mergeSort]
    exact Go.ownsRow_sortedI (by rw [List.length_mergeSort]) hB hh (by omega) (by omega) (by omega)
theorem rows_ne {w : World} {B B' : Nat} {u v : Value} {xs ys : List Int} (h : Own w B u xs) (h' : Own w B' v ys) (hx : 0 < xs.length) (hy : 0 < ys.length) (hne : xs.getD 0 0 ≠ ys.getD 0 0) (g : Nat) (hg : v.ownBlock = some g) : u.ownBlock ≠ some g := by
  intro hu
  rcases h.shape with ⟨_, h0⟩ | ⟨g1, c1, rfl, _⟩
  · rw [h0] at hx; simp at hx
  rcases h'.shape with ⟨_, h0⟩ | ⟨g2, c2, rfl, _⟩
  · rw [h0] at hy; simp at hy
  simp only [Value.ownBlock, Option.some.injEq] at hu hg
  subst hu; subst hg
  have a := h.cellAt 0 hx
  have b := h'.cellAt 0 hy
  rw [a] at b
  simp only [Option.some.injEq, Value.int.injEq, true_and] at b
  exact hne b
theorem own_grown {w w' : World} {B : Nat} {v u : Value} {xs : List Int} (h : Own w B v xs) (hg : w.grownBy w' u.ownBlock) (hne : ∀ g, v.ownBlock = some g → u.ownBlock ≠ some g) : Own w' B v xs := by
  refine World.ownsRow.kept h hg ?_
  cases hv : v.ownBlock with
  | none => exact .inl rfl
  | some g => exact .inr (fun e => hne g hv e.symm)
theorem own_lt {w : World} {B g : Nat} {v : Value} {xs : List Int} (h : Own w B v xs) (hg : v.ownBlock = some g) : B ≤ g ∧ g < w.heap.size := World.ownsRow.lt h g hg
set_option maxRecDepth 4000 in
theorem cloneBig_any (v : Value) (xs : List Int) (w : World) (hrd : Rd w v xs) (hz : NilZ v) (hsm : xs.length ≤ 10000000000) :
    Calls Try.prog 159 #[v] w (RetSl xs w) := by
  obtain ⟨i0, hi, hz0, hz1, hz2⟩ := info_parts Try.info_int
  obtain ⟨ad, cap, rfl, hl, hcs⟩ := hrd
  cases ad with
  | none =>
    obtain rfl := hz _ _ rfl
    have hx : xs = [] := by
      cases xs with
      | nil => rfl
      | cons x r => obtain ⟨_, _, h, _⟩ := hcs (by simp); cases h
    subst hx
    have he : ∀ w : World, (binOp .eql 54 (.slice none 0 0) (.slice none 0 0)).run Try.prog w = .ok (.bool true) w := fun _ => rfl
    go_enter Try.func159, Try.ntmps159
    go_wp2_with fail
    go_ret
    exact ⟨_, rfl, (by repeat (first | exact Below.refl _ _ | (with_reducible assumption) | refine bel_alloc ?_ _ | refine bel_drew ?_ | refine bel_drewN ?_ _ | refine Below.setCell ?_ (by dsimp only; omega) _ | refine bel_trans (by assumption) ?_)), Own.nil _ _⟩
  | some ad =>
    have hown : (w.alloc (.cells #[] 3)).ownsRow w.heap.size 3 1 (.slice (some ⟨w.heap.size, 0, none⟩) 0 0) 0 [] := by
      simpa using World.ownsRow_lit (base := w.heap.size) (e := 3) (size := 1) w #[] 0 (Nat.le_refl _) (by unfold maxLen; omega) (by simp)
    have hnews : ∀ (j : Nat) (u : Value), (xs.map (Value.int .i64))[j]? = some u → (w.alloc (.cells #[] 3)).cell? (ad.add j) = some u := by
      intro j u hj
      have hjl : j < xs.length := by
        have := (List.getElem?_eq_some_iff.1 hj).1
        simpa using this
      obtain ⟨b, off, ha, hb, hc⟩ := hcs (by omega)
      simp only [Option.some.injEq] at ha
      subst ha
      have e : ((⟨b, off, none⟩ : Addr).add j) = ⟨b, off + j, none⟩ := by unfold Addr.add; split <;> simp_all
      rw [e, (below_alloc w (.cells #[] 3)).cell (p := ⟨b, off + j, none⟩) hb, hc j hjl, ← hj, getD_map_int xs j hjl]
    clear hcs hz
    have he : ∀ w : World, (binOp .eql 54 (.slice (some ad) xs.length cap) (.slice none 0 0)).run Try.prog w = .ok (.bool false) w := fun _ => rfl
    go_enter Try.func159, Try.ntmps159
    go_wp2_with (first | (at_builtin; refine wpList_append_own _ rfl _ _ 54 rfl w.heap.size 3 i0 (.int .i64 0) 1 8 Try.underlying54 hi hz0 hz1 hz2 rfl (by decide) _ _ _ rfl hown ad xs.length cap (xs.map (Value.int .i64)) rfl (by simp) hnews ?_ ?_ ?_ ?_ ?_))
    · intro u hu
      obtain ⟨n, _, rfl⟩ := List.mem_map.1 hu
      rfl
    · unfold maxLen; omega
    · omega
    · simp
    · intro v' w1 hown1 hgrow _
      have hb1 : Below w.heap.size w w1 := (below_alloc w (.cells #[] 3)).grown hgrow (by simp) (fun k hk => by
        simp only [Value.ownBlock, Option.some.injEq] at hk
        omega)
      have ho : Own w1 w.heap.size v' xs := by unfold Own; simpa using hown1
      clear hown hown1 hgrow hnews
      go_wp2_with fail
      go_ret
      exact ⟨_, rfl, hb1, ho⟩
set_option maxRecDepth 100000 in
set_option maxHeartbeats 4000000 in
theorem squarefreeDivisors_any (n0 N : Int) (w : World) (hc : n0 = N ∨ n0 = -N) (h1 : 1 ≤ N) (h2 : N ≤ 1000000000) :
    Calls Try.prog 106 #[.int .i64 n0] w (RetSl (divL N) w) := by
  obtain ⟨i0, hi, hz0, hz1, hz2⟩ := info_parts Try.info_int
  have hpr := fun w => primesOf_any n0 N w hc h1 (by omega)
  have hinv := fun k hk => sqF_inv (N := N) (by omega) k hk
  have HINV := Lib.hid hinv; clear hinv
  have hdiv : divL N = (sqF N (primesL N).length).mergeSort fun x y => decide (x ≤ y) := rfl
  obtain ⟨R, hR⟩ : ∃ R, divL N = R := ⟨_, rfl⟩
  rw [hR] at hdiv ⊢
  have HDIV := Lib.hid hdiv; clear hdiv hR
  have HPA := Lib.hid (fun k (hk : k < (primesL N).length) => primes_at (N := N) (by omega) hk)
  have HST := Lib.hid (fun k (hk : k < (primesL N).length) => sqF_step hk)
  have h0 : Own (w.alloc (.cells #[.int .i64 (-1), .int .i64 1] 3)) w.heap.size (.slice (some ⟨w.heap.size, 0, none⟩) 2 2) (sqF N 0) := by
    show Own _ _ _ [-1, 1]
    have h := World.ownsRow_lit (base := w.heap.size) (e := 3) (size := 1) w #[.int .i64 (-1), .int .i64 1] 2 (Nat.le_refl _) (by simp [maxLen]) (by simp)
    unfold Own; simpa using h
  have H0 := Lib.hid h0; clear h0
  go_enter Try.func106, Try.ntmps106
  go_wp2_with fail
  refine (hpr _).mono ?_; rintro e w1 ⟨vp, rfl, hb1, hop⟩
  have ho0 := H0.out.keep hb1
  have hbl1 : Below w.heap.size w w1 := bel_trans hb1 (by repeat (first | exact Below.refl _ _ | (with_reducible assumption) | refine bel_alloc ?_ _ | refine bel_drew ?_ | refine bel_drewN ?_ _ | refine Below.setCell ?_ (by dsimp only; omega) _ | refine bel_trans (by assumption) ?_))
  obtain ⟨ps, hps⟩ : ∃ ps, primesL N = ps := ⟨_, rfl⟩
  have hop' : Own w1 w.heap.size vp ps := by rw [← hps]; exact hop.le (by simp)
  have hsep : ∀ g, vp.ownBlock = some g → (Value.slice (some ⟨w.heap.size, 0, none⟩) 2 2).ownBlock ≠ some g := fun g hg e => by
    have := (own_lt hop hg).1
    simp only [Value.ownBlock, Option.some.injEq] at e
    simp at this
    omega
  rw [hps] at HINV HDIV HPA HST
  have HPS := Lib.hid hps; clear hps hop H0 hpr
  obtain ⟨m, hm⟩ : ∃ m, ps.length = m := ⟨_, rfl⟩
  obtain ⟨adp, capp, hvp⟩ := hop'.len
  subst hvp
  have HSEP := Lib.hid hsep; clear hsep
  have HOP := Lib.hid hop'; clear hop'
  have HO0 := Lib.hid ho0; clear ho0
  rw [hm]
  have HM := Lib.hid hm; clear hm
  go_wp2_with fail
  go_loopw [3, 12] (fun out x wr => ∃ k : Nat, x = .int .i64 k ∧ k ≤ m ∧ Below w.heap.size w wr ∧ Own wr w.heap.size out (sqF N k) ∧ Own wr w.heap.size (.slice adp m capp) ps ∧ (∀ g, (Value.slice adp m capp).ownBlock = some g → out.ownBlock ≠ some g)) (fun _ x _ => m - (intOf x).toNat)
  case atStart => exact ⟨0, rfl, Nat.zero_le _, hbl1, HO0.out, by have := HOP.out; rw [HM.out] at this; exact this, by have := HSEP.out; rw [HM.out] at this; exact this⟩
  case round =>
    obtain ⟨k, rfl, hk, hbel, hout, hpl, hse⟩ := hrel
    by_cases hlt : k < m
    · obtain ⟨pp, pd, pn⟩ := HPA.out k (by rw [HM.out]; exact hlt)
      have hstep := HST.out k (by rw [HM.out]; exact hlt)
      have hi1 := HINV.out k (by rw [HM.out]; omega)
      have hi2 := HINV.out (k + 1) (by rw [HM.out]; exact hlt)
      obtain ⟨p, hp⟩ : ∃ p, ps.getD k 0 = p := ⟨_, rfl⟩
      rw [hp] at pp pd pn hstep
      obtain ⟨L, hL⟩ : ∃ L, sqF N k = L := ⟨_, rfl⟩
      rw [hL] at hstep hi1 hout
      obtain ⟨L2, hL2⟩ : ∃ L2, sqF N (k + 1) = L2 := ⟨_, rfl⟩
      rw [hL2] at hstep hi2
      have HL2 := Lib.hid hL2; clear hL2 hL
      have hp2 := pp.1
      have hpN : p ≤ N := Int.le_of_dvd (by omega) pd
      have hLn := hi1.ln
      have hLb := hi1.len h1 h2
      have hLp : 0 < L.length := by rw [hLn]; exact Nat.pow_pos (by omega)
      clear hLn
      have hbd : ∀ j, j < L.length → -N ≤ L.getD j 0 * p ∧ L.getD j 0 * p ≤ N := fun j hj => by
        refine hi2.bd h1 ?_
        rw [hstep]
        refine dblI_mem.2 (.inr ⟨L.getD j 0, ?_, rfl⟩)
        rw [List.getD_eq_getElem?_getD, List.getElem?_eq_getElem hj]
        exact List.getElem_mem hj
      have hbd2 : ∀ j, j < L.length → -N ≤ L.getD j 0 ∧ L.getD j 0 ≤ N := fun j hj => by
        refine hi1.bd h1 ?_
        rw [List.getD_eq_getElem?_getD, List.getElem?_eq_getElem hj]
        exact List.getElem_mem hj
      have HBD := Lib.hid hbd; clear hbd
      have HBD2 := Lib.hid hbd2; clear hbd2 hi1 hi2 pn pd pp
      have hrp := hpl.rd
      obtain ⟨_, _, hv1, hpm, hcs⟩ := hrp
      simp only [Value.slice.injEq] at hv1
      obtain ⟨rfl, hml, rfl⟩ := hv1
      have hmb : (m : Int) ≤ 9223372036854775807 := by unfold maxLen at hpm; omega
      clear hpm
      obtain ⟨bp, op, rfl, hbp, hcp⟩ := hcs (by omega)
      have ck := hcp k (by omega)
      rw [hp] at ck
      clear hcs hcp
      have hk0 : (0 : Int) ≤ (k : Int) := Int.natCast_nonneg _
      have hk1 : (k : Int) < (m : Int) := by omega
      obtain ⟨ado, co, hov⟩ := hout.len
      subst hov
      clear hml
      have hcl := cloneBig_any _ L wr hout.rd hout.nilz (by omega)
      have HOUT := Lib.hid hout; clear hout
      have HPL := Lib.hid hpl; clear hpl
      have HSE := Lib.hid hse; clear hse
      have HBEL := Lib.hid hbel; clear hbel
      have HP := Lib.hid hp; clear hp
      have HSTEP := Lib.hid hstep; clear hstep
      go_wp2_with fail
      refine hcl.mono ?_; rintro ee w2 ⟨vc, rfl, hb2, hoc⟩
      have hout2 := HOUT.out.keep hb2
      have hpl2 := HPL.out.keep hb2
      have hbel2 : Below w.heap.size w w2 := bel_trans hb2 HBEL.out
      have hws : w.heap.size ≤ wr.heap.size := HBEL.out.size
      have hsc : ∀ g, vc.ownBlock = some g → (Value.slice ado L.length co).ownBlock ≠ some g := fun g hg e => by
        have h3 := (own_lt hoc hg).1
        have h4 := (own_lt HOUT.out e).2
        omega
      have hoc2 := hoc.le hws
      rcases hoc2.shape with ⟨_, hnil⟩ | ⟨bc, cc, rfl, _, hbc, _, _⟩
      · rw [hnil] at hLp; simp at hLp
      clear hcl hoc ck
      have HOUT2 := Lib.hid hout2; clear hout2 HOUT
      have HPL2 := Lib.hid hpl2; clear hpl2 HPL
      have HC2 := Lib.hid hoc2; clear hoc2
      have HSC := Lib.hid hsc; clear hsc
      have HBEL2 := Lib.hid hbel2; clear hbel2 HBEL hb2
      go_wp2_with fail
      go_loopw [3, 19] (fun out x wi => ∃ j : Nat, x = .int .i64 j ∧ j ≤ L.length ∧ Below w.heap.size w wi ∧ Own wi w.heap.size out (L ++ (L.take j).map (· * p)) ∧ Own wi w.heap.size (.slice (some ⟨bp, op, none⟩) m capp) ps ∧ Own wi w.heap.size (.slice (some ⟨bc, 0, none⟩) L.length cc) L ∧
        (∀ g, (Value.slice (some ⟨bp, op, none⟩) m capp).ownBlock = some g → out.ownBlock ≠ some g) ∧ (∀ g, (Value.slice (some ⟨bc, 0, none⟩) L.length cc).ownBlock = some g → out.ownBlock ≠ some g)) (fun _ x _ => L.length - (intOf x).toNat)
      case atStart => exact ⟨0, rfl, Nat.zero_le _, HBEL2.out, by simpa using HOUT2.out, HPL2.out, HC2.out, HSE.out, HSC.out⟩
      case round =>
        obtain ⟨j, rfl, hj, ib, io, ip, ic, is1, is2⟩ := hrel
        by_cases hjl : j < L.length
        · have cj := ic.cellAt j hjl
          have hdb := HBD.out j hjl
          have hdb2 := HBD2.out j hjl
          obtain ⟨d, hd⟩ : ∃ d, L.getD j 0 = d := ⟨_, rfl⟩
          rw [hd] at cj hdb hdb2
          have hj0 : (0 : Int) ≤ (j : Int) := Int.natCast_nonneg _
          have hj1 : (j : Int) < (L.length : Int) := by omega
          obtain ⟨O, hO⟩ : ∃ O, L ++ (L.take j).map (· * p) = O := ⟨_, rfl⟩
          have hOl : O.length = L.length + j := by rw [← hO, List.length_append, List.length_map, List.length_take]; omega
          have hO2 : L ++ (L.take (j + 1)).map (· * p) = O ++ [d * p] := by
            rw [List.take_add_one, List.getElem?_eq_getElem hjl, ← hO, List.append_assoc, List.map_append]
            congr 2
            rw [← hd, List.getD_eq_getElem?_getD, List.getElem?_eq_getElem hjl]
            rfl
          rw [hO] at io
          have hrow : wr.ownsRow w.heap.size 3 1 u3 (L.length + j) (O.map (Value.int .i64)) := by
            have h := io; unfold Own at h
            rw [hOl] at h
            exact h
          have HO2 := Lib.hid hO2; clear hO2 hO
          have HROW := Lib.hid hrow; clear hrow io
          have HD := Lib.hid hd; clear hd
          have HIB := Lib.hid ib; clear ib
          have HIP := Lib.hid ip; clear ip
          have HIC := Lib.hid ic; clear ic
          have HI1 := Lib.hid is1; clear is1
          have HI2 := Lib.hid is2; clear is2
          go_wp2_with (first | (at_builtin; refine wpList_append_own_at _ rfl _ _ 54 rfl w.heap.size 3 i0 (.int .i64 0) 1 8 Try.underlying54 hi hz0 hz1 hz2 rfl (by decide) _ _ _ rfl (HROW.out.alloc _) ⟨wr.heap.size, 0, none⟩ 1 1 [.int .i64 (d * p)] rfl rfl (cell_one_new _ _ _) ?_ ?_ ?_ ?_ ?_))
          · intro q hq
            simp only [List.mem_cons, List.mem_nil_iff, or_false] at hq
            subst hq; rfl
          · unfold maxLen; omega
          · omega
          · have := HIB.out.size; simp; omega
          · intro v' w3 hown3 hgrow _ hblk
            have hws3 : w.heap.size ≤ wr.heap.size := HIB.out.size
            have hlt3 : ∀ g, Value.ownBlock u3 = some g → w.heap.size ≤ g ∧ g < wr.heap.size := fun g hg => World.ownsRow.lt HROW.out g hg
            have hb3 : Below w.heap.size w w3 := (HIB.out.alloc hws3 _).grown hgrow (by simp; omega) (fun g hg => (hlt3 g hg).1)
            have ho3 : Own w3 w.heap.size v' (L ++ (L.take (j + 1)).map (· * p)) := by
              rw [HO2.out]
              unfold Own
              rw [List.length_append, hOl, List.map_append]
              exact hown3
            have hk3 : ∀ (vv : Value) (ys : List Int), Own wr w.heap.size vv ys → (∀ g, vv.ownBlock = some g → Value.ownBlock u3 ≠ some g) → Own w3 w.heap.size vv ys := fun vv ys hy hs => own_grown (hy.keep (bel_alloc (Below.refl _ _) _)) hgrow hs
            have hs3 : ∀ (vv : Value) (ys : List Int), Own wr w.heap.size vv ys → (∀ g, vv.ownBlock = some g → Value.ownBlock u3 ≠ some g) → (∀ g, vv.ownBlock = some g → v'.ownBlock ≠ some g) := fun vv ys hy hs g hg e => by
              rcases hblk with h | h
              · exact hs g hg (h ▸ e)
              · rw [h] at e
                have h5 := (own_lt hy hg).2
                simp at e
                omega
            have ip3 := hk3 _ _ HIP.out HI1.out
            have ic3 := hk3 _ _ HIC.out HI2.out
            have sp3 := hs3 _ _ HIP.out HI1.out
            have sc3 := hs3 _ _ HIC.out HI2.out
            have HB3 := Lib.hid hb3; clear hb3
            have HO3 := Lib.hid ho3; clear ho3
            have HIP3 := Lib.hid ip3; clear ip3
            have HIC3 := Lib.hid ic3; clear ic3
            have HSP3 := Lib.hid sp3; clear sp3
            have HSC3 := Lib.hid sc3; clear sc3
            clear hown3 hgrow hblk hlt3 hk3 hs3 HROW HIB HIP HIC HI1 HI2
            go_wp2_with fail
            go_roundw
            case rel => exact ⟨j + 1, by go_num, by omega, HB3.out, HO3.out, HIP3.out, HIC3.out, HSP3.out, HSC3.out⟩
            case measure => simp [intOf]; omega
        · have hjl2 : j = L.length := by omega
          subst hjl2
          have hfin : Own wr w.heap.size u3 (sqF N (k + 1)) := by
            rw [HL2.out, HSTEP.out]
            unfold dblI
            rw [List.take_length] at io
            exact io
          have HF := Lib.hid hfin; clear hfin io
          have HIB := Lib.hid ib; clear ib
          have HIP := Lib.hid ip; clear ip ic
          have HI1 := Lib.hid is1; clear is1 is2
          go_wp2_with fail
          go_roundw
          case rel => exact ⟨k + 1, by go_num, by omega, HIB.out, HF.out, HIP.out, HI1.out⟩
          case measure => simp [intOf]; omega
    · have hkm : k = m := by omega
      subst hkm
      rw [← HM.out] at hout
      have hnd := (HINV.out ps.length (Nat.le_refl _)).nd
      obtain ⟨L, hL⟩ : ∃ L, sqF N ps.length = L := ⟨_, rfl⟩
      have hln := (HINV.out ps.length (Nat.le_refl _)).len h1 h2
      have hlp := (HINV.out ps.length (Nat.le_refl _)).ln
      rw [hL] at hout hnd hln hlp
      have hLp : 0 < L.length := by rw [hlp]; exact Nat.pow_pos (by omega)
      have hRL : R = L.mergeSort fun x y => decide (x ≤ y) := by rw [HDIV.out, hL]
      rcases hout.shape with ⟨_, h0⟩ | ⟨g, co, rfl, hg1, hg2, hg3, hg4⟩
      · rw [h0] at hLp; simp at hLp
      have hsrt := sort_any g co w.heap.size L wr hout (by omega)
      have HB := Lib.hid hbel
      clear hlp hnd hL hpl hse
      go_wp2_with fail
      refine hsrt.mono ?_; rintro ee w3 ⟨rfl, hgr, hos⟩
      have hb3 : Below w.heap.size w w3 := HB.out.grown hgr HB.out.size (fun q hq => by cases hq; exact hg1)
      clear hsrt hgr
      go_wp2_with fail
      go_ret
      rw [hRL]
      exact ⟨_, rfl, hb3, hos⟩
end Go.Proofs.Ytnphdgekoelpjaa
