/- Df: contracts: deleting from a list with a function (slices.DeleteFunc). No conditions. -/
import Derived.Test.YtpjcfnjagknocaaDoorIs
import Derived.Lib.SliceRun
import Derived.Lib.LazyBuf
namespace Go.Proofs.YtpjcfnjagknocaaDoor
open Go.RowKit

theorem indexFunc2_any (P : Int → Bool) (xs : List Int) (v : Value) (cap cap2 : Value) (w : World) (hrd : Rd w v xs)
    (hcl : ∀ (w' : World) (x : Int), Below w.heap.size w w' → x ∈ xs → Calls Tryd.prog 43 #[.int .i64 x, cap, cap2] w' (Ret (.bool (P x)) w')) :
    Calls Tryd.prog 58 #[v, .func (.func 43) #[] #[cap, cap2]] w (Ret (.int .i64 (idxF P xs 0)) w) := by
  obtain ⟨ad, c, rfl, hl, hcs⟩ := hrd
  unfold maxLen at hl
  by_cases hn : xs.length = 0
  · have hx := List.eq_nil_of_length_eq_zero hn
    subst hx
    go_enter Tryd.func58, Tryd.ntmps58
    go_wp2_with fail
    refine wp_loop_rounds 1 ?_; rw [rounds_succ]
    go_wp2_with fail
    go_ret
    exact ret_eq rfl (by repeat (first | exact Below.refl _ _ | (with_reducible assumption) | refine bel_alloc ?_ _ | refine bel_drew ?_ | refine bel_drewN ?_ _ | refine Below.setCell ?_ (by dsimp only; omega) _ | refine bel_trans (by assumption) ?_))
  · obtain ⟨bb, off, rfl, hbb, hcell⟩ := hcs (by omega)
    have HC := Lib.hid hcell; clear hcell hcs
    have HCL := Lib.hid hcl; clear hcl
    go_enter Tryd.func58, Tryd.ntmps58
    go_wp2_with fail
    go_loopw [8] (fun i wr => ∃ k : Nat, i = .int .i64 k ∧ k ≤ xs.length ∧ Below w.heap.size w wr ∧ Hid (idxF P xs 0 = idxF P (xs.drop k) k)) (fun i _ => xs.length - (intOf i).toNat)
    case atStart => exact ⟨0, rfl, Nat.zero_le _, Below.refl _ _, rfl⟩
    case round =>
      obtain ⟨k, rfl, hk, hbel, HE⟩ := hrel
      by_cases hlt : k < xs.length
      · have hck := (hbel.cell (p := ⟨bb, off + k, none⟩) hbb).trans (HC.out k hlt)
        have hst := idxF_step (P := P) hlt
        have hmem : xs.getD k 0 ∈ xs := by
          rw [List.getD_eq_getElem?_getD, List.getElem?_eq_getElem hlt]; exact List.getElem_mem hlt
        have hcall := HCL.out wr (xs.getD k 0) hbel hmem
        obtain ⟨x, hx⟩ : ∃ x, xs.getD k 0 = x := ⟨_, rfl⟩
        rw [hx] at hck hst hcall
        clear hx hmem
        have HST := Lib.hid hst; clear hst
        have hk0 : (0 : Int) ≤ (k : Int) := Int.natCast_nonneg _
        have hk1 : (k : Int) < (xs.length : Int) := by omega
        go_wp2_with fail
        refine hcall.mono ?_; rintro e w2 ⟨rfl, hb2⟩
        have hb3 := bel_trans hb2 hbel
        cases hp : P x
        · have hx : Hid (idxF P xs 0 = idxF P (xs.drop (k + 1)) (k + 1)) := by unfold Hid; rw [HE.out, HST.out, if_neg (by simp [hp])]
          go_wp2_with fail
          go_roundw
          case rel => exact ⟨k + 1, by go_num, by omega, hb3, hx⟩
          case measure => simp [intOf]; omega
        · have hx : Hid (idxF P xs 0 = (k : Int)) := by unfold Hid; rw [HE.out, HST.out, if_pos hp]
          go_wp2_with fail
          go_ret
          exact ret_eq (by rw [hx.out]; rfl) hb3
      · have hkl : k = xs.length := by omega
        have hx : Hid (idxF P xs 0 = -1) := by unfold Hid; rw [HE.out, hkl, List.drop_length]; rfl
        go_wp2_with fail
        go_ret
        exact ret_eq (by rw [hx.out]; rfl) hbel
theorem idxF_none {P : Int → Bool} : ∀ {xs : List Int} {k : Nat}, idxF P xs k = -1 → xs.filter (fun x => !P x) = xs
  | [], _, _ => rfl
  | x :: r, k, h => by
    rw [idxF] at h
    split at h
    · omega
    · rename_i hp
      rw [List.filter_cons, if_pos (by simpa using hp), idxF_none h]
theorem idxF_some {P : Int → Bool} : ∀ {xs : List Int} {k : Nat}, idxF P xs k ≠ -1 → ∃ i, i < xs.length ∧ idxF P xs k = ((k + i : Nat) : Int) ∧ P (xs.getD i 0) = true ∧ (xs.take i).filter (fun x => !P x) = xs.take i
  | [], _, h => absurd rfl h
  | x :: r, k, h => by
    rw [idxF] at h ⊢
    split at h
    · rename_i hp
      exact ⟨0, by simp, by rw [if_pos hp]; simp, by simpa using hp, by simp⟩
    · rename_i hp
      obtain ⟨i, h1, h2, h3, h4⟩ := idxF_some h
      refine ⟨i + 1, by simp; omega, by rw [if_neg hp, h2]; congr 1; omega, by simpa using h3, ?_⟩
      rw [List.take_succ_cons, List.filter_cons, if_pos (by simpa using hp), h4]
/-- what the deleting loop keeps of the row. -/
def DelSt (P : Int → Bool) (xs ys : List Int) (i j : Nat) : Prop := ys.length = xs.length ∧ ys.take i = (xs.take j).filter (fun x => !P x) ∧ ys.drop j = xs.drop j
theorem DelSt.start {P : Int → Bool} {xs : List Int} {i : Nat} (hi : i < xs.length) (hp : P (xs.getD i 0) = true) (h : (xs.take i).filter (fun x => !P x) = xs.take i) : DelSt P xs xs i (i + 1) := by
  refine ⟨rfl, ?_, rfl⟩
  rw [List.take_add_one, List.filter_append, h, List.getElem?_eq_getElem hi]
  rw [List.getD_eq_getElem?_getD, List.getElem?_eq_getElem hi] at hp
  simp at hp
  simp [hp]
theorem DelSt.at {P : Int → Bool} {xs ys : List Int} {i j : Nat} (h : DelSt P xs ys i j) (_hj : j < xs.length) : ys.getD j 0 = xs.getD j 0 := by
  have h3 := congrArg (fun l => l[0]?) h.2.2
  simp only [List.getElem?_drop, Nat.add_zero] at h3
  rw [List.getD_eq_getElem?_getD, List.getD_eq_getElem?_getD, h3]
theorem DelSt.skip {P : Int → Bool} {xs ys : List Int} {i j : Nat} (h : DelSt P xs ys i j) (hj : j < xs.length) (hp : P (xs.getD j 0) = true) : DelSt P xs ys i (j + 1) := by
  obtain ⟨h1, h2, h3⟩ := h
  refine ⟨h1, ?_, ?_⟩
  · rw [h2, List.take_add_one, List.filter_append, List.getElem?_eq_getElem hj]
    rw [List.getD_eq_getElem?_getD, List.getElem?_eq_getElem hj] at hp
    simp at hp
    simp [hp]
  · rw [← List.drop_drop, h3, List.drop_drop]
theorem DelSt.keep {P : Int → Bool} {xs ys : List Int} {i j : Nat} (h : DelSt P xs ys i j) (hij : i < j) (hj : j < xs.length) (hp : P (xs.getD j 0) = false) : DelSt P xs (ys.set i (xs.getD j 0)) (i + 1) (j + 1) := by
  obtain ⟨h1, h2, h3⟩ := h
  refine ⟨by simpa using h1, ?_, ?_⟩
  · rw [List.take_add_one, List.take_set_of_le (Nat.le_refl i), h2, List.take_add_one, List.filter_append, List.getElem?_eq_getElem hj]
    rw [List.getElem?_set_self (by omega)]
    rw [List.getD_eq_getElem?_getD, List.getElem?_eq_getElem hj] at hp ⊢
    simp at hp
    simp [hp]
  · rw [List.drop_set, if_pos (by omega), ← List.drop_drop, h3, List.drop_drop]
theorem own_setCells {B g cap : Nat} : ∀ (m o : Nat) (w : World) (ys : List Int), Own w B (.slice (some ⟨g, 0, none⟩) ys.length cap) ys →
    ∃ zs : List Int, zs.length = ys.length ∧ zs.take o = ys.take o ∧ Own (w.setCells g o (List.replicate m (.int .i64 0))) B (.slice (some ⟨g, 0, none⟩) ys.length cap) zs
  | 0, o, w, ys, h => ⟨ys, rfl, rfl, h⟩
  | m + 1, o, w, ys, h => by
    have h1 := (World.ownsRow.stored h o (.int .i64 0)).1
    have h2 : Own (w.setCell ⟨g, o, none⟩ (.int .i64 0)) B (.slice (some ⟨g, 0, none⟩) (ys.set o 0).length cap) (ys.set o 0) := by
      unfold Own
      rw [List.map_set, List.length_set]
      exact h1
    obtain ⟨zs, z1, z2, z3⟩ := own_setCells m (o + 1) _ _ h2
    rw [List.length_set] at z1 z3
    refine ⟨zs, z1, ?_, z3⟩
    have h3 := congrArg (List.take o) z2
    rw [List.take_take, List.take_take, Nat.min_eq_left (by omega), List.take_set_of_le (Nat.le_refl o)] at h3
    exact h3
theorem own_cut {w : World} {B g cap i : Nat} {zs : List Int} (h : Own w B (.slice (some ⟨g, 0, none⟩) zs.length cap) zs) (hi : i ≤ zs.length) : Own w B (.slice (some ⟨g, 0, none⟩) (zs.take i).length cap) (zs.take i) := by
  have hl : (zs.take i).length = i := by rw [List.length_take]; omega
  rcases h.2 with ⟨h', _⟩ | ⟨g', cap', cur, h', hb, hh, hn, hm, hcs, ht⟩
  · cases h'
  · cases h'
    refine ⟨by simp, .inr ⟨g, cap, cur, rfl, hb, hh, by omega, hm, hcs, ?_⟩⟩
    rw [hl, Nat.mul_one, List.map_take, ← ht, Nat.mul_one, List.take_take, Nat.min_eq_left hi]
set_option maxRecDepth 100000 in
set_option maxHeartbeats 2000000 in
theorem deleteFunc_any (P : Int → Bool) (xs : List Int) (v c1 c2 : Value) (B : Nat) (w : World) (ho : Own w B v xs) (hBw : B ≤ w.heap.size)
    (hcl : ∀ (w' : World) (x : Int), Below B w w' → x ∈ xs → Calls Tryd.prog 43 #[.int .i64 x, c1, c2] w' (Ret (.bool (P x)) w')) :
    Calls Tryd.prog 42 #[v, .func (.func 43) #[] #[c1, c2]] w (fun e w' => ∃ v', e = .returned v' ∧ Below B w w' ∧ Own w' B v' (xs.filter fun x => !P x)) := by
  have hix := indexFunc2_any P xs v c1 c2 w ho.rd (fun w' x hb hx => hcl w' x (hb.mono hBw) hx)
  have HIX := Lib.hid hix; clear hix
  have HCL := Lib.hid hcl; clear hcl
  by_cases hno : idxF P xs 0 = -1
  · have hf := idxF_none hno
    have HF := Lib.hid hf; clear hf
    have hix := HIX.out
    rw [hno] at hix
    clear HIX
    go_enter Tryd.func42, Tryd.ntmps42
    go_wp2_with fail
    refine hix.mono ?_; rintro e w1 ⟨rfl, hb1⟩
    have ho1 := ho.keep hb1
    have hb1' : Below B w w1 := hb1.mono hBw
    obtain ⟨ad, cap, rfl⟩ := ho.len
    clear ho hix hb1
    go_wp2_with fail
    go_ret
    exact ⟨_, rfl, hb1', by rw [HF.out]; exact ho1⟩
  · obtain ⟨i0, hi1, hi2, hi3, hi4⟩ := idxF_some hno
    rw [Nat.zero_add] at hi2
    have hst := DelSt.start hi1 hi3 hi4
    have HST := Lib.hid hst; clear hst
    have hix := HIX.out
    rw [hi2] at hix
    clear HIX hno hi2 hi3 hi4
    rcases ho.shape with ⟨_, hnil⟩ | ⟨g, cap, rfl, hBg, hgl, hnc, hcm⟩
    · subst hnil; exact absurd hi1 (Nat.not_lt_zero _)
    unfold maxLen at hcm
    have HOWN := Lib.hid ho; clear ho
    have hi0 : (0 : Int) ≤ (i0 : Int) := Int.natCast_nonneg _
    have hib : (i0 : Int) ≤ 9223372036854775806 := by omega
    have hne1 : ((i0 : Int) == -1) = false := by first | (simp; done) | (simp; omega)
    go_enter Tryd.func42, Tryd.ntmps42
    go_wp2_with fail
    refine hix.mono ?_; rintro e w1 ⟨rfl, hb1⟩
    have ho1 := Lib.hid (HOWN.out.keep hb1)
    have hb1' : Below B w w1 := hb1.mono hBw
    clear HOWN hb1 hix
    go_wp2_with fail
    go_loopw [5, 6] (fun x y wr => ∃ (i j : Nat) (ys : List Int), x = .int .i64 i ∧ y = .int .i64 j ∧ i < j ∧ j ≤ xs.length ∧ Below B w wr ∧ Hid (DelSt P xs ys i j) ∧ Hid (Own wr B (.slice (some ⟨g, 0, none⟩) xs.length cap) ys)) (fun _ y _ => xs.length - (intOf y).toNat)
    case atStart => exact ⟨i0, i0 + 1, xs, rfl, by first | rfl | (congr 1), by omega, by omega, hb1', HST, ho1⟩
    case round =>
      obtain ⟨i, j, ys, rfl, rfl, hij, hj, hbel, HD, HO⟩ := hrel
      have hyl := HD.out.1
      have hi0 : (0 : Int) ≤ (i : Int) := Int.natCast_nonneg _
      have hj0 : (0 : Int) ≤ (j : Int) := Int.natCast_nonneg _
      have hij' : (i : Int) < (j : Int) := by omega
      by_cases hlt : j < xs.length
      · have hj1 : (j : Int) < (xs.length : Int) := by omega
        have hi1 : (i : Int) < (xs.length : Int) := by omega
        have hat := HD.out.at hlt
        have hHO : Own wr B (.slice (some ⟨g, 0, none⟩) ys.length cap) ys := by rw [hyl]; exact HO.out
        have hck := hHO.cellAt j (by omega)
        rw [hat] at hck
        have hmem : xs.getD j 0 ∈ xs := by rw [List.getD_eq_getElem?_getD, List.getElem?_eq_getElem hlt]; exact List.getElem_mem hlt
        have hcall := HCL.out wr (xs.getD j 0) hbel hmem
        have hskip := fun h => DelSt.skip HD.out hlt h
        have hkeep := fun h => DelSt.keep HD.out hij hlt h
        obtain ⟨x, hx⟩ : ∃ x, xs.getD j 0 = x := ⟨_, rfl⟩
        rw [hx] at hck hcall hskip hkeep
        clear hx hmem hat
        have hHOH := Lib.hid hHO; clear hHO
        have HSK := Lib.hid hskip; clear hskip
        have HKE := Lib.hid hkeep; clear hkeep
        go_wp2_with fail
        refine hcall.mono ?_; rintro e w2 ⟨rfl, hb2⟩
        have hbw : B ≤ wr.heap.size := Nat.le_trans hBw hbel.size
        have hb3 : Below B w w2 := hbel.trans (hb2.mono hbw)
        have ho2 := hHOH.out.keep hb2
        clear hHOH hck hcall hbel
        cases hp : P x
        · have hnx := Lib.hid (HKE.out hp)
          have hold : ∃ u, w2.cell? ⟨g, i, none⟩ = some u := by
            rw [World.ownsRow.cellAt ho2 i (by omega), getD_map_int ys i (by omega)]; exact ⟨_, rfl⟩
          obtain ⟨u, hold⟩ := hold
          have hfz := World.ownsRow.frozenAt ho2 i
          have hstp := World.ownsRow.stored ho2 i (.int .i64 x)
          have hb4 : Below B w (w2.setCell ⟨g, i, none⟩ (.int .i64 x)) := Below.setCell hb3 hBg _
          have ho4 : Hid (Own (w2.setCell ⟨g, i, none⟩ (.int .i64 x)) B (.slice (some ⟨g, 0, none⟩) xs.length cap) (ys.set i x)) := by
            unfold Hid Own
            rw [List.map_set, List.length_set, hyl] 
            have h := hstp.1
            rw [hyl] at h
            exact h
          clear hstp ho2 HO HD HSK HKE
          go_wp2_with fail
          go_roundw
          case rel => exact ⟨i + 1, j + 1, ys.set i x, by go_num, by go_num, by omega, by omega, hb4, hnx, ho4⟩
          case measure => simp [intOf]; omega
        · have hnx := Lib.hid (HSK.out hp)
          have ho4 : Hid (Own w2 B (.slice (some ⟨g, 0, none⟩) xs.length cap) ys) := by unfold Hid; rw [hyl] at ho2; exact ho2
          clear ho2 HO HD HSK HKE
          go_wp2_with fail
          go_roundw
          case rel => exact ⟨i, j + 1, ys, rfl, by go_num, by omega, by omega, hb3, hnx, ho4⟩
          case measure => simp [intOf]; omega
      · have hjn : j = xs.length := by omega
        subst hjn
        have hne : ¬ cap = i := by omega
        have hcb : (cap : Int) ≤ 9223372036854775807 := by omega
        have hnc0 : (xs.length : Int) ≤ (cap : Int) := by omega
        have hHO : Own wr B (.slice (some ⟨g, 0, none⟩) ys.length cap) ys := by rw [hyl]; exact HO.out
        have hcl : ∀ ty, (Builtin.clear_ #[26] ty #[.slice (some ⟨g, i, none⟩) (xs.length - i) (cap - i)]).run Tryd.prog wr = .ok (.tuple #[]) (wr.setCells g i (List.replicate (xs.length - i) (.int .i64 0))) :=
          fun ty => Lib.run_clear_slice wr _ _ ty _ Tryd.underlying26 (fun _ => by kernel_rfl) rfl rfl g i _ _ (by omega)
            (fun t ht => by rw [hHO.cellAt (i + t) (by omega)]; rfl) (fun t _ => World.ownsRow.frozenAt hHO (i + t))
        have hsl : ∀ w, (Instr.slice 26 (.slice (some ⟨g, 0, none⟩) xs.length cap) (some (.int .i64 (i : Int))) none none).run Tryd.prog w = .ok (.slice (some ⟨g, i, none⟩) (xs.length - i) (cap - i)) w := fun w => by
          refine (run_slice_l (P := Tryd.prog) (w := w) (t := 26) (a := some ⟨g, 0, none⟩) (len := xs.length) (cap := cap) (ht := Tryd.underlying26) (kl := .i64) (l := (i : Int)) (h0 := by omega) (h1 := by omega)).trans ?_
          have e1 : ((i : Int)).toNat = i := by omega
          have e2 : (sizeOf (Program.elem Tryd.prog 26)).run Tryd.prog w = .ok 1 w := by kernel_rfl
          rw [e1, e2]
          simp [sliced, hne, Addr.add]
          try omega
        have HDD := HD
        clear HO HD HCL
        go_wp2_with fail
        go_ret
        obtain ⟨zs, z1, z2, z3⟩ := own_setCells (B := B) (g := g) (cap := cap) (xs.length - i) i wr ys hHO
        refine ⟨_, rfl, ?_, ?_⟩
        · exact below_setCells hBg _ _ _ hbel
        · have h5 : Own (wr.setCells g i (List.replicate (xs.length - i) (.int .i64 0))) B (.slice (some ⟨g, 0, none⟩) zs.length cap) zs := by rw [z1]; exact z3
          have h6 := own_cut h5 (show i ≤ zs.length by omega)
          rw [z2, HDD.out.2.1, List.take_length] at h6
          have h8 : ys.take i = xs.filter (fun x => !P x) := by rw [HDD.out.2.1, List.take_length]
          have h7 : (xs.filter fun x => !P x).length = i := by rw [← h8, List.length_take]; omega
          rw [h7] at h6
          exact h6
end Go.Proofs.YtpjcfnjagknocaaDoor
