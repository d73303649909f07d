/- Wd: contracts: the sum of two whole numbers. No conditions. -/
import Derived.Test.YtakilincclnpdaaGreatDoorWcy
import Derived.Test.YtakilincclnpdaaGreatDoorWby
namespace Go.Proofs.YtakilincclnpdaaGreatDoor
open Go.RowKit

theorem val_take_succ' (xs : List Int) (k : Nat) : val (xs.take (k + 1)) = val (xs.take k) + xs.getD k 0 * 10000 ^ k := by
  by_cases h : k < xs.length
  · exact val_take_succ h
  · rw [val_take_full (show xs.length ≤ k + 1 by omega), val_take_full (show xs.length ≤ k by omega), List.getD_eq_getElem?_getD, List.getElem?_eq_none (by omega)]
    simp
theorem Dig.at' {xs : List Int} (h : Dig xs) (i : Nat) : 0 ≤ xs.getD i 0 ∧ xs.getD i 0 ≤ 9999 := by
  by_cases hi : i < xs.length
  · exact h.at hi
  · rw [List.getD_eq_getElem?_getD, List.getElem?_eq_none (by omega)]; simp
/-- what the adding loop keeps. -/
def AddSt (xs ys : List Int) (sg : Int) (N i : Nat) (c : Int) (out : List Int) : Prop :=
  out.length = N ∧ Dig out ∧ (∀ k, i ≤ k → out.getD k 0 = 0) ∧ val out + c * 10000 ^ i = val (xs.take i) + sg * val (ys.take i)
theorem AddSt.start (xs ys : List Int) (sg : Int) (N : Nat) : AddSt xs ys sg N 0 0 (List.replicate N 0) := by
  refine ⟨List.length_replicate, Dig.zeros _, fun k _ => ?_, by rw [val_zeros]; simp [val]⟩
  rw [List.getD_eq_getElem?_getD, List.getElem?_replicate]; split <;> rfl
theorem AddSt.step {xs ys out : List Int} {sg : Int} {N i : Nat} {c r c' : Int} (h : AddSt xs ys sg N i c out) (hi : i < N) (hr : r + c' * 10000 = c + xs.getD i 0 + sg * ys.getD i 0) (r0 : 0 ≤ r) (r1 : r ≤ 9999) : AddSt xs ys sg N (i + 1) c' (out.set i r) := by
  obtain ⟨h1, h2, h3, h4⟩ := h
  refine ⟨by rw [List.length_set]; exact h1, h2.set i r0 r1, fun k hk => ?_, ?_⟩
  · rw [List.getD_eq_getElem?_getD, List.getElem?_set, if_neg (by omega), ← List.getD_eq_getElem?_getD]
    exact h3 k (by omega)
  · rw [val_set _ (by omega), h3 i (Nat.le_refl _), val_take_succ' xs, val_take_succ' ys, Int.pow_succ]
    have e : r = c + xs.getD i 0 + sg * ys.getD i 0 - c' * 10000 := by omega
    subst e
    generalize (10000 : Int) ^ i = p at *
    generalize xs.getD i 0 = a
    generalize ys.getD i 0 = b
    generalize val (xs.take i) = vx at *
    generalize val (ys.take i) = vy at *
    clear hr r0 r1
    grind
theorem AddSt.finish {xs ys out : List Int} {sg : Int} {N : Nat} {c : Int} (h : AddSt xs ys sg N N c out) (hx : Dig xs) (hy : Dig ys) (hlx : xs.length + 1 ≤ N) (hly : ys.length + 1 ≤ N) (hsg : sg = 1 ∨ (sg = -1 ∧ val ys ≤ val xs)) : val out = val xs + sg * val ys := by
  obtain ⟨h1, h2, _, h4⟩ := h
  rw [val_take_full (show xs.length ≤ N by omega), val_take_full (show ys.length ≤ N by omega)] at h4
  have a0 := val_nonneg hx
  have a1 := val_lt hx
  have b0 := val_nonneg hy
  have b1 := val_lt hy
  obtain ⟨M, rfl⟩ : ∃ M, N = M + 1 := ⟨N - 1, by omega⟩
  have hm : ∀ k, k ≤ M → (10000 : Int) ^ k ≤ 10000 ^ M := fun k hk => by
    have := Nat.pow_le_pow_right (n := 10000) (by decide) hk
    have e1 : ((10000 ^ k : Nat) : Int) = (10000 : Int) ^ k := Int.natCast_pow _ _
    have e2 : ((10000 ^ M : Nat) : Int) = (10000 : Int) ^ M := Int.natCast_pow _ _
    omega
  have m1 := hm xs.length (by omega)
  have m2 := hm ys.length (by omega)
  refine (carry_zero h2 h1 h4 ?_ ?_).2
  · rcases hsg with rfl | ⟨rfl, h⟩ <;> omega
  · rw [Int.pow_succ]
    rcases hsg with rfl | ⟨rfl, h⟩ <;> omega
/-- returned a row of the call's own whose limbs make t. -/
def RetLimbs (t : Int) (w : World) (e : Ending) (w' : World) : Prop := ∃ v out, e = .returned v ∧ Below w.heap.size w w' ∧ Own w' w.heap.size v out ∧ Dig out ∧ val out = t ∧ out.length ≤ 1001
set_option maxRecDepth 4000 in
set_option maxHeartbeats 4000000 in
theorem addLimbs_any (v u : Value) (xs ys : List Int) (sg : Int) (w : World) (hr : Rd w v xs) (hr' : Rd w u ys) (hxd : Dig xs) (hyd : Dig ys) (hl : xs.length ≤ 1000) (hl' : ys.length ≤ 1000) (hsg : sg = 1 ∨ (sg = -1 ∧ val ys ≤ val xs)) :
    Calls Tryz.prog 111 #[v, u, .int .i64 sg] w (RetLimbs (val xs + sg * val ys) w) := by
  obtain ⟨i0, hi, hz0, hz1, hz2⟩ := info_parts Tryz.info_int
  obtain ⟨t, ht⟩ : ∃ t, val xs + sg * val ys = t := ⟨_, rfl⟩
  rw [ht]
  have hs2 : sg = 1 ∨ sg = -1 := by rcases hsg with h | h; exact .inl h; exact .inr h.1
  obtain ⟨sg', hss⟩ : ∃ s, s = sg := ⟨sg, rfl⟩
  rw [← hss] at ht hsg
  have HS := Lib.hid hss; clear hss
  have HT := Lib.hid ht; clear ht
  have HSG := Lib.hid hsg
  have HR := Lib.hid hr
  have HR' := Lib.hid hr'
  have HXD := Lib.hid hxd; clear hxd
  have HYD := Lib.hid hyd; clear hyd
  obtain ⟨ad, cap, rfl, _, _⟩ := hr
  obtain ⟨ad', cap', rfl, _, _⟩ := hr'
  obtain ⟨la, hla⟩ : ∃ la, xs.length = la := ⟨_, rfl⟩
  obtain ⟨lb, hlb⟩ : ∃ lb, ys.length = lb := ⟨_, rfl⟩
  rw [hla] at hl ⊢
  rw [hlb] at hl' ⊢
  have HLA := Lib.hid hla; clear hla
  have HLB := Lib.hid hlb; clear hlb
  clear hsg
  have hmm : la < lb ∨ lb ≤ la := Nat.lt_or_ge la lb
  rcases hs2 with hs | hs
  all_goals
    subst hs
    rcases hmm with hm | hm
    all_goals
      go_enter Tryz.func111, Tryz.ntmps111
      go_wp2_with (first | (at_make; first | refine wpList_make_full _ rfl _ _ 24 rfl w.heap.size 3 i0 (.int .i64 0) 1 Tryz.underlying24 hi hz0 hz1 _ _ _ _ (lb + 1) rfl rfl rfl rfl ?_ ?_ ?_ ?_ | refine wpList_make_full _ rfl _ _ 24 rfl w.heap.size 3 i0 (.int .i64 0) 1 Tryz.underlying24 hi hz0 hz1 _ _ _ _ (la + 1) rfl rfl rfl rfl ?_ ?_ ?_ ?_))
      any_goals first | omega | (rw [hz2]; omega) | (unfold maxLen; omega) | exact Nat.le_refl _
      intro w1 hown hgr
      have hb1 : Below w.heap.size w w1 := (Below.refl _ _).grown hgr (Nat.le_refl _) (fun k h => by cases h)
      obtain ⟨N, hN⟩ : ∃ N, (if la < lb then lb else la) + 1 = N := ⟨_, rfl⟩
      first
      | (rw [if_pos hm] at hN; rw [hN] at hown ⊢)
      | (rw [if_neg (by omega)] at hN; rw [hN] at hown ⊢)
      have hN1 : N ≤ 1001 := by omega
      have hNa : la + 1 ≤ N := by omega
      have hNb : lb + 1 ≤ N := by omega
      have hin : Own w1 w.heap.size (.slice (some ⟨w.heap.size, 0, none⟩) N N) (List.replicate N 0) := by
        have e : (madeCells #[Value.int .i64 0] N).toList = (List.replicate N (0 : Int)).map (Value.int .i64) := by
          have := toList_madeCells_one (.int .i64 0) N
          rw [this]; simp
        unfold Own
        rw [← e]
        simp only [List.length_replicate]
        exact hown
      clear hown hgr hN hm
      obtain ⟨g, hg⟩ : ∃ g, w.heap.size = g := ⟨_, rfl⟩
      rw [hg] at hin ⊢
      go_wp2_with fail
      go_loopw [8, 20] (fun p q wr => ∃ (c : Int) (i : Nat) (out : List Int), p = .int .i64 c ∧ q = .int .i64 i ∧ -1 ≤ c ∧ c ≤ 1 ∧ i ≤ N ∧ Below g w wr ∧ Own wr g (.slice (some ⟨g, 0, none⟩) N N) out ∧ Hid (AddSt xs ys sg' N i c out)) (fun _ q _ => N - (intOf q).toNat)
      case atStart => exact ⟨0, 0, _, rfl, rfl, by omega, by omega, Nat.zero_le _, by rw [← hg]; exact hb1, hin, AddSt.start xs ys sg' N⟩
      case round =>
        obtain ⟨c, i, out, rfl, rfl, c0, c1, hiN, hbel, hown0, HI⟩ := hrel
        have hi0 : (0 : Int) ≤ (i : Int) := Int.natCast_nonneg _
        have hlen : out.length = N := HI.out.1
        have hown : Own wr g (.slice (some ⟨g, 0, none⟩) out.length N) out := by rw [hlen]; exact hown0
        by_cases hlt : i < N
        · have hiN' : (i : Int) < (N : Int) := by omega
          have hck := hown.cellAt i (by omega)
          rw [HI.out.2.2.1 i (Nat.le_refl _)] at hck
          have hfz := World.ownsRow.frozenAt hown i
          have hst : ∀ u : Int, Own (wr.setCell ⟨g, i, none⟩ (.int .i64 u)) g (.slice (some ⟨g, 0, none⟩) N N) (out.set i u) := fun u => by
            have h := (World.ownsRow.stored hown i (.int .i64 u)).1
            unfold Own
            rw [List.map_set, List.length_set]
            rw [hlen] at h ⊢
            exact h
          have HST := Lib.hid hst
          have hab := HXD.out.at' i
          have hbb := HYD.out.at' i
          have hca : i < la → ∃ b off, ad = some ⟨b, off, none⟩ ∧ wr.cell? ⟨b, off + i, none⟩ = some (.int .i64 (xs.getD i 0)) := fun h => by
            obtain ⟨b, off, h1, h2, h3⟩ := rd_cell HR.out (by rw [HLA.out]; omega)
            exact ⟨b, off, h1, ((hbel.mono (by omega)).cell (p := ⟨b, off + i, none⟩) h2).trans (h3 i (by rw [HLA.out]; exact h))⟩
          have hcb : i < lb → ∃ b off, ad' = some ⟨b, off, none⟩ ∧ wr.cell? ⟨b, off + i, none⟩ = some (.int .i64 (ys.getD i 0)) := fun h => by
            obtain ⟨b, off, h1, h2, h3⟩ := rd_cell HR'.out (by rw [HLB.out]; omega)
            exact ⟨b, off, h1, ((hbel.mono (by omega)).cell (p := ⟨b, off + i, none⟩) h2).trans (h3 i (by rw [HLB.out]; exact h))⟩
          have hna : ¬ i < la → xs.getD i 0 = 0 := fun h => by rw [List.getD_eq_getElem?_getD, List.getElem?_eq_none (by rw [HLA.out]; omega)]; rfl
          have hnb : ¬ i < lb → ys.getD i 0 = 0 := fun h => by rw [List.getD_eq_getElem?_getD, List.getElem?_eq_none (by rw [HLB.out]; omega)]; rfl
          have hstep := fun c' r => AddSt.step (c' := c') (r := r) HI.out hlt
          rw [HS.out] at hstep
          generalize xs.getD i 0 = a at *
          generalize ys.getD i 0 = b at *
          have HSTEP := Lib.hid hstep
          clear hstep hst hown hlen hown0
          by_cases h1 : i < la
          all_goals
            by_cases h2 : i < lb
            all_goals
              first
              | (obtain ⟨bx, ox, rfl, hcx⟩ := hca h1
                 have h1' : (i : Int) < (la : Int) := by omega)
              | (have ha0 := hna h1
                 have h1' : (la : Int) ≤ (i : Int) := by omega)
              first
              | (obtain ⟨by', oy, rfl, hcy⟩ := hcb h2
                 have h2' : (i : Int) < (lb : Int) := by omega)
              | (have hb0 := hnb h2
                 have h2' : (lb : Int) ≤ (i : Int) := by omega)
              clear hca hcb hna hnb h1 h2
              have hs0 := HS.out
              by_cases hx1 : c + a + sg' * b < 0
              all_goals (try by_cases hx2 : 10000 ≤ c + a + sg' * b)
              all_goals (rw [hs0] at hx1; try rw [hs0] at hx2)
              all_goals clear hs0
              all_goals
                go_wp2_with fail
                all_goals
                  go_roundw
                  case rel => exact ⟨_, i + 1, _, rfl, by go_num, by omega, by omega, by omega, hbel.setCell (Nat.le_refl _) _, HST.out _, by unfold Hid; rw [HS.out]; exact HSTEP.out _ _ (by omega) (by omega) (by omega)⟩
                  case measure => simp [intOf]; omega
        · have hil : i = N := by omega
          subst hil
          have hv := HI.out.finish HXD.out HYD.out (by rw [HLA.out]; omega) (by rw [HLB.out]; omega) HSG.out
          rw [HT.out] at hv
          have HV := Lib.hid hv
          have HD := Lib.hid HI.out.2.1
          clear hv hown
          go_wp2_with fail
          go_ret
          exact ⟨_, out, rfl, by rw [hg]; exact hbel, by unfold Own; rw [hlen, hg]; have := hown0; unfold Own at this; rw [hlen] at this; exact this, HD.out, HV.out, by omega⟩
end Go.Proofs.YtakilincclnpdaaGreatDoor
