/- Yh: draws of wholes. No conditions. -/
import Derived.Test.YtakilincclnpdaaGreatDoorYgy
import Derived.Test.YtakilincclnpdaaGreatDoorDcy
namespace Go.Proofs.YtakilincclnpdaaGreatDoor
open Go.RowKit

/-- a box of two values, another than the reader's. -/
def BoxV (B : Nat) (w : World) (n : Nat) (u0 u1 : Value) : Prop := n < w.heap.size ∧ n ≠ B ∧ w.cell? ⟨n, 0, none⟩ = some u0 ∧ w.cell? ⟨n, 1, none⟩ = some u1 ∧ w.frozen? ⟨n, 0, none⟩ = false ∧ w.frozen? ⟨n, 1, none⟩ = false
theorem BoxV.keep {B n : Nat} {w w' : World} {u0 u1 : Value} (h : BoxV B w n u0 u1) (g : w.grownBy w' (some B)) : BoxV B w' n u0 u1 := by
  obtain ⟨h1, h2, h3, h4, h5, h6⟩ := h
  exact ⟨Nat.lt_of_lt_of_le h1 g.size, h2, (grown_cell g h1 h2).trans h3, (grown_cell g h1 h2).trans h4, (grown_frozen g h1 h2).trans h5, (grown_frozen g h1 h2).trans h6⟩
theorem BoxV.new {B : Nat} {w : World} (u0 u1 : Value) (t : TypeId) (hB : B < w.heap.size) : BoxV B (w.alloc (.cells #[u0, u1] t)) w.heap.size u0 u1 :=
  ⟨by simp, by omega, by simp [go_sem], by simp [go_sem], by simp [go_sem], by simp [go_sem]⟩
theorem BoxV.far1 {B n m o : Nat} {w : World} {u0 u1 v : Value} (h : BoxV B w n u0 u1) (_hne : n ≠ m) : BoxV B (w.setCell ⟨m, o, none⟩ v) n u0 u1 := by
  obtain ⟨h1, h2, h3, h4, h5, h6⟩ := h
  exact ⟨by simpa using h1, h2, by simp [go_sem, h3], by simp [go_sem, h4], by simp [go_sem, h5], by simp [go_sem, h6]⟩
theorem own_keepG {B base : Nat} {w w' : World} {v : Value} {xs : List Int} (h : Own w base v xs) (g : w.grownBy w' (some B)) (hB : B < base) : Own w' base v xs := by
  obtain ⟨h1, h2⟩ := h
  refine ⟨h1, ?_⟩
  rcases h2 with h2 | ⟨k, cap, cur, hv, hg, hh, r⟩
  · exact .inl h2
  · have hlt : k < w.heap.size := by
      rcases Nat.lt_or_ge k w.heap.size with h' | h'
      · exact h'
      · rw [Array.getElem?_eq_none h'] at hh; cases hh
    exact .inr ⟨k, cap, cur, hv, hg, (g.block k hlt (by intro e; cases e; omega)).trans hh, r⟩
theorem own_snocG {B base r : Nat} {lim : Int} {u0 u1 : Value} {w0 wr w1 : World} {v v' : Value} {l : List Int} {p : Int} {o : Obj} (hg0 : w0.grownBy wr (some B)) (hc : Cr wr B lim) (hr : BoxV B wr r u0 u1) (hbase : w0.heap.size ≤ base) (hB : B < base) (hrb : r < base) (hown : Own wr base v l)
    (hown1 : w1.ownsRow base 3 1 v' (l.length + 1) (l.map (Value.int .i64) ++ [.int .i64 p])) (hg : (wr.alloc o).grownBy w1 v.ownBlock) : w0.grownBy w1 (some B) ∧ Cr w1 B lim ∧ BoxV B w1 r u0 u1 ∧ Own w1 base v' (l ++ [p]) := by
  have hlt := fun k hk => ((hown : World.ownsRow _ _ _ _ _ _ _).lt k hk).1
  have ha : Below (B + 1) wr (wr.alloc o) := (Below.refl _ _).alloc (by have := hc.lt; omega) o
  have hb : Below (B + 1) wr w1 := ha.grown hg (Nat.le_trans (by have := hc.lt; omega) ha.size) (fun k hk => by have := hlt k hk; omega)
  have ha2 : Below (r + 1) wr (wr.alloc o) := (Below.refl _ _).alloc (by have := hr.1; omega) o
  have hb2 : Below (r + 1) wr w1 := ha2.grown hg (Nat.le_trans (by have := hr.1; omega) ha2.size) (fun k hk => by have := hlt k hk; omega)
  have ha3 : wr.grownBy (wr.alloc o) (some B) := below_grown B (below_allocD wr o)
  refine ⟨⟨hg.os.trans (ha3.os.trans hg0.os), hg.tape.trans (ha3.tape.trans hg0.tape), hg.output.trans (ha3.output.trans hg0.output), Nat.le_trans hg0.size (Nat.le_trans ha3.size hg.size), fun i hi hne => ?_⟩, hc.keep hb, ?_, ?_⟩
  · have h1 : i < wr.heap.size := Nat.lt_of_lt_of_le hi hg0.size
    rw [hg.block i (Nat.lt_of_lt_of_le h1 ha3.size) (fun e => by have := hlt i e.symm; omega), ha3.block i h1 hne, hg0.block i hi hne]
  · obtain ⟨h1, h2, h3, h4, h5, h6⟩ := hr
    exact ⟨Nat.lt_of_lt_of_le h1 hb2.size, h2, (hb2.cell (p := ⟨r, 0, none⟩) (Nat.lt_succ_self _)).trans h3, (hb2.cell (p := ⟨r, 1, none⟩) (Nat.lt_succ_self _)).trans h4, (hb2.frozen (p := ⟨r, 0, none⟩) (Nat.lt_succ_self _)).trans h5, (hb2.frozen (p := ⟨r, 1, none⟩) (Nat.lt_succ_self _)).trans h6⟩
  · unfold Own
    rw [List.map_append, List.length_append]
    exact hown1
theorem digs_of_val {neg : Bool} {xs : List Int} {z : Int} (hd : Dig xs) (hz : (if neg = true then -(val xs) else val xs) = z) : (digs z.natAbs).length ≤ xs.length := by
  apply digs_lt
  have h0 := val_nonneg hd
  have h1 := val_lt hd
  have e := Int.natCast_pow 10000 xs.length
  have e3 : ((10000 : Nat) : Int) = 10000 := rfl
  rw [e3] at e
  rw [← e] at h1
  have h2 : (z.natAbs : Int) = val xs := by subst hz; split <;> omega
  omega
theorem amongMem_any (B : Nat) (lim : Int) (w : World) (xs : List Int) (t : TypeId) (h : Cr w B lim) (hl : lim ≤ 3000000000000000000) (h0 : 0 < xs.length) (h1 : xs.length ≤ 1000) :
    Calls Tryz.prog 65 #[.pointer (some ⟨B, 0, none⟩), .slice (some ⟨w.heap.size, 0, none⟩) xs.length xs.length] (w.alloc (.cells (xs.map (Value.int .i64)).toArray t)) (RetC (OneOf xs) B (lim + 2) w) :=
  (among_any B lim _ xs _ (h.keep' (below_allocD w _)) hl (rdx_lit h.lt xs t h0 h1)).mono fun _ _ ⟨v, he, hv, hg, hc⟩ => ⟨v, he, hv, grown_trans (below_grown B (below_allocD w _)) hg, hc⟩
/-- returned a valid whole of the call's own. -/
def RetDW (B : Nat) (lim : Int) (w : World) (e : Ending) (w' : World) : Prop := ∃ (v : Value) (z : Int), e = .returned v ∧ WO w' w.heap.size v z ∧ (digs z.natAbs).length ≤ 400 ∧ w.grownBy w' (some B) ∧ Cr w' B lim
set_option maxRecDepth 100000 in
set_option maxHeartbeats 8000000 in
theorem whole_any (B : Nat) (lim : Int) (w : World) (h : Cr w B lim) (hl : lim ≤ 100000000000000) :
    Calls Tryz.prog 78 #[.pointer (some ⟨B, 0, none⟩)] w (RetDW B (lim + 10000) w) := by
  obtain ⟨i0, hi, hz0, hz1, hz2⟩ := info_parts Tryz.info_int
  have hB := h.lt
  have hb0 : Below w.heap.size w (w.alloc (.cells #[.bool false, .slice none 0 0] 26)) := below_allocD _ _
  have HC := Lib.hid (h.keep' hb0)
  have HG := Lib.hid (below_grown B hb0)
  have HR := Lib.hid (BoxV.new (B := B) (.bool false) (.slice none 0 0) 26 hB)
  clear h hb0
  unfold RetDW
  go_enter Tryz.func78, Tryz.ntmps78
  go_wp2_with fail
  refine (one_any B _ 3 _ HC.out (by omega) (by omega) (by omega)).mono ?_; rintro e w1 ⟨v, rfl, ⟨bo, rfl⟩, hg, hc⟩
  have HC1 := Lib.hid hc; have HG1 := Lib.hid (grown_trans HG.out hg); have HR1 := Lib.hid (HR.out.keep hg); clear hg hc HC HG HR
  cases bo
  · go_wp2_with fail
    refine (pick_any B _ 6 _ HC1.out (by omega) (by omega) (by omega)).mono ?_; rintro e w2 ⟨v, rfl, ⟨x, rfl, x0, x1⟩, hg, hc⟩
    have HC2 := Lib.hid hc; have HG2 := Lib.hid (grown_trans HG1.out hg); have HR2 := Lib.hid (HR1.out.keep hg); clear hg hc HC1 HG1 HR1
    have hwx : IntKind.i64.wrap (1 + x) = 1 + x := wrapi (by omega) (by omega)
    go_wp2_with fail
    refine (one_any B _ 24 _ HC2.out (by omega) (by omega) (by omega)).mono ?_; rintro e w3 ⟨v, rfl, ⟨bo, rfl⟩, hg, hc⟩
    have HC3 := Lib.hid hc; have HG3 := Lib.hid (grown_trans HG2.out hg); have HR3 := Lib.hid (HR2.out.keep hg); clear hg hc HC2 HG2 HR2
    clear hwx
    cases bo
    · obtain ⟨N, hN⟩ : ∃ N : Nat, 1 + x = (N : Int) := ⟨(1 + x).toNat, by omega⟩
      rw [hN]
      have hN1 : 1 ≤ N := by omega
      have hN2 : N ≤ 400 := by omega
      clear hN x0 x1
      go_wp2_with fail
      go_loopw [4] (fun y wr => ∃ xs : List Int, xs.length ≤ N ∧ Hid (Dig xs) ∧ Hid (Own wr (w.heap.size + 1) y xs) ∧ Hid (Cr wr B (lim + 20 + 4 * (xs.length : Int))) ∧ Hid (w.grownBy wr (some B)) ∧ Hid (BoxV B wr w.heap.size (.bool false) (.slice none 0 0))) (fun y _ => N - slLen y)
      case atStart => exact ⟨[], Nat.zero_le _, fun _ h => (by cases h), Own.nil _ _, HC3.out.le (by simp; omega), HG3.out, HR3.out⟩
      case round =>
        obtain ⟨xs, hxl, HD, HO, HC, HG, HR⟩ := hrel
        clear HC3 HG3 HR3
        by_cases hlt : xs.length < N
        · have hlt' : (xs.length : Int) < (N : Int) := by omega
          obtain ⟨ad, cap, rfl⟩ := HO.out.len
          go_wp2_with fail
          refine (pick_any B _ 10000 _ HC.out (by omega) (by omega) (by omega)).mono ?_; rintro e w5 ⟨v, rfl, ⟨x, rfl, x0, x1⟩, hg, hc⟩
          have HC5 := Lib.hid hc; have HG5 := Lib.hid (grown_trans HG.out hg); have HR5 := Lib.hid (HR.out.keep hg); have HO5 := Lib.hid (own_keepG HO.out hg (by omega)); clear hg hc HC HG HR HO
          go_wp2_with fail
          refine (amongMem_any B _ _ [0, 9999, 1, x] _ HC5.out (by omega) (by simp) (by simp)).mono ?_; rintro e w6 ⟨v, rfl, ⟨y, rfl, hy⟩, hg, hc⟩
          have hyb : 0 ≤ y ∧ y ≤ 9999 := by simp only [List.mem_cons, List.not_mem_nil, or_false] at hy; omega
          clear hy
          have HC6 := Lib.hid hc; have HG6 := Lib.hid (grown_trans HG5.out hg); have HR6 := Lib.hid (HR5.out.keep hg); have HO6 := Lib.hid (own_keepG HO5.out hg (by omega)); clear hg hc HC5 HG5 HR5 HO5
          have hsz6 := HG6.out.size
          have hown' : w6.ownsRow (w.heap.size + 1) 3 1 (.slice ad xs.length cap) xs.length (xs.map (Value.int .i64)) := HO6.out
          have hrl := HR6.out.1
          obtain ⟨LN, hLN⟩ : ∃ n, n = xs.length := ⟨_, rfl⟩
          go_wp2_with (first | (at_builtin; refine wpList_append_own _ rfl _ _ 24 rfl (w.heap.size + 1) 3 i0 (.int .i64 0) 1 8 Tryz.underlying24 hi hz0 hz1 hz2 rfl (by decide) _ _ _ rfl (hown'.alloc _) ⟨w6.heap.size, 0, none⟩ 1 1 [.int .i64 y] rfl rfl (cell_one_new _ _ _) ?_ ?_ ?_ ?_ ?_))
          · first | rfl | (intro u hu; simp at hu; subst hu; rfl)
          · unfold maxLen; omega
          · omega
          · simp; omega
          · intro v' w7 hown5 hgrow _
            obtain ⟨q1, q2, q3, q4⟩ := own_snocG (r := w.heap.size) HG6.out HC6.out HR6.out (Nat.le_succ _) (by omega) (by omega) HO6.out hown5 hgrow
            have hd2 : Dig (xs ++ [y]) := fun u hu => by
              rcases List.mem_append.1 hu with hu | hu
              · exact HD.out u hu
              · rw [List.mem_singleton.1 hu]; exact hyb
            clear hown5 hgrow hown' HC6 HG6 HO6 HR6 hLN
            obtain ⟨ad2, cap2, rfl⟩ := q4.len
            go_wp2_with fail
            go_roundw
            case rel => exact ⟨xs ++ [y], by rw [List.length_append]; simp; omega, hd2, q4, q2.le (by rw [List.length_append]; simp; omega), q1, q3⟩
            case measure => simp [slLen]; omega
        · have hlx : xs.length = N := by omega
          clear hxl hlt
          have HCn := Lib.hid (show Cr wr B (lim + 20 + 4 * (N : Int)) by rw [← hlx]; exact HC.out); clear HC; have HC := Lib.hid HCn.out; clear HCn
          rcases HO.out.shape with ⟨_, hnil⟩ | ⟨g, cap, rfl, hg1, hg2, hg3, hg4⟩
          · exfalso; rw [hnil] at hlx; simp at hlx; omega
          have HO := Lib.hid HO.out
          rw [hlx] at hg3 ⊢
          have hnl : ¬ (N : Int) < (N : Int) := by omega
          have hN1' : (0 : Int) ≤ (N : Int) - 1 := by omega
          have hwn : IntKind.i64.wrap ((N : Int) - 1) = (N : Int) - 1 := wrapi (by omega) (by omega)
          go_wp2_with fail
          refine (pick_any B _ 9999 _ HC.out (by omega) (by omega) (by omega)).mono ?_; rintro e w5 ⟨v, rfl, ⟨x, rfl, x0, x1⟩, hg, hc⟩
          have HC5 := Lib.hid hc; have HG5 := Lib.hid (grown_trans HG.out hg); have HR5 := Lib.hid (HR.out.keep hg); have HO5 := Lib.hid (own_keepG HO.out hg (by omega)); clear hg hc HC HG HR HO
          have hck := HO5.out.cellAt (N - 1) (by omega)
          have hfz := World.ownsRow.frozenAt HO5.out (N - 1)
          have hst := (World.ownsRow.stored HO5.out (N - 1) (.int .i64 (1 + x))).1
          rw [← List.map_set] at hst
          have hst2 : Own (w5.setCell ⟨g, N - 1, none⟩ (.int .i64 (1 + x))) (w.heap.size + 1) (.slice (some ⟨g, 0, none⟩) (xs.set (N - 1) (1 + x)).length cap) (xs.set (N - 1) (1 + x)) := by
            unfold Own; rw [List.length_set]; exact hst
          have hd2 := HD.out.set (N - 1) (v := 1 + x) (by omega) (by omega)
          have hl2 : (xs.set (N - 1) (1 + x)).length = N := by rw [List.length_set]; exact hlx
          have HST := Lib.hid hst2; have HD2 := Lib.hid hd2; have HL2 := Lib.hid hl2; clear hst hst2 hd2 hl2 HO5 HD hlx
          have hwx : IntKind.i64.wrap (1 + x) = 1 + x := wrapi (by omega) (by omega)
          generalize xs.getD (N - 1) 0 = x9 at hck
          have hgB : B < g := by omega
          have hgw : w.heap.size ≤ g := by omega
          have hgn : w.heap.size ≠ g := by omega
          go_wp2_with fail
          have HC6 := Lib.hid (set_cr HC5.out hgB (.int .i64 (1 + x)) (o := N - 1)); have HG6 := Lib.hid (set_grown HG5.out hgw (.int .i64 (1 + x)) (o := N - 1)); have HR6 := Lib.hid (HR5.out.far1 hgn (v := .int .i64 (1 + x)) (o := N - 1))
          clear HC5 HG5 HR5 hck hfz
          obtain ⟨ys, hys⟩ : ∃ ys, ys = xs.set (N - 1) (1 + x) := ⟨_, rfl⟩
          rw [← hys] at HST HD2 HL2
          clear hys
          have HO6 := Lib.hid HST.out; have HD := Lib.hid HD2.out; have hlx := HL2.out
          clear HST HD2 HL2
          generalize w5.setCell ⟨g, N - 1, none⟩ (.int .i64 (1 + x)) = W6 at HC6 HG6 HR6 HO6 ⊢
          refine (one_any B _ 4 _ HC6.out (by omega) (by omega) (by omega)).mono ?_; rintro e w7 ⟨v, rfl, ⟨bo, rfl⟩, hg, hc⟩
          have HC7 := Lib.hid hc; have HG7 := Lib.hid (grown_trans HG6.out hg); have HR7 := Lib.hid (HR6.out.keep hg); have HO7 := Lib.hid (own_keepG HO6.out hg (by omega)); clear hg hc HC6 HG6 HR6 HO6
          cases bo
          · skip
            go_wp2_with fail
            refine (one_any B _ 3 _ HC7.out (by omega) (by omega) (by omega)).mono ?_; rintro e w9 ⟨v, rfl, ⟨bn, rfl⟩, hg, hc⟩
            have HC9 := Lib.hid hc; have HG9 := Lib.hid (grown_trans HG7.out hg); have HR9 := Lib.hid (HR7.out.keep hg); have HO9 := Lib.hid (own_keepG HO7.out hg (by omega)); clear hg hc HC7 HG7 HR7 HO7; have HG9z := Lib.hid HR9.out.1
            have hmk := bgMake_any bn (.slice (some ⟨g, 0, none⟩) ys.length cap) ys w9 HO9.out.rd HO9.out.slok HD.out (by omega)
            obtain ⟨z, hz⟩ : ∃ z, (if bn = true then -(val ys) else val ys) = z := ⟨_, rfl⟩
            rw [hz, hlx] at hmk
            have hzl : (digs z.natAbs).length ≤ 400 := Nat.le_trans (digs_of_val (neg := bn) HD.out hz) (by omega)
            have HMK := Lib.hid hmk; have HZL := Lib.hid hzl; clear hmk hzl hz
            go_wp2_with fail
            refine HMK.out.mono ?_; rintro e w10 ⟨v, rfl, hb, ho⟩
            have hg := below_grown B hb
            have hc := HC9.out.keep' hb
            clear hb
            have HC10 := Lib.hid hc; have HG10 := Lib.hid (grown_trans HG9.out hg); have HR10 := Lib.hid (HR9.out.keep hg); clear hg hc HC9 HG9 HR9 HO9
            have HV := Lib.hid (ho.le (B' := w.heap.size + 1) (by have := HG9z.out; omega))
            obtain ⟨ad2, cap2, hv2, _⟩ := ho
            generalize decide (z < 0) = bz at hv2
            generalize (digs z.natAbs).length = lz at hv2
            subst hv2
            obtain ⟨r1, r2, r3, r4, r5, r6⟩ := HR10.out
            go_wp2_with fail
            refine bodyPost_ret (by simp (maxDischargeDepth := 3) [results, Tryz.results78, go_sem, *]; try rfl) rfl ?_
            exact ⟨_, z, rfl, ((HV.out.setFar (by omega) _ _).setFar (by omega) _ _).le (by omega), HZL.out, set_grown (set_grown HG10.out (Nat.le_refl _) _) (Nat.le_refl _) _, (set_cr (set_cr HC10.out (by omega) _) (by omega) _).le (by omega)⟩
          · go_wp2_with fail
            go_loopw [46] (fun q wr => ∃ (k : Nat) (zs : List Int), q = .int .i64 k ∧ k ≤ N ∧ zs.length = N ∧ Hid (Dig zs) ∧ Hid (Own wr (w.heap.size + 1) (.slice (some ⟨g, 0, none⟩) zs.length cap) zs) ∧ Hid (Cr wr B (lim + 40 + 4 * (N : Int))) ∧ Hid (w.grownBy wr (some B)) ∧ Hid (BoxV B wr w.heap.size (.bool false) (.slice none 0 0))) (fun q _ => N - (intOf q).toNat)
            case atStart => exact ⟨0, ys, rfl, Nat.zero_le _, hlx, HD, HO7, HC7.out.le (by omega), HG7, HR7⟩
            case round =>
              obtain ⟨k, zs, rfl, hk, hlz, HDz, HO8, HC8, HG8, HR8⟩ := hrel
              clear HC7 HG7 HR7 HO7 HD hlx
              have hk0 : (0 : Int) ≤ (k : Int) := Int.natCast_nonneg _
              by_cases hkl : k < N
              · have hkl' : (k : Int) < (N : Int) := by omega
                have hck := HO8.out.cellAt k (by omega)
                have hfz := World.ownsRow.frozenAt HO8.out k
                have hst := (World.ownsRow.stored HO8.out k (.int .i64 9999)).1
                rw [← List.map_set] at hst
                have hst2 : Own (wr.setCell ⟨g, k, none⟩ (.int .i64 9999)) (w.heap.size + 1) (.slice (some ⟨g, 0, none⟩) (zs.set k 9999).length cap) (zs.set k 9999) := by
                  unfold Own; rw [List.length_set]; exact hst
                have hd2 := HDz.out.set k (v := 9999) (by omega) (by omega)
                have hl2 : (zs.set k 9999).length = N := by rw [List.length_set]; exact hlz
                have HST := Lib.hid hst2; have HD2 := Lib.hid hd2; have HL2 := Lib.hid hl2; clear hst hst2 hd2 hl2
                generalize zs.getD k 0 = x9 at hck
                have HLZ := Lib.hid hlz; clear hlz
                have HC9 := Lib.hid (set_cr HC8.out hgB (.int .i64 9999) (o := k)); have HG9 := Lib.hid (set_grown HG8.out hgw (.int .i64 9999) (o := k)); have HR9 := Lib.hid (HR8.out.far1 hgn (v := .int .i64 9999) (o := k))
                clear HC8 HG8 HR8 HO8
                go_wp2_with fail
                go_roundw
                case rel => exact ⟨k + 1, zs.set k 9999, by go_num, by omega, HL2.out, HD2, HST, HC9, HG9, HR9⟩
                case measure => simp [intOf]; omega
              · have hkN : k = N := by omega
                subst hkN
                have HD := Lib.hid HDz.out
                have hlx := hlz
                have hnn : ¬ (k : Int) < (k : Int) := by omega
                go_wp2_with fail
                refine (one_any B _ 3 _ HC8.out (by omega) (by omega) (by omega)).mono ?_; rintro e w9 ⟨v, rfl, ⟨bn, rfl⟩, hg, hc⟩
                have HC9 := Lib.hid hc; have HG9 := Lib.hid (grown_trans HG8.out hg); have HR9 := Lib.hid (HR8.out.keep hg); have HO9 := Lib.hid (own_keepG HO8.out hg (by omega)); clear hg hc HC8 HG8 HR8 HO8; have HG9z := Lib.hid HR9.out.1
                have hmk := bgMake_any bn (.slice (some ⟨g, 0, none⟩) zs.length cap) zs w9 HO9.out.rd HO9.out.slok HD.out (by omega)
                obtain ⟨z, hz⟩ : ∃ z, (if bn = true then -(val zs) else val zs) = z := ⟨_, rfl⟩
                rw [hz, hlx] at hmk
                have hzl : (digs z.natAbs).length ≤ 400 := Nat.le_trans (digs_of_val (neg := bn) HD.out hz) (by omega)
                have HMK := Lib.hid hmk; have HZL := Lib.hid hzl; clear hmk hzl hz
                go_wp2_with fail
                refine HMK.out.mono ?_; rintro e w10 ⟨v, rfl, hb, ho⟩
                have hg := below_grown B hb
                have hc := HC9.out.keep' hb
                clear hb
                have HC10 := Lib.hid hc; have HG10 := Lib.hid (grown_trans HG9.out hg); have HR10 := Lib.hid (HR9.out.keep hg); clear hg hc HC9 HG9 HR9 HO9
                have HV := Lib.hid (ho.le (B' := w.heap.size + 1) (by have := HG9z.out; omega))
                obtain ⟨ad2, cap2, hv2, _⟩ := ho
                generalize decide (z < 0) = bz at hv2
                generalize (digs z.natAbs).length = lz at hv2
                subst hv2
                obtain ⟨r1, r2, r3, r4, r5, r6⟩ := HR10.out
                go_wp2_with fail
                refine bodyPost_ret (by simp (maxDischargeDepth := 3) [results, Tryz.results78, go_sem, *]; try rfl) rfl ?_
                exact ⟨_, z, rfl, ((HV.out.setFar (by omega) _ _).setFar (by omega) _ _).le (by omega), HZL.out, set_grown (set_grown HG10.out (Nat.le_refl _) _) (Nat.le_refl _) _, (set_cr (set_cr HC10.out (by omega) _) (by omega) _).le (by omega)⟩
    · go_wp2_with fail
      refine (amongMem_any B _ _ [40, 200, 400] _ HC3.out (by omega) (by simp) (by simp)).mono ?_; rintro e w4 ⟨v, rfl, ⟨y, rfl, hy⟩, hg, hc⟩
      have HC4 := Lib.hid hc; have HG4 := Lib.hid (grown_trans HG3.out hg); have HR4 := Lib.hid (HR3.out.keep hg); clear hg hc HC3 HG3 HR3
      obtain ⟨N, hN⟩ : ∃ N : Nat, y = (N : Int) := ⟨y.toNat, by simp only [List.mem_cons, List.not_mem_nil, or_false] at hy; omega⟩
      have hN1 : 1 ≤ N := by simp only [List.mem_cons, List.not_mem_nil, or_false] at hy; omega
      have hN2 : N ≤ 400 := by simp only [List.mem_cons, List.not_mem_nil, or_false] at hy; omega
      clear hy x0 x1
      subst hN
      go_wp2_with fail
      go_loopw [4] (fun y wr => ∃ xs : List Int, xs.length ≤ N ∧ Hid (Dig xs) ∧ Hid (Own wr (w.heap.size + 1) y xs) ∧ Hid (Cr wr B (lim + 20 + 4 * (xs.length : Int))) ∧ Hid (w.grownBy wr (some B)) ∧ Hid (BoxV B wr w.heap.size (.bool false) (.slice none 0 0))) (fun y _ => N - slLen y)
      case atStart => exact ⟨[], Nat.zero_le _, fun _ h => (by cases h), Own.nil _ _, HC4.out.le (by simp; omega), HG4.out, HR4.out⟩
      case round =>
        obtain ⟨xs, hxl, HD, HO, HC, HG, HR⟩ := hrel
        clear HC4 HG4 HR4
        by_cases hlt : xs.length < N
        · have hlt' : (xs.length : Int) < (N : Int) := by omega
          obtain ⟨ad, cap, rfl⟩ := HO.out.len
          go_wp2_with fail
          refine (pick_any B _ 10000 _ HC.out (by omega) (by omega) (by omega)).mono ?_; rintro e w5 ⟨v, rfl, ⟨x, rfl, x0, x1⟩, hg, hc⟩
          have HC5 := Lib.hid hc; have HG5 := Lib.hid (grown_trans HG.out hg); have HR5 := Lib.hid (HR.out.keep hg); have HO5 := Lib.hid (own_keepG HO.out hg (by omega)); clear hg hc HC HG HR HO
          go_wp2_with fail
          refine (amongMem_any B _ _ [0, 9999, 1, x] _ HC5.out (by omega) (by simp) (by simp)).mono ?_; rintro e w6 ⟨v, rfl, ⟨y, rfl, hy⟩, hg, hc⟩
          have hyb : 0 ≤ y ∧ y ≤ 9999 := by simp only [List.mem_cons, List.not_mem_nil, or_false] at hy; omega
          clear hy
          have HC6 := Lib.hid hc; have HG6 := Lib.hid (grown_trans HG5.out hg); have HR6 := Lib.hid (HR5.out.keep hg); have HO6 := Lib.hid (own_keepG HO5.out hg (by omega)); clear hg hc HC5 HG5 HR5 HO5
          have hsz6 := HG6.out.size
          have hown' : w6.ownsRow (w.heap.size + 1) 3 1 (.slice ad xs.length cap) xs.length (xs.map (Value.int .i64)) := HO6.out
          have hrl := HR6.out.1
          obtain ⟨LN, hLN⟩ : ∃ n, n = xs.length := ⟨_, rfl⟩
          go_wp2_with (first | (at_builtin; refine wpList_append_own _ rfl _ _ 24 rfl (w.heap.size + 1) 3 i0 (.int .i64 0) 1 8 Tryz.underlying24 hi hz0 hz1 hz2 rfl (by decide) _ _ _ rfl (hown'.alloc _) ⟨w6.heap.size, 0, none⟩ 1 1 [.int .i64 y] rfl rfl (cell_one_new _ _ _) ?_ ?_ ?_ ?_ ?_))
          · first | rfl | (intro u hu; simp at hu; subst hu; rfl)
          · unfold maxLen; omega
          · omega
          · simp; omega
          · intro v' w7 hown5 hgrow _
            obtain ⟨q1, q2, q3, q4⟩ := own_snocG (r := w.heap.size) HG6.out HC6.out HR6.out (Nat.le_succ _) (by omega) (by omega) HO6.out hown5 hgrow
            have hd2 : Dig (xs ++ [y]) := fun u hu => by
              rcases List.mem_append.1 hu with hu | hu
              · exact HD.out u hu
              · rw [List.mem_singleton.1 hu]; exact hyb
            clear hown5 hgrow hown' HC6 HG6 HO6 HR6 hLN
            obtain ⟨ad2, cap2, rfl⟩ := q4.len
            go_wp2_with fail
            go_roundw
            case rel => exact ⟨xs ++ [y], by rw [List.length_append]; simp; omega, hd2, q4, q2.le (by rw [List.length_append]; simp; omega), q1, q3⟩
            case measure => simp [slLen]; omega
        · have hlx : xs.length = N := by omega
          clear hxl hlt
          have HCn := Lib.hid (show Cr wr B (lim + 20 + 4 * (N : Int)) by rw [← hlx]; exact HC.out); clear HC; have HC := Lib.hid HCn.out; clear HCn
          rcases HO.out.shape with ⟨_, hnil⟩ | ⟨g, cap, rfl, hg1, hg2, hg3, hg4⟩
          · exfalso; rw [hnil] at hlx; simp at hlx; omega
          have HO := Lib.hid HO.out
          rw [hlx] at hg3 ⊢
          have hnl : ¬ (N : Int) < (N : Int) := by omega
          have hN1' : (0 : Int) ≤ (N : Int) - 1 := by omega
          have hwn : IntKind.i64.wrap ((N : Int) - 1) = (N : Int) - 1 := wrapi (by omega) (by omega)
          go_wp2_with fail
          refine (pick_any B _ 9999 _ HC.out (by omega) (by omega) (by omega)).mono ?_; rintro e w5 ⟨v, rfl, ⟨x, rfl, x0, x1⟩, hg, hc⟩
          have HC5 := Lib.hid hc; have HG5 := Lib.hid (grown_trans HG.out hg); have HR5 := Lib.hid (HR.out.keep hg); have HO5 := Lib.hid (own_keepG HO.out hg (by omega)); clear hg hc HC HG HR HO
          have hck := HO5.out.cellAt (N - 1) (by omega)
          have hfz := World.ownsRow.frozenAt HO5.out (N - 1)
          have hst := (World.ownsRow.stored HO5.out (N - 1) (.int .i64 (1 + x))).1
          rw [← List.map_set] at hst
          have hst2 : Own (w5.setCell ⟨g, N - 1, none⟩ (.int .i64 (1 + x))) (w.heap.size + 1) (.slice (some ⟨g, 0, none⟩) (xs.set (N - 1) (1 + x)).length cap) (xs.set (N - 1) (1 + x)) := by
            unfold Own; rw [List.length_set]; exact hst
          have hd2 := HD.out.set (N - 1) (v := 1 + x) (by omega) (by omega)
          have hl2 : (xs.set (N - 1) (1 + x)).length = N := by rw [List.length_set]; exact hlx
          have HST := Lib.hid hst2; have HD2 := Lib.hid hd2; have HL2 := Lib.hid hl2; clear hst hst2 hd2 hl2 HO5 HD hlx
          have hwx : IntKind.i64.wrap (1 + x) = 1 + x := wrapi (by omega) (by omega)
          generalize xs.getD (N - 1) 0 = x9 at hck
          have hgB : B < g := by omega
          have hgw : w.heap.size ≤ g := by omega
          have hgn : w.heap.size ≠ g := by omega
          go_wp2_with fail
          have HC6 := Lib.hid (set_cr HC5.out hgB (.int .i64 (1 + x)) (o := N - 1)); have HG6 := Lib.hid (set_grown HG5.out hgw (.int .i64 (1 + x)) (o := N - 1)); have HR6 := Lib.hid (HR5.out.far1 hgn (v := .int .i64 (1 + x)) (o := N - 1))
          clear HC5 HG5 HR5 hck hfz
          obtain ⟨ys, hys⟩ : ∃ ys, ys = xs.set (N - 1) (1 + x) := ⟨_, rfl⟩
          rw [← hys] at HST HD2 HL2
          clear hys
          have HO6 := Lib.hid HST.out; have HD := Lib.hid HD2.out; have hlx := HL2.out
          clear HST HD2 HL2
          generalize w5.setCell ⟨g, N - 1, none⟩ (.int .i64 (1 + x)) = W6 at HC6 HG6 HR6 HO6 ⊢
          refine (one_any B _ 4 _ HC6.out (by omega) (by omega) (by omega)).mono ?_; rintro e w7 ⟨v, rfl, ⟨bo, rfl⟩, hg, hc⟩
          have HC7 := Lib.hid hc; have HG7 := Lib.hid (grown_trans HG6.out hg); have HR7 := Lib.hid (HR6.out.keep hg); have HO7 := Lib.hid (own_keepG HO6.out hg (by omega)); clear hg hc HC6 HG6 HR6 HO6
          cases bo
          · skip
            go_wp2_with fail
            refine (one_any B _ 3 _ HC7.out (by omega) (by omega) (by omega)).mono ?_; rintro e w9 ⟨v, rfl, ⟨bn, rfl⟩, hg, hc⟩
            have HC9 := Lib.hid hc; have HG9 := Lib.hid (grown_trans HG7.out hg); have HR9 := Lib.hid (HR7.out.keep hg); have HO9 := Lib.hid (own_keepG HO7.out hg (by omega)); clear hg hc HC7 HG7 HR7 HO7; have HG9z := Lib.hid HR9.out.1
            have hmk := bgMake_any bn (.slice (some ⟨g, 0, none⟩) ys.length cap) ys w9 HO9.out.rd HO9.out.slok HD.out (by omega)
            obtain ⟨z, hz⟩ : ∃ z, (if bn = true then -(val ys) else val ys) = z := ⟨_, rfl⟩
            rw [hz, hlx] at hmk
            have hzl : (digs z.natAbs).length ≤ 400 := Nat.le_trans (digs_of_val (neg := bn) HD.out hz) (by omega)
            have HMK := Lib.hid hmk; have HZL := Lib.hid hzl; clear hmk hzl hz
            go_wp2_with fail
            refine HMK.out.mono ?_; rintro e w10 ⟨v, rfl, hb, ho⟩
            have hg := below_grown B hb
            have hc := HC9.out.keep' hb
            clear hb
            have HC10 := Lib.hid hc; have HG10 := Lib.hid (grown_trans HG9.out hg); have HR10 := Lib.hid (HR9.out.keep hg); clear hg hc HC9 HG9 HR9 HO9
            have HV := Lib.hid (ho.le (B' := w.heap.size + 1) (by have := HG9z.out; omega))
            obtain ⟨ad2, cap2, hv2, _⟩ := ho
            generalize decide (z < 0) = bz at hv2
            generalize (digs z.natAbs).length = lz at hv2
            subst hv2
            obtain ⟨r1, r2, r3, r4, r5, r6⟩ := HR10.out
            go_wp2_with fail
            refine bodyPost_ret (by simp (maxDischargeDepth := 3) [results, Tryz.results78, go_sem, *]; try rfl) rfl ?_
            exact ⟨_, z, rfl, ((HV.out.setFar (by omega) _ _).setFar (by omega) _ _).le (by omega), HZL.out, set_grown (set_grown HG10.out (Nat.le_refl _) _) (Nat.le_refl _) _, (set_cr (set_cr HC10.out (by omega) _) (by omega) _).le (by omega)⟩
          · go_wp2_with fail
            go_loopw [46] (fun q wr => ∃ (k : Nat) (zs : List Int), q = .int .i64 k ∧ k ≤ N ∧ zs.length = N ∧ Hid (Dig zs) ∧ Hid (Own wr (w.heap.size + 1) (.slice (some ⟨g, 0, none⟩) zs.length cap) zs) ∧ Hid (Cr wr B (lim + 40 + 4 * (N : Int))) ∧ Hid (w.grownBy wr (some B)) ∧ Hid (BoxV B wr w.heap.size (.bool false) (.slice none 0 0))) (fun q _ => N - (intOf q).toNat)
            case atStart => exact ⟨0, ys, rfl, Nat.zero_le _, hlx, HD, HO7, HC7.out.le (by omega), HG7, HR7⟩
            case round =>
              obtain ⟨k, zs, rfl, hk, hlz, HDz, HO8, HC8, HG8, HR8⟩ := hrel
              clear HC7 HG7 HR7 HO7 HD hlx
              have hk0 : (0 : Int) ≤ (k : Int) := Int.natCast_nonneg _
              by_cases hkl : k < N
              · have hkl' : (k : Int) < (N : Int) := by omega
                have hck := HO8.out.cellAt k (by omega)
                have hfz := World.ownsRow.frozenAt HO8.out k
                have hst := (World.ownsRow.stored HO8.out k (.int .i64 9999)).1
                rw [← List.map_set] at hst
                have hst2 : Own (wr.setCell ⟨g, k, none⟩ (.int .i64 9999)) (w.heap.size + 1) (.slice (some ⟨g, 0, none⟩) (zs.set k 9999).length cap) (zs.set k 9999) := by
                  unfold Own; rw [List.length_set]; exact hst
                have hd2 := HDz.out.set k (v := 9999) (by omega) (by omega)
                have hl2 : (zs.set k 9999).length = N := by rw [List.length_set]; exact hlz
                have HST := Lib.hid hst2; have HD2 := Lib.hid hd2; have HL2 := Lib.hid hl2; clear hst hst2 hd2 hl2
                generalize zs.getD k 0 = x9 at hck
                have HLZ := Lib.hid hlz; clear hlz
                have HC9 := Lib.hid (set_cr HC8.out hgB (.int .i64 9999) (o := k)); have HG9 := Lib.hid (set_grown HG8.out hgw (.int .i64 9999) (o := k)); have HR9 := Lib.hid (HR8.out.far1 hgn (v := .int .i64 9999) (o := k))
                clear HC8 HG8 HR8 HO8
                go_wp2_with fail
                go_roundw
                case rel => exact ⟨k + 1, zs.set k 9999, by go_num, by omega, HL2.out, HD2, HST, HC9, HG9, HR9⟩
                case measure => simp [intOf]; omega
              · have hkN : k = N := by omega
                subst hkN
                have HD := Lib.hid HDz.out
                have hlx := hlz
                have hnn : ¬ (k : Int) < (k : Int) := by omega
                go_wp2_with fail
                refine (one_any B _ 3 _ HC8.out (by omega) (by omega) (by omega)).mono ?_; rintro e w9 ⟨v, rfl, ⟨bn, rfl⟩, hg, hc⟩
                have HC9 := Lib.hid hc; have HG9 := Lib.hid (grown_trans HG8.out hg); have HR9 := Lib.hid (HR8.out.keep hg); have HO9 := Lib.hid (own_keepG HO8.out hg (by omega)); clear hg hc HC8 HG8 HR8 HO8; have HG9z := Lib.hid HR9.out.1
                have hmk := bgMake_any bn (.slice (some ⟨g, 0, none⟩) zs.length cap) zs w9 HO9.out.rd HO9.out.slok HD.out (by omega)
                obtain ⟨z, hz⟩ : ∃ z, (if bn = true then -(val zs) else val zs) = z := ⟨_, rfl⟩
                rw [hz, hlx] at hmk
                have hzl : (digs z.natAbs).length ≤ 400 := Nat.le_trans (digs_of_val (neg := bn) HD.out hz) (by omega)
                have HMK := Lib.hid hmk; have HZL := Lib.hid hzl; clear hmk hzl hz
                go_wp2_with fail
                refine HMK.out.mono ?_; rintro e w10 ⟨v, rfl, hb, ho⟩
                have hg := below_grown B hb
                have hc := HC9.out.keep' hb
                clear hb
                have HC10 := Lib.hid hc; have HG10 := Lib.hid (grown_trans HG9.out hg); have HR10 := Lib.hid (HR9.out.keep hg); clear hg hc HC9 HG9 HR9 HO9
                have HV := Lib.hid (ho.le (B' := w.heap.size + 1) (by have := HG9z.out; omega))
                obtain ⟨ad2, cap2, hv2, _⟩ := ho
                generalize decide (z < 0) = bz at hv2
                generalize (digs z.natAbs).length = lz at hv2
                subst hv2
                obtain ⟨r1, r2, r3, r4, r5, r6⟩ := HR10.out
                go_wp2_with fail
                refine bodyPost_ret (by simp (maxDischargeDepth := 3) [results, Tryz.results78, go_sem, *]; try rfl) rfl ?_
                exact ⟨_, z, rfl, ((HV.out.setFar (by omega) _ _).setFar (by omega) _ _).le (by omega), HZL.out, set_grown (set_grown HG10.out (Nat.le_refl _) _) (Nat.le_refl _) _, (set_cr (set_cr HC10.out (by omega) _) (by omega) _).le (by omega)⟩
  · go_wp2_with fail
    refine (pick_any B _ 60000 _ HC1.out (by omega) (by omega) (by omega)).mono ?_; rintro e w2 ⟨v, rfl, ⟨x, rfl, x0, x1⟩, hg, hc⟩
    have HC2 := Lib.hid hc; have HG2 := Lib.hid (grown_trans HG1.out hg); have HR2 := Lib.hid (HR1.out.keep hg); clear hg hc HC1 HG1 HR1
    go_wp2_with fail
    refine (amongMem_any B _ _ [0, 1, -1, 9999, 10000, -10000, x - 30000, 1000000000000, 1099511627776] _ HC2.out (by omega) (by simp) (by simp)).mono ?_; rintro e w3 ⟨v, rfl, ⟨y, rfl, hy⟩, hg, hc⟩
    have HC3 := Lib.hid hc; have HG3 := Lib.hid (grown_trans HG2.out hg); have HR3 := Lib.hid (HR2.out.keep hg); clear hg hc HC2 HG2 HR2
    have hy0 : -2000000000000 ≤ y := by simp only [List.mem_cons, List.not_mem_nil, or_false] at hy; omega
    have hy1 : y ≤ 2000000000000 := by simp only [List.mem_cons, List.not_mem_nil, or_false] at hy; omega
    clear hy
    have HZL := Lib.hid (show (digs y.natAbs).length ≤ 400 from Nat.le_trans (digs_int_len (by omega)) (by decide))
    go_wp2_with fail
    refine (bgOf_any y _ (by omega) (by omega)).mono ?_; rintro e w4 ⟨v, rfl, hb, ho⟩
    have hg := below_grown B hb
    have hc := HC3.out.keep' hb
    clear hb
    have HG9z := Lib.hid HR3.out.1
    have hr31 := HR3.out.1
    have HC4 := Lib.hid hc; have HG4 := Lib.hid (grown_trans HG3.out hg); have HR4 := Lib.hid (HR3.out.keep hg); clear hg hc HC3 HG3 HR3
    have HV := Lib.hid (ho.le (B' := w.heap.size + 1) (by have := HG9z.out; omega))
    obtain ⟨ad2, cap2, hv2, _⟩ := ho
    generalize decide (y < 0) = bz at hv2
    generalize (digs y.natAbs).length = lz at hv2
    subst hv2
    obtain ⟨r1, r2, r3, r4, r5, r6⟩ := HR4.out
    go_wp2_with fail
    refine bodyPost_ret (by simp (maxDischargeDepth := 3) [results, Tryz.results78, go_sem, *]; try rfl) rfl ?_
    exact ⟨_, y, rfl, ((HV.out.setFar (by omega) _ _).setFar (by omega) _ _).le (by omega), HZL.out, set_grown (set_grown HG4.out (Nat.le_refl _) _) (Nat.le_refl _) _, (set_cr (set_cr HC4.out (by omega) _) (by omega) _).le (by omega)⟩
end Go.Proofs.YtakilincclnpdaaGreatDoor
