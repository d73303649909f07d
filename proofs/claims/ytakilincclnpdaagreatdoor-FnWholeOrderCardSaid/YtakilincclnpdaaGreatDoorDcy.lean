/- Dc: contracts: drawn curves. No conditions. -/
import Derived.Test.YtakilincclnpdaaGreatDoorDry
import Derived.Test.YtakilincclnpdaaGreatDoorPAy
namespace Go.Proofs.YtakilincclnpdaaGreatDoor
open Go.RowKit

theorem below_allocD (w : World) (o : Obj) : Below w.heap.size w (w.alloc o) := (Below.refl _ _).alloc (Nat.le_refl _) o
theorem grown_frozen {a b : World} {B : Nat} (h : a.grownBy b (some B)) {k o : Nat} (hk : k < a.heap.size) (hne : k ≠ B) : b.frozen? ⟨k, o, none⟩ = a.frozen? ⟨k, o, none⟩ := by
  have e := h.block k hk (by intro e; cases e; exact hne rfl)
  simp only [World.frozen?, e]
def AnyI (v : Value) : Prop := ∃ n : Int, v = .int .i64 n ∧ I64 n
/-- a box of two whole numbers, another than the reader's. -/
def BoxC (B : Nat) (w : World) (n : Nat) (a b : Int) : Prop := n < w.heap.size ∧ n ≠ B ∧ w.cell? ⟨n, 0, none⟩ = some (.int .i64 a) ∧ w.cell? ⟨n, 1, none⟩ = some (.int .i64 b) ∧ w.frozen? ⟨n, 0, none⟩ = false ∧ w.frozen? ⟨n, 1, none⟩ = false
theorem BoxC.keep {B n : Nat} {w w' : World} {a b : Int} (h : BoxC B w n a b) (g : w.grownBy w' (some B)) : BoxC B w' n a b := by
  obtain ⟨h1, h2, h3, h4, h5, h6⟩ := h
  exact ⟨Nat.lt_of_lt_of_le h1 g.size, h2, (grown_cell g h1 h2).trans h3, (grown_cell g h1 h2).trans h4, (grown_frozen g h1 h2).trans h5, (grown_frozen g h1 h2).trans h6⟩
theorem BoxC.new {B : Nat} {w : World} (a b : Int) (t : TypeId) (hB : B < w.heap.size) : BoxC B (w.alloc (.cells #[.int .i64 a, .int .i64 b] t)) w.heap.size a b :=
  ⟨by simp, by omega, by simp [go_sem], by simp [go_sem], by simp [go_sem], by simp [go_sem]⟩
theorem BoxC.put {B n : Nat} {w : World} {a b : Int} (h : BoxC B w n a b) (a' b' : Int) : BoxC B ((w.setCell ⟨n, 0, none⟩ (.int .i64 a')).setCell ⟨n, 1, none⟩ (.int .i64 b')) n a' b' := by
  obtain ⟨h1, h2, h3, h4, h5, h6⟩ := h
  exact ⟨by simpa using h1, h2, by simp [go_sem, h3], by simp [go_sem, h4], by simp [go_sem, h5], by simp [go_sem, h6]⟩
theorem BoxC.put0 {B n : Nat} {w : World} {a b : Int} (h : BoxC B w n a b) (a' : Int) : BoxC B (w.setCell ⟨n, 0, none⟩ (.int .i64 a')) n a' b := by
  obtain ⟨h1, h2, h3, h4, h5, h6⟩ := h
  exact ⟨by simpa using h1, h2, by simp [go_sem, h3], by simp [go_sem, h4], by simp [go_sem, h5], by simp [go_sem, h6]⟩
theorem BoxC.put1 {B n : Nat} {w : World} {a b : Int} (h : BoxC B w n a b) (b' : Int) : BoxC B (w.setCell ⟨n, 1, none⟩ (.int .i64 b')) n a b' := by
  obtain ⟨h1, h2, h3, h4, h5, h6⟩ := h
  exact ⟨by simpa using h1, h2, by simp [go_sem, h3], by simp [go_sem, h4], by simp [go_sem, h5], by simp [go_sem, h6]⟩
theorem BoxC.far1 {B n m o : Nat} {w : World} {a b : Int} {v : Value} (h : BoxC B w n a b) (_hne : n ≠ m) : BoxC B (w.setCell ⟨m, o, none⟩ v) n a b := by
  obtain ⟨h1, h2, h3, h4, h5, h6⟩ := h
  exact ⟨by simpa using h1, h2, by simp [go_sem, h3], by simp [go_sem, h4], by simp [go_sem, h5], by simp [go_sem, h6]⟩
theorem set_grown {B n o : Nat} {w V : World} (g : w.grownBy V (some B)) (hn : w.heap.size ≤ n) (a : Value) : w.grownBy (V.setCell ⟨n, o, none⟩ a) (some B) :=
  ⟨g.os, g.tape, g.output, by simpa using g.size, fun i hi hne => by
    rw [Below.heap_setCell _ _ _ _ (by dsimp only; omega)]; exact g.block i hi hne⟩
theorem set_cr {B n o : Nat} {V : World} {lim : Int} (h : Cr V B lim) (hlt : B < n) (a : Value) : Cr (V.setCell ⟨n, o, none⟩ a) B lim :=
  h.keep (Below.setCell (Below.refl _ _) (by dsimp only; omega) _)
theorem rdx_lit {B : Nat} {w : World} (hB : B < w.heap.size) (xs : List Int) (t : TypeId) (h0 : 0 < xs.length) (h1 : xs.length ≤ 1000) : RdX B (w.alloc (.cells (xs.map (Value.int .i64)).toArray t)) (.slice (some ⟨w.heap.size, 0, none⟩) xs.length xs.length) xs :=
  ⟨w.heap.size, 0, xs.length, rfl, by omega, by simp, h0, h1, fun i hi => by simp [go_sem, List.getD_eq_getElem?_getD, hi]⟩
theorem amongLit_any (B : Nat) (lim : Int) (w : World) (xs : List Int) (t : TypeId) (h : Cr w B lim) (hl : lim ≤ 3000000000000000000) (hx : ∀ n ∈ xs, I64 n) (h0 : 0 < xs.length) (h1 : xs.length ≤ 1000) :
    Calls Tryz.prog 65 #[.pointer (some ⟨B, 0, none⟩), .slice (some ⟨w.heap.size, 0, none⟩) xs.length xs.length] (w.alloc (.cells (xs.map (Value.int .i64)).toArray t)) (RetC AnyI B (lim + 2) w) :=
  (among_any B lim _ xs _ (h.keep' (below_allocD w _)) hl (rdx_lit h.lt xs t h0 h1)).mono fun _ _ ⟨v, he, ⟨n, hv, hn⟩, hg, hc⟩ => ⟨v, he, ⟨n, hv, hx n hn⟩, grown_trans (below_grown B (below_allocD w _)) hg, hc⟩
set_option maxHeartbeats 4000000 in
set_option maxRecDepth 100000 in
theorem curve_any (B : Nat) (lim : Int) (w : World) (h : Cr w B lim) (hl : lim ≤ 2000000000000000000) :
    Calls Tryz.prog 164 #[.pointer (some ⟨B, 0, none⟩)] w (RetC (fun v => ∃ a b : Int, v = .agg #[.int .i64 a, .int .i64 b] ∧ curveB a b = true) B (lim + 100) w) := by
  have hB := h.lt
  have hc0 : Cr (w.alloc (.cells #[.int .i64 0, .int .i64 0] 50)) B lim := h.keep' (below_allocD w _)
  have hg0 : w.grownBy (w.alloc (.cells #[.int .i64 0, .int .i64 0] 50)) (some B) := below_grown B (below_allocD w _)
  have hr0 := BoxC.new 0 0 50 hB
  have HC0 := Lib.hid hc0; have HG0 := Lib.hid hg0; have HR0 := Lib.hid hr0; clear hc0 hg0 hr0 h
  go_enter Tryz.func164, Tryz.ntmps164
  go_wp2_with fail
  refine (pick_any B _ 41 _ HC0.out (by omega) (by omega) (by omega)).mono ?_; rintro e w1 ⟨v, rfl, ⟨x, rfl, x0, x1⟩, hg1, hc1⟩
  have HC1 := Lib.hid hc1; have HG1 := Lib.hid (grown_trans HG0.out hg1); have HR1 := Lib.hid (HR0.out.keep hg1); clear hg1 hc1
  go_wp2_with fail
  refine (pick_any B _ 2001 _ HC1.out (by omega) (by omega) (by omega)).mono ?_; rintro e w2 ⟨v, rfl, ⟨y, rfl, y0, y1⟩, hg2, hc2⟩
  have HC2 := Lib.hid hc2; have HG2 := Lib.hid (grown_trans HG1.out hg2); have HR2 := Lib.hid (HR1.out.keep hg2); clear hg2 hc2
  go_wp2_with fail
  refine (amongLit_any B _ _ [-16, -1, 0, 1, -2, -7, -25, 4, x - 20, y - 1000] _ HC2.out (by omega) (by intro n hn; simp only [List.mem_cons, List.not_mem_nil, or_false] at hn; unfold I64; omega) (by simp) (by simp)).mono ?_; rintro e w3 ⟨v, rfl, ⟨a, rfl, ai⟩, hg3, hc3⟩
  have HC3 := Lib.hid hc3; have HG3 := Lib.hid (grown_trans HG2.out hg3); have HR3 := Lib.hid (HR2.out.keep hg3); clear hg3 hc3
  go_wp2_with fail
  refine (pick_any B _ 41 _ HC3.out (by omega) (by omega) (by omega)).mono ?_; rintro e w4 ⟨v, rfl, ⟨z, rfl, z0, z1⟩, hg4, hc4⟩
  have HC4 := Lib.hid hc4; have HG4 := Lib.hid (grown_trans HG3.out hg4); have HR4 := Lib.hid (HR3.out.keep hg4); clear hg4 hc4
  go_wp2_with fail
  refine (pick_any B _ 20001 _ HC4.out (by omega) (by omega) (by omega)).mono ?_; rintro e w5 ⟨v, rfl, ⟨u, rfl, u0, u1⟩, hg5, hc5⟩
  have HC5 := Lib.hid hc5; have HG5 := Lib.hid (grown_trans HG4.out hg5); have HR5 := Lib.hid (HR4.out.keep hg5); clear hg5 hc5
  go_wp2_with fail
  refine (amongLit_any B _ _ [16, 0, 0, 1, -1, 10, 36, z - 20, u - 10000] _ HC5.out (by omega) (by intro n hn; simp only [List.mem_cons, List.not_mem_nil, or_false] at hn; unfold I64; omega) (by simp) (by simp)).mono ?_; rintro e w6 ⟨v, rfl, ⟨b, rfl, bi⟩, hg6, hc6⟩
  have HC6 := Lib.hid hc6; have HG6 := Lib.hid (grown_trans HG5.out hg6); have HR6 := Lib.hid (HR5.out.keep hg6); clear hg6 hc6
  go_wp2_with fail
  have hc7 : Cr (w6.alloc (.cells #[.int .i64 a, .int .i64 b] 50)) B _ := HC6.out.keep' (below_allocD _ _)
  have hg7 : w6.grownBy (w6.alloc (.cells #[.int .i64 a, .int .i64 b] 50)) (some B) := below_grown B (below_allocD _ _)
  have hb7 := BoxC.new a b 50 HC6.out.lt
  have hs7 := HG6.out.size
  have hr7 := HR6.out.1
  generalize w6.alloc (.cells #[.int .i64 a, .int .i64 b] 50) = w7 at hc7 hg7 hb7 ⊢
  generalize w6.heap.size = n at hb7 hs7 hr7 ⊢
  have HB7 := Lib.hid hb7; clear hb7
  have HC7 := Lib.hid hc7; have HG7 := Lib.hid (grown_trans HG6.out hg7); have HR7 := Lib.hid (HR6.out.keep hg7); clear hg7 hc7
  refine (one_any B _ 8 _ HC7.out (by omega) (by omega) (by omega)).mono ?_; rintro e w8 ⟨v, rfl, ⟨bo, rfl⟩, hg8, hc8⟩
  have HC8 := Lib.hid hc8; have HG8 := Lib.hid (grown_trans HG7.out hg8); have HR8 := Lib.hid (HR7.out.keep hg8); have HB8 := Lib.hid (HB7.out.keep hg8); clear hg8 hc8
  rcases bo with _ | _
  · go_wp2_with fail
    refine (one_any B _ 16 _ HC8.out (by omega) (by omega) (by omega)).mono ?_; rintro e w9 ⟨v, rfl, ⟨bo, rfl⟩, hg9, hc9⟩
    have HC9 := Lib.hid hc9; have HG9 := Lib.hid (grown_trans HG8.out hg9); have HR9 := Lib.hid (HR8.out.keep hg9); have HB9 := Lib.hid (HB8.out.keep hg9); clear hg9 hc9
    rcases bo with _ | _
    · skip
      obtain ⟨b1, b2, b3, b4, b5, b6⟩ := HB9.out
      obtain ⟨r1, r2, r3, r4, r5, r6⟩ := HR9.out
      go_wp2_with fail
      refine (ecGood_any a b _).mono ?_; rintro e w10 ⟨rfl, hb10⟩
      have hg10 := below_grown B hb10; have hc10 := HC9.out.keep' hb10; have HHQ : True := trivial; clear b1 b2 b3 b4 b5 b6 r1 r2 r3 r4 r5 r6 hb10
      have HC10 := Lib.hid hc10; have HG10 := Lib.hid (grown_trans HG9.out hg10); have HR10 := Lib.hid (HR9.out.keep hg10); have HB10 := Lib.hid (HB9.out.keep hg10); clear hg10 hc10
      obtain ⟨b1, b2, b3, b4, b5, b6⟩ := HB10.out
      obtain ⟨r1, r2, r3, r4, r5, r6⟩ := HR10.out
      by_cases hq : curveB a b = true
      · rw [hq]
        go_wp2_with fail
        refine bodyPost_ret (by simp (maxDischargeDepth := 3) [results, Tryz.results164, go_sem, *]; try rfl) rfl ?_
        exact ⟨_, rfl, ⟨a, b, rfl, hq⟩, set_grown (set_grown HG10.out (Nat.le_refl _) _) (Nat.le_refl _) _, (set_cr (set_cr HC10.out hB _) hB _).le (by omega)⟩
      · rw [Bool.eq_false_iff.2 hq]
        go_wp2_with fail
        refine bodyPost_ret (by simp (maxDischargeDepth := 3) [results, Tryz.results164, go_sem, *]; try rfl) rfl ?_
        exact ⟨_, rfl, ⟨-16, 16, rfl, by decide⟩, set_grown (set_grown HG10.out (Nat.le_refl _) _) (Nat.le_refl _) _, (set_cr (set_cr HC10.out hB _) hB _).le (by omega)⟩
    · go_wp2_with fail
      refine (amongLit_any B _ _ [-1000, 1000] _ HC9.out (by omega) (by intro n hn; simp only [List.mem_cons, List.not_mem_nil, or_false] at hn; unfold I64; omega) (by simp) (by simp)).mono ?_; rintro e w11 ⟨v, rfl, ⟨c, rfl, ci⟩, hg11, hc11⟩
      have HC11 := Lib.hid hc11; have HG11 := Lib.hid (grown_trans HG9.out hg11); have HR11 := Lib.hid (HR9.out.keep hg11); have HB11 := Lib.hid (HB9.out.keep hg11); clear hg11 hc11
      go_wp2_with fail
      refine (amongLit_any B _ _ [-10000, 10000] _ HC11.out (by omega) (by intro n hn; simp only [List.mem_cons, List.not_mem_nil, or_false] at hn; unfold I64; omega) (by simp) (by simp)).mono ?_; rintro e w12 ⟨v, rfl, ⟨d, rfl, di⟩, hg12, hc12⟩
      have HC12 := Lib.hid hc12; have HG12 := Lib.hid (grown_trans HG11.out hg12); have HR12 := Lib.hid (HR11.out.keep hg12); have HB12 := Lib.hid (HB11.out.keep hg12); clear hg12 hc12
      obtain ⟨b1, b2, b3, b4, b5, b6⟩ := HB12.out
      go_wp2_with fail
      clear b1 b2 b3 b4 b5 b6
      have hc13 := set_cr (set_cr HC12.out (n := n) (o := 0) (by omega) (.int .i64 (c))) (n := n) (o := 1) (by omega) (.int .i64 (d))
      have hG13 := set_grown (set_grown HG12.out (n := n) (o := 0) (by omega) (.int .i64 (c))) (n := n) (o := 1) (by omega) (.int .i64 (d))
      have hb13 := HB12.out.put (c) (d)
      have hr13 := (HR12.out.far1 (m := n) (o := 0) (v := .int .i64 (c)) (by omega)).far1 (m := n) (o := 1) (v := .int .i64 (d)) (by omega)
      generalize (w12.setCell ⟨n, 0, none⟩ (.int .i64 (c))).setCell ⟨n, 1, none⟩ (.int .i64 (d)) = w13 at hc13 hG13 hb13 hr13 ⊢
      have HC13 := Lib.hid hc13; have HG13 := Lib.hid hG13; have HB13 := Lib.hid hb13; have HR13 := Lib.hid hr13; clear hc13 hG13 hb13 hr13
      obtain ⟨b1, b2, b3, b4, b5, b6⟩ := HB13.out
      obtain ⟨r1, r2, r3, r4, r5, r6⟩ := HR13.out
      refine (ecGood_any c d _).mono ?_; rintro e w14 ⟨rfl, hb14⟩
      have hg14 := below_grown B hb14; have hc14 := HC13.out.keep' hb14; have HHQ : True := trivial; clear b1 b2 b3 b4 b5 b6 r1 r2 r3 r4 r5 r6 hb14
      have HC14 := Lib.hid hc14; have HG14 := Lib.hid (grown_trans HG13.out hg14); have HR14 := Lib.hid (HR13.out.keep hg14); have HB14 := Lib.hid (HB13.out.keep hg14); clear hg14 hc14
      obtain ⟨b1, b2, b3, b4, b5, b6⟩ := HB14.out
      obtain ⟨r1, r2, r3, r4, r5, r6⟩ := HR14.out
      by_cases hq : curveB c d = true
      · rw [hq]
        go_wp2_with fail
        refine bodyPost_ret (by simp (maxDischargeDepth := 3) [results, Tryz.results164, go_sem, *]; try rfl) rfl ?_
        exact ⟨_, rfl, ⟨c, d, rfl, hq⟩, set_grown (set_grown HG14.out (Nat.le_refl _) _) (Nat.le_refl _) _, (set_cr (set_cr HC14.out hB _) hB _).le (by omega)⟩
      · rw [Bool.eq_false_iff.2 hq]
        go_wp2_with fail
        refine bodyPost_ret (by simp (maxDischargeDepth := 3) [results, Tryz.results164, go_sem, *]; try rfl) rfl ?_
        exact ⟨_, rfl, ⟨-16, 16, rfl, by decide⟩, set_grown (set_grown HG14.out (Nat.le_refl _) _) (Nat.le_refl _) _, (set_cr (set_cr HC14.out hB _) hB _).le (by omega)⟩
  · go_wp2_with fail
    refine (pick_any B _ 21 _ HC8.out (by omega) (by omega) (by omega)).mono ?_; rintro e w15 ⟨v, rfl, ⟨p, rfl, p0, p1⟩, hg15, hc15⟩
    have HC15 := Lib.hid hc15; have HG15 := Lib.hid (grown_trans HG8.out hg15); have HR15 := Lib.hid (HR8.out.keep hg15); have HB15 := Lib.hid (HB8.out.keep hg15); clear hg15 hc15
    go_wp2_with fail
    refine (pick_any B _ 21 _ HC15.out (by omega) (by omega) (by omega)).mono ?_; rintro e w16 ⟨v, rfl, ⟨q, rfl, q0, q1⟩, hg16, hc16⟩
    have HC16 := Lib.hid hc16; have HG16 := Lib.hid (grown_trans HG15.out hg16); have HR16 := Lib.hid (HR15.out.keep hg16); have HB16 := Lib.hid (HB15.out.keep hg16); clear hg16 hc16
    obtain ⟨b1, b2, b3, b4, b5, b6⟩ := HB16.out
    go_wp2_with fail
    clear b1 b2 b3 b4 b5 b6
    have hc17 := set_cr (set_cr HC16.out (n := n) (o := 0) (by omega) (.int .i64 (16 * (p - 10)))) (n := n) (o := 1) (by omega) (.int .i64 (64 * (q - 10)))
    have hG17 := set_grown (set_grown HG16.out (n := n) (o := 0) (by omega) (.int .i64 (16 * (p - 10)))) (n := n) (o := 1) (by omega) (.int .i64 (64 * (q - 10)))
    have hb17 := HB16.out.put (16 * (p - 10)) (64 * (q - 10))
    have hr17 := (HR16.out.far1 (m := n) (o := 0) (v := .int .i64 (16 * (p - 10))) (by omega)).far1 (m := n) (o := 1) (v := .int .i64 (64 * (q - 10))) (by omega)
    generalize (w16.setCell ⟨n, 0, none⟩ (.int .i64 (16 * (p - 10)))).setCell ⟨n, 1, none⟩ (.int .i64 (64 * (q - 10))) = w17 at hc17 hG17 hb17 hr17 ⊢
    have HC17 := Lib.hid hc17; have HG17 := Lib.hid hG17; have HB17 := Lib.hid hb17; have HR17 := Lib.hid hr17; clear hc17 hG17 hb17 hr17
    refine (one_any B _ 16 _ HC17.out (by omega) (by omega) (by omega)).mono ?_; rintro e w18 ⟨v, rfl, ⟨bo, rfl⟩, hg18, hc18⟩
    have HC18 := Lib.hid hc18; have HG18 := Lib.hid (grown_trans HG17.out hg18); have HR18 := Lib.hid (HR17.out.keep hg18); have HB18 := Lib.hid (HB17.out.keep hg18); clear hg18 hc18
    rcases bo with _ | _
    · skip
      obtain ⟨b1, b2, b3, b4, b5, b6⟩ := HB18.out
      obtain ⟨r1, r2, r3, r4, r5, r6⟩ := HR18.out
      go_wp2_with fail
      refine (ecGood_any (16 * (p - 10)) (64 * (q - 10)) _).mono ?_; rintro e w19 ⟨rfl, hb19⟩
      have hg19 := below_grown B hb19; have hc19 := HC18.out.keep' hb19; have HHQ : True := trivial; clear b1 b2 b3 b4 b5 b6 r1 r2 r3 r4 r5 r6 hb19
      have HC19 := Lib.hid hc19; have HG19 := Lib.hid (grown_trans HG18.out hg19); have HR19 := Lib.hid (HR18.out.keep hg19); have HB19 := Lib.hid (HB18.out.keep hg19); clear hg19 hc19
      obtain ⟨b1, b2, b3, b4, b5, b6⟩ := HB19.out
      obtain ⟨r1, r2, r3, r4, r5, r6⟩ := HR19.out
      by_cases hq : curveB (16 * (p - 10)) (64 * (q - 10)) = true
      · rw [hq]
        go_wp2_with fail
        refine bodyPost_ret (by simp (maxDischargeDepth := 3) [results, Tryz.results164, go_sem, *]; try rfl) rfl ?_
        exact ⟨_, rfl, ⟨(16 * (p - 10)), (64 * (q - 10)), rfl, hq⟩, set_grown (set_grown HG19.out (Nat.le_refl _) _) (Nat.le_refl _) _, (set_cr (set_cr HC19.out hB _) hB _).le (by omega)⟩
      · rw [Bool.eq_false_iff.2 hq]
        go_wp2_with fail
        refine bodyPost_ret (by simp (maxDischargeDepth := 3) [results, Tryz.results164, go_sem, *]; try rfl) rfl ?_
        exact ⟨_, rfl, ⟨-16, 16, rfl, by decide⟩, set_grown (set_grown HG19.out (Nat.le_refl _) _) (Nat.le_refl _) _, (set_cr (set_cr HC19.out hB _) hB _).le (by omega)⟩
    · go_wp2_with fail
      refine (amongLit_any B _ _ [-1000, 1000] _ HC18.out (by omega) (by intro n hn; simp only [List.mem_cons, List.not_mem_nil, or_false] at hn; unfold I64; omega) (by simp) (by simp)).mono ?_; rintro e w20 ⟨v, rfl, ⟨c, rfl, ci⟩, hg20, hc20⟩
      have HC20 := Lib.hid hc20; have HG20 := Lib.hid (grown_trans HG18.out hg20); have HR20 := Lib.hid (HR18.out.keep hg20); have HB20 := Lib.hid (HB18.out.keep hg20); clear hg20 hc20
      go_wp2_with fail
      refine (amongLit_any B _ _ [-10000, 10000] _ HC20.out (by omega) (by intro n hn; simp only [List.mem_cons, List.not_mem_nil, or_false] at hn; unfold I64; omega) (by simp) (by simp)).mono ?_; rintro e w21 ⟨v, rfl, ⟨d, rfl, di⟩, hg21, hc21⟩
      have HC21 := Lib.hid hc21; have HG21 := Lib.hid (grown_trans HG20.out hg21); have HR21 := Lib.hid (HR20.out.keep hg21); have HB21 := Lib.hid (HB20.out.keep hg21); clear hg21 hc21
      obtain ⟨b1, b2, b3, b4, b5, b6⟩ := HB21.out
      go_wp2_with fail
      clear b1 b2 b3 b4 b5 b6
      have hc22 := set_cr (set_cr HC21.out (n := n) (o := 0) (by omega) (.int .i64 (c))) (n := n) (o := 1) (by omega) (.int .i64 (d))
      have hG22 := set_grown (set_grown HG21.out (n := n) (o := 0) (by omega) (.int .i64 (c))) (n := n) (o := 1) (by omega) (.int .i64 (d))
      have hb22 := HB21.out.put (c) (d)
      have hr22 := (HR21.out.far1 (m := n) (o := 0) (v := .int .i64 (c)) (by omega)).far1 (m := n) (o := 1) (v := .int .i64 (d)) (by omega)
      generalize (w21.setCell ⟨n, 0, none⟩ (.int .i64 (c))).setCell ⟨n, 1, none⟩ (.int .i64 (d)) = w22 at hc22 hG22 hb22 hr22 ⊢
      have HC22 := Lib.hid hc22; have HG22 := Lib.hid hG22; have HB22 := Lib.hid hb22; have HR22 := Lib.hid hr22; clear hc22 hG22 hb22 hr22
      obtain ⟨b1, b2, b3, b4, b5, b6⟩ := HB22.out
      obtain ⟨r1, r2, r3, r4, r5, r6⟩ := HR22.out
      refine (ecGood_any c d _).mono ?_; rintro e w23 ⟨rfl, hb23⟩
      have hg23 := below_grown B hb23; have hc23 := HC22.out.keep' hb23; have HHQ : True := trivial; clear b1 b2 b3 b4 b5 b6 r1 r2 r3 r4 r5 r6 hb23
      have HC23 := Lib.hid hc23; have HG23 := Lib.hid (grown_trans HG22.out hg23); have HR23 := Lib.hid (HR22.out.keep hg23); have HB23 := Lib.hid (HB22.out.keep hg23); clear hg23 hc23
      obtain ⟨b1, b2, b3, b4, b5, b6⟩ := HB23.out
      obtain ⟨r1, r2, r3, r4, r5, r6⟩ := HR23.out
      by_cases hq : curveB c d = true
      · rw [hq]
        go_wp2_with fail
        refine bodyPost_ret (by simp (maxDischargeDepth := 3) [results, Tryz.results164, go_sem, *]; try rfl) rfl ?_
        exact ⟨_, rfl, ⟨c, d, rfl, hq⟩, set_grown (set_grown HG23.out (Nat.le_refl _) _) (Nat.le_refl _) _, (set_cr (set_cr HC23.out hB _) hB _).le (by omega)⟩
      · rw [Bool.eq_false_iff.2 hq]
        go_wp2_with fail
        refine bodyPost_ret (by simp (maxDischargeDepth := 3) [results, Tryz.results164, go_sem, *]; try rfl) rfl ?_
        exact ⟨_, rfl, ⟨-16, 16, rfl, by decide⟩, set_grown (set_grown HG23.out (Nat.le_refl _) _) (Nat.le_refl _) _, (set_cr (set_cr HC23.out hB _) hB _).le (by omega)⟩
theorem curve_i64 {a b : Int} (h : curveB a b = true) : I64 a ∧ I64 b := by
  obtain ⟨h1, h2, h3, h4, _⟩ := curveB_true.1 h
  unfold I64
  omega
set_option maxHeartbeats 4000000 in
set_option maxRecDepth 100000 in
theorem anyCurve_any (B : Nat) (lim : Int) (w : World) (h : Cr w B lim) (hl : lim ≤ 1000000000000000000) :
    Calls Tryz.prog 140 #[.pointer (some ⟨B, 0, none⟩)] w (RetC (fun v => ∃ a b : Int, v = .agg #[.int .i64 a, .int .i64 b] ∧ I64 a ∧ I64 b) B (lim + 200) w) := by
  have hB := h.lt
  have hc0 : Cr (w.alloc (.cells #[.int .i64 0, .int .i64 0] 50)) B lim := h.keep' (below_allocD w _)
  have hg0 : w.grownBy (w.alloc (.cells #[.int .i64 0, .int .i64 0] 50)) (some B) := below_grown B (below_allocD w _)
  have hr0 := BoxC.new 0 0 50 hB
  have HC0 := Lib.hid hc0; have HG0 := Lib.hid hg0; have HR0 := Lib.hid hr0; clear hc0 hg0 hr0 h
  go_enter Tryz.func140, Tryz.ntmps140
  go_wp2_with fail
  refine (curve_any B _ _ HC0.out (by omega)).mono ?_; rintro e w1 ⟨v, rfl, ⟨a, b, rfl, hq⟩, hg1, hc1⟩
  have hab := curve_i64 hq; clear hq
  have HC1 := Lib.hid hc1; have HG1 := Lib.hid (grown_trans HG0.out hg1); have HR1 := Lib.hid (HR0.out.keep hg1); clear hg1 hc1
  go_wp2_with fail
  have hc2 : Cr (w1.alloc (.cells #[.int .i64 a, .int .i64 b] 50)) B _ := HC1.out.keep' (below_allocD _ _)
  have hg2 : w1.grownBy (w1.alloc (.cells #[.int .i64 a, .int .i64 b] 50)) (some B) := below_grown B (below_allocD _ _)
  have hb2 := BoxC.new a b 50 HC1.out.lt
  have hs2 := HG1.out.size
  have hr2 := HR1.out.1
  generalize w1.alloc (.cells #[.int .i64 a, .int .i64 b] 50) = w2 at hc2 hg2 hb2 ⊢
  generalize w1.heap.size = n at hb2 hs2 hr2 ⊢
  have HB2 := Lib.hid hb2; clear hb2
  have HC2 := Lib.hid hc2; have HG2 := Lib.hid (grown_trans HG1.out hg2); have HR2 := Lib.hid (HR1.out.keep hg2); clear hg2 hc2
  refine (pick_any B _ 30 _ HC2.out (by omega) (by omega) (by omega)).mono ?_; rintro e w3 ⟨v, rfl, ⟨x, rfl, x0, x1⟩, hg3, hc3⟩
  have HC3 := Lib.hid hc3; have HG3 := Lib.hid (grown_trans HG2.out hg3); have HR3 := Lib.hid (HR2.out.keep hg3); have HB3 := Lib.hid (HB2.out.keep hg3); clear hg3 hc3
  by_cases hx0 : x = 0
  · subst hx0
    go_wp2_with fail
    refine (amongLit_any B _ _ [-1001, -1000, 1000, 1001, -9223372036854775808] _ HC3.out (by omega) (by intro n hn; simp only [List.mem_cons, List.not_mem_nil, or_false] at hn; unfold I64; omega) (by simp) (by simp)).mono ?_; rintro e w4 ⟨v, rfl, ⟨c, rfl, ci⟩, hg4, hc4⟩
    have HC4 := Lib.hid hc4; have HG4 := Lib.hid (grown_trans HG3.out hg4); have HR4 := Lib.hid (HR3.out.keep hg4); have HB4 := Lib.hid (HB3.out.keep hg4); clear hg4 hc4
    skip
    obtain ⟨b1, b2, b3, b4, b5, b6⟩ := HB4.out
    obtain ⟨r1, r2, r3, r4, r5, r6⟩ := HR4.out
    go_wp2_with fail
    refine bodyPost_ret (by simp (maxDischargeDepth := 3) [results, Tryz.results140, go_sem, *]; try rfl) rfl ?_
    exact ⟨_, rfl, ⟨c, b, rfl, ci, hab.2⟩, set_grown (set_grown (set_grown HG4.out (by omega) _) (Nat.le_refl _) _) (Nat.le_refl _) _, (set_cr (set_cr (set_cr HC4.out (by omega) _) hB _) hB _).le (by omega)⟩
  by_cases hx1 : x = 1
  · subst hx1
    go_wp2_with fail
    refine (amongLit_any B _ _ [-10001, -10000, 10000, 10001, 9223372036854775807] _ HC3.out (by omega) (by intro n hn; simp only [List.mem_cons, List.not_mem_nil, or_false] at hn; unfold I64; omega) (by simp) (by simp)).mono ?_; rintro e w5 ⟨v, rfl, ⟨c, rfl, ci⟩, hg5, hc5⟩
    have HC5 := Lib.hid hc5; have HG5 := Lib.hid (grown_trans HG3.out hg5); have HR5 := Lib.hid (HR3.out.keep hg5); have HB5 := Lib.hid (HB3.out.keep hg5); clear hg5 hc5
    skip
    obtain ⟨b1, b2, b3, b4, b5, b6⟩ := HB5.out
    obtain ⟨r1, r2, r3, r4, r5, r6⟩ := HR5.out
    go_wp2_with fail
    refine bodyPost_ret (by simp (maxDischargeDepth := 3) [results, Tryz.results140, go_sem, *]; try rfl) rfl ?_
    exact ⟨_, rfl, ⟨a, c, rfl, hab.1, ci⟩, set_grown (set_grown (set_grown HG5.out (by omega) _) (Nat.le_refl _) _) (Nat.le_refl _) _, (set_cr (set_cr (set_cr HC5.out (by omega) _) hB _) hB _).le (by omega)⟩
  by_cases hx2 : x = 2
  · subst hx2
    go_wp2_with fail
    refine (amongLit_any B _ _ [0, -3, -12] _ HC3.out (by omega) (by intro n hn; simp only [List.mem_cons, List.not_mem_nil, or_false] at hn; unfold I64; omega) (by simp) (by simp)).mono ?_; rintro e w6 ⟨v, rfl, ⟨c, rfl, ci⟩, hg6, hc6⟩
    have HC6 := Lib.hid hc6; have HG6 := Lib.hid (grown_trans HG3.out hg6); have HR6 := Lib.hid (HR3.out.keep hg6); have HB6 := Lib.hid (HB3.out.keep hg6); clear hg6 hc6
    go_wp2_with fail
    refine (amongLit_any B _ _ [0, 2, 16] _ HC6.out (by omega) (by intro n hn; simp only [List.mem_cons, List.not_mem_nil, or_false] at hn; unfold I64; omega) (by simp) (by simp)).mono ?_; rintro e w7 ⟨v, rfl, ⟨d, rfl, di⟩, hg7, hc7⟩
    have HC7 := Lib.hid hc7; have HG7 := Lib.hid (grown_trans HG6.out hg7); have HR7 := Lib.hid (HR6.out.keep hg7); have HB7 := Lib.hid (HB6.out.keep hg7); clear hg7 hc7
    obtain ⟨b1, b2, b3, b4, b5, b6⟩ := HB7.out
    obtain ⟨r1, r2, r3, r4, r5, r6⟩ := HR7.out
    go_wp2_with fail
    refine bodyPost_ret (by simp (maxDischargeDepth := 3) [results, Tryz.results140, go_sem, *]; try rfl) rfl ?_
    exact ⟨_, rfl, ⟨c, d, rfl, ci, di⟩, set_grown (set_grown (set_grown (set_grown HG7.out (by omega) _) (by omega) _) (Nat.le_refl _) _) (Nat.le_refl _) _, (set_cr (set_cr (set_cr (set_cr HC7.out (by omega) _) (by omega) _) hB _) hB _).le (by omega)⟩
  have e0 : (x == 0) = false := by simp [hx0]
  have e1 : (x == 1) = false := by simp [hx1]
  have e2 : (x == 2) = false := by simp [hx2]
  obtain ⟨b1, b2, b3, b4, b5, b6⟩ := HB3.out
  obtain ⟨r1, r2, r3, r4, r5, r6⟩ := HR3.out
  go_wp2_with fail
  refine bodyPost_ret (by simp (maxDischargeDepth := 3) [results, Tryz.results140, go_sem, *]; try rfl) rfl ?_
  exact ⟨_, rfl, ⟨a, b, rfl, hab.1, hab.2⟩, set_grown (set_grown HG3.out (Nat.le_refl _) _) (Nat.le_refl _) _, (set_cr (set_cr HC3.out hB _) hB _).le (by omega)⟩
end Go.Proofs.YtakilincclnpdaaGreatDoor
