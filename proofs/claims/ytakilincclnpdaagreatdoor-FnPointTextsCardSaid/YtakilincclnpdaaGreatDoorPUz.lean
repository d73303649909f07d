/- Dpx: contract: DrawPointsAtX. No conditions. -/
import Derived.Test.YtakilincclnpdaaGreatDoorPQz
import Derived.Test.YtakilincclnpdaaGreatDoorDsbz
import Derived.Test.YtakilincclnpdaaGreatDoorPHz
/- Dpf: contracts: fractions drawn. No conditions. -/
namespace Go.Proofs.YtakilincclnpdaaGreatDoor
open Go.RowKit

theorem amongMem2_any (B : Nat) (lim : Int) (w : World) (xs : List Int) (t : TypeId) (h : Cr w B lim) (hl : lim ≤ 3000000000000000000) (h0 : 0 < xs.length) (h1 : xs.length ≤ 1000) :
    Calls Tryz.prog 65 #[.pointer (some ⟨B, 0, none⟩), .slice (some ⟨w.heap.size, 0, none⟩) xs.length xs.length] (w.alloc (.cells (xs.map (Value.int .i64)).toArray t)) (RetC (OneOf xs) B (lim + 2) w) :=
  (among_any B lim _ xs _ (h.keep' (below_allocD w _)) hl (rdx_lit h.lt xs t h0 h1)).mono fun _ _ ⟨v, he, hv, hg, hc⟩ => ⟨v, he, hv, grown_trans (below_grown B (below_allocD w _)) hg, hc⟩
theorem makV_shape (n d : Int) : ∃ (p q : Int) (o : Bool), makV n d = .tuple #[.agg #[.int .i64 p, .int .i64 q], .bool o] := by
  unfold makV
  cases fracB (lowN n d) (lowD n d)
  · exact ⟨_, _, _, rfl⟩
  · exact ⟨_, _, _, rfl⟩
def FrE (v : Value) : Prop := ∃ p q : Int, v = .agg #[.int .i64 p, .int .i64 q]
theorem frInt_any (n : Int) (w : World) : Calls Tryz.prog 165 #[.int .i64 n] w (Ret (.agg #[.int .i64 n, .int .i64 1]) w) := by
  go_enter Tryz.func165, Tryz.ntmps165
  go_wp2_with fail
  refine bodyPost_ret (by simp (maxDischargeDepth := 3) [results, Tryz.results165, go_sem, *]; try rfl) rfl ?_
  exact ret_eq rfl (by repeat (first | exact Below.refl _ _ | (with_reducible assumption) | refine bel_alloc ?_ _ | refine bel_drew ?_ | refine bel_drewN ?_ _ | refine Below.setCell ?_ (by dsimp only; omega) _ | refine bel_trans (by assumption) ?_))
set_option maxRecDepth 100000 in
set_option maxHeartbeats 4000000 in
theorem fraction_any (B : Nat) (lim : Int) (w : World) (h : Cr w B lim) (hl : lim ≤ 100000000000000) :
    Calls Tryz.prog 141 #[.pointer (some ⟨B, 0, none⟩)] w (RetC FrE B (lim + 100) w) := by
  have hB := h.lt
  have hb0 := below_allocD w (.cells #[.int .i64 0, .int .i64 0] 62)
  have HC := Lib.hid (h.keep' hb0); have HG := Lib.hid (below_grown B hb0); have HR := Lib.hid (BoxC.new (B := B) 0 0 62 hB)
  clear h hb0
  go_enter Tryz.func141, Tryz.ntmps141
  go_wp2_with fail
  refine (pick_any B _ 41 _ HC.out (by omega) (by omega) (by omega)).mono ?_; rintro e w1 ⟨v, rfl, ⟨x, rfl, x0, x1⟩, hg, hc⟩
  have HC1 := Lib.hid hc; have HG1 := Lib.hid (grown_trans HG.out hg); have HR1 := Lib.hid (HR.out.keep hg); clear hg hc HC HG HR
  have hw1 : IntKind.i64.wrap (x - 20) = x - 20 := wrapkb (by omega) (by omega)
  go_wp2_with fail
  refine (pick_any B _ 2001 _ HC1.out (by omega) (by omega) (by omega)).mono ?_; rintro e w2 ⟨v, rfl, ⟨y, rfl, y0, y1⟩, hg, hc⟩
  have HC2 := Lib.hid hc; have HG2 := Lib.hid (grown_trans HG1.out hg); have HR2 := Lib.hid (HR1.out.keep hg); clear hg hc HC1 HG1 HR1
  have hw2 : IntKind.i64.wrap (y - 1000) = y - 1000 := wrapkb (by omega) (by omega)
  go_wp2_with fail
  refine (amongMem2_any B _ _ [0, 1, -1, 2, 3, -5, x - 20, y - 1000, 1000000000, -1000000000] _ HC2.out (by omega) (by simp) (by simp)).mono ?_; rintro e w3 ⟨v, rfl, ⟨n, rfl, hn⟩, hg, hc⟩
  have HC3 := Lib.hid hc; have HG3 := Lib.hid (grown_trans HG2.out hg); have HR3 := Lib.hid (HR2.out.keep hg); clear hg hc HC2 HG2 HR2
  have n0 : -1000000000 ≤ n := by simp only [List.mem_cons, List.not_mem_nil, or_false] at hn; omega
  have n1 : n ≤ 1000000000 := by simp only [List.mem_cons, List.not_mem_nil, or_false] at hn; omega
  clear hn hw1 hw2 x0 x1 y0 y1
  go_wp2_with fail
  refine (pick_any B _ 20 _ HC3.out (by omega) (by omega) (by omega)).mono ?_; rintro e w4 ⟨v, rfl, ⟨z, rfl, z0, z1⟩, hg, hc⟩
  have HC4 := Lib.hid hc; have HG4 := Lib.hid (grown_trans HG3.out hg); have HR4 := Lib.hid (HR3.out.keep hg); clear hg hc HC3 HG3 HR3
  have hw1 : IntKind.i64.wrap (1 + z) = 1 + z := wrapkb (by omega) (by omega)
  go_wp2_with fail
  refine (pick_any B _ 1000 _ HC4.out (by omega) (by omega) (by omega)).mono ?_; rintro e w5 ⟨v, rfl, ⟨u, rfl, u0, u1⟩, hg, hc⟩
  have HC5 := Lib.hid hc; have HG5 := Lib.hid (grown_trans HG4.out hg); have HR5 := Lib.hid (HR4.out.keep hg); clear hg hc HC4 HG4 HR4
  have hw2 : IntKind.i64.wrap (1 + u) = 1 + u := wrapkb (by omega) (by omega)
  go_wp2_with fail
  refine (amongMem2_any B _ _ [1, 1, 2, 3, 4, 9, 1 + z, 1 + u, 1000000000, 999999999] _ HC5.out (by omega) (by simp) (by simp)).mono ?_; rintro e w6 ⟨v, rfl, ⟨d, rfl, hd⟩, hg, hc⟩
  have HC6 := Lib.hid hc; have HG6 := Lib.hid (grown_trans HG5.out hg); have HR6 := Lib.hid (HR5.out.keep hg); clear hg hc HC5 HG5 HR5
  have d0 : 1 ≤ d := by simp only [List.mem_cons, List.not_mem_nil, or_false] at hd; omega
  have d1 : d ≤ 1000000000 := by simp only [List.mem_cons, List.not_mem_nil, or_false] at hd; omega
  clear hd hw1 hw2 z0 z1 u0 u1
  have hfm := frMake_any n d w6 (by omega) (by omega) (by omega) (by omega) (by omega)
  obtain ⟨p, q, o, hv⟩ := makV_shape n d
  rw [hv] at hfm
  clear hv
  go_wp2_with fail
  refine hfm.mono ?_; rintro e w7 ⟨rfl, hb⟩
  clear hfm
  have hg := below_grown B hb
  have hc := HC6.out.keep' hb
  clear hb
  have HC7 := Lib.hid hc; have HG7 := Lib.hid (grown_trans HG6.out hg); have HR7 := Lib.hid (HR6.out.keep hg); clear hg hc HC6 HG6 HR6
  have hrl := HR7.out.1
  cases o
  · obtain ⟨r1, r2, r3, r4, r5, r6⟩ := HR7.out
    go_wp2_with fail
    have hb8 := below_allocD w7 (.cells #[.int .i64 p, .int .i64 q] 62)
    have HC8 := Lib.hid (HC7.out.keep' hb8); have HG8 := Lib.hid (grown_trans HG7.out (below_grown B hb8)); have HR8 := Lib.hid (HR7.out.keep (below_grown B hb8))
    clear hb8 HC7 HG7 HR7 r1 r2 r3 r4 r5 r6
    generalize w7.alloc (.cells #[.int .i64 p, .int .i64 q] 62) = W8 at HC8 HG8 HR8 ⊢
    refine (frInt_any 1 _).mono ?_; rintro e w9 ⟨rfl, hb⟩
    have hg := below_grown B hb
    have hc := HC8.out.keep' hb
    clear hb
    have HC9 := Lib.hid hc; have HG9 := Lib.hid (grown_trans HG8.out hg); have HR9 := Lib.hid (HR8.out.keep hg); clear hg hc HC8 HG8 HR8
    obtain ⟨r1, r2, r3, r4, r5, r6⟩ := HR9.out
    go_wp2_with fail
    refine bodyPost_ret (by simp (maxDischargeDepth := 3) [results, Tryz.results141, go_sem, *]; try rfl) rfl ?_
    exact ⟨_, rfl, ⟨_, _, rfl⟩, set_grown (set_grown HG9.out (Nat.le_refl _) _) (Nat.le_refl _) _, (set_cr (set_cr HC9.out (by omega) _) (by omega) _).le (by omega)⟩
  · obtain ⟨r1, r2, r3, r4, r5, r6⟩ := HR7.out
    go_wp2_with fail
    refine bodyPost_ret (by simp (maxDischargeDepth := 3) [results, Tryz.results141, go_sem, *]; try rfl) rfl ?_
    exact ⟨_, rfl, ⟨_, _, rfl⟩, grown_belowD (set_grown (set_grown HG7.out (Nat.le_refl _) _) (Nat.le_refl _) _) (below_allocD _ _), ((set_cr (set_cr HC7.out (by omega) _) (by omega) _).keep' (below_allocD _ _)).le (by omega)⟩
set_option maxRecDepth 100000 in
set_option maxHeartbeats 4000000 in
theorem anyFraction_any (B : Nat) (lim : Int) (w : World) (h : Cr w B lim) (hl : lim ≤ 10000000000000) :
    Calls Tryz.prog 99 #[.pointer (some ⟨B, 0, none⟩)] w (RetC FrE B (lim + 200) w) := by
  have hB := h.lt
  have hb0 := below_allocD w (.cells #[.int .i64 0, .int .i64 0] 62)
  have HC := Lib.hid (h.keep' hb0); have HG := Lib.hid (below_grown B hb0); have HR := Lib.hid (BoxC.new (B := B) 0 0 62 hB)
  clear h hb0
  go_enter Tryz.func99, Tryz.ntmps99
  go_wp2_with fail
  refine (fraction_any B _ _ HC.out (by omega)).mono ?_; rintro e w1 ⟨v, rfl, ⟨p, q, rfl⟩, hg, hc⟩
  have HC1 := Lib.hid hc; have HG1 := Lib.hid (grown_trans HG.out hg); have HR1 := Lib.hid (HR.out.keep hg); clear hg hc HC HG HR
  have hrl := HR1.out.1
  go_wp2_with fail
  have hb2 := below_allocD w1 (.cells #[.int .i64 p, .int .i64 q] 62)
  have HM2 := Lib.hid (BoxC.new (B := B) p q 62 HC1.out.lt)
  have HC2 := Lib.hid (HC1.out.keep' hb2); have HG2 := Lib.hid (grown_trans HG1.out (below_grown B hb2)); have HR2 := Lib.hid (HR1.out.keep (below_grown B hb2))
  clear hb2 HC1 HG1 HR1
  generalize w1.alloc (.cells #[.int .i64 p, .int .i64 q] 62) = W2 at HC2 HG2 HR2 HM2 ⊢
  generalize w1.heap.size = m at HM2 hrl ⊢
  have hmB : B < m := by omega
  have hmw : w.heap.size ≤ m := by omega
  refine (pick_any B _ 36 _ HC2.out (by omega) (by omega) (by omega)).mono ?_; rintro e w3 ⟨v, rfl, ⟨k, rfl, k0, k1⟩, hg, hc⟩
  have HC3 := Lib.hid hc; have HG3 := Lib.hid (grown_trans HG2.out hg); have HR3 := Lib.hid (HR2.out.keep hg); have HM3 := Lib.hid (HM2.out.keep hg); clear hg hc HC2 HG2 HR2 HM2
  by_cases e0 : k = 0
  · subst e0
    clear k0 k1
    go_wp2_with fail
    refine (amongMem2_any B _ _ [0, -1, 1000000001] _ HC3.out (by omega) (by simp) (by simp)).mono ?_; rintro e w4 ⟨v, rfl, ⟨d, rfl, hd⟩, hg, hc⟩
    have HC4 := Lib.hid hc; have HG4 := Lib.hid (grown_trans HG3.out hg); have HR4 := Lib.hid (HR3.out.keep hg); have HM4 := Lib.hid (HM3.out.keep hg); clear hg hc HC3 HG3 HR3 HM3
    obtain ⟨r1, r2, r3, r4, r5, r6⟩ := HR4.out; obtain ⟨m1, m2, m3, m4, m5, m6⟩ := HM4.out
    go_wp2_with fail
    refine bodyPost_ret (by simp (maxDischargeDepth := 3) [results, Tryz.results99, go_sem, *]; try rfl) rfl ?_
    exact ⟨_, rfl, ⟨_, _, rfl⟩, set_grown (set_grown (set_grown HG4.out hmw _) (Nat.le_refl _) _) (Nat.le_refl _) _, (set_cr (set_cr (set_cr HC4.out hmB _) (by omega) _) (by omega) _).le (by omega)⟩
  have h0b : (k == 0) = false := by simp [e0]
  by_cases e1 : k = 1
  · subst e1
    clear k0 k1 e0 h0b
    go_wp2_with fail
    refine (amongMem2_any B _ _ [1000000001, -1000000001, -9223372036854775808] _ HC3.out (by omega) (by simp) (by simp)).mono ?_; rintro e w4 ⟨v, rfl, ⟨d, rfl, hd⟩, hg, hc⟩
    have HC4 := Lib.hid hc; have HG4 := Lib.hid (grown_trans HG3.out hg); have HR4 := Lib.hid (HR3.out.keep hg); have HM4 := Lib.hid (HM3.out.keep hg); clear hg hc HC3 HG3 HR3 HM3
    obtain ⟨r1, r2, r3, r4, r5, r6⟩ := HR4.out; obtain ⟨m1, m2, m3, m4, m5, m6⟩ := HM4.out
    go_wp2_with fail
    refine bodyPost_ret (by simp (maxDischargeDepth := 3) [results, Tryz.results99, go_sem, *]; try rfl) rfl ?_
    exact ⟨_, rfl, ⟨_, _, rfl⟩, set_grown (set_grown (set_grown HG4.out hmw _) (Nat.le_refl _) _) (Nat.le_refl _) _, (set_cr (set_cr (set_cr HC4.out hmB _) (by omega) _) (by omega) _).le (by omega)⟩
  have h1b : (k == 1) = false := by simp [e1]
  by_cases e2 : k = 2
  · subst e2
    clear k0 k1 e0 h0b e1 h1b
    go_wp2_with fail
    refine (amongMem2_any B _ _ [2, 0, -6] _ HC3.out (by omega) (by simp) (by simp)).mono ?_; rintro e w4 ⟨v, rfl, ⟨d, rfl, hd⟩, hg, hc⟩
    have HC4 := Lib.hid hc; have HG4 := Lib.hid (grown_trans HG3.out hg); have HR4 := Lib.hid (HR3.out.keep hg); have HM4 := Lib.hid (HM3.out.keep hg); clear hg hc HC3 HG3 HR3 HM3
    go_wp2_with fail
    refine (amongMem2_any B _ _ [2, 4, 9] _ HC4.out (by omega) (by simp) (by simp)).mono ?_; rintro e w5 ⟨v, rfl, ⟨f, rfl, hf⟩, hg, hc⟩
    have HC5 := Lib.hid hc; have HG5 := Lib.hid (grown_trans HG4.out hg); have HR5 := Lib.hid (HR4.out.keep hg); have HM5 := Lib.hid (HM4.out.keep hg); clear hg hc HC4 HG4 HR4 HM4
    obtain ⟨r1, r2, r3, r4, r5, r6⟩ := HR5.out; obtain ⟨m1, m2, m3, m4, m5, m6⟩ := HM5.out
    go_wp2_with fail
    refine bodyPost_ret (by simp (maxDischargeDepth := 3) [results, Tryz.results99, go_sem, *]; try rfl) rfl ?_
    exact ⟨_, rfl, ⟨_, _, rfl⟩, set_grown (set_grown (set_grown (set_grown HG5.out hmw _) hmw _) (Nat.le_refl _) _) (Nat.le_refl _) _, (set_cr (set_cr (set_cr (set_cr HC5.out hmB _) hmB _) (by omega) _) (by omega) _).le (by omega)⟩
  have h2b : (k == 2) = false := by simp [e2]
  clear k0 k1 e0 e1 e2
  obtain ⟨r1, r2, r3, r4, r5, r6⟩ := HR3.out; obtain ⟨m1, m2, m3, m4, m5, m6⟩ := HM3.out
  go_wp2_with fail
  refine bodyPost_ret (by simp (maxDischargeDepth := 3) [results, Tryz.results99, go_sem, *]; try rfl) rfl ?_
  exact ⟨_, rfl, ⟨_, _, rfl⟩, set_grown (set_grown HG3.out (Nat.le_refl _) _) (Nat.le_refl _) _, (set_cr (set_cr HC3.out (by omega) _) (by omega) _).le (by omega)⟩
end Go.Proofs.YtakilincclnpdaaGreatDoor
namespace Go.Proofs.YtakilincclnpdaaGreatDoor
open Go.RowKit
theorem run_bs4w {x : World} {d : Option Nat} {t : TypeId} {s : String} {af : Array Edge} {a b c e : Int} (ρ : Operand → Value) (h : ∀ z, ρ (.const (.int .i64 z)) = .int .i64 z) :
    (execOp ρ { dst := d, op := .buildSlice 24 4 #[(0, .const (.int .i64 a)), (1, .const (.int .i64 b)), (2, .const (.int .i64 c)), (3, .const (.int .i64 e))], type := t, pos := s, after := af, guard := none }).run Tryz.prog x = .ok (.value (.slice (some ⟨x.heap.size, 0, none⟩) 4 4)) (x.alloc (.cells ([a, b, c, e].map (Value.int .i64)).toArray 3)) := by
  simp only [execOp]
  simp [h]
  go_simp
theorem run_bs5w {x : World} {d : Option Nat} {t : TypeId} {s : String} {af : Array Edge} {a b c e f : Int} (ρ : Operand → Value) (h : ∀ z, ρ (.const (.int .i64 z)) = .int .i64 z) :
    (execOp ρ { dst := d, op := .buildSlice 24 5 #[(0, .const (.int .i64 a)), (1, .const (.int .i64 b)), (2, .const (.int .i64 c)), (3, .const (.int .i64 e)), (4, .const (.int .i64 f))], type := t, pos := s, after := af, guard := none }).run Tryz.prog x = .ok (.value (.slice (some ⟨x.heap.size, 0, none⟩) 5 5)) (x.alloc (.cells ([a, b, c, e, f].map (Value.int .i64)).toArray 3)) := by
  simp only [execOp]
  simp [h]
  go_simp
theorem wp_ldF {B n i : Nat} {a b : Int} {x : World} {d : Option Nat} {t : TypeId} {s : String} {af : Array Edge} {A : Act} (r : BoxC B x n a b) (h : A.eval (.tmp i) = .pointer (some ⟨n, 0, none⟩)) :
    OpDone Tryz.prog { dst := d, op := .load 62 (.tmp i), type := t, pos := s, after := af, guard := none } A x (.agg #[.int .i64 a, .int .i64 b]) x := by
  refine ⟨fun K Q hk => ?_⟩
  obtain ⟨r1, r2, r3, r4, r5, r6⟩ := r
  unfold Oper.wp execOp
  dsimp only
  rw [h]
  go_simp
  exact hk
theorem wp_stF {B n i j : Nat} {a b a' b' : Int} {x : World} {d : Option Nat} {t : TypeId} {s : String} {af : Array Edge} {A : Act} (r : BoxC B x n a' b') (h : A.eval (.tmp i) = .pointer (some ⟨n, 0, none⟩)) (h' : A.eval (.tmp j) = .agg #[.int .i64 a, .int .i64 b]) :
    OpDone Tryz.prog { dst := d, op := .store 62 (.tmp i) (.tmp j), type := t, pos := s, after := af, guard := none } A x undef ((x.setCell ⟨n, 0, none⟩ (.int .i64 a)).setCell ⟨n, 1, none⟩ (.int .i64 b)) := by
  refine ⟨fun K Q hk => ?_⟩
  obtain ⟨r1, r2, r3, r4, r5, r6⟩ := r
  unfold Oper.wp execOp
  dsimp only
  rw [h, h']
  go_simp
  exact hk
def RetCF (w : World) (e : Ending) (w' : World) : Prop := ∃ a b n d : Int, e = .returned (.tuple #[.agg #[.int .i64 a, .int .i64 b], .agg #[.int .i64 n, .int .i64 d]]) ∧ Below w.heap.size w w'
theorem sb_px {w X : World} {B R N1 : Nat} {lim : Int} (hc : Cr X B lim) (hg : w.grownBy X (some B)) (hr : BoxC B X R 0 0) (h1 : BoxC B X N1 0 0) (a b x y e : Int) :
    SB w B [R, N1, X.heap.size] [X.heap.size + 1] lim ((X.alloc (.cells #[.int .i64 a, .int .i64 b] 50)).alloc (.cells #[.int .i64 x, .int .i64 y, .int .i64 e] 52)) ∧ BoxP B ((X.alloc (.cells #[.int .i64 a, .int .i64 b] 50)).alloc (.cells #[.int .i64 x, .int .i64 y, .int .i64 e] 52)) (X.heap.size + 1) x y e := by
  have hb2 : Below X.heap.size X ((X.alloc (.cells #[.int .i64 a, .int .i64 b] 50)).alloc (.cells #[.int .i64 x, .int .i64 y, .int .i64 e] 52)) := bel_alloc (below_allocD _ _) _
  have hx := (BoxC.new (B := B) a b 50 hc.lt).keep (below_grown B (below_allocD _ (.cells #[.int .i64 x, .int .i64 y, .int .i64 e] 52)))
  have hy : BoxP B ((X.alloc (.cells #[.int .i64 a, .int .i64 b] 50)).alloc (.cells #[.int .i64 x, .int .i64 y, .int .i64 e] 52)) (X.heap.size + 1) x y e := by
    have := BoxP.new (B := B) (w := X.alloc (.cells #[.int .i64 a, .int .i64 b] 50)) x y e 52 (by have := hc.lt; simp; omega)
    rwa [show (X.alloc (.cells #[.int .i64 a, .int .i64 b] 50)).heap.size = X.heap.size + 1 by simp] at this
  refine ⟨⟨hc.keep' hb2, grown_belowD hg hb2, fun n hn => ?_, fun n hn => ?_⟩, hy⟩
  · simp only [List.mem_cons, List.not_mem_nil, or_false] at hn
    rcases hn with rfl | rfl | rfl
    · exact ⟨_, _, hr.keep (below_grown B hb2)⟩
    · exact ⟨_, _, h1.keep (below_grown B hb2)⟩
    · exact ⟨_, _, hx⟩
  · simp only [List.mem_cons, List.not_mem_nil, or_false] at hn
    subst hn
    exact ⟨_, _, _, hy⟩
theorem sb_fr {w X : World} {B : Nat} {cs ps : List Nat} {lim : Int} (h : SB w B cs ps lim X) (p q : Int) : SB w B (cs ++ [X.heap.size]) ps lim (X.alloc (.cells #[.int .i64 p, .int .i64 q] 62)) := by
  have hb := below_allocD X (.cells #[.int .i64 p, .int .i64 q] 62)
  refine ⟨h.cr.keep' hb, grown_belowD h.gr hb, fun n hn => ?_, fun n hn => ?_⟩
  · rcases List.mem_append.1 hn with hn | hn
    · obtain ⟨a, b, k⟩ := h.c n hn
      exact ⟨a, b, k.keep (below_grown B hb)⟩
    · rw [List.mem_singleton.1 hn]
      exact ⟨_, _, BoxC.new (B := B) p q 62 h.cr.lt⟩
  · obtain ⟨a, b, c, k⟩ := h.p n hn
    exact ⟨a, b, c, k.keep (below_grown B hb)⟩
set_option maxHeartbeats 8000000 in
set_option maxRecDepth 100000 in
theorem drawPointsAtX_any (ad : Option Addr) (len cap : Nat) (zs : List Int) (w : World) (h : IsRow .u8 w ad len cap zs) (hl : len ≤ 1048576) :
    Calls Tryz.prog 40 #[.slice ad len cap] w (RetCF w) := by
  have h0 : Below w.heap.size w ((w.alloc (.cells #[.int .i64 0, .int .i64 0] 50)).alloc (.cells #[.int .i64 0, .int .i64 0] 62)) := bel_alloc (below_allocD _ _) _
  have hc0 := cr_startb h (by omega) h0 75
  have hz0 : ((w.alloc (.cells #[.int .i64 0, .int .i64 0] 50)).alloc (.cells #[.int .i64 0, .int .i64 0] 62)).heap.size = w.heap.size + 1 + 1 := by simp
  have hr0 : BoxC (w.heap.size + 1 + 1) (((w.alloc (.cells #[.int .i64 0, .int .i64 0] 50)).alloc (.cells #[.int .i64 0, .int .i64 0] 62)).alloc (.cells #[.slice ad len cap, .int .i64 0, .int .u64 0] 75)) w.heap.size 0 0 := ⟨by simp <;> omega, by omega, by simp [go_sem], by simp [go_sem], by simp [go_sem], by simp [go_sem]⟩
  have hr1 : BoxC (w.heap.size + 1 + 1) (((w.alloc (.cells #[.int .i64 0, .int .i64 0] 50)).alloc (.cells #[.int .i64 0, .int .i64 0] 62)).alloc (.cells #[.slice ad len cap, .int .i64 0, .int .u64 0] 75)) (w.heap.size + 1) 0 0 := ⟨by simp <;> omega, by omega, by simp [go_sem], by simp [go_sem], by simp [go_sem], by simp [go_sem]⟩
  have hl1 : Below w.heap.size w (((w.alloc (.cells #[.int .i64 0, .int .i64 0] 50)).alloc (.cells #[.int .i64 0, .int .i64 0] 62)).alloc (.cells #[.slice ad len cap, .int .i64 0, .int .u64 0] 75)) := bel_alloc h0 _
  have HC0 := Lib.hid hc0; have HL0 := Lib.hid hl1; have HZ0 := Lib.hid hz0; have HR0 := Lib.hid hr0; have HR1 := Lib.hid hr1
  clear hc0 h0 hl1 hz0 h hr0 hr1
  go_enter Tryz.func40, Tryz.ntmps40
  go_wp2_with fail
  have hc0 := HC0.out; have hl0 := HL0.out; have hr0 := HR0.out; have hr1 := HR1.out
  rw [HZ0.out] at hc0
  clear HC0 HL0 HZ0 HR0 HR1
  generalize ((w.alloc (.cells #[.int .i64 0, .int .i64 0] 50)).alloc (.cells #[.int .i64 0, .int .i64 0] 62)).alloc (.cells #[.slice ad len cap, .int .i64 0, .int .u64 0] 75) = V0 at hc0 hl0 hr0 hr1 ⊢
  obtain ⟨N1, hN1⟩ : ∃ N, N = w.heap.size + 1 := ⟨_, rfl⟩
  obtain ⟨B, hB⟩ : ∃ N, N = w.heap.size + 1 + 1 := ⟨_, rfl⟩
  rw [← hB] at hc0 hr0 hr1 ⊢
  rw [← hN1] at hr1 ⊢
  have HN := Lib.hid (And.intro hN1 hB); clear hN1 hB
  have hg0 := below_grown B hl0; clear hl0
  refine (anyPoint_any B _ _ hc0 (by omega)).mono ?_; rintro e w1 ⟨v, rfl, ⟨a, b, x, y, e0, rfl⟩, hg1, hc1⟩
  have HK := Lib.hid (And.intro hc1 (And.intro (grown_trans hg0 hg1) (And.intro (hr0.keep hg1) (hr1.keep hg1))))
  clear hg1 hg0 hr0 hr1 hc0 hc1
  go_upto_region 4 with fail
  obtain ⟨hy, hp⟩ := sb_px HK.out.1 HK.out.2.1 HK.out.2.2.1 HK.out.2.2.2 a b x y e0
  have hn3 := HK.out.1.lt
  have hwz : ((w1.alloc (.cells #[.int .i64 a, .int .i64 b] 50)).alloc (.cells #[.int .i64 x, .int .i64 y, .int .i64 e0] 52)).heap.size = w1.heap.size + 1 + 1 := by simp
  have hy2 := sb_fr hy 0 0
  have hp2 := hp.keep (below_grown B (below_allocD _ (.cells #[.int .i64 0, .int .i64 0] 62)))
  rw [hwz] at hy2
  clear hy hp hwz
  generalize ((w1.alloc (.cells #[.int .i64 a, .int .i64 b] 50)).alloc (.cells #[.int .i64 x, .int .i64 y, .int .i64 e0] 52)).alloc (.cells #[.int .i64 0, .int .i64 0] 62) = Y at hy2 hp2 ⊢
  generalize w1.heap.size = n at hy2 hp2 hn3 ⊢
  obtain ⟨m, hm⟩ : ∃ m, m = n + 1 + 1 := ⟨_, rfl⟩
  rw [← hm] at hy2 ⊢
  have HNB := Lib.hid (show N1 = w.heap.size + 1 ∧ w.heap.size + 1 + 1 < n ∧ m = n + 1 + 1 by have := HN.out; omega)
  rw [show [w.heap.size, N1, n] ++ [m] = [w.heap.size, N1, n, m] from rfl] at hy2
  clear HK hn3 hm
  obtain ⟨lim, hlim, hlim2⟩ : ∃ lim : Int, lim ≤ 100000 ∧ 100000 ≤ lim := ⟨100000, by omega, by omega⟩
  have HS := Lib.hid (hy2.le (lim' := lim) (by omega)); have HP := Lib.hid hp2
  clear hy2 hp2
  go_cut [25] from 18 to 24 (fun v wx => ∃ g : Bool, v = .bool g ∧ g = (inB e0 1 100 && inB x (-100000) 100000) ∧ Hid (SB w B [w.heap.size, N1, n, m] [n + 1] lim wx) ∧ Hid (BoxP B wx (n + 1) x y e0))
  case first =>
    as_aux_lemma =>
    obtain ⟨p1, p2, p3, p4, p5, p6, p7, p8⟩ := HP.out
    cases h1 : inB e0 1 100
    · go_wp2_with (go_at_call 68; refine (l1In_any _ _ _ _).mono ?_; rintro e w' ⟨rfl, rfl⟩)
      go_meet
      exact ⟨_, rfl, by rw [h1]; rfl, HS, HP⟩
    · cases h2 : inB x (-100000) 100000
      · go_wp2_with (go_at_call 68; refine (l1In_any _ _ _ _).mono ?_; rintro e w' ⟨rfl, rfl⟩)
        go_meet
        exact ⟨_, rfl, by rw [h1, h2]; rfl, HS, HP⟩
      · go_wp2_with (go_at_call 68; refine (l1In_any _ _ _ _).mono ?_; rintro e w' ⟨rfl, rfl⟩)
        go_meet
        exact ⟨_, rfl, by rw [h1, h2]; rfl, HS, HP⟩
  case rest =>
    as_aux_lemma =>
    clear HS HP
    obtain ⟨gq, rfl, hgq, HS, HP⟩ := hcut
    generalize wc = Y2 at HS HP ⊢
    go_upto_if 25 with fail
    go_cut [8] from 26 to 36 (fun v wx => (∃ o : Bool, v = .bool o) ∧ Hid (SB w B [w.heap.size, N1, n, m] [n + 1] lim wx))
    case first =>
      as_aux_lemma =>
      cases gq
      · clear HP
        go_wp2_with fail
        go_meet
        exact ⟨⟨_, rfl⟩, HS⟩
      · obtain ⟨g1, g2⟩ := Bool.and_eq_true_iff.1 hgq.symm
        obtain ⟨q1, q2⟩ := inB_true.1 g1
        obtain ⟨q3, q4⟩ := inB_true.1 g2
        clear hgq g1 g2
        have hee : 1 ≤ e0 * e0 ∧ e0 * e0 ≤ 10000 := by
          have h1 : e0 * e0 ≤ 100 * e0 := Int.mul_le_mul_of_nonneg_right q2 (by omega)
          have h2 : 1 * e0 ≤ e0 * e0 := Int.mul_le_mul_of_nonneg_right q1 (by omega)
          omega
        have hwe : IntKind.i64.wrap (e0 * e0) = e0 * e0 := wrapkb (by omega) (by omega)
        have hfm := fun w => frMake_any x (e0 * e0) w (by omega) (by omega) (by omega) (by omega) (by omega)
        obtain ⟨p, q, o, hv⟩ := makV_shape x (e0 * e0)
        rw [hv] at hfm
        have HFM := Lib.hid hfm; clear hfm hv hee
        obtain ⟨p1, p2, p3, p4, p5, p6, p7, p8⟩ := HP.out
        go_wp2_with fail
        refine (HFM.out _).mono ?_; rintro e w5 ⟨rfl, hb⟩
        have hS5 := HS.out.grow (below_grown B hb) (HS.out.cr.keep' hb)
        clear hb HS HP p1 p2 p3 p4 p5 p6 p7 p8 HFM hwe
        have HS5 := Lib.hid hS5; clear hS5
        obtain ⟨_, _, r1, r2, r3, r4, r5, r6⟩ := HS5.out.c m (by simp)
        go_wp2_with fail
        go_meet
        exact ⟨⟨_, rfl⟩, HS5.out.putC (m := m) (by simp) (by have := HNB.out; omega) (by have := HNB.out; simp; omega) p q⟩
    case rest =>
      as_aux_lemma =>
      clear HS HP hgq
      obtain ⟨⟨o, rfl⟩, HS⟩ := hcut
      generalize wc = Y3 at HS ⊢
      go_upto_region 6 with fail
      go_cut [42] from 37 to 41 (fun v wx => (∃ o : Bool, v = .bool o) ∧ Hid (SB w B [w.heap.size, N1, n, m] [n + 1] (lim + 10) wx))
      case first =>
        as_aux_lemma =>
        cases o
        · go_wp2_with fail
          go_meet
          exact ⟨⟨_, rfl⟩, HS.out.le (by omega)⟩
        · go_wp2_with fail
          refine (one_any B _ 6 _ HS.out.cr (by omega) (by omega) (by omega)).mono ?_; rintro e w5 ⟨v, rfl, ⟨bo, rfl⟩, hg, hc⟩
          have HS5 := Lib.hid (HS.out.grow hg hc); clear hg hc HS
          cases bo
          · go_wp2_with fail
            go_meet
            exact ⟨⟨_, rfl⟩, HS5.out.le (by omega)⟩
          · go_wp2_with fail
            go_meet
            exact ⟨⟨_, rfl⟩, HS5.out.le (by omega)⟩
      case rest =>
        as_aux_lemma =>
        clear HS
        obtain ⟨⟨o2, rfl⟩, HS⟩ := hcut
        generalize wc = Y4 at HS ⊢
        go_upto_if 42 with fail
        go_cut [] from 43 to 52 (fun wx => Hid (SB w B [w.heap.size, N1, n, m] [n + 1] (lim + 100) wx))
        case first =>
          as_aux_lemma =>
          cases o2
          · go_wp2_with fail
            go_meet
            exact HS.out.le (by omega)
          · go_upto_region 7 with fail
            go_step
            go_step
            go_step
            go_step
            go_step
            refine OpDone.out (wp_value_ofb (run_bs4w _ (fun _ => rfl))) _ _ ?_
            go_wp2_with fail
            refine (amongMem2_any B _ _ [10000, 10001, -10000, 1] _ HS.out.cr (by omega) (by simp) (by simp)).mono ?_; rintro e w5 ⟨v, rfl, ⟨p, rfl, hp⟩, hg, hc⟩
            have p0 : -10000 ≤ p := by simp only [List.mem_cons, List.not_mem_nil, or_false] at hp; omega
            have p1 : p ≤ 10001 := by simp only [List.mem_cons, List.not_mem_nil, or_false] at hp; omega
            have HS5 := Lib.hid (HS.out.grow hg hc); clear hg hc HS hp
            dsimp only
            go_step
            go_step
            go_step
            go_step
            go_step
            refine OpDone.out (wp_value_ofb (run_bs5w _ (fun _ => rfl))) _ _ ?_
            go_wp2_with fail
            refine (amongMem2_any B _ _ [1, 4, 400, 441, 2] _ HS5.out.cr (by omega) (by simp) (by simp)).mono ?_; rintro e w6 ⟨v, rfl, ⟨q, rfl, hq⟩, hg, hc⟩
            have q0 : 1 ≤ q := by simp only [List.mem_cons, List.not_mem_nil, or_false] at hq; omega
            have q1 : q ≤ 441 := by simp only [List.mem_cons, List.not_mem_nil, or_false] at hq; omega
            have HS6 := Lib.hid (HS5.out.grow hg hc); clear hg hc HS5 hq
            have hfm := fun w => frMake_any p q w (by omega) (by omega) (by omega) (by omega) (by omega)
            obtain ⟨p', q', o, hv⟩ := makV_shape p q
            rw [hv] at hfm
            have HFM := Lib.hid hfm; clear hfm hv
            go_wp2_with fail
            refine (HFM.out _).mono ?_; rintro e w7 ⟨rfl, hb⟩
            have HS7 := Lib.hid (HS6.out.grow (below_grown B hb) (HS6.out.cr.keep' hb)); clear hb HS6 HFM
            obtain ⟨_, _, r1, r2, r3, r4, r5, r6⟩ := HS7.out.c m (by simp)
            go_wp2_with fail
            go_meet
            exact (HS7.out.putC (m := m) (by simp) (by have := HNB.out; omega) (by have := HNB.out; simp; omega) p' q').le (by omega)
        case rest =>
          as_aux_lemma =>
          clear HS
          have HS := hcut; clear hcut
          generalize wc = Y5 at HS ⊢
          go_wp2_with fail
          refine (one_any B _ 20 _ HS.out.cr (by omega) (by omega) (by omega)).mono ?_; rintro e w5 ⟨v, rfl, ⟨bo, rfl⟩, hg, hc⟩
          have HS5 := Lib.hid (HS.out.grow hg hc); clear hg hc HS
          go_upto_if 54 with fail
          go_cut [] from 55 to 56 (fun wx => Hid (SB w B [w.heap.size, N1, n, m] [n + 1] (lim + 500) wx))
          case first =>
            as_aux_lemma =>
            cases bo
            · go_wp2_with fail
              go_meet
              exact HS5.out.le (by omega)
            · go_wp2_with fail
              refine (anyFraction_any B _ _ HS5.out.cr (by omega)).mono ?_; rintro e w6 ⟨v, rfl, ⟨p, q, rfl⟩, hg, hc⟩
              have HS6 := Lib.hid (HS5.out.grow hg hc); clear hg hc HS5
              obtain ⟨_, _, r1, r2, r3, r4, r5, r6⟩ := HS6.out.c m (by simp)
              go_wp2_with fail
              go_meet
              exact (HS6.out.putC (m := m) (by simp) (by have := HNB.out; omega) (by have := HNB.out; simp; omega) p q).le (by omega)
          case rest =>
            as_aux_lemma =>
            clear HS5
            have hy := hcut; clear hcut
            generalize wc = Y6 at hy ⊢
            obtain ⟨lim9, hlim9, hlim8⟩ : ∃ lim9 : Int, lim9 ≤ lim + 1000 ∧ lim + 1000 ≤ lim9 := ⟨lim + 1000, by omega, by omega⟩
            have HY := Lib.hid (hy.out.le (lim' := lim9) (by omega)); clear hy
            go_upto_region 10 with fail
            refine wp_region_steps [57, 58] RT (look [(57, VCe), (58, VCe)]) (fun k X => SB w B [w.heap.size, N1, n, m] [n + 1] (lim9 + 10 * (k : Int)) X) (by kernel_rfl) (by kernel_rfl) (by decide) (look_keep ?_) ?_ ?_
            · intro q hq v x y hv hr
              simp only [List.mem_cons, List.not_mem_nil, or_false] at hq
              rcases hq with rfl | rfl
              all_goals exact hv
            · exact HY.out.drew.le (by omega)
            refine Steps.cons ?_ ?_
            · refine TStep.of ?_ ?_ ?_
              · rfl
              · simp
              intro k g X hk9 hS hd
              obtain ⟨c1, d1, hb⟩ := hS.c n (by simp)
              refine ⟨_, X, wp_ldCb hb (by rw [eval_out (by decide)]; rfl), fun d e => ?_, (hS.le (by push_cast; omega)), trivial⟩
              cases e; exact ⟨_, _, rfl⟩
            refine Steps.cons ?_ ?_
            · refine TStep.of ?_ ?_ ?_
              · rfl
              · simp
              intro k g X hk9 hS hd
              obtain ⟨c1, d1, hb⟩ := hS.c m (by simp)
              refine ⟨_, X, wp_ldF hb (by rw [eval_out (by decide)]; rfl), fun d e => ?_, (hS.le (by push_cast; omega)), trivial⟩
              cases e; exact ⟨_, _, rfl⟩
            refine Steps.cons ?_ ?_
            · refine TStep.of ?_ ?_ ?_
              · rfl
              · simp
              intro k g X hk9 hS hd
              obtain ⟨c1, d1, e1⟩ : VCe (g 57) X := hd 57 (mem_b (by kernel_rfl))
              obtain ⟨c2, d2, hb⟩ := hS.c (w.heap.size) (by simp)
              refine ⟨undef, _, wp_stCb hb (by rw [eval_out (by decide)]; rfl) (by rw [eval_in (by decide) (by simp)]; exact e1), (by simp), (hS.putC (m := w.heap.size) (by simp) (by have := HNB.out; omega) (by have := HNB.out; simp; omega) c1 d1).le (by push_cast; omega), trivial⟩
            refine Steps.one ?_
            refine LStep.of ?_ ?_
            · rfl
            intro g X hS hd
            obtain ⟨c1, d1, e1⟩ : VCe (g 58) X := hd 58 (mem_b (by kernel_rfl))
            obtain ⟨c2, d2, hb⟩ := hS.c N1 (by simp)
            refine ⟨undef, _, wp_stF hb (by rw [eval_out (by decide)]; rfl) (by rw [eval_in (by decide) (by simp)]; exact e1), ?_⟩
            have hE := hS.putC (m := N1) (by simp) (by have := HNB.out; omega) (by have := HNB.out; simp; omega) c1 d1
            clear hb hS hd e1 HY
            generalize (X.setCell ⟨N1, 0, none⟩ (.int .i64 c1)).setCell ⟨N1, 1, none⟩ (.int .i64 d1) = Y2 at hE ⊢
            obtain ⟨_, _, q1, q2, q3, q4, q5, q6⟩ := hE.c (w.heap.size) (by simp)
            obtain ⟨_, _, r1, r2, r3, r4, r5, r6⟩ := hE.c N1 (by simp)
            have HE := Lib.hid hE; clear hE HNB
            simp only [fill, Act.put, List.setIfInBounds_toArray, List.set_cons_zero, List.set_cons_succ]
            go_wp2_with fail
            refine bodyPost_ret (by simp (maxDischargeDepth := 3) [results, Tryz.results40, go_sem, *]; try rfl) rfl ?_
            exact ⟨_, _, _, _, rfl, grown_bel HE.out.gr (by have := HN.out; omega)⟩
end Go.Proofs.YtakilincclnpdaaGreatDoor
