/- Yj: draws of pairs of wholes, of a whole and a divisor. No conditions. -/
import Derived.Test.YtnhlcgbknkdbiaaYi
namespace Go.Proofs.Ytnhlcgbknkdbiaa
open Go.RowKit

/-- returned two wholes, valid or not, each of the call's own. -/
def RetWW (w : World) (e : Ending) (w' : World) : Prop := ∃ (v u : Value) (n m : Bool) (xs ys : List Int), e = .returned (.tuple #[v, u]) ∧ RW w' v n xs ∧ RW w' u m ys ∧ xs.length ≤ 1000 ∧ ys.length ≤ 1000 ∧ Below w.heap.size w w'
def RetWn (w : World) (e : Ending) (w' : World) : Prop := ∃ (v : Value) (n : Bool) (xs : List Int) (k : Int), e = .returned (.tuple #[v, .int .i64 k]) ∧ RW w' v n xs ∧ xs.length ≤ 1000 ∧ I64 k ∧ Below w.heap.size w w'
theorem grown_bel' {w X : World} {B : Nat} (g : w.grownBy X (some B)) (hB : w.heap.size ≤ B) : Below w.heap.size w X :=
  ⟨g.os, g.tape, g.output, g.size, fun i hi => g.block i hi (by intro e; cases e; omega)⟩
def BW (B : Nat) (X : World) (n : Nat) : Prop := ∃ (b : Bool) (ad : Option Addr) (c : Nat) (ys : List Int), BoxV B X n (.bool b) (.slice ad ys.length c) ∧ Own X (B + 1) (.slice ad ys.length c) ys ∧ ys.length ≤ 1000
theorem BW.keep {B n : Nat} {X Y : World} (h : BW B X n) (g : X.grownBy Y (some B)) : BW B Y n := by
  obtain ⟨b, ad, c, ys, h1, h2, h3⟩ := h
  exact ⟨b, ad, c, ys, h1.keep g, own_keepG h2 g (Nat.lt_succ_self _), h3⟩
theorem BoxV.put0 {B n : Nat} {w : World} {u0 u1 : Value} (h : BoxV B w n u0 u1) (v : Value) : BoxV B (w.setCell ⟨n, 0, none⟩ v) n v u1 := by
  obtain ⟨h1, h2, h3, h4, h5, h6⟩ := h
  exact ⟨by simpa using h1, h2, by simp [go_sem, h3], by simp [go_sem, h4], by simp [go_sem, h5], by simp [go_sem, h6]⟩
theorem BW.far2 {B n k : Nat} {X : World} (h : BW B X n) (hne : n ≠ k) (hk : k < B + 1) (v u : Value) : BW B ((X.setCell ⟨k, 0, none⟩ v).setCell ⟨k, 1, none⟩ u) n := by
  obtain ⟨b, ad, c, ys, h1, h2, h3⟩ := h
  exact ⟨b, ad, c, ys, (h1.far1 hne).far1 hne, own_setFar (own_setFar h2 hk _ _) hk _ _, h3⟩
theorem BW.zero {B n : Nat} {X : World} (h : BoxV B X n (.bool false) (.slice none 0 0)) : BW B X n := ⟨false, none, 0, [], h, Own.nil _ _, by simp⟩
theorem cr_putG {B n o : Nat} {V : World} {lim : Int} {u : Value} (h : Cr V B lim) (hn : n ≠ B) (h0 : V.cell? ⟨n, o, none⟩ = some u) (hu : ∀ c, u ≠ .int .u8 c) (v : Value) : Cr (V.setCell ⟨n, o, none⟩ v) B lim := by
  obtain ⟨h1, h2, h3, ad, len, cap, at_, seed, c0, c1, c2, a0, a1, s0, s1, hl, hc⟩ := h
  have far : ∀ i, (V.setCell ⟨n, o, none⟩ v).cell? ⟨B, i, none⟩ = V.cell? ⟨B, i, none⟩ := fun i => World.cell?_setCell_other _ _ _ _ (by intro e; injection e with e1; exact hn e1)
  refine ⟨by simpa using h1, by simp [go_sem, h2], by simp [go_sem, h3], ad, len, cap, at_, seed, (far 0).trans c0, (far 1).trans c1, (far 2).trans c2, a0, a1, s0, s1, hl, fun hp => ?_⟩
  obtain ⟨b, off, ha, hlt, hcell⟩ := hc hp
  refine ⟨b, off, ha, hlt, fun i hi => ?_⟩
  obtain ⟨c, q0, q1, q2⟩ := hcell i hi
  refine ⟨c, q0, q1, (World.cell?_setCell_other _ _ _ _ fun e => ?_).trans q2⟩
  rw [← e, h0] at q2
  injection q2 with q2
  exact hu _ q2
theorem cr_boxW {B n : Nat} {V : World} {lim : Int} {b : Bool} {ad : Option Addr} {l c : Nat} (h : Cr V B lim) (hb : BoxV B V n (.bool b) (.slice ad l c)) (b2 : Bool) (ad2 : Option Addr) (l2 c2 : Nat) : Cr ((V.setCell ⟨n, 0, none⟩ (.bool b2)).setCell ⟨n, 1, none⟩ (.slice ad2 l2 c2)) B lim :=
  cr_putG (cr_putG h hb.2.1 hb.2.2.1 (by intro c e; cases e) _) hb.2.1 (hb.put0 (.bool b2)).2.2.2.1 (by intro c e; cases e) _
/-- blocks from b on stay. -/
def RWk (b : Nat) (x y : World) : Prop := x.heap.size ≤ y.heap.size ∧ ∀ i, i < x.heap.size → b ≤ i → y.heap[i]? = x.heap[i]?
theorem RWk.refl (b : Nat) (x : World) : RWk b x x := ⟨Nat.le_refl _, fun _ _ _ => rfl⟩
theorem RWk.grown {b B : Nat} {x y : World} (g : x.grownBy y (some B)) (hB : B < b) : RWk b x y := ⟨g.size, fun i hi hb => g.block i hi (by intro e; cases e; omega)⟩
theorem RWk.set2 {b k : Nat} {x : World} (hk : k < b) (v u : Value) : RWk b x ((x.setCell ⟨k, 0, none⟩ v).setCell ⟨k, 1, none⟩ u) := ⟨by simp, fun i _ hb => by rw [heap_setNe (by omega), heap_setNe (by omega)]⟩
theorem RO.keepR {base : Nat} {x y : World} {v : Value} {neg : Bool} {xs : List Int} (h : RO x base v neg xs) (r : RWk base x y) : RO y base v neg xs := by
  obtain ⟨ad, cap, hv, h1, h2⟩ := h
  refine ⟨ad, cap, hv, h1, ?_⟩
  rcases h2 with h2 | ⟨k, cap', cur, hv', hg, hh, rr⟩
  · exact .inl h2
  · have hlt : k < x.heap.size := by
      rcases Nat.lt_or_ge k x.heap.size with h' | h'
      · exact h'
      · rw [Array.getElem?_eq_none h'] at hh; cases hh
    exact .inr ⟨k, cap', cur, hv', hg, (r.2 k hlt hg).trans hh, rr⟩
theorem wp_ldW {B n i : Nat} {b : Bool} {ad : Option Addr} {l c : Nat} {x : World} {d : Option Nat} {t : TypeId} {s : String} {af : Array Edge} {A : Act} (r : BoxV B x n (.bool b) (.slice ad l c)) (h : A.eval (.tmp i) = .pointer (some ⟨n, 0, none⟩)) :
    OpDone Try.prog { dst := d, op := .load 26 (.tmp i), type := t, pos := s, after := af, guard := none } A x (.agg #[.bool b, .slice ad l c]) x := by
  refine ⟨fun K Q hk => ?_⟩
  obtain ⟨r1, r2, r3, r4, r5, r6⟩ := r
  unfold Oper.wp execOp
  dsimp only
  rw [h]
  go_simp
  exact hk
theorem wp_stW {B n i j : Nat} {b b2 : Bool} {ad ad2 : Option Addr} {l c l2 c2 : Nat} {x : World} {d : Option Nat} {t : TypeId} {s : String} {af : Array Edge} {A : Act} (r : BoxV B x n (.bool b) (.slice ad l c)) (h : A.eval (.tmp i) = .pointer (some ⟨n, 0, none⟩)) (h' : A.eval (.tmp j) = .agg #[.bool b2, .slice ad2 l2 c2]) :
    OpDone Try.prog { dst := d, op := .store 26 (.tmp i) (.tmp j), type := t, pos := s, after := af, guard := none } A x undef ((x.setCell ⟨n, 0, none⟩ (.bool b2)).setCell ⟨n, 1, none⟩ (.slice ad2 l2 c2)) := by
  refine ⟨fun K Q hk => ?_⟩
  obtain ⟨r1, r2, r3, r4, r5, r6⟩ := r
  unfold Oper.wp execOp
  dsimp only
  rw [h, h']
  go_simp
  exact hk
theorem run_callMi {i : Nat} {x : World} {d : Option Nat} {t : TypeId} {ts : Array TypeId} {s : String} {af : Array Edge} (ρ : Operand → Value) (hf : ρ (.func 37) = .func (.func 37) #[] #[]) :
    (execOp ρ { dst := d, op := .call { callee := .value (.func 37), args := #[.tmp i], argTypes := ts }, type := t, pos := s, after := af, guard := none }).run Try.prog x = .ok (.enter 37 #[ρ (.tmp i)]) x := by
  simp only [execOp, resolve, hf]
  go_simp
theorem run_callAW {i : Nat} {x : World} {d : Option Nat} {t : TypeId} {ts : Array TypeId} {s : String} {af : Array Edge} (ρ : Operand → Value) (hf : ρ (.func 34) = .func (.func 34) #[] #[]) :
    (execOp ρ { dst := d, op := .call { callee := .value (.func 34), args := #[.tmp i], argTypes := ts }, type := t, pos := s, after := af, guard := none }).run Try.prog x = .ok (.enter 34 #[ρ (.tmp i)]) x := by
  simp only [execOp, resolve, hf]
  go_simp
set_option maxHeartbeats 8000000 in
set_option maxRecDepth 100000 in
theorem drawDivideWhole_any (ad : Option Addr) (len cap : Nat) (zs : List Int) (w : World) (h : IsRow .u8 w ad len cap zs) (hl : len ≤ 1048576) :
    Calls Try.prog 15 #[.slice ad len cap] w (RetWn w) := by
  have h0 : Below w.heap.size w (w.alloc (.cells #[.bool false, .slice none 0 0] 26)) := below_allocD _ _
  have hc0 := cr_startb h (by omega) h0 61
  have hz0 : (w.alloc (.cells #[.bool false, .slice none 0 0] 26)).heap.size = w.heap.size + 1 := by simp
  have hr0 : BoxV (w.heap.size + 1) ((w.alloc (.cells #[.bool false, .slice none 0 0] 26)).alloc (.cells #[.slice ad len cap, .int .i64 0, .int .u64 0] 61)) (w.heap.size) (.bool false) (.slice none 0 0) := ⟨by simp <;> omega, by omega, by simp [go_sem], by simp [go_sem], by simp [go_sem], by simp [go_sem]⟩
  have hl1 : Below w.heap.size w ((w.alloc (.cells #[.bool false, .slice none 0 0] 26)).alloc (.cells #[.slice ad len cap, .int .i64 0, .int .u64 0] 61)) := bel_alloc h0 _
  have HC0 := Lib.hid hc0; have HL0 := Lib.hid hl1; have HZ0 := Lib.hid hz0; have HR0 := Lib.hid hr0
  clear hc0 h0 hl1 hz0 h hr0
  go_enter Try.func15, Try.ntmps15
  go_wp2_with fail
  have hc0 := HC0.out; have hl0 := HL0.out; have hr0 := HR0.out
  rw [HZ0.out] at hc0
  clear HC0 HL0 HZ0 HR0
  generalize (w.alloc (.cells #[.bool false, .slice none 0 0] 26)).alloc (.cells #[.slice ad len cap, .int .i64 0, .int .u64 0] 61) = V at hc0 hl0 hr0 ⊢
  obtain ⟨B, hB⟩ : ∃ N, N = w.heap.size + 1 := ⟨_, rfl⟩
  rw [← hB] at hc0 hr0 ⊢
  have HN := Lib.hid hB
  clear hB
  have hg0 := below_grown B hl0; clear hl0
  refine (anyWhole_any B _ _ hc0 (by omega)).mono ?_; rintro e w1 ⟨v, neg, xs, rfl, hro, hxl, hg1, hc1⟩
  have HC1 := Lib.hid hc1; have HG1 := Lib.hid (grown_trans hg0 hg1); have HR1 := Lib.hid (hr0.keep hg1)
  have hVB : B < V.heap.size := hc0.lt
  have HRO := Lib.hid (hro.le (base' := B + 1) (by omega))
  clear hg0 hg1 hc0 hc1 hr0 hro hVB
  go_wp2_with fail
  refine (smallDivisor_any B _ _ HC1.out (by omega)).mono ?_; rintro e w2 ⟨v2, rfl, ⟨k, rfl, kI⟩, hg, hc⟩
  have HC2 := Lib.hid hc; have HG2 := Lib.hid (grown_trans HG1.out hg); have HR2 := Lib.hid (HR1.out.keep hg); have HRO2 := Lib.hid (HRO.out.keepG hg (by omega))
  clear hg hc HC1 HG1 HR1 HRO
  obtain ⟨ad0, cap0, hv0, _⟩ := HRO2.out
  subst hv0
  obtain ⟨r1, r2, r3, r4, r5, r6⟩ := HR2.out
  go_wp2_with fail
  refine bodyPost_ret (by simp (maxDischargeDepth := 3) [results, Try.results15, go_sem, *]; try rfl) rfl ?_
  exact ⟨_, neg, xs, k, rfl, ((HRO2.out.setFar (by have := HN.out; omega)).setFar (by have := HN.out; omega)).rw, by omega, kI, grown_bel' (set_grown (set_grown HG2.out (Nat.le_refl _) _) (Nat.le_refl _) _) (by have := HN.out; omega)⟩
set_option maxHeartbeats 8000000 in
set_option maxRecDepth 100000 in
theorem drawAddWholes_any (ad : Option Addr) (len cap : Nat) (zs : List Int) (w : World) (h : IsRow .u8 w ad len cap zs) (hl : len ≤ 1048576) :
    Calls Try.prog 6 #[.slice ad len cap] w (RetWW w) := by
  have h0 : Below w.heap.size w ((w.alloc (.cells #[.bool false, .slice none 0 0] 26)).alloc (.cells #[.bool false, .slice none 0 0] 26)) := bel_alloc (below_allocD _ _) _
  have hc0 := cr_startb h (by omega) h0 61
  have hz0 : ((w.alloc (.cells #[.bool false, .slice none 0 0] 26)).alloc (.cells #[.bool false, .slice none 0 0] 26)).heap.size = w.heap.size + 1 + 1 := by simp
  have hr0 : BoxV (w.heap.size + 1 + 1) (((w.alloc (.cells #[.bool false, .slice none 0 0] 26)).alloc (.cells #[.bool false, .slice none 0 0] 26)).alloc (.cells #[.slice ad len cap, .int .i64 0, .int .u64 0] 61)) (w.heap.size) (.bool false) (.slice none 0 0) := ⟨by simp <;> omega, by omega, by simp [go_sem], by simp [go_sem], by simp [go_sem], by simp [go_sem]⟩
  have hr1 : BoxV (w.heap.size + 1 + 1) (((w.alloc (.cells #[.bool false, .slice none 0 0] 26)).alloc (.cells #[.bool false, .slice none 0 0] 26)).alloc (.cells #[.slice ad len cap, .int .i64 0, .int .u64 0] 61)) (w.heap.size + 1) (.bool false) (.slice none 0 0) := ⟨by simp <;> omega, by omega, by simp [go_sem], by simp [go_sem], by simp [go_sem], by simp [go_sem]⟩
  have hl1 : Below w.heap.size w (((w.alloc (.cells #[.bool false, .slice none 0 0] 26)).alloc (.cells #[.bool false, .slice none 0 0] 26)).alloc (.cells #[.slice ad len cap, .int .i64 0, .int .u64 0] 61)) := bel_alloc h0 _
  have HC0 := Lib.hid hc0; have HL0 := Lib.hid hl1; have HZ0 := Lib.hid hz0; have HR0 := Lib.hid hr0; have HR1 := Lib.hid hr1
  clear hc0 h0 hl1 hz0 h hr0 hr1
  go_enter Try.func6, Try.ntmps6
  go_wp2_with fail
  have hc0 := HC0.out; have hl0 := HL0.out; have hr0 := HR0.out; have hr1 := HR1.out
  rw [HZ0.out] at hc0
  clear HC0 HL0 HZ0 HR0 HR1
  generalize ((w.alloc (.cells #[.bool false, .slice none 0 0] 26)).alloc (.cells #[.bool false, .slice none 0 0] 26)).alloc (.cells #[.slice ad len cap, .int .i64 0, .int .u64 0] 61) = V at hc0 hl0 hr0 hr1 ⊢
  obtain ⟨N1, hN1⟩ : ∃ N, N = w.heap.size + 1 := ⟨_, rfl⟩
  obtain ⟨B, hB⟩ : ∃ N, N = w.heap.size + 1 + 1 := ⟨_, rfl⟩
  rw [← hB] at hc0 hr0 hr1 ⊢
  rw [← hN1] at hr1 ⊢
  have HN := Lib.hid (show N1 = w.heap.size + 1 ∧ B = w.heap.size + 1 + 1 from ⟨hN1, hB⟩)
  clear hN1 hB
  have hg0 := below_grown B hl0; clear hl0
  refine (anyWhole_any B _ _ hc0 (by omega)).mono ?_; rintro e w1 ⟨v, neg, xs, rfl, hro, hxl, hg1, hc1⟩
  have HCa := Lib.hid hc1; have HGa := Lib.hid (grown_trans hg0 hg1); have HRa := Lib.hid (hr0.keep hg1); have HSa := Lib.hid (hr1.keep hg1)
  have hVB : B < V.heap.size := hc0.lt
  have HXL := Lib.hid (show xs.length ≤ 1000 by omega)
  obtain ⟨ad0, cap0, rfl, ho⟩ := hro
  have HOa := Lib.hid (ho.le (base' := B + 1) (by omega))
  clear hg0 hg1 hc0 hc1 hr0 hr1 ho hVB
  go_wp2_with fail
  have hb1 : Below w1.heap.size w1 (w1.alloc (.cells #[.bool neg, .slice ad0 xs.length cap0] 26)) := below_allocD _ _
  have HM := Lib.hid (BoxV.new (B := B) (.bool neg) (.slice ad0 xs.length cap0) 26 HCa.out.lt)
  have HC1 := Lib.hid (HCa.out.keep' hb1); have HG1 := Lib.hid (grown_trans HGa.out (below_grown B hb1)); have HR1 := Lib.hid (HRa.out.keep (below_grown B hb1)); have HS1 := Lib.hid (HSa.out.keep (below_grown B hb1)); have HO1 := Lib.hid (HOa.out.keep hb1)
  have HNB := Lib.hid (show N1 = w.heap.size + 1 ∧ B = w.heap.size + 1 + 1 ∧ B < w1.heap.size by have := HN.out; have := HCa.out.lt; omega)
  clear HCa HGa HRa HSa HOa
  generalize w1.alloc (.cells #[.bool neg, .slice ad0 xs.length cap0] 26) = W1 at HM HC1 HG1 HR1 HS1 HO1 hb1 ⊢
  generalize w1.heap.size = n at HM HNB hb1 ⊢
  have HM1 := Lib.hid HM.out; clear HM hb1 hxl
  refine (one_any B _ 8 _ HC1.out (by omega) (by omega) (by omega)).mono ?_; rintro e w2 ⟨v, rfl, ⟨bo, rfl⟩, hg, hc⟩
  have HC2 := Lib.hid hc; have HG2 := Lib.hid (grown_trans HG1.out hg); have HR2 := Lib.hid (HR1.out.keep hg); have HS2 := Lib.hid (HS1.out.keep hg); have HM2 := Lib.hid (HM1.out.keep hg); have HO2 := Lib.hid (own_keepG HO1.out hg (by omega)); clear hg hc HC1 HG1 HR1 HS1 HM1 HO1
  cases bo
  · obtain ⟨r1, r2, r3, r4, r5, r6⟩ := HR2.out; obtain ⟨s1, s2, s3, s4, s5, s6⟩ := HS2.out; obtain ⟨m1, m2, m3, m4, m5, m6⟩ := HM2.out
    go_wp2_with fail
    clear r1 r2 r3 r4 r5 r6 s1 s2 s3 s4 s5 s6 m1 m2 m3 m4 m5 m6
    obtain ⟨lim, hlim⟩ : ∃ lim : Int, lim = 100000 := ⟨_, rfl⟩; have HY := Lib.hid (show Cr w2.drew B lim ∧ w.grownBy w2.drew (some B) ∧ BW B w2.drew w.heap.size ∧ BW B w2.drew N1 ∧ BoxV B w2.drew n (.bool neg) (.slice ad0 xs.length cap0) ∧ Own w2.drew (B + 1) (.slice ad0 xs.length cap0) xs from ⟨cr_drewN (HC2.out.le (by omega)), grown_drew HG2.out, BW.zero HR2.out, BW.zero HS2.out, HM2.out, HO2.out⟩); clear HC2 HG2 HR2 HS2 HM2 HO2
    refine wp_region_steps [20, 21, 22] (RWk (B + 1)) (look [(20, fun v _ => v = (.agg #[.bool neg, .slice ad0 xs.length cap0])), (21, fun v _ => v = .pointer (some ⟨B, 0, none⟩)), (22, fun v X => ∃ neg xs, RO X (B + 1) v neg xs ∧ xs.length ≤ 1000)]) (fun k X => Cr X B (lim + 30000 * (k : Int)) ∧ w.grownBy X (some B) ∧ BW B X w.heap.size ∧ BW B X N1 ∧ BoxV B X n (.bool neg) (.slice ad0 xs.length cap0) ∧ Own X (B + 1) (.slice ad0 xs.length cap0) xs) (by kernel_rfl) (by kernel_rfl) (by decide) (look_keep ?_) ?_ ?_
    · intro q hq v x y hv hr
      simp only [List.mem_cons, List.not_mem_nil, or_false] at hq
      rcases hq with rfl | rfl | rfl
      · exact hv
      · exact hv
      · obtain ⟨nn, ys, h1, h2⟩ := hv; exact ⟨nn, ys, RO.keepR h1 hr, h2⟩
    · exact ⟨(HY.out.1.le (by omega) : Cr _ B _), HY.out.2⟩
    refine Steps.cons ?_ ?_
    · refine TStep.of ?_ ?_ ?_
      · rfl
      · simp
      intro k g X hk9 hS hd
      refine ⟨_, X, wp_ldW hS.2.2.2.2.1 (by rw [eval_out (by decide)]; rfl), fun d e => ?_, ⟨hS.1.le (by push_cast; omega), hS.2⟩, RWk.refl _ X⟩
      cases e; exact rfl
    refine Steps.cons ?_ ?_
    · refine TStep.move 4 ?_ ?_ ?_ ?_ ?_ ?_
      · exact .inl rfl
      · rfl
      · simp
      · exact fun _ _ h => ⟨h.1.le (by push_cast; omega), h.2⟩
      · exact fun _ => RWk.refl _ _
      intro G X hd d e; cases e; rw [eval_out (by decide)]; exact rfl
    refine Steps.cons ?_ ?_
    · refine TStep.call ?_ ?_ ?_
      · rfl
      · simp
      intro k g X hk9 hS hd
      have e1 : g 21 = .pointer (some ⟨B, 0, none⟩) := hd 21 (mem_b (by kernel_rfl))
      refine ⟨_, _, wp_call_ofb (run_callAW _ (by rfl)), ?_⟩
      rw [eval_in (i := 21) (by decide) (by simp), e1]
      refine (anyWhole_any B _ X hS.1 (by have h9 : k < 5 := hk9; omega)).mono ?_
      rintro e' X' ⟨v', n', ys, rfl, hro, hyl, hg, hc⟩
      refine ⟨_, rfl, fun d e => ?_, ⟨hc.le (by push_cast; omega), grown_trans hS.2.1 hg, hS.2.2.1.keep hg, hS.2.2.2.1.keep hg, hS.2.2.2.2.1.keep hg, own_keepG hS.2.2.2.2.2 hg (by omega)⟩, RWk.grown hg (by omega)⟩
      cases e; exact ⟨_, _, hro.le (by have := hS.1.lt; omega), by omega⟩
    refine Steps.cons ?_ ?_
    · refine TStep.of ?_ ?_ ?_
      · rfl
      · simp
      intro k g X hk9 hS hd
      have e1 : g 20 = (.agg #[.bool neg, .slice ad0 xs.length cap0]) := hd 20 (mem_b (by kernel_rfl))
      obtain ⟨u0, u1, u2, us, h, hos, hls⟩ := hS.2.2.1
      refine ⟨undef, _, wp_stW h (by rw [eval_out (by decide)]; rfl) (by rw [eval_in (by decide) (by simp)]; exact e1), (by simp), ⟨(cr_boxW hS.1 h neg ad0 xs.length cap0).le (by push_cast; omega), set_grown (set_grown hS.2.1 (Nat.le_refl _) _) (Nat.le_refl _) _, ⟨neg, ad0, cap0, xs, (h.put0 _).put1 _, own_setFar (own_setFar hS.2.2.2.2.2 (by have := HNB.out; omega) _ _) (by have := HNB.out; omega) _ _, HXL.out⟩, hS.2.2.2.1.far2 (by have := HNB.out; omega) (by have := HNB.out; omega) _ _, (hS.2.2.2.2.1.far1 (by have := HNB.out; omega)).far1 (by have := HNB.out; omega), own_setFar (own_setFar hS.2.2.2.2.2 (by have := HNB.out; omega) _ _) (by have := HNB.out; omega) _ _⟩, RWk.set2 (by have := HNB.out; omega) _ _⟩
    refine Steps.one ?_
    refine LStep.of ?_ ?_
    · rfl
    intro g X hS hd
    obtain ⟨nn, ys, hro, hyl⟩ : ∃ nn ys, RO X (B + 1) (g 22) nn ys ∧ ys.length ≤ 1000 := hd 22 (mem_b (by kernel_rfl))
    obtain ⟨ad9, cap9, hv9, ho9⟩ := hro
    obtain ⟨hS1, hS2, h1, ⟨u4, u5, u6, us, h2, ho2, hl2⟩, -, -⟩ := hS
    refine ⟨undef, _, wp_stW h2 (by rw [eval_out (by decide)]; rfl) (by rw [eval_in (by decide) (by simp)]; exact hv9), ?_⟩
    have HRR := Lib.hid (h1.far2 (k := N1) (by have := HNB.out; omega) (by have := HNB.out; omega) (.bool nn) (.slice ad9 ys.length cap9))
    have HR1 := Lib.hid ((h2.put0 (.bool nn)).put1 (.slice ad9 ys.length cap9))
    have HO1 := Lib.hid (own_setFar (own_setFar ho9 (k := N1) (by have := HNB.out; omega) 0 (.bool nn)) (k := N1) (by have := HNB.out; omega) 1 (.slice ad9 ys.length cap9))
    have HG1 := Lib.hid (set_grown (set_grown hS2 (n := N1) (o := 0) (by have := HNB.out; omega) (.bool nn)) (n := N1) (o := 1) (by have := HNB.out; omega) (.slice ad9 ys.length cap9))
    clear hS1 hS2 h1 h2 ho2 ho9 hd HY hv9
    generalize (X.setCell ⟨N1, 0, none⟩ (.bool nn)).setCell ⟨N1, 1, none⟩ (.slice ad9 ys.length cap9) = Y2 at HRR HR1 HO1 HG1 ⊢
    obtain ⟨nb, adb, cb, zs, hbz, hoz, hlz⟩ := HRR.out
    have HOZ := Lib.hid hoz; have HLZ := Lib.hid hlz; have HLY := Lib.hid hyl
    obtain ⟨r1, r2, r3, r4, r5, r6⟩ := hbz; obtain ⟨m1, m2, m3, m4, m5, m6⟩ := HR1.out
    clear hoz hlz hyl
    simp only [fill, Act.put, List.setIfInBounds_toArray, List.set_cons_zero, List.set_cons_succ]
    go_wp2_with fail
    refine bodyPost_ret (by simp (maxDischargeDepth := 3) [results, Try.results6, go_sem, *]; try rfl) rfl ?_
    exact ⟨_, _, nb, nn, zs, ys, rfl, ⟨adb, cb, rfl, HOZ.out.rd, HOZ.out.slok⟩, ⟨ad9, cap9, rfl, HO1.out.rd, HO1.out.slok⟩, HLZ.out, HLY.out, grown_bel' HG1.out (by have := HNB.out; omega)⟩
  · obtain ⟨r1, r2, r3, r4, r5, r6⟩ := HR2.out; obtain ⟨s1, s2, s3, s4, s5, s6⟩ := HS2.out; obtain ⟨m1, m2, m3, m4, m5, m6⟩ := HM2.out
    go_wp2_with fail
    clear r1 r2 r3 r4 r5 r6 s1 s2 s3 s4 s5 s6 m1 m2 m3 m4 m5 m6
    refine (bgGood_any _ neg xs _ ⟨ad0, cap0, rfl, HO2.out.rd, HO2.out.slok⟩ (by have := HXL.out; omega)).mono ?_; rintro e w3 ⟨rfl, hb⟩
    have hg := below_grown B hb
    have hc := HC2.out.keep' hb
    clear hb
    have HC3 := Lib.hid hc; have HG3 := Lib.hid (grown_trans HG2.out hg); have HR3 := Lib.hid (HR2.out.keep hg); have HS3 := Lib.hid (HS2.out.keep hg); have HM3 := Lib.hid (HM2.out.keep hg); have HO3 := Lib.hid (own_keepG HO2.out hg (by omega)); clear hg hc HC2 HG2 HR2 HS2 HM2 HO2
    cases hgd : goodW neg xs
    · obtain ⟨r1, r2, r3, r4, r5, r6⟩ := HR3.out; obtain ⟨s1, s2, s3, s4, s5, s6⟩ := HS3.out; obtain ⟨m1, m2, m3, m4, m5, m6⟩ := HM3.out
      go_wp2_with fail
      clear r1 r2 r3 r4 r5 r6 s1 s2 s3 s4 s5 s6 m1 m2 m3 m4 m5 m6
      clear hgd
      obtain ⟨lim, hlim⟩ : ∃ lim : Int, lim = 100000 := ⟨_, rfl⟩; have HY := Lib.hid (show Cr w3.drew B lim ∧ w.grownBy w3.drew (some B) ∧ BW B w3.drew w.heap.size ∧ BW B w3.drew N1 ∧ BoxV B w3.drew n (.bool neg) (.slice ad0 xs.length cap0) ∧ Own w3.drew (B + 1) (.slice ad0 xs.length cap0) xs from ⟨cr_drewN (HC3.out.le (by omega)), grown_drew HG3.out, BW.zero HR3.out, BW.zero HS3.out, HM3.out, HO3.out⟩); clear HC3 HG3 HR3 HS3 HM3 HO3
      refine wp_region_steps [20, 21, 22] (RWk (B + 1)) (look [(20, fun v _ => v = (.agg #[.bool neg, .slice ad0 xs.length cap0])), (21, fun v _ => v = .pointer (some ⟨B, 0, none⟩)), (22, fun v X => ∃ neg xs, RO X (B + 1) v neg xs ∧ xs.length ≤ 1000)]) (fun k X => Cr X B (lim + 30000 * (k : Int)) ∧ w.grownBy X (some B) ∧ BW B X w.heap.size ∧ BW B X N1 ∧ BoxV B X n (.bool neg) (.slice ad0 xs.length cap0) ∧ Own X (B + 1) (.slice ad0 xs.length cap0) xs) (by kernel_rfl) (by kernel_rfl) (by decide) (look_keep ?_) ?_ ?_
      · intro q hq v x y hv hr
        simp only [List.mem_cons, List.not_mem_nil, or_false] at hq
        rcases hq with rfl | rfl | rfl
        · exact hv
        · exact hv
        · obtain ⟨nn, ys, h1, h2⟩ := hv; exact ⟨nn, ys, RO.keepR h1 hr, h2⟩
      · exact ⟨(HY.out.1.le (by omega) : Cr _ B _), HY.out.2⟩
      refine Steps.cons ?_ ?_
      · refine TStep.of ?_ ?_ ?_
        · rfl
        · simp
        intro k g X hk9 hS hd
        refine ⟨_, X, wp_ldW hS.2.2.2.2.1 (by rw [eval_out (by decide)]; rfl), fun d e => ?_, ⟨hS.1.le (by push_cast; omega), hS.2⟩, RWk.refl _ X⟩
        cases e; exact rfl
      refine Steps.cons ?_ ?_
      · refine TStep.move 4 ?_ ?_ ?_ ?_ ?_ ?_
        · exact .inl rfl
        · rfl
        · simp
        · exact fun _ _ h => ⟨h.1.le (by push_cast; omega), h.2⟩
        · exact fun _ => RWk.refl _ _
        intro G X hd d e; cases e; rw [eval_out (by decide)]; exact rfl
      refine Steps.cons ?_ ?_
      · refine TStep.call ?_ ?_ ?_
        · rfl
        · simp
        intro k g X hk9 hS hd
        have e1 : g 21 = .pointer (some ⟨B, 0, none⟩) := hd 21 (mem_b (by kernel_rfl))
        refine ⟨_, _, wp_call_ofb (run_callAW _ (by rfl)), ?_⟩
        rw [eval_in (i := 21) (by decide) (by simp), e1]
        refine (anyWhole_any B _ X hS.1 (by have h9 : k < 5 := hk9; omega)).mono ?_
        rintro e' X' ⟨v', n', ys, rfl, hro, hyl, hg, hc⟩
        refine ⟨_, rfl, fun d e => ?_, ⟨hc.le (by push_cast; omega), grown_trans hS.2.1 hg, hS.2.2.1.keep hg, hS.2.2.2.1.keep hg, hS.2.2.2.2.1.keep hg, own_keepG hS.2.2.2.2.2 hg (by omega)⟩, RWk.grown hg (by omega)⟩
        cases e; exact ⟨_, _, hro.le (by have := hS.1.lt; omega), by omega⟩
      refine Steps.cons ?_ ?_
      · refine TStep.of ?_ ?_ ?_
        · rfl
        · simp
        intro k g X hk9 hS hd
        have e1 : g 20 = (.agg #[.bool neg, .slice ad0 xs.length cap0]) := hd 20 (mem_b (by kernel_rfl))
        obtain ⟨u0, u1, u2, us, h, hos, hls⟩ := hS.2.2.1
        refine ⟨undef, _, wp_stW h (by rw [eval_out (by decide)]; rfl) (by rw [eval_in (by decide) (by simp)]; exact e1), (by simp), ⟨(cr_boxW hS.1 h neg ad0 xs.length cap0).le (by push_cast; omega), set_grown (set_grown hS.2.1 (Nat.le_refl _) _) (Nat.le_refl _) _, ⟨neg, ad0, cap0, xs, (h.put0 _).put1 _, own_setFar (own_setFar hS.2.2.2.2.2 (by have := HNB.out; omega) _ _) (by have := HNB.out; omega) _ _, HXL.out⟩, hS.2.2.2.1.far2 (by have := HNB.out; omega) (by have := HNB.out; omega) _ _, (hS.2.2.2.2.1.far1 (by have := HNB.out; omega)).far1 (by have := HNB.out; omega), own_setFar (own_setFar hS.2.2.2.2.2 (by have := HNB.out; omega) _ _) (by have := HNB.out; omega) _ _⟩, RWk.set2 (by have := HNB.out; omega) _ _⟩
      refine Steps.one ?_
      refine LStep.of ?_ ?_
      · rfl
      intro g X hS hd
      obtain ⟨nn, ys, hro, hyl⟩ : ∃ nn ys, RO X (B + 1) (g 22) nn ys ∧ ys.length ≤ 1000 := hd 22 (mem_b (by kernel_rfl))
      obtain ⟨ad9, cap9, hv9, ho9⟩ := hro
      obtain ⟨hS1, hS2, h1, ⟨u4, u5, u6, us, h2, ho2, hl2⟩, -, -⟩ := hS
      refine ⟨undef, _, wp_stW h2 (by rw [eval_out (by decide)]; rfl) (by rw [eval_in (by decide) (by simp)]; exact hv9), ?_⟩
      have HRR := Lib.hid (h1.far2 (k := N1) (by have := HNB.out; omega) (by have := HNB.out; omega) (.bool nn) (.slice ad9 ys.length cap9))
      have HR1 := Lib.hid ((h2.put0 (.bool nn)).put1 (.slice ad9 ys.length cap9))
      have HO1 := Lib.hid (own_setFar (own_setFar ho9 (k := N1) (by have := HNB.out; omega) 0 (.bool nn)) (k := N1) (by have := HNB.out; omega) 1 (.slice ad9 ys.length cap9))
      have HG1 := Lib.hid (set_grown (set_grown hS2 (n := N1) (o := 0) (by have := HNB.out; omega) (.bool nn)) (n := N1) (o := 1) (by have := HNB.out; omega) (.slice ad9 ys.length cap9))
      clear hS1 hS2 h1 h2 ho2 ho9 hd HY hv9
      generalize (X.setCell ⟨N1, 0, none⟩ (.bool nn)).setCell ⟨N1, 1, none⟩ (.slice ad9 ys.length cap9) = Y2 at HRR HR1 HO1 HG1 ⊢
      obtain ⟨nb, adb, cb, zs, hbz, hoz, hlz⟩ := HRR.out
      have HOZ := Lib.hid hoz; have HLZ := Lib.hid hlz; have HLY := Lib.hid hyl
      obtain ⟨r1, r2, r3, r4, r5, r6⟩ := hbz; obtain ⟨m1, m2, m3, m4, m5, m6⟩ := HR1.out
      clear hoz hlz hyl
      simp only [fill, Act.put, List.setIfInBounds_toArray, List.set_cons_zero, List.set_cons_succ]
      go_wp2_with fail
      refine bodyPost_ret (by simp (maxDischargeDepth := 3) [results, Try.results6, go_sem, *]; try rfl) rfl ?_
      exact ⟨_, _, nb, nn, zs, ys, rfl, ⟨adb, cb, rfl, HOZ.out.rd, HOZ.out.slok⟩, ⟨ad9, cap9, rfl, HO1.out.rd, HO1.out.slok⟩, HLZ.out, HLY.out, grown_bel' HG1.out (by have := HNB.out; omega)⟩
    · obtain ⟨r1, r2, r3, r4, r5, r6⟩ := HR3.out; obtain ⟨s1, s2, s3, s4, s5, s6⟩ := HS3.out; obtain ⟨m1, m2, m3, m4, m5, m6⟩ := HM3.out
      go_wp2_with fail
      clear r1 r2 r3 r4 r5 r6 s1 s2 s3 s4 s5 s6 m1 m2 m3 m4 m5 m6
      have HGD := Lib.hid hgd; clear hgd
      obtain ⟨lim, hlim⟩ : ∃ lim : Int, lim = 100000 := ⟨_, rfl⟩; have HY := Lib.hid (show Cr w3.drew B lim ∧ w.grownBy w3.drew (some B) ∧ BW B w3.drew w.heap.size ∧ BW B w3.drew N1 ∧ BoxV B w3.drew n (.bool neg) (.slice ad0 xs.length cap0) ∧ Own w3.drew (B + 1) (.slice ad0 xs.length cap0) xs from ⟨cr_drewN (HC3.out.le (by omega)), grown_drew HG3.out, BW.zero HR3.out, BW.zero HS3.out, HM3.out, HO3.out⟩); clear HC3 HG3 HR3 HS3 HM3 HO3
      refine wp_region_steps [17, 18, 19] (RWk (B + 1)) (look [(17, fun v _ => v = (.agg #[.bool neg, .slice ad0 xs.length cap0])), (18, fun v _ => v = (.agg #[.bool neg, .slice ad0 xs.length cap0])), (19, fun v X => ∃ neg xs, RO X (B + 1) v neg xs ∧ xs.length ≤ 1000)]) (fun k X => Cr X B (lim + 30000 * (k : Int)) ∧ w.grownBy X (some B) ∧ BW B X w.heap.size ∧ BW B X N1 ∧ BoxV B X n (.bool neg) (.slice ad0 xs.length cap0) ∧ Own X (B + 1) (.slice ad0 xs.length cap0) xs) (by kernel_rfl) (by kernel_rfl) (by decide) (look_keep ?_) ?_ ?_
      · intro q hq v x y hv hr
        simp only [List.mem_cons, List.not_mem_nil, or_false] at hq
        rcases hq with rfl | rfl | rfl
        · exact hv
        · exact hv
        · obtain ⟨nn, ys, h1, h2⟩ := hv; exact ⟨nn, ys, RO.keepR h1 hr, h2⟩
      · exact ⟨(HY.out.1.le (by omega) : Cr _ B _), HY.out.2⟩
      refine Steps.cons ?_ ?_
      · refine TStep.of ?_ ?_ ?_
        · rfl
        · simp
        intro k g X hk9 hS hd
        refine ⟨_, X, wp_ldW hS.2.2.2.2.1 (by rw [eval_out (by decide)]; rfl), fun d e => ?_, ⟨hS.1.le (by push_cast; omega), hS.2⟩, RWk.refl _ X⟩
        cases e; exact rfl
      refine Steps.cons ?_ ?_
      · refine TStep.of ?_ ?_ ?_
        · rfl
        · simp
        intro k g X hk9 hS hd
        refine ⟨_, X, wp_ldW hS.2.2.2.2.1 (by rw [eval_out (by decide)]; rfl), fun d e => ?_, ⟨hS.1.le (by push_cast; omega), hS.2⟩, RWk.refl _ X⟩
        cases e; exact rfl
      refine Steps.cons ?_ ?_
      · refine TStep.call ?_ ?_ ?_
        · rfl
        · simp
        intro k g X hk9 hS hd
        have e1 : g 18 = (.agg #[.bool neg, .slice ad0 xs.length cap0]) := hd 18 (mem_b (by kernel_rfl))
        refine ⟨_, _, wp_call_ofb (run_callMi _ (by rfl)), ?_⟩
        rw [eval_in (i := 18) (by decide) (by simp), e1]
        have hwv : WV X (.agg #[.bool neg, .slice ad0 xs.length cap0]) (valW neg xs) := RW.wv ⟨ad0, cap0, rfl, hS.2.2.2.2.2.rd, hS.2.2.2.2.2.slok⟩ HGD.out
        refine (bgMinus_any _ _ X hwv (by have := (good_val HGD.out).2.2; omega)).mono ?_
        rintro e' X' ⟨v', rfl, hb, ho⟩
        have hg := below_grown B hb
        obtain ⟨ad9, cap9, hv9, ho9⟩ := ho
        refine ⟨_, rfl, fun d e => ?_, ⟨(hS.1.keep' hb).le (by push_cast; omega), grown_trans hS.2.1 hg, hS.2.2.1.keep hg, hS.2.2.2.1.keep hg, hS.2.2.2.2.1.keep hg, hS.2.2.2.2.2.keep hb⟩, RWk.grown hg (by omega)⟩
        cases e; exact ⟨_, _, ⟨ad9, cap9, hv9, ho9.le (by have := hS.1.lt; omega)⟩, by rw [Int.natAbs_neg]; have := (good_val HGD.out).2.2; omega⟩
      refine Steps.cons ?_ ?_
      · refine TStep.of ?_ ?_ ?_
        · rfl
        · simp
        intro k g X hk9 hS hd
        have e1 : g 17 = (.agg #[.bool neg, .slice ad0 xs.length cap0]) := hd 17 (mem_b (by kernel_rfl))
        obtain ⟨u0, u1, u2, us, h, hos, hls⟩ := hS.2.2.1
        refine ⟨undef, _, wp_stW h (by rw [eval_out (by decide)]; rfl) (by rw [eval_in (by decide) (by simp)]; exact e1), (by simp), ⟨(cr_boxW hS.1 h neg ad0 xs.length cap0).le (by push_cast; omega), set_grown (set_grown hS.2.1 (Nat.le_refl _) _) (Nat.le_refl _) _, ⟨neg, ad0, cap0, xs, (h.put0 _).put1 _, own_setFar (own_setFar hS.2.2.2.2.2 (by have := HNB.out; omega) _ _) (by have := HNB.out; omega) _ _, HXL.out⟩, hS.2.2.2.1.far2 (by have := HNB.out; omega) (by have := HNB.out; omega) _ _, (hS.2.2.2.2.1.far1 (by have := HNB.out; omega)).far1 (by have := HNB.out; omega), own_setFar (own_setFar hS.2.2.2.2.2 (by have := HNB.out; omega) _ _) (by have := HNB.out; omega) _ _⟩, RWk.set2 (by have := HNB.out; omega) _ _⟩
      refine Steps.one ?_
      refine LStep.of ?_ ?_
      · rfl
      intro g X hS hd
      obtain ⟨nn, ys, hro, hyl⟩ : ∃ nn ys, RO X (B + 1) (g 19) nn ys ∧ ys.length ≤ 1000 := hd 19 (mem_b (by kernel_rfl))
      obtain ⟨ad9, cap9, hv9, ho9⟩ := hro
      obtain ⟨hS1, hS2, h1, ⟨u4, u5, u6, us, h2, ho2, hl2⟩, -, -⟩ := hS
      refine ⟨undef, _, wp_stW h2 (by rw [eval_out (by decide)]; rfl) (by rw [eval_in (by decide) (by simp)]; exact hv9), ?_⟩
      have HRR := Lib.hid (h1.far2 (k := N1) (by have := HNB.out; omega) (by have := HNB.out; omega) (.bool nn) (.slice ad9 ys.length cap9))
      have HR1 := Lib.hid ((h2.put0 (.bool nn)).put1 (.slice ad9 ys.length cap9))
      have HO1 := Lib.hid (own_setFar (own_setFar ho9 (k := N1) (by have := HNB.out; omega) 0 (.bool nn)) (k := N1) (by have := HNB.out; omega) 1 (.slice ad9 ys.length cap9))
      have HG1 := Lib.hid (set_grown (set_grown hS2 (n := N1) (o := 0) (by have := HNB.out; omega) (.bool nn)) (n := N1) (o := 1) (by have := HNB.out; omega) (.slice ad9 ys.length cap9))
      clear hS1 hS2 h1 h2 ho2 ho9 hd HY hv9
      generalize (X.setCell ⟨N1, 0, none⟩ (.bool nn)).setCell ⟨N1, 1, none⟩ (.slice ad9 ys.length cap9) = Y2 at HRR HR1 HO1 HG1 ⊢
      obtain ⟨nb, adb, cb, zs, hbz, hoz, hlz⟩ := HRR.out
      have HOZ := Lib.hid hoz; have HLZ := Lib.hid hlz; have HLY := Lib.hid hyl
      obtain ⟨r1, r2, r3, r4, r5, r6⟩ := hbz; obtain ⟨m1, m2, m3, m4, m5, m6⟩ := HR1.out
      clear hoz hlz hyl
      simp only [fill, Act.put, List.setIfInBounds_toArray, List.set_cons_zero, List.set_cons_succ]
      go_wp2_with fail
      refine bodyPost_ret (by simp (maxDischargeDepth := 3) [results, Try.results6, go_sem, *]; try rfl) rfl ?_
      exact ⟨_, _, nb, nn, zs, ys, rfl, ⟨adb, cb, rfl, HOZ.out.rd, HOZ.out.slok⟩, ⟨ad9, cap9, rfl, HO1.out.rd, HO1.out.slok⟩, HLZ.out, HLY.out, grown_bel' HG1.out (by have := HNB.out; omega)⟩
end Go.Proofs.Ytnhlcgbknkdbiaa
