/- Dpp: contract: DrawParsePoint. No conditions. -/
import Derived.Test.YtakilincclnpdaaGreatDoorPQz
import Derived.Test.YtakilincclnpdaaGreatDoorDsbz
import Derived.Test.YtakilincclnpdaaGreatDoorSpz
import Derived.Test.YtakilincclnpdaaGreatDoorPDz
namespace Go.Proofs.YtakilincclnpdaaGreatDoor
open Go.RowKit

theorem intS_small {n : Int} (h0 : -10000000 < n) (h1 : n < 10000000) : (intS n).size ≤ 9 := by
  have h := dec_length 6 n.natAbs (by omega)
  have h2 : (numS n.natAbs).size ≤ 7 := by unfold numS; exact h
  unfold intS
  split
  · rw [ByteArray.size_append]; show 1 + _ ≤ _; omega
  · omega
theorem frT_small {n d : Int} (h0 : -10000000 < n) (h1 : n < 10000000) (h2 : -10000000 < d) (h3 : d < 10000000) : (frT n d).size ≤ 19 := by
  have s1 := intS_small h0 h1
  have s2 := intS_small h2 h3
  unfold frT
  split
  · omega
  · rw [ByteArray.size_append, ByteArray.size_append]
    show _ + 1 + _ ≤ _
    omega
theorem ptT_small {x y e : Int} (h0 : -10000 ≤ x) (h1 : x ≤ 10000) (h2 : -1800000 ≤ y) (h3 : y ≤ 1800000) (h4 : 0 ≤ e) (h5 : e ≤ 20) : (ptT x y e).size ≤ 100 := by
  unfold ptT
  split
  · show 1 ≤ 100; omega
  · have b2 := mul_bd (a := e) (b := e) (A := 20) (B := 20) (by omega) h5 (by omega) h5
    have b3 := mul_bd (a := e * e) (b := e) (A := 400) (B := 20) b2.1 b2.2 (by omega) h5
    have s1 := frT_small (n := x) (d := e * e) (by omega) (by omega) (by omega) (by omega)
    have s2 := frT_small (n := y) (d := e * e * e) (by omega) (by omega) (by omega) (by omega)
    rw [ByteArray.size_append, ByteArray.size_append, ByteArray.size_append, ByteArray.size_append]
    show 1 + _ + 1 + _ + 1 ≤ _
    omega
def RM (M : Nat) (x y : World) : Prop := x.heap.size ≤ y.heap.size ∧ ∀ z i, M ≤ z → z < x.heap.size → y.cell? ⟨z, i, none⟩ = x.cell? ⟨z, i, none⟩
theorem RM.refl (M : Nat) (x : World) : RM M x x := ⟨Nat.le_refl _, fun _ _ _ _ => rfl⟩
theorem RM.grown {M B : Nat} {x y : World} (hB : B < M) (g : x.grownBy y (some B)) : RM M x y := ⟨g.size, fun z i hz hx => grown_cell g hx (by omega)⟩
theorem RM.set {M m : Nat} {x : World} (hm : m < M) (u v : Value) : RM M x ((x.setCell ⟨m, 0, none⟩ u).setCell ⟨m, 1, none⟩ v) := by
  refine ⟨by simp, fun z i hz hx => ?_⟩
  have hne : z ≠ m := by omega
  simp [go_sem]
def VS8 (M : Nat) (v : Value) (X : World) : Prop := ∃ z, v = .slice (some ⟨z, 0, none⟩) 8 8 ∧ M ≤ z ∧ z < X.heap.size ∧ ∀ i, i < 8 → ∃ s : ByteArray, X.cell? ⟨z, i, none⟩ = some (.string s) ∧ s.size ≤ 100
theorem VS8.keep {M : Nat} {v : Value} {x y : World} (h : VS8 M v x) (r : RM M x y) : VS8 M v y := by
  obtain ⟨z, h1, h2, h3, h4⟩ := h
  refine ⟨z, h1, h2, Nat.lt_of_lt_of_le h3 r.1, fun i hi => ?_⟩
  obtain ⟨s, k1, k2⟩ := h4 i hi
  exact ⟨s, (r.2 z i h2 h3).trans k1, k2⟩
theorem strs_cell (X : World) (l : List ByteArray) (t : TypeId) (hl : ∀ s ∈ l, s.size ≤ 100) (i : Nat) (hi : i < l.length) : ∃ s : ByteArray, (X.alloc (.cells (l.map Value.string).toArray t)).cell? ⟨X.heap.size, i, none⟩ = some (.string s) ∧ s.size ≤ 100 :=
  ⟨l[i], by simp [go_sem, hi], hl _ (List.getElem_mem hi)⟩
theorem run_bs8 {x : World} {d : Option Nat} {t : TypeId} {s : String} {af : Array Edge} {s0 s1 s2 s3 s4 s5 s6 s7 : ByteArray} (ρ : Operand → Value) (h : ∀ q, ρ (.const (.string q)) = .string q) :
    (execOp ρ { dst := d, op := .buildSlice 101 8 #[(0, .const (.string s0)), (1, .const (.string s1)), (2, .const (.string s2)), (3, .const (.string s3)), (4, .const (.string s4)), (5, .const (.string s5)), (6, .const (.string s6)), (7, .const (.string s7))], type := t, pos := s, after := af, guard := none }).run Tryz.prog x = .ok (.value (.slice (some ⟨x.heap.size, 0, none⟩) 8 8)) (x.alloc (.cells ([s0, s1, s2, s3, s4, s5, s6, s7].map Value.string).toArray 9)) := by
  simp only [execOp]
  simp [h]
  go_simp
theorem ofS_any (B : Nat) (lim : Int) (w : World) (b n : Nat) (h : Cr w B lim) (hl : lim ≤ 3000000000000000000) (hb : b < w.heap.size) (hbB : b ≠ B) (h0 : 0 < n) (h1 : n ≤ 1000) (hx : ∀ i, i < n → ∃ s : ByteArray, w.cell? ⟨b, i, none⟩ = some (.string s) ∧ s.size ≤ 100) :
    Calls Tryz.prog 92 #[.pointer (some ⟨B, 0, none⟩), .slice (some ⟨b, 0, none⟩) n n] w (RetC (StrS 100) B (lim + 2) w) := by
  have HC := Lib.hid h; have HX := Lib.hid hx
  clear h hx
  go_enter Tryz.func92, Tryz.ntmps92
  go_wp2_with fail
  refine (pick_any B lim (n : Int) _ HC.out (by omega) (by omega) (by omega)).mono ?_; rintro e w1 ⟨v, rfl, ⟨x, rfl, x0, x1⟩, hg1, hc1⟩
  obtain ⟨s, hs, hz⟩ := HX.out x.toNat (by omega)
  have hck := (grown_cell hg1 (o := x.toNat) hb hbB).trans hs
  have HG1 := Lib.hid hg1; have HC1 := Lib.hid hc1; have HZ := Lib.hid hz; clear hg1 hc1 HC HX hs hz
  have hxl : x < (n : Int) := by omega
  have e0 : 0 + x.toNat = x.toNat := by omega
  go_wp2_with fail
  go_ret
  exact ⟨_, rfl, ⟨_, rfl, HZ.out⟩, HG1.out, HC1.out⟩
theorem run_callOf {i j : Nat} {x : World} {d : Option Nat} {t : TypeId} {ts : Array TypeId} {s : String} {af : Array Edge} (ρ : Operand → Value) (hf : ρ (.func 92) = .func (.func 92) #[] #[]) :
    (execOp ρ { dst := d, op := .call { callee := .value (.func 92), args := #[.tmp i, .tmp j], argTypes := ts }, type := t, pos := s, after := af, guard := none }).run Tryz.prog x = .ok (.enter 92 #[ρ (.tmp i), ρ (.tmp j)]) x := by
  simp only [execOp, resolve, hf]
  go_simp
theorem run_callSp {i j : Nat} {z : ByteArray} {x : World} {d : Option Nat} {t : TypeId} {ts : Array TypeId} {s : String} {af : Array Edge} (ρ : Operand → Value) (hf : ρ (.func 80) = .func (.func 80) #[] #[]) (hc : ρ (.const (.string z)) = .string z) :
    (execOp ρ { dst := d, op := .call { callee := .value (.func 80), args := #[.tmp i, .tmp j, .const (.string z)], argTypes := ts }, type := t, pos := s, after := af, guard := none }).run Tryz.prog x = .ok (.enter 80 #[ρ (.tmp i), ρ (.tmp j), .string z]) x := by
  simp only [execOp, resolve, hf]
  go_simp
def RetCZ (w : World) (e : Ending) (w' : World) : Prop := ∃ (a b : Int) (s : ByteArray), e = .returned (.tuple #[.agg #[.int .i64 a, .int .i64 b], .string s]) ∧ s.size ≤ 1000 ∧ Below w.heap.size w w'
theorem pp_new {w X : World} {B R : Nat} {lim : Int} (hc : Cr X B lim) (hg : w.grownBy X (some B)) (hr : BoxC B X R 0 0) (a b x y e : Int) :
    Cr ((X.alloc (.cells #[.int .i64 a, .int .i64 b] 50)).alloc (.cells #[.int .i64 x, .int .i64 y, .int .i64 e] 52)) B lim ∧ w.grownBy ((X.alloc (.cells #[.int .i64 a, .int .i64 b] 50)).alloc (.cells #[.int .i64 x, .int .i64 y, .int .i64 e] 52)) (some B) ∧ BoxC B ((X.alloc (.cells #[.int .i64 a, .int .i64 b] 50)).alloc (.cells #[.int .i64 x, .int .i64 y, .int .i64 e] 52)) R 0 0 ∧ BoxC B ((X.alloc (.cells #[.int .i64 a, .int .i64 b] 50)).alloc (.cells #[.int .i64 x, .int .i64 y, .int .i64 e] 52)) X.heap.size a b ∧ BoxP B ((X.alloc (.cells #[.int .i64 a, .int .i64 b] 50)).alloc (.cells #[.int .i64 x, .int .i64 y, .int .i64 e] 52)) (X.heap.size + 1) x y e := by
  have hb2 : Below X.heap.size X ((X.alloc (.cells #[.int .i64 a, .int .i64 b] 50)).alloc (.cells #[.int .i64 x, .int .i64 y, .int .i64 e] 52)) := bel_alloc (below_allocD _ _) _
  have hx := (BoxC.new (B := B) a b 50 hc.lt).keep (below_grown B (below_allocD _ (.cells #[.int .i64 x, .int .i64 y, .int .i64 e] 52)))
  have hy : BoxP B ((X.alloc (.cells #[.int .i64 a, .int .i64 b] 50)).alloc (.cells #[.int .i64 x, .int .i64 y, .int .i64 e] 52)) (X.heap.size + 1) x y e := by
    have := BoxP.new (B := B) (w := X.alloc (.cells #[.int .i64 a, .int .i64 b] 50)) x y e 52 (by have := hc.lt; simp; omega)
    rwa [show (X.alloc (.cells #[.int .i64 a, .int .i64 b] 50)).heap.size = X.heap.size + 1 by simp] at this
  exact ⟨hc.keep' hb2, grown_belowD hg hb2, hr.keep (below_grown B hb2), hx, hy⟩
theorem sb_two {w X : World} {B R n : Nat} {lim : Int} {a b c d x y e : Int} (hc : Cr X B lim) (hg : w.grownBy X (some B)) (hr : BoxC B X R a b) (he : BoxC B X n c d) (hp : BoxP B X (n + 1) x y e) : SB w B [R, n] [n + 1] lim X := by
  refine ⟨hc, hg, fun m hm => ?_, fun m hm => ?_⟩
  · simp only [List.mem_cons, List.not_mem_nil, or_false] at hm
    rcases hm with rfl | rfl
    · exact ⟨_, _, hr⟩
    · exact ⟨_, _, he⟩
  · simp only [List.mem_cons, List.not_mem_nil, or_false] at hm
    subst hm
    exact ⟨_, _, _, hp⟩
set_option maxHeartbeats 8000000 in
set_option maxRecDepth 100000 in
theorem drawParsePoint_any (ad : Option Addr) (len cap : Nat) (zs : List Int) (w : World) (h : IsRow .u8 w ad len cap zs) (hl : len ≤ 1048576) :
    Calls Tryz.prog 37 #[.slice ad len cap] w (RetCZ w) := by
  have h0 : Below w.heap.size w (w.alloc (.cells #[.int .i64 0, .int .i64 0] 50)) := below_allocD _ _
  have hc0 := cr_startb h (by omega) h0 75
  have hz0 : (w.alloc (.cells #[.int .i64 0, .int .i64 0] 50)).heap.size = w.heap.size + 1 := by simp
  have hr0 : BoxC (w.heap.size + 1) ((w.alloc (.cells #[.int .i64 0, .int .i64 0] 50)).alloc (.cells #[.slice ad len cap, .int .i64 0, .int .u64 0] 75)) w.heap.size 0 0 := ⟨by simp <;> omega, by omega, by simp [go_sem], by simp [go_sem], by simp [go_sem], by simp [go_sem]⟩
  have hl1 : Below w.heap.size w ((w.alloc (.cells #[.int .i64 0, .int .i64 0] 50)).alloc (.cells #[.slice ad len cap, .int .i64 0, .int .u64 0] 75)) := bel_alloc h0 _
  have HC0 := Lib.hid hc0; have HL0 := Lib.hid hl1; have HZ0 := Lib.hid hz0; have HR0 := Lib.hid hr0
  clear hc0 h0 hl1 hz0 h hr0
  go_enter Tryz.func37, Tryz.ntmps37
  go_wp2_with fail
  have hc0 := HC0.out; have hl0 := HL0.out; have hr0 := HR0.out
  rw [HZ0.out] at hc0
  clear HC0 HL0 HZ0 HR0
  generalize (w.alloc (.cells #[.int .i64 0, .int .i64 0] 50)).alloc (.cells #[.slice ad len cap, .int .i64 0, .int .u64 0] 75) = V0 at hc0 hl0 hr0 ⊢
  obtain ⟨B, hB⟩ : ∃ N, N = w.heap.size + 1 := ⟨_, rfl⟩
  rw [← hB] at hc0 hr0 ⊢
  have HN := Lib.hid hB; clear hB
  have hg0 := below_grown B hl0; clear hl0
  refine (pointed_any B _ _ hc0 (by omega)).mono ?_; rintro e' w1 ⟨v, rfl, ⟨a, b, x, y, e, rfl, hpt⟩, hg1, hc1⟩
  obtain ⟨hcur, hon⟩ : curveB a b = true ∧ onB a b x y e = true := by unfold pointB at hpt; rwa [Bool.and_eq_true] at hpt
  have HPT := Lib.hid (And.intro hcur hon); clear hcur hon hpt
  have HK := Lib.hid (And.intro hc1 (And.intro (grown_trans hg0 hg1) (hr0.keep hg1)))
  clear hg1 hg0 hr0 hc0 hc1
  go_upto_region 3 with fail
  obtain ⟨hc0, hg0, hr0, he0, hq0⟩ := pp_new HK.out.1 HK.out.2.1 HK.out.2.2 a b x y e
  have hn3 := HK.out.1.lt
  generalize (w1.alloc (.cells #[.int .i64 a, .int .i64 b] 50)).alloc (.cells #[.int .i64 x, .int .i64 y, .int .i64 e] 52) = W0 at hc0 hg0 hr0 he0 hq0 ⊢
  generalize w1.heap.size = n at he0 hq0 hn3 ⊢
  have HNB := Lib.hid (show B = w.heap.size + 1 ∧ w.heap.size + 1 < n by have := HN.out; omega)
  have HC0 := Lib.hid hc0; have HG0 := Lib.hid hg0; have HR0 := Lib.hid hr0; have hE0 := Lib.hid he0; have hQ0 := Lib.hid hq0
  clear HK HN hn3 hc0 hg0 hr0 he0 hq0
  obtain ⟨M, hM⟩ : ∃ M, M = W0.heap.size := ⟨_, rfl⟩
  obtain ⟨lim0, hl0⟩ : ∃ lim0 : Int, lim0 = 100 := ⟨_, rfl⟩
  have HMW := Lib.hid (show M ≤ W0.heap.size ∧ W0.heap.size ≤ M by omega)
  refine wp_region_steps [19, 20, 21, 22, 23, 24, 18, 25, 26, 7, 8] (RP B M (fun p q r => onB a b p q r = true)) (look [(19, VC a b), (20, VV (.agg #[.int .i64 x, .int .i64 y, .int .i64 e])), (21, VB B), (22, VI 0 8), (23, VI (-4) 4), (24, VTp (fun p q r => onB a b p q r = true)), (18, VTp (fun p q r => onB a b p q r = true)), (25, VPe (fun p q r => onB a b p q r = true)), (26, VBo), (7, VFp B M (fun p q r => onB a b p q r = true)), (8, VBo)]) (SGp W0 B lim0) (by kernel_rfl) (by kernel_rfl) (by decide) (look_keep ?_) ?_ ?_
  · intro q hq v x y hv hr
    simp only [List.mem_cons, List.not_mem_nil, or_false] at hq
    rcases hq with rfl | rfl | rfl | rfl | rfl | rfl | rfl | rfl | rfl | rfl | rfl
    all_goals first | exact hv | exact VFp.keep hv hr
  · exact ⟨(show Cr W0.drew B lim0 from HC0.out.le (by omega)).le (by omega), below_grown B (bel_drew (Below.refl _ _))⟩
  refine Steps.cons ?_ ?_
  · refine TStep.of ?_ ?_ ?_
    · rfl
    · simp
    intro k g X hk9 hS hd
    refine ⟨_, X, wp_ldCb (hE0.out.keep hS.2) (by rw [eval_out (by decide)]; rfl), fun d e => ?_, hS.same, RP.refl _ _ _ _⟩
    cases e; exact rfl
  refine Steps.cons ?_ ?_
  · refine TStep.of ?_ ?_ ?_
    · rfl
    · simp
    intro k g X hk9 hS hd
    refine ⟨_, X, wp_ldP (hQ0.out.keep hS.2) (by rw [eval_out (by decide)]; rfl), fun d e => ?_, hS.same, RP.refl _ _ _ _⟩
    cases e; exact rfl
  refine Steps.cons ?_ ?_
  · refine TStep.move 4 ?_ ?_ ?_ ?_ ?_ ?_
    · exact .inl rfl
    · rfl
    · simp
    · exact fun _ _ h => h.same
    · exact fun X => RP.refl _ _ _ X
    intro g X hd d e; cases e; rw [eval_out (by decide)]; exact rfl
  refine Steps.cons ?_ ?_
  · refine TStep.call ?_ ?_ ?_
    · rfl
    · simp
    intro k g X hk9 hS hd
    refine ⟨_, _, wp_call_ofb (run_callPickb _ (by rfl) (by rfl)), ?_⟩
    have e1 : g 21 = .pointer (some ⟨B, 0, none⟩) := hd 21 (mem_b (by kernel_rfl))
    rw [eval_in (i := 21) (by decide) (by simp), e1]
    refine (pick_any B _ 9 _ hS.1 (by have h9 : k < 12 := hk9; omega) (by omega) (by omega)).mono ?_
    rintro e' X' ⟨v', rfl, ⟨z, rfl, z0, z1⟩, hg', hc'⟩
    refine ⟨_, rfl, fun d e => ?_, hS.step hg' (hc'.le (by omega)), RP.grown hg'⟩
    cases e; exact ⟨z, rfl, z0, by omega⟩
  refine Steps.cons ?_ ?_
  · refine TStep.of ?_ ?_ ?_
    · rfl
    · simp
    intro k g X hk9 hS hd
    obtain ⟨z, e1, z0, z1⟩ : VI _ _ (g 22) X := hd 22 (mem_b (by kernel_rfl))
    refine ⟨_, X, wp_value_ofb (run_subR (n := z) (c := 4) _ (by rw [eval_in (by decide) (by simp)]; exact e1) (by rfl)), fun d e => ?_, hS.same, RP.refl _ _ _ _⟩
    cases e
    exact ⟨_, rfl, by rw [wrapkb (by omega) (by omega)]; omega, by rw [wrapkb (by omega) (by omega)]; omega⟩
  refine Steps.cons ?_ ?_
  · refine TStep.call ?_ ?_ ?_
    · rfl
    · simp
    intro k g X hk9 hS hd
    refine ⟨_, _, wp_call_ofb (run_callTim _ (by rfl)), ?_⟩
    have e1 : g 19 = .agg #[.int .i64 a, .int .i64 b] := hd 19 (mem_b (by kernel_rfl))
    have e2 : g 20 = .agg #[.int .i64 x, .int .i64 y, .int .i64 e] := hd 20 (mem_b (by kernel_rfl))
    obtain ⟨z, e3, z0, z1⟩ : VI _ _ (g 23) X := hd 23 (mem_b (by kernel_rfl))
    rw [eval_in (i := 19) (by decide) (by simp), eval_in (i := 20) (by decide) (by simp), eval_in (i := 23) (by decide) (by simp), e1, e2, e3]
    refine (ptTimes_any a b x y e z X HPT.out.1 HPT.out.2 (by omega) (by omega)).mono ?_
    rintro e' X' ⟨rfl, hb'⟩
    refine ⟨_, rfl, fun d e => ?_, hS.step (below_grown B hb') ((hS.1.keep' hb').le (by omega)), RP.grown (below_grown B hb')⟩
    cases e; exact tim_tp HPT.out.2 X'
  refine Steps.cons ?_ ?_
  · refine TStep.move 24 ?_ ?_ ?_ ?_ ?_ ?_
    · exact .inl rfl
    · rfl
    · simp
    · exact fun _ _ h => h.same
    · exact fun X => RP.refl _ _ _ X
    intro g X hd d e; cases e; rw [eval_in (by decide) (by simp)]; exact hd 24 (mem_b (by kernel_rfl))
  refine Steps.cons ?_ ?_
  · refine TStep.of ?_ ?_ ?_
    · rfl
    · simp
    intro k g X hk9 hS hd
    obtain ⟨p', q', r', o', e1, hz⟩ : VTp _ (g 18) X := hd 18 (mem_b (by kernel_rfl))
    refine ⟨_, X, wp_value_ofb (run_ext _ (by rw [eval_in (by decide) (by simp)]; exact e1) (by simp)), fun d e => ?_, hS.same, RP.refl _ _ _ _⟩
    cases e; exact ⟨p', q', r', rfl, hz⟩
  refine Steps.cons ?_ ?_
  · refine TStep.of ?_ ?_ ?_
    · rfl
    · simp
    intro k g X hk9 hS hd
    obtain ⟨p', q', r', o', e1, hz⟩ : VTp _ (g 18) X := hd 18 (mem_b (by kernel_rfl))
    refine ⟨_, X, wp_value_ofb (run_ext _ (by rw [eval_in (by decide) (by simp)]; exact e1) (by simp)), fun d e => ?_, hS.same, RP.refl _ _ _ _⟩
    cases e; exact ⟨o', rfl⟩
  refine Steps.cons ?_ ?_
  · refine TStep.of ?_ ?_ ?_
    · rfl
    · simp
    intro k g X hk9 hS hd
    have hb' : Below X.heap.size X (X.alloc (.cells #[.int .i64 0, .int .i64 0, .int .i64 0] 52)) := below_allocD _ _
    have hM' : M ≤ X.heap.size := Nat.le_trans HMW.out.1 hS.2.size
    have hl' := hS.1.lt
    refine ⟨_, _, wp_value_ofb (run_allocP _), fun d e => ?_, hS.step (below_grown B hb') ((hS.1.keep' hb').le (by omega)), RP.grown (below_grown B hb')⟩
    cases e; exact ⟨_, rfl, hM', 0, 0, 0, BoxP.new 0 0 0 _ hl', on_zero a b⟩
  refine Steps.cons ?_ ?_
  · refine TStep.of ?_ ?_ ?_
    · rfl
    · simp
    intro k g X hk9 hS hd
    obtain ⟨m, e1, hm, p', q', r', hbx, hz⟩ : VFp B M _ (g 7) X := hd 7 (mem_b (by kernel_rfl))
    obtain ⟨p2, q2, r2, e2, hz2⟩ : VPe _ (g 25) X := hd 25 (mem_b (by kernel_rfl))
    refine ⟨undef, _, wp_stP (a := p2) (b := q2) (c := r2) hbx (by rw [eval_in (by decide) (by simp)]; exact e1) (by rw [eval_in (by decide) (by simp)]; exact e2), (by simp), ?_, RP.put hbx p2 q2 r2 hz2⟩
    have hWm := Nat.le_trans HMW.out.2 hm
    exact ⟨(cr_putb (cr_putb (cr_putb hS.1 hbx.2.1 hbx.2.2.1 _) hbx.2.1 (hbx.put0 p2).2.2.2.1 _) hbx.2.1 ((hbx.put0 p2).put1 q2).2.2.2.2.1 _).le (by push_cast; omega), set_grown (set_grown (set_grown hS.2 hWm _) hWm _) hWm _⟩
  refine Steps.one ?_
  refine LStep.move 26 ?_ ?_ ?_
  · exact .inr rfl
  · rfl
  intro g X hS hd
  obtain ⟨m, e6, hm, p', q', r', hbx, hz⟩ : VFp B M _ (g 7) X := hd 7 (mem_b (by kernel_rfl))
  obtain ⟨o', e7⟩ : VBo (g 26) X := hd 26 (mem_b (by kernel_rfl))
  rw [eval_in (by decide) (by simp)]
  simp only [fill, Act.put, List.setIfInBounds_toArray, List.set_cons_zero, List.set_cons_succ]
  rw [e6, e7]
  clear hd e6 e7
  obtain ⟨s1, s2⟩ := hS
  have HS4 := Lib.hid (sb_two (s1.le (lim' := 6000) (by simp; omega)) (grown_trans HG0.out s2) (HR0.out.keep s2) (hE0.out.keep s2) (hQ0.out.keep s2)); have HQ4 := Lib.hid (hQ0.out.keep s2); have HF4 := Lib.hid hbx
  have hz' : onB a b p' q' r' = true := hz
  have HZ := Lib.hid hz'; have HON := Lib.hid HPT.out.2
  clear s1 s2 hbx hz hz' HC0 HG0 HR0 hE0 hQ0 HMW hM hl0
  go_upto_if 27 with fail
  go_cut [] from 28 to 28 (fun wx => Hid (SB w B [w.heap.size, n] [n + 1] 6000 wx) ∧ ∃ p q r, Hid (BoxP B wx (n + 1) p q r) ∧ Hid (onB a b p q r = true))
  case first =>
    as_aux_lemma =>
    cases o'
    · go_wp2_with fail
      go_meet
      exact ⟨HS4, _, _, _, HQ4, HON⟩
    · obtain ⟨f1, f2, f3, f4, f5, f6, f7, f8⟩ := HF4.out
      obtain ⟨q1, q2, q3, q4, q5, q6, q7, q8⟩ := HQ4.out
      go_wp2_with fail
      go_meet
      exact ⟨Lib.hid (HS4.out.putP (m := n + 1) (by simp) (by have := HNB.out; omega) (by have := HNB.out; simp; omega) p' q' r'), _, _, _, Lib.hid (HQ4.out.put p' q' r'), HZ⟩
  case rest =>
    as_aux_lemma =>
    clear HS4 HQ4 HF4 HZ HON
    obtain ⟨HS, p, q, r, HQ, HON⟩ := hcut
    generalize wc = w4 at HS HQ ⊢
    obtain ⟨b1, b2, b3, b4, b5, b6, -, -⟩ := pointB_bd (show pointB a b p q r = true by unfold pointB; rw [HPT.out.1, HON.out]; rfl)
    have hts := ptT_small b1 b2 b5 b6 b3 b4
    obtain ⟨q1, q2, q3, q4, q5, q6, q7, q8⟩ := HQ.out
    go_wp2_with fail
    refine (ptText_any p q r _ b1 b2 b5 b6 b3 b4).mono ?_; rintro e' w5 ⟨rfl, hb⟩
    have HS5 := Lib.hid (HS.out.grow (below_grown B hb) (HS.out.cr.keep' hb))
    clear hb HS HQ HON HPT q1 q2 q3 q4 q5 q6 q7 q8 b1 b2 b3 b4 b5 b6
    generalize ptT p q r = T at hts ⊢
    go_wp2_with fail
    refine (pick_any B _ 6 _ HS5.out.cr (by omega) (by omega) (by omega)).mono ?_; rintro e' w6 ⟨v, rfl, ⟨k, rfl, k0, k1⟩, hg, hc⟩
    have HS6 := Lib.hid (HS5.out.grow hg hc); clear hg hc HS5
    have HY := Lib.hid (HS6.out.le (lim' := 7000) (by omega)); clear HS6
    rcases (by omega : k = 0 ∨ k = 1 ∨ k = 2 ∨ 3 ≤ k) with rfl | rfl | rfl | hk
    · clear k0 k1
      go_upto_region 10 with fail
      refine wp_region_steps [36, 37, 38, 39] RT (look [(36, VCe), (37, VB B), (38, VV (.string T)), (39, fun v _ => StrS 102 v)]) (fun k X => SB w B [w.heap.size, n] [n + 1] (7000 + 100 * (k : Int)) X) (by kernel_rfl) (by kernel_rfl) (by decide) (look_keep ?_) ?_ ?_
      · intro q hq v x y hv hr
        simp only [List.mem_cons, List.not_mem_nil, or_false] at hq
        rcases hq with rfl | rfl | rfl | rfl
        all_goals exact hv
      · exact HY.out.drew.le (by omega)
      refine Steps.cons ?_ ?_
      · refine TStep.of ?_ ?_ ?_
        · rfl
        · simp
        intro k g X hk9 hS hd
        obtain ⟨c1, d1, hb⟩ := hS.c n (by simp)
        refine ⟨_, X, wp_ldCb hb (by rw [eval_out (by decide)]; rfl), fun d e => ?_, (hS.le (by push_cast; omega)), trivial⟩
        cases e; exact ⟨_, _, rfl⟩
      refine Steps.cons ?_ ?_
      · refine TStep.move 4 ?_ ?_ ?_ ?_ ?_ ?_
        · exact .inl rfl
        · rfl
        · simp
        · exact fun _ _ h => h.le (by push_cast; omega)
        · exact fun X => trivial
        intro g X hd d e; cases e; rw [eval_out (by decide)]; exact rfl
      refine Steps.cons ?_ ?_
      · refine TStep.move 9 ?_ ?_ ?_ ?_ ?_ ?_
        · exact .inl rfl
        · rfl
        · simp
        · exact fun _ _ h => h.le (by push_cast; omega)
        · exact fun X => trivial
        intro g X hd d e; cases e; rw [eval_out (by decide)]; exact rfl
      refine Steps.cons ?_ ?_
      · refine TStep.call ?_ ?_ ?_
        · rfl
        · simp
        intro k g X hk9 hS hd
        refine ⟨_, _, wp_call_ofb (run_callSp _ (by rfl) (by rfl)), ?_⟩
        have e1 : g 37 = .pointer (some ⟨B, 0, none⟩) := hd 37 (mem_b (by kernel_rfl))
        have e2 : g 38 = .string T := hd 38 (mem_b (by kernel_rfl))
        rw [eval_in (i := 37) (by decide) (by simp), eval_in (i := 38) (by decide) (by simp), e1, e2]
        refine (spoilt_any B _ T _ 100 _ hS.cr (by have h9 : k < 6 := hk9; omega) (by decide) (by decide) hts (by decide)).mono ?_
        rintro e' X' ⟨v', rfl, ⟨s, rfl, hs⟩, hg', hc'⟩
        refine ⟨_, rfl, fun d e => ?_, hS.grow hg' (hc'.le (by push_cast; omega)), trivial⟩
        cases e; exact ⟨s, rfl, hs⟩
      refine Steps.cons ?_ ?_
      · refine TStep.of ?_ ?_ ?_
        · rfl
        · simp
        intro k g X hk9 hS hd
        obtain ⟨c1, d1, e1⟩ : VCe (g 36) X := hd 36 (mem_b (by kernel_rfl))
        obtain ⟨c2, d2, hb⟩ := hS.c (w.heap.size) (by simp)
        refine ⟨undef, _, wp_stCb hb (by rw [eval_out (by decide)]; rfl) (by rw [eval_in (by decide) (by simp)]; exact e1), (by simp), (hS.putC (m := w.heap.size) (by simp) (Nat.le_refl _) (by have := HNB.out; simp; omega) c1 d1).le (by push_cast; omega), trivial⟩
      refine Steps.one ?_
      refine LStep.move 39 ?_ ?_ ?_
      · exact .inr rfl
      · rfl
      intro g X hS hd
      obtain ⟨s, e9, hs⟩ : StrS 102 (g 39) := hd 39 (mem_b (by kernel_rfl))
      obtain ⟨_, _, r1, r2, r3, r4, r5, r6⟩ := hS.c (w.heap.size) (by simp)
      have HE := Lib.hid hS.gr
      rw [eval_in (by decide) (by simp), e9]
      clear hd e9 hS HY
      simp only [fill, Act.put, List.setIfInBounds_toArray, List.set_cons_zero, List.set_cons_succ]
      go_wp2_with fail
      refine bodyPost_ret (by simp (maxDischargeDepth := 3) [results, Tryz.results37, go_sem, *]; try rfl) rfl ?_
      exact ⟨_, _, _, rfl, by omega, grown_bel HE.out (by have := HNB.out; omega)⟩
    · clear k0 k1
      go_upto_region 10 with fail
      refine wp_region_steps [36, 37, 38, 39] RT (look [(36, VCe), (37, VB B), (38, VV (.string T)), (39, fun v _ => StrS 102 v)]) (fun k X => SB w B [w.heap.size, n] [n + 1] (7000 + 100 * (k : Int)) X) (by kernel_rfl) (by kernel_rfl) (by decide) (look_keep ?_) ?_ ?_
      · intro q hq v x y hv hr
        simp only [List.mem_cons, List.not_mem_nil, or_false] at hq
        rcases hq with rfl | rfl | rfl | rfl
        all_goals exact hv
      · exact HY.out.drew.le (by omega)
      refine Steps.cons ?_ ?_
      · refine TStep.of ?_ ?_ ?_
        · rfl
        · simp
        intro k g X hk9 hS hd
        obtain ⟨c1, d1, hb⟩ := hS.c n (by simp)
        refine ⟨_, X, wp_ldCb hb (by rw [eval_out (by decide)]; rfl), fun d e => ?_, (hS.le (by push_cast; omega)), trivial⟩
        cases e; exact ⟨_, _, rfl⟩
      refine Steps.cons ?_ ?_
      · refine TStep.move 4 ?_ ?_ ?_ ?_ ?_ ?_
        · exact .inl rfl
        · rfl
        · simp
        · exact fun _ _ h => h.le (by push_cast; omega)
        · exact fun X => trivial
        intro g X hd d e; cases e; rw [eval_out (by decide)]; exact rfl
      refine Steps.cons ?_ ?_
      · refine TStep.move 9 ?_ ?_ ?_ ?_ ?_ ?_
        · exact .inl rfl
        · rfl
        · simp
        · exact fun _ _ h => h.le (by push_cast; omega)
        · exact fun X => trivial
        intro g X hd d e; cases e; rw [eval_out (by decide)]; exact rfl
      refine Steps.cons ?_ ?_
      · refine TStep.call ?_ ?_ ?_
        · rfl
        · simp
        intro k g X hk9 hS hd
        refine ⟨_, _, wp_call_ofb (run_callSp _ (by rfl) (by rfl)), ?_⟩
        have e1 : g 37 = .pointer (some ⟨B, 0, none⟩) := hd 37 (mem_b (by kernel_rfl))
        have e2 : g 38 = .string T := hd 38 (mem_b (by kernel_rfl))
        rw [eval_in (i := 37) (by decide) (by simp), eval_in (i := 38) (by decide) (by simp), e1, e2]
        refine (spoilt_any B _ T _ 100 _ hS.cr (by have h9 : k < 6 := hk9; omega) (by decide) (by decide) hts (by decide)).mono ?_
        rintro e' X' ⟨v', rfl, ⟨s, rfl, hs⟩, hg', hc'⟩
        refine ⟨_, rfl, fun d e => ?_, hS.grow hg' (hc'.le (by push_cast; omega)), trivial⟩
        cases e; exact ⟨s, rfl, hs⟩
      refine Steps.cons ?_ ?_
      · refine TStep.of ?_ ?_ ?_
        · rfl
        · simp
        intro k g X hk9 hS hd
        obtain ⟨c1, d1, e1⟩ : VCe (g 36) X := hd 36 (mem_b (by kernel_rfl))
        obtain ⟨c2, d2, hb⟩ := hS.c (w.heap.size) (by simp)
        refine ⟨undef, _, wp_stCb hb (by rw [eval_out (by decide)]; rfl) (by rw [eval_in (by decide) (by simp)]; exact e1), (by simp), (hS.putC (m := w.heap.size) (by simp) (Nat.le_refl _) (by have := HNB.out; simp; omega) c1 d1).le (by push_cast; omega), trivial⟩
      refine Steps.one ?_
      refine LStep.move 39 ?_ ?_ ?_
      · exact .inr rfl
      · rfl
      intro g X hS hd
      obtain ⟨s, e9, hs⟩ : StrS 102 (g 39) := hd 39 (mem_b (by kernel_rfl))
      obtain ⟨_, _, r1, r2, r3, r4, r5, r6⟩ := hS.c (w.heap.size) (by simp)
      have HE := Lib.hid hS.gr
      rw [eval_in (by decide) (by simp), e9]
      clear hd e9 hS HY
      simp only [fill, Act.put, List.setIfInBounds_toArray, List.set_cons_zero, List.set_cons_succ]
      go_wp2_with fail
      refine bodyPost_ret (by simp (maxDischargeDepth := 3) [results, Tryz.results37, go_sem, *]; try rfl) rfl ?_
      exact ⟨_, _, _, rfl, by omega, grown_bel HE.out (by have := HNB.out; omega)⟩
    · clear k0 k1
      go_upto_region 12 with fail
      obtain ⟨M2, hM2⟩ : ∃ M2, M2 = w6.heap.size := ⟨_, rfl⟩
      have HM2 := Lib.hid (show B < M2 ∧ w.heap.size < M2 ∧ M2 ≤ w6.heap.size by have := HY.out.cr.lt; have := HNB.out; omega)
      clear hM2
      refine wp_region_steps [42, 43, 44, 45] (RM M2) (look [(42, VCe), (43, VB B), (44, VS8 M2), (45, fun v _ => StrS 100 v)]) (fun k X => SB w B [w.heap.size, n] [n + 1] (7000 + 100 * (k : Int)) X ∧ M2 ≤ X.heap.size) (by kernel_rfl) (by kernel_rfl) (by decide) (look_keep ?_) ?_ ?_
      · intro q hq v x y hv hr
        simp only [List.mem_cons, List.not_mem_nil, or_false] at hq
        rcases hq with rfl | rfl | rfl | rfl
        · exact hv
        · exact hv
        · exact VS8.keep hv hr
        · exact hv
      · exact ⟨HY.out.drew.le (by omega), HM2.out.2.2⟩
      refine Steps.cons ?_ ?_
      · refine TStep.of ?_ ?_ ?_
        · rfl
        · simp
        intro k g X hk9 hS hd
        obtain ⟨c1, d1, hb⟩ := hS.1.c n (by simp)
        refine ⟨_, X, wp_ldCb hb (by rw [eval_out (by decide)]; rfl), fun d e => ?_, ⟨hS.1.le (by push_cast; omega), hS.2⟩, RM.refl _ _⟩
        cases e; exact ⟨_, _, rfl⟩
      refine Steps.cons ?_ ?_
      · refine TStep.move 4 ?_ ?_ ?_ ?_ ?_ ?_
        · exact .inl rfl
        · rfl
        · simp
        · exact fun _ _ h => ⟨h.1.le (by push_cast; omega), h.2⟩
        · exact fun X => RM.refl _ X
        intro g X hd d e; cases e; rw [eval_out (by decide)]; exact rfl
      refine Steps.cons ?_ ?_
      · refine TStep.of ?_ ?_ ?_
        · rfl
        · simp
        intro k g X hk9 hS hd
        have hb' : ∀ c, Below X.heap.size X (X.alloc c) := fun c => below_allocD X c
        refine ⟨_, _, wp_value_ofb (run_bs8 _ (fun _ => rfl)), fun d e => ?_, ⟨(hS.1.grow (below_grown B (hb' _)) (hS.1.cr.keep' (hb' _))).le (by push_cast; omega), Nat.le_trans hS.2 (hb' _).size⟩, RM.grown HM2.out.1 (below_grown B (hb' _))⟩
        cases e; exact ⟨_, rfl, hS.2, by simp, fun i hi => strs_cell _ _ _ (by decide) i hi⟩
      refine Steps.cons ?_ ?_
      · refine TStep.call ?_ ?_ ?_
        · rfl
        · simp
        intro k g X hk9 hS hd
        refine ⟨_, _, wp_call_ofb (run_callOf _ (by rfl)), ?_⟩
        have e1 : g 43 = .pointer (some ⟨B, 0, none⟩) := hd 43 (mem_b (by kernel_rfl))
        obtain ⟨z, e2, z1, z2, z3⟩ : VS8 M2 (g 44) X := hd 44 (mem_b (by kernel_rfl))
        rw [eval_in (i := 43) (by decide) (by simp), eval_in (i := 44) (by decide) (by simp), e1, e2]
        refine (ofS_any B _ _ z 8 hS.1.cr (by have h9 : k < 6 := hk9; omega) z2 (by have := HM2.out; omega) (by decide) (by decide) z3).mono ?_
        rintro e' X' ⟨v', rfl, ⟨s, rfl, hs⟩, hg', hc'⟩
        refine ⟨_, rfl, fun d e => ?_, ⟨hS.1.grow hg' (hc'.le (by push_cast; omega)), Nat.le_trans hS.2 hg'.size⟩, RM.grown HM2.out.1 hg'⟩
        cases e; exact ⟨s, rfl, hs⟩
      refine Steps.cons ?_ ?_
      · refine TStep.of ?_ ?_ ?_
        · rfl
        · simp
        intro k g X hk9 hS hd
        obtain ⟨c1, d1, e1⟩ : VCe (g 42) X := hd 42 (mem_b (by kernel_rfl))
        obtain ⟨c2, d2, hb⟩ := hS.1.c (w.heap.size) (by simp)
        refine ⟨undef, _, wp_stCb hb (by rw [eval_out (by decide)]; rfl) (by rw [eval_in (by decide) (by simp)]; exact e1), (by simp), ⟨(hS.1.putC (m := w.heap.size) (by simp) (Nat.le_refl _) (by have := HNB.out; simp; omega) c1 d1).le (by push_cast; omega), by simpa using hS.2⟩, RM.set HM2.out.2.1 _ _⟩
      refine Steps.one ?_
      refine LStep.move 45 ?_ ?_ ?_
      · exact .inr rfl
      · rfl
      intro g X hS hd
      obtain ⟨s, e9, hs⟩ : StrS 100 (g 45) := hd 45 (mem_b (by kernel_rfl))
      obtain ⟨_, _, r1, r2, r3, r4, r5, r6⟩ := hS.1.c (w.heap.size) (by simp)
      have HE := Lib.hid hS.1.gr
      rw [eval_in (by decide) (by simp), e9]
      clear hd e9 hS HY
      simp only [fill, Act.put, List.setIfInBounds_toArray, List.set_cons_zero, List.set_cons_succ]
      go_wp2_with fail
      refine bodyPost_ret (by simp (maxDischargeDepth := 3) [results, Tryz.results37, go_sem, *]; try rfl) rfl ?_
      exact ⟨_, _, _, rfl, by omega, grown_bel HE.out (by have := HNB.out; omega)⟩
    · have n0 : ¬ k = 0 := by omega
      have n1 : ¬ k = 1 := by omega
      have n2 : ¬ k = 2 := by omega
      have n0b : (k == 0) = false := by simp [n0]
      have n1b : (k == 1) = false := by simp [n1]
      have n2b : (k == 2) = false := by simp [n2]
      obtain ⟨_, _, s1, s2, s3, s4, s5, s6⟩ := HY.out.c n (by simp)
      obtain ⟨_, _, r1, r2, r3, r4, r5, r6⟩ := HY.out.c (w.heap.size) (by simp)
      clear hk k0 k1
      go_wp2_with fail
      refine bodyPost_ret (by simp (maxDischargeDepth := 3) [results, Tryz.results37, go_sem, *]; try rfl) rfl ?_
      exact ⟨_, _, _, rfl, by omega, grown_bel (set_grown (set_grown HY.out.gr (Nat.le_refl _) _) (Nat.le_refl _) _) (by have := HNB.out; omega)⟩
end Go.Proofs.YtakilincclnpdaaGreatDoor
