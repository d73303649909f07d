/- Dh: what the operations of drawn regions do: loads and stores of curves' boxes, calls. No conditions. -/
import Derived.Test.YtpjcfnjagknocaaDp
import Derived.Test.YtpjcfnjagknocaaDg
namespace Go.Proofs.Ytpjcfnjagknocaa
open Go.RowKit

theorem wp_ldC {B n i : Nat} {a b : Int} {x : World} {d : Option Nat} {t : TypeId} {s : String} {af : Array Edge} {A : Act} (r : BoxC B x n a b) (h : A.eval (.tmp i) = .pointer (some ⟨n, 0, none⟩)) :
    OpDone Try.prog { dst := d, op := .load 39 (.tmp i), type := t, pos := s, after := af, guard := none } A x (.agg #[.int .i64 a, .int .i64 b]) x := by
  refine ⟨fun K Q hk => ?_⟩
  obtain ⟨r1, r2, r3, r4, r5, r6⟩ := r
  unfold Oper.wp execOp
  dsimp only
  rw [h]
  go_simp
  exact hk
theorem wp_stC {B n i j : Nat} {a b a' b' : Int} {x : World} {d : Option Nat} {t : TypeId} {s : String} {af : Array Edge} {A : Act} (r : BoxC B x n a' b') (h : A.eval (.tmp i) = .pointer (some ⟨n, 0, none⟩)) (h' : A.eval (.tmp j) = .agg #[.int .i64 a, .int .i64 b]) :
    OpDone Try.prog { dst := d, op := .store 39 (.tmp i) (.tmp j), type := t, pos := s, after := af, guard := none } A x undef ((x.setCell ⟨n, 0, none⟩ (.int .i64 a)).setCell ⟨n, 1, none⟩ (.int .i64 b)) := by
  refine ⟨fun K Q hk => ?_⟩
  obtain ⟨r1, r2, r3, r4, r5, r6⟩ := r
  unfold Oper.wp execOp
  dsimp only
  rw [h, h']
  go_simp
  exact hk
theorem wp_call_of {P : Program} {o : Oper} {f : FuncId} {vs : Array Value} {A : Act} {x : World} (hr : (execOp A.eval o).run P x = .ok (.enter f vs) x) : OpCall P o A x f vs := by
  refine ⟨fun K Q hk => ?_⟩
  unfold Oper.wp
  rw [hr, Oper.upon_enter]
  refine hk.mono ?_
  rintro e x' ⟨v, rfl, hk⟩
  exact hk
theorem run_callPM {i j k : Nat} {x : World} {d : Option Nat} {t : TypeId} {ts : Array TypeId} {s : String} {af : Array Edge} (ρ : Operand → Value) (hf : ρ (.func 98) = .func (.func 98) #[] #[]) :
    (execOp ρ { dst := d, op := .call { callee := .value (.func 98), args := #[.tmp i, .tmp j, .tmp k], argTypes := ts }, type := t, pos := s, after := af, guard := none }).run Try.prog x = .ok (.enter 98 #[ρ (.tmp i), ρ (.tmp j), ρ (.tmp k)]) x := by
  simp only [execOp, resolve, hf]
  go_simp
theorem run_callOwn {i : Nat} {x : World} {d : Option Nat} {t : TypeId} {ts : Array TypeId} {s : String} {af : Array Edge} (ρ : Operand → Value) (hf : ρ (.func 152) = .func (.func 152) #[] #[]) :
    (execOp ρ { dst := d, op := .call { callee := .value (.func 152), args := #[.tmp i], argTypes := ts }, type := t, pos := s, after := af, guard := none }).run Try.prog x = .ok (.enter 152 #[ρ (.tmp i)]) x := by
  simp only [execOp, resolve, hf]
  go_simp
theorem run_callPick {i : Nat} {n : Int} {x : World} {d : Option Nat} {t : TypeId} {ts : Array TypeId} {s : String} {af : Array Edge} (ρ : Operand → Value) (hf : ρ (.func 102) = .func (.func 102) #[] #[]) (hc : ρ (.const (.int .i64 n)) = .int .i64 n) :
    (execOp ρ { dst := d, op := .call { callee := .value (.func 102), args := #[.tmp i, .const (.int .i64 n)], argTypes := ts }, type := t, pos := s, after := af, guard := none }).run Try.prog x = .ok (.enter 102 #[ρ (.tmp i), .int .i64 n]) x := by
  simp only [execOp, resolve, hf]
  go_simp
theorem run_callAmong {i j : Nat} {x : World} {d : Option Nat} {t : TypeId} {ts : Array TypeId} {s : String} {af : Array Edge} (ρ : Operand → Value) (hf : ρ (.func 100) = .func (.func 100) #[] #[]) :
    (execOp ρ { dst := d, op := .call { callee := .value (.func 100), args := #[.tmp i, .tmp j], argTypes := ts }, type := t, pos := s, after := af, guard := none }).run Try.prog x = .ok (.enter 100 #[ρ (.tmp i), ρ (.tmp j)]) x := by
  simp only [execOp, resolve, hf]
  go_simp

theorem wp_value_of {P : Program} {o : Oper} {v : Value} {A : Act} {x x' : World} (hr : (execOp A.eval o).run P x = .ok (.value v) x') : OpDone P o A x v x' := by
  refine ⟨fun K Q hk => ?_⟩
  unfold Oper.wp
  rw [hr, Oper.upon_value]
  exact hk
theorem run_bs2 {x : World} {d : Option Nat} {t : TypeId} {s : String} {af : Array Edge} {a b : Int} (ρ : Operand → Value) (h1 : ρ (.const (.int .i64 a)) = .int .i64 a) (h2 : ρ (.const (.int .i64 b)) = .int .i64 b) :
    (execOp ρ { dst := d, op := .buildSlice 24 2 #[(0, .const (.int .i64 a)), (1, .const (.int .i64 b))], type := t, pos := s, after := af, guard := none }).run Try.prog x = .ok (.value (.slice (some ⟨x.heap.size, 0, none⟩) 2 2)) (x.alloc (.cells ([a, b].map (Value.int .i64)).toArray 3)) := by
  simp only [execOp]
  simp [h1, h2]
  go_simp
theorem run_bs11 {x : World} {d : Option Nat} {t : TypeId} {s : String} {af : Array Edge} {i j : Nat} {n m : Int} (ρ : Operand → Value) (h1 : ρ (.tmp i) = .int .i64 n) (h2 : ρ (.tmp j) = .int .i64 m) (hc : ∀ v, ρ (.const v) = v) :
    (execOp ρ { dst := d, op := .buildSlice 24 11 #[(0, .const (.int .i64 0)), (1, .const (.int .i64 1)), (2, .const (.int .i64 (-1))), (3, .const (.int .i64 2)), (4, .const (.int .i64 3)), (5, .const (.int .i64 7)), (6, .const (.int .i64 (-12))), (7, .tmp i), (8, .const (.int .i64 1000000000)), (9, .const (.int .i64 (-1000000000))), (10, .tmp j)], type := t, pos := s, after := af, guard := none }).run Try.prog x = .ok (.value (.slice (some ⟨x.heap.size, 0, none⟩) 11 11)) (x.alloc (.cells ([0, 1, -1, 2, 3, 7, -12, n, 1000000000, -1000000000, m].map (Value.int .i64)).toArray 3)) := by
  simp only [execOp]
  simp [h1, h2, hc]
  go_simp
theorem grown_belowN {a V V' : World} {B n : Nat} (h : Below n a V) (g : V.grownBy V' (some B)) (hB : n ≤ B) (hn : n ≤ a.heap.size) : Below n a V' :=
  ⟨g.os.trans h.os, g.tape.trans h.tape, g.output.trans h.output, Nat.le_trans h.size g.size, fun i hi => (g.block i (Nat.lt_of_lt_of_le (Nat.lt_of_lt_of_le hi hn) h.size) (by intro e; cases e; omega)).trans (h.block i hi)⟩
theorem cr_put {B n o : Nat} {V : World} {lim a0 : Int} (h : Cr V B lim) (hn : n ≠ B) (h0 : V.cell? ⟨n, o, none⟩ = some (.int .i64 a0)) (v : Value) : Cr (V.setCell ⟨n, o, none⟩ v) B lim := by
  obtain ⟨h1, h2, h3, ad, len, cap, at_, seed, c0, c1, c2, a0, a1, s0, s1, hl, hc⟩ := h
  have far : ∀ i, (V.setCell ⟨n, o, none⟩ v).cell? ⟨B, i, none⟩ = V.cell? ⟨B, i, none⟩ := fun i => World.cell?_setCell_other _ _ _ _ (by intro e; injection e with e1; exact hn e1)
  refine ⟨by simpa using h1, by simp [go_sem, h2], by simp [go_sem, h3], ad, len, cap, at_, seed, (far 0).trans c0, (far 1).trans c1, (far 2).trans c2, a0, a1, s0, s1, hl, fun hp => ?_⟩
  obtain ⟨b, off, ha, hlt, hcell⟩ := hc hp
  refine ⟨b, off, ha, hlt, fun i hi => ?_⟩
  obtain ⟨c, q0, q1, q2⟩ := hcell i hi
  refine ⟨c, q0, q1, (World.cell?_setCell_other _ _ _ _ fun e => ?_).trans q2⟩
  rw [← e, h0] at q2
  cases q2
/-- a slice of whole numbers, not empty, its block M or a later one. -/
def SlI (M : Nat) (w : World) (v : Value) : Prop := ∃ (xs : List Int) (b off cap : Nat), v = .slice (some ⟨b, off, none⟩) xs.length cap ∧ M ≤ b ∧ b < w.heap.size ∧ 0 < xs.length ∧ xs.length ≤ 1000 ∧ (∀ i, i < xs.length → w.cell? ⟨b, off + i, none⟩ = some (.int .i64 (xs.getD i 0))) ∧ ∀ n ∈ xs, I64 n
theorem SlI.same {M : Nat} {w w' : World} {v : Value} (h : SlI M w v) (hs : w.heap.size ≤ w'.heap.size) (g : ∀ i, i < w.heap.size → M ≤ i → w'.heap[i]? = w.heap[i]?) : SlI M w' v := by
  obtain ⟨xs, b, off, cap, rfl, h1, h2, h3, h4, h5, h6⟩ := h
  exact ⟨xs, b, off, cap, rfl, h1, Nat.lt_of_lt_of_le h2 hs, h3, h4, fun i hi => (World.cell?_of_block (g b h2 h1)).trans (h5 i hi), h6⟩
theorem SlI.rdx {M B : Nat} {w : World} {v : Value} (h : SlI M w v) (hB : B < M) : ∃ xs, RdX B w v xs ∧ ∀ n ∈ xs, I64 n := by
  obtain ⟨xs, b, off, cap, rfl, h1, h2, h3, h4, h5, h6⟩ := h
  exact ⟨xs, ⟨b, off, cap, rfl, by omega, h2, h3, h4, h5⟩, h6⟩
theorem SlI.lit {M : Nat} {w : World} (xs : List Int) (t : TypeId) (hM : M ≤ w.heap.size) (h0 : 0 < xs.length) (h1 : xs.length ≤ 1000) (h6 : ∀ n ∈ xs, I64 n) : SlI M (w.alloc (.cells (xs.map (Value.int .i64)).toArray t)) (.slice (some ⟨w.heap.size, 0, none⟩) xs.length xs.length) :=
  ⟨xs, w.heap.size, 0, _, rfl, hM, by simp, h0, h1, fun i hi => by simp [go_sem, List.getD_eq_getElem?_getD, hi], h6⟩
theorem SlB.nil (M : Nat) (w : World) : SlB M w (.slice none 0 0) :=
  ⟨[], ⟨none, 0, rfl, by simp [maxLen], fun h => absurd h (by simp)⟩, (fun n c e => by cases e; rfl), (fun b off k n c e => by cases e), by simp⟩
/-- what the slots of a drawn region tell. -/
def TD (M : Nat) (cs ps ss bs qs js fs : List Nat) (a b p : Int) (B : Nat) (v : Value) (d : Nat) (u : Value) (x : World) : Prop :=
  (d ∈ cs → u = .agg #[.int .i64 a, .int .i64 b]) ∧ (d ∈ ps → u = .int .i64 p) ∧ (d ∈ ss → u = v) ∧ (d ∈ bs → u = .pointer (some ⟨B, 0, none⟩)) ∧ (d ∈ qs → SlB M x u) ∧ (d ∈ js → ∃ n, u = .int .i64 n ∧ I64 n) ∧ (d ∈ fs → SlI M x u)
/-- what is known of the world in a drawn region: the reader's box B, the result's box N, the curve's box n. -/
def SD (w : World) (N B n M : Nat) (a b : Int) (v : Value) (k : Nat) (x : World) : Prop :=
  Cr x B (2000 + 100 * k) ∧ Below w.heap.size w x ∧ BoxC B x n a b ∧ SlB M x v ∧ (∃ a' b', BoxC B x N a' b') ∧ M ≤ x.heap.size
def RD (B N : Nat) (x y : World) : Prop := x.heap.size ≤ y.heap.size ∧ ∀ i, i < x.heap.size → i ≠ B → i ≠ N → y.heap[i]? = x.heap[i]?
section
variable {M : Nat} {cs ps ss bs qs js fs : List Nat} {a b p : Int} {B N : Nat} {v : Value} {d : Nat} {u : Value} {x y : World}
theorem TD.keep (h : TD M cs ps ss bs qs js fs a b p B v d u x) (hR : RD B N x y) (hB : B < M) (hN : N < M) : TD M cs ps ss bs qs js fs a b p B v d u y :=
  ⟨h.1, h.2.1, h.2.2.1, h.2.2.2.1, fun e => (h.2.2.2.2.1 e).same hR.1 fun i hi hM => hR.2 i hi (by omega) (by omega), h.2.2.2.2.2.1, fun e => (h.2.2.2.2.2.2 e).same hR.1 fun i hi hM => hR.2 i hi (by omega) (by omega)⟩
theorem TD.of_cs (hu : u = .agg #[.int .i64 a, .int .i64 b]) (h1 : d ∉ ps) (h2 : d ∉ ss) (h3 : d ∉ bs) (h4 : d ∉ qs) (h5 : d ∉ js) (h6 : d ∉ fs) : TD M cs ps ss bs qs js fs a b p B v d u x := ⟨fun _ => hu, fun e => absurd e h1, fun e => absurd e h2, fun e => absurd e h3, fun e => absurd e h4, fun e => absurd e h5, fun e => absurd e h6⟩
theorem TD.of_ps (hu : u = .int .i64 p) (h0 : d ∉ cs) (h2 : d ∉ ss) (h3 : d ∉ bs) (h4 : d ∉ qs) (h5 : d ∉ js) (h6 : d ∉ fs) : TD M cs ps ss bs qs js fs a b p B v d u x := ⟨fun e => absurd e h0, fun _ => hu, fun e => absurd e h2, fun e => absurd e h3, fun e => absurd e h4, fun e => absurd e h5, fun e => absurd e h6⟩
theorem TD.of_ss (hu : u = v) (h0 : d ∉ cs) (h1 : d ∉ ps) (h3 : d ∉ bs) (h4 : d ∉ qs) (h5 : d ∉ js) (h6 : d ∉ fs) : TD M cs ps ss bs qs js fs a b p B v d u x := ⟨fun e => absurd e h0, fun e => absurd e h1, fun _ => hu, fun e => absurd e h3, fun e => absurd e h4, fun e => absurd e h5, fun e => absurd e h6⟩
theorem TD.of_bs (hu : u = .pointer (some ⟨B, 0, none⟩)) (h0 : d ∉ cs) (h1 : d ∉ ps) (h2 : d ∉ ss) (h4 : d ∉ qs) (h5 : d ∉ js) (h6 : d ∉ fs) : TD M cs ps ss bs qs js fs a b p B v d u x := ⟨fun e => absurd e h0, fun e => absurd e h1, fun e => absurd e h2, fun _ => hu, fun e => absurd e h4, fun e => absurd e h5, fun e => absurd e h6⟩
theorem TD.of_qs (hu : SlB M x u) (h0 : d ∉ cs) (h1 : d ∉ ps) (h2 : d ∉ ss) (h3 : d ∉ bs) (h5 : d ∉ js) (h6 : d ∉ fs) : TD M cs ps ss bs qs js fs a b p B v d u x := ⟨fun e => absurd e h0, fun e => absurd e h1, fun e => absurd e h2, fun e => absurd e h3, fun _ => hu, fun e => absurd e h5, fun e => absurd e h6⟩
theorem TD.of_js (hu : ∃ n, u = .int .i64 n ∧ I64 n) (h0 : d ∉ cs) (h1 : d ∉ ps) (h2 : d ∉ ss) (h3 : d ∉ bs) (h4 : d ∉ qs) (h6 : d ∉ fs) : TD M cs ps ss bs qs js fs a b p B v d u x := ⟨fun e => absurd e h0, fun e => absurd e h1, fun e => absurd e h2, fun e => absurd e h3, fun e => absurd e h4, fun _ => hu, fun e => absurd e h6⟩
theorem TD.of_fs (hu : SlI M x u) (h0 : d ∉ cs) (h1 : d ∉ ps) (h2 : d ∉ ss) (h3 : d ∉ bs) (h4 : d ∉ qs) (h5 : d ∉ js) : TD M cs ps ss bs qs js fs a b p B v d u x := ⟨fun e => absurd e h0, fun e => absurd e h1, fun e => absurd e h2, fun e => absurd e h3, fun e => absurd e h4, fun e => absurd e h5, fun _ => hu⟩
end
theorem RD.refl (B N : Nat) (x : World) : RD B N x x := ⟨Nat.le_refl _, fun _ _ _ _ => rfl⟩
theorem RD.grown {B N : Nat} {x y : World} (g : x.grownBy y (some B)) : RD B N x y := ⟨g.size, fun i hi h1 _ => g.block i hi (by intro e; cases e; exact h1 rfl)⟩
theorem SD.step {w : World} {N B n M : Nat} {a b : Int} {v : Value} {k : Nat} {x y : World} (h : SD w N B n M a b v k x) (g : x.grownBy y (some B)) (hc : Cr y B (2100 + 100 * k)) (hB : w.heap.size ≤ B) (hM : B < M) : SD w N B n M a b v (k + 1) y := by
  obtain ⟨h1, h2, h3, h4, ⟨a', b', h5⟩, h6⟩ := h
  exact ⟨hc.le (by push_cast; omega), grown_belowN h2 g hB (Nat.le_refl _), h3.keep g, h4.keep g hM, ⟨a', b', h5.keep g⟩, Nat.le_trans h6 g.size⟩
theorem SD.same {w : World} {N B n M : Nat} {a b : Int} {v : Value} {k : Nat} {x : World} (h : SD w N B n M a b v k x) : SD w N B n M a b v (k + 1) x := by
  obtain ⟨h1, h2, h3, h4, h5, h6⟩ := h
  exact ⟨h1.le (by push_cast; omega), h2, h3, h4, h5, h6⟩
theorem SD.put {w : World} {N B n M : Nat} {a b : Int} {v : Value} {k : Nat} {x : World} (h : SD w N B n M a b v k x) (hn : n ≠ N) (hN : w.heap.size ≤ N) (hM : N < M) (a1 b1 : Int) : SD w N B n M a b v (k + 1) ((x.setCell ⟨N, 0, none⟩ (.int .i64 a1)).setCell ⟨N, 1, none⟩ (.int .i64 b1)) ∧ RD B N x ((x.setCell ⟨N, 0, none⟩ (.int .i64 a1)).setCell ⟨N, 1, none⟩ (.int .i64 b1)) := by
  obtain ⟨h1, h2, h3, h4, ⟨a', b', h5⟩, h6⟩ := h
  have hb : ∀ i, i ≠ N → ((x.setCell ⟨N, 0, none⟩ (.int .i64 a1)).setCell ⟨N, 1, none⟩ (.int .i64 b1)).heap[i]? = x.heap[i]? := fun i hi => by
    rw [Below.heap_setCell _ _ _ _ hi, Below.heap_setCell _ _ _ _ hi]
  have c1 : Cr (x.setCell ⟨N, 0, none⟩ (.int .i64 a1)) B (2000 + 100 * k) := cr_put h1 h5.2.1 h5.2.2.1 _
  have c2 : Cr ((x.setCell ⟨N, 0, none⟩ (.int .i64 a1)).setCell ⟨N, 1, none⟩ (.int .i64 b1)) B (2000 + 100 * k) := cr_put c1 h5.2.1 (h5.put0 a1).2.2.2.1 _
  refine ⟨⟨c2.le (by push_cast; omega), (h2.setCell (by dsimp only; omega) _).setCell (by dsimp only; omega) _, ?_, h4.same (by simp) fun i _ hi => hb i (by omega), ⟨a1, b1, h5.put a1 b1⟩, by simpa using h6⟩, by simp, fun i _ _ hi => hb i hi⟩
  exact (h3.far1 (v := .int .i64 a1) hn).far1 hn
end Go.Proofs.Ytpjcfnjagknocaa
