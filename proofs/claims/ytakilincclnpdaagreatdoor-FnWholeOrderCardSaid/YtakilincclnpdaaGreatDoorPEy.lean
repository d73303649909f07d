/- Dv: regions that draw their order, told by a list of slots and what they hold; their operations on curves. No conditions. -/
import Derived.Test.YtakilincclnpdaaGreatDoorDcy
import Derived.Test.YtakilincclnpdaaGreatDoorDgy
/- Dk: words for walks of what is drawn: worlds named, boxes of two and three numbers, literals. No conditions. -/
namespace Go.Proofs.YtakilincclnpdaaGreatDoor
open Go.RowKit

theorem calls_gen {P : Program} {f : FuncId} {args : Array Value} {w : World} {Q : Ending → World → Prop} (h : ∀ V, w = V → Calls P f args V Q) : Calls P f args w Q := h w rfl
theorem cr_drewK {w : World} {B : Nat} {lim : Int} (h : Cr w B lim) : Cr w.drew B lim := h
theorem cr_eq {a b : World} {B : Nat} {lim : Int} (e : a = b) (h : Cr a B lim) : Cr b B lim := e ▸ h
theorem gr_eq {a b c : World} {B : Option Nat} (e : a = b) (h : c.grownBy a B) : c.grownBy b B := e ▸ h
theorem i64w (x : Int) : I64 (IntKind.i64.wrap x) := by
  unfold I64 IntKind.wrap
  simp only [IntKind.bits, IntKind.signed]
  simp
  omega
theorem i64w' (x : Int) : I64 (wrap64 x) := by unfold I64 wrap64; omega
/-- a box of three whole numbers, another than the reader's. -/
def BoxP (B : Nat) (w : World) (n : Nat) (x y e : Int) : Prop := n < w.heap.size ∧ n ≠ B ∧ w.cell? ⟨n, 0, none⟩ = some (.int .i64 x) ∧ w.cell? ⟨n, 1, none⟩ = some (.int .i64 y) ∧ w.cell? ⟨n, 2, none⟩ = some (.int .i64 e) ∧ w.frozen? ⟨n, 0, none⟩ = false ∧ w.frozen? ⟨n, 1, none⟩ = false ∧ w.frozen? ⟨n, 2, none⟩ = false
theorem BoxP.keep {B n : Nat} {w w' : World} {x y e : Int} (h : BoxP B w n x y e) (g : w.grownBy w' (some B)) : BoxP B w' n x y e := by
  obtain ⟨h1, h2, h3, h4, h5, h6, h7, h8⟩ := h
  exact ⟨Nat.lt_of_lt_of_le h1 g.size, h2, (grown_cell g h1 h2).trans h3, (grown_cell g h1 h2).trans h4, (grown_cell g h1 h2).trans h5, (grown_frozen g h1 h2).trans h6, (grown_frozen g h1 h2).trans h7, (grown_frozen g h1 h2).trans h8⟩
theorem BoxP.new {B : Nat} {w : World} (x y e : Int) (t : TypeId) (hB : B < w.heap.size) : BoxP B (w.alloc (.cells #[.int .i64 x, .int .i64 y, .int .i64 e] t)) w.heap.size x y e :=
  ⟨by simp, by omega, by simp [go_sem], by simp [go_sem], by simp [go_sem], by simp [go_sem], by simp [go_sem], by simp [go_sem]⟩
theorem BoxP.put0 {B n : Nat} {w : World} {x y e : Int} (h : BoxP B w n x y e) (z : Int) : BoxP B (w.setCell ⟨n, 0, none⟩ (.int .i64 z)) n z y e := by
  obtain ⟨h1, h2, h3, h4, h5, h6, h7, h8⟩ := h
  exact ⟨by simpa using h1, h2, by simp [go_sem, h3], by simp [go_sem, h4], by simp [go_sem, h5], by simp [go_sem, h6], by simp [go_sem, h7], by simp [go_sem, h8]⟩
theorem BoxP.put1 {B n : Nat} {w : World} {x y e : Int} (h : BoxP B w n x y e) (z : Int) : BoxP B (w.setCell ⟨n, 1, none⟩ (.int .i64 z)) n x z e := by
  obtain ⟨h1, h2, h3, h4, h5, h6, h7, h8⟩ := h
  exact ⟨by simpa using h1, h2, by simp [go_sem, h3], by simp [go_sem, h4], by simp [go_sem, h5], by simp [go_sem, h6], by simp [go_sem, h7], by simp [go_sem, h8]⟩
theorem BoxP.put2 {B n : Nat} {w : World} {x y e : Int} (h : BoxP B w n x y e) (z : Int) : BoxP B (w.setCell ⟨n, 2, none⟩ (.int .i64 z)) n x y z := by
  obtain ⟨h1, h2, h3, h4, h5, h6, h7, h8⟩ := h
  exact ⟨by simpa using h1, h2, by simp [go_sem, h3], by simp [go_sem, h4], by simp [go_sem, h5], by simp [go_sem, h6], by simp [go_sem, h7], by simp [go_sem, h8]⟩
theorem BoxP.far1 {B n m o : Nat} {w : World} {x y e : Int} {v : Value} (h : BoxP B w n x y e) (_hne : n ≠ m) : BoxP B (w.setCell ⟨m, o, none⟩ v) n x y e := by
  obtain ⟨h1, h2, h3, h4, h5, h6, h7, h8⟩ := h
  exact ⟨by simpa using h1, h2, by simp [go_sem, h3], by simp [go_sem, h4], by simp [go_sem, h5], by simp [go_sem, h6], by simp [go_sem, h7], by simp [go_sem, h8]⟩
theorem boxc_eq {a b : World} {B n : Nat} {x y : Int} (e : a = b) (h : BoxC B a n x y) : BoxC B b n x y := e ▸ h
theorem boxp_eq {a b : World} {B n : Nat} {x y z : Int} (e : a = b) (h : BoxP B a n x y z) : BoxP B b n x y z := e ▸ h
theorem grown_transN {a a' b c : World} {B : Nat} (_h0 : a.grownBy a' (some B)) (h : a.grownBy b (some B)) (k : b.grownBy c (some B)) : a.grownBy c (some B) := h.trans k
theorem gr_eqN {a b c c' : World} {B : Option Nat} (_h0 : c.grownBy c' B) (e : a = b) (h : c.grownBy a B) : c.grownBy b B := e ▸ h
theorem boxc_eqN {a b w0 : World} {B n : Nat} {x y x0 y0 : Int} (_h0 : BoxC B w0 n x0 y0) (e : a = b) (h : BoxC B a n x y) : BoxC B b n x y := e ▸ h
theorem boxp_eqN {a b w0 : World} {B n : Nat} {x y z x0 y0 z0 : Int} (_h0 : BoxP B w0 n x0 y0 z0) (e : a = b) (h : BoxP B a n x y z) : BoxP B b n x y z := e ▸ h
theorem BoxC.keepN {w0 w w' : World} {B n : Nat} {x y x0 y0 : Int} (_h0 : BoxC B w0 n x0 y0) (h : BoxC B w n x y) (g : w.grownBy w' (some B)) : BoxC B w' n x y := h.keep g
theorem BoxP.keepN {w0 w w' : World} {B n : Nat} {x y z x0 y0 z0 : Int} (_h0 : BoxP B w0 n x0 y0 z0) (h : BoxP B w n x y z) (g : w.grownBy w' (some B)) : BoxP B w' n x y z := h.keep g
/-- whole numbers, all of them. -/
def AllI : List Value → Prop
  | [] => True
  | v :: l => AnyI v ∧ AllI l
theorem anyI_mk {n : Int} (h : I64 n) : AnyI (.int .i64 n) := ⟨n, rfl, h⟩
theorem allI_list : ∀ {l : List Value}, AllI l → ∃ xs : List Int, l = xs.map (Value.int .i64) ∧ ∀ n ∈ xs, I64 n
  | [], _ => ⟨[], rfl, fun _ h => by cases h⟩
  | v :: l, ⟨⟨n, hv, hn⟩, h⟩ => by
    obtain ⟨xs, e, hx⟩ := allI_list h
    refine ⟨n :: xs, by rw [hv, e]; rfl, fun m hm => ?_⟩
    rcases List.mem_cons.1 hm with rfl | hm
    · exact hn
    · exact hx m hm
theorem amongW_any (B : Nat) (lim : Int) (w : World) (vs : Array Value) (t : TypeId) (n : Nat) (h : Cr w B lim) (hl : lim ≤ 3000000000000000000) (hn : vs.size = n) (h0 : 0 < n) (h1 : n ≤ 1000) (hx : AllI vs.toList) :
    Calls Tryz.prog 65 #[.pointer (some ⟨B, 0, none⟩), .slice (some ⟨w.heap.size, 0, none⟩) n n] (w.alloc (.cells vs t)) (RetC AnyI B (lim + 2) w) := by
  obtain ⟨xs, e, hx2⟩ := allI_list hx
  have e2 : vs = (xs.map (Value.int .i64)).toArray := by rw [← e]
  have hl2 : xs.length = n := by rw [← hn, e2]; simp
  subst e2
  subst hl2
  exact amongLit_any B lim w xs t h hl hx2 h0 h1
end Go.Proofs.YtakilincclnpdaaGreatDoor
/- Db: draws: loads, stores and calls in regions that draw their order; the reader's box at the start. No conditions. -/
namespace Go.Proofs.YtakilincclnpdaaGreatDoor
open Go.RowKit

theorem wp_ldCb {B n i : Nat} {a b : Int} {x : World} {d : Option Nat} {t : TypeId} {s : String} {af : Array Edge} {A : Act} (r : BoxC B x n a b) (h : A.eval (.tmp i) = .pointer (some ⟨n, 0, none⟩)) :
    OpDone Tryz.prog { dst := d, op := .load 50 (.tmp i), type := t, pos := s, after := af, guard := none } A x (.agg #[.int .i64 a, .int .i64 b]) x := by
  refine ⟨fun K Q hk => ?_⟩
  obtain ⟨r1, r2, r3, r4, r5, r6⟩ := r
  unfold Oper.wp execOp
  dsimp only
  rw [h]
  go_simp
  exact hk
theorem wp_stCb {B n i j : Nat} {a b a' b' : Int} {x : World} {d : Option Nat} {t : TypeId} {s : String} {af : Array Edge} {A : Act} (r : BoxC B x n a' b') (h : A.eval (.tmp i) = .pointer (some ⟨n, 0, none⟩)) (h' : A.eval (.tmp j) = .agg #[.int .i64 a, .int .i64 b]) :
    OpDone Tryz.prog { dst := d, op := .store 50 (.tmp i) (.tmp j), type := t, pos := s, after := af, guard := none } A x undef ((x.setCell ⟨n, 0, none⟩ (.int .i64 a)).setCell ⟨n, 1, none⟩ (.int .i64 b)) := by
  refine ⟨fun K Q hk => ?_⟩
  obtain ⟨r1, r2, r3, r4, r5, r6⟩ := r
  unfold Oper.wp execOp
  dsimp only
  rw [h, h']
  go_simp
  exact hk
theorem wp_call_ofb {P : Program} {o : Oper} {f : FuncId} {vs : Array Value} {A : Act} {x : World} (hr : (execOp A.eval o).run P x = .ok (.enter f vs) x) : OpCall P o A x f vs := by
  refine ⟨fun K Q hk => ?_⟩
  unfold Oper.wp
  rw [hr, Oper.upon_enter]
  refine hk.mono ?_
  rintro e x' ⟨v, rfl, hk⟩
  exact hk
theorem run_callPickb {i : Nat} {n : Int} {x : World} {d : Option Nat} {t : TypeId} {ts : Array TypeId} {s : String} {af : Array Edge} (ρ : Operand → Value) (hf : ρ (.func 79) = .func (.func 79) #[] #[]) (hc : ρ (.const (.int .i64 n)) = .int .i64 n) :
    (execOp ρ { dst := d, op := .call { callee := .value (.func 79), args := #[.tmp i, .const (.int .i64 n)], argTypes := ts }, type := t, pos := s, after := af, guard := none }).run Tryz.prog x = .ok (.enter 79 #[ρ (.tmp i), .int .i64 n]) x := by
  simp only [execOp, resolve, hf]
  go_simp
theorem run_callAmongb {i j : Nat} {x : World} {d : Option Nat} {t : TypeId} {ts : Array TypeId} {s : String} {af : Array Edge} (ρ : Operand → Value) (hf : ρ (.func 65) = .func (.func 65) #[] #[]) :
    (execOp ρ { dst := d, op := .call { callee := .value (.func 65), args := #[.tmp i, .tmp j], argTypes := ts }, type := t, pos := s, after := af, guard := none }).run Tryz.prog x = .ok (.enter 65 #[ρ (.tmp i), ρ (.tmp j)]) x := by
  simp only [execOp, resolve, hf]
  go_simp
theorem wp_value_ofb {P : Program} {o : Oper} {v : Value} {A : Act} {x x' : World} (hr : (execOp A.eval o).run P x = .ok (.value v) x') : OpDone P o A x v x' := by
  refine ⟨fun K Q hk => ?_⟩
  unfold Oper.wp
  rw [hr, Oper.upon_value]
  exact hk
theorem grown_belowNb {a V V' : World} {B n : Nat} (h : Below n a V) (g : V.grownBy V' (some B)) (hB : n ≤ B) (hn : n ≤ a.heap.size) : Below n a V' :=
  ⟨g.os.trans h.os, g.tape.trans h.tape, g.output.trans h.output, Nat.le_trans h.size g.size, fun i hi => (g.block i (Nat.lt_of_lt_of_le (Nat.lt_of_lt_of_le hi hn) h.size) (by intro e; cases e; omega)).trans (h.block i hi)⟩
theorem cr_putb {B n o : Nat} {V : World} {lim a0 : Int} (h : Cr V B lim) (hn : n ≠ B) (h0 : V.cell? ⟨n, o, none⟩ = some (.int .i64 a0)) (v : Value) : Cr (V.setCell ⟨n, o, none⟩ v) B lim := by
  obtain ⟨h1, h2, h3, ad, len, cap, at_, seed, c0, c1, c2, a0, a1, s0, s1, hl, hc⟩ := h
  have far : ∀ i, (V.setCell ⟨n, o, none⟩ v).cell? ⟨B, i, none⟩ = V.cell? ⟨B, i, none⟩ := fun i => World.cell?_setCell_other _ _ _ _ (by intro e; injection e with e1; exact hn e1)
  refine ⟨by simpa using h1, by simp [go_sem, h2], by simp [go_sem, h3], ad, len, cap, at_, seed, (far 0).trans c0, (far 1).trans c1, (far 2).trans c2, a0, a1, s0, s1, hl, fun hp => ?_⟩
  obtain ⟨b, off, ha, hlt, hcell⟩ := hc hp
  refine ⟨b, off, ha, hlt, fun i hi => ?_⟩
  obtain ⟨c, q0, q1, q2⟩ := hcell i hi
  refine ⟨c, q0, q1, (World.cell?_setCell_other _ _ _ _ fun e => ?_).trans q2⟩
  rw [← e, h0] at q2
  cases q2
theorem u8_bdb {n : Int} (h : (Lit.int .u8 n).wf = true) : 0 ≤ n ∧ n ≤ 255 := by
  simp [Lit.wf, IntKind.min, IntKind.max, IntKind.signed, IntKind.bits] at h
  omega
theorem cr_startb {w V : World} {ad : Option Addr} {len cap : Nat} {zs : List Int} (h : IsRow .u8 w ad len cap zs) (hl : len ≤ 2097152) (hb : Below w.heap.size w V) (t : TypeId) :
    Cr (V.alloc (.cells #[.slice ad len cap, .int .i64 0, .int .u64 0] t)) V.heap.size 0 := by
  refine ⟨by simp, by simp [go_sem], by simp [go_sem], ad, len, cap, 0, 0, by simp [go_sem], by simp [go_sem], by simp [go_sem], by omega, by omega, by omega, by omega, hl, fun hp => ?_⟩
  rcases h with ⟨rfl, rfl, rfl, rfl⟩ | ⟨x, rfl, hlc, hm, hz, hcell, hwz⟩
  · omega
  · obtain ⟨b, off, spot⟩ := x
    have h0 := hcell 0 (by omega)
    have hspot : spot = none := by simpa [Addr.add] using World.cell?_spot h0
    subst hspot
    have hbl : b < w.heap.size := by
      have := World.block_lt_of_cell? w _ h0
      simpa [Addr.add] using this
    have hbV := Nat.lt_of_lt_of_le hbl hb.size
    refine ⟨b, off, rfl, hbV, fun i hi => ?_⟩
    have hi' := hcell i (by omega)
    have he : ((⟨b, off, none⟩ : Addr).add i) = ⟨b, off + i, none⟩ := by unfold Addr.add; split <;> simp_all
    rw [he] at hi'
    have hmem : zs.getD i 0 ∈ zs := by rw [List.getD_eq_getElem?_getD, List.getElem?_eq_getElem (by omega)]; exact List.getElem_mem (by omega)
    obtain ⟨q0, q1⟩ := u8_bdb (hwz _ hmem)
    exact ⟨_, q0, q1, ((below_allocD V _).cell (p := ⟨b, off + i, none⟩) hbV).trans ((hb.cell (p := ⟨b, off + i, none⟩) hbl).trans hi')⟩
theorem draw_endb {w V x : World} {N B : Nat} {n m : Value} (hl : Below w.heap.size w V) (hg : V.grownBy x (some B)) (hN : N = w.heap.size) (hB : B = w.heap.size + 1) : Below w.heap.size w ((x.setCell ⟨N, 0, none⟩ n).setCell ⟨N, 1, none⟩ m) :=
  ((grown_belowNb hl hg (by omega) (Nat.le_refl _)).setCell (by dsimp only; omega) _).setCell (by dsimp only; omega) _
theorem isRow_keepDb {k : IntKind} {w w' : World} {a : Option Addr} {len cap : Nat} {zs : List Int} (h : IsRow k w a len cap zs) (hb : Below w.heap.size w w') : IsRow k w' a len cap zs := by
  rcases h with h | ⟨x, rfl, h1, h2, h3, h4, h5⟩
  · exact .inl h
  · refine .inr ⟨x, rfl, h1, h2, h3, fun i hi => ?_, h5⟩
    have hc := h4 i hi
    have hlt := World.block_lt_of_cell? w _ hc
    exact (hb.cell hlt).trans hc
end Go.Proofs.YtakilincclnpdaaGreatDoor
namespace Go.Proofs.YtakilincclnpdaaGreatDoor
open Go.RowKit

/-- what a slot holds, looked up in a list. -/
def look : List (Nat × (Value → World → Prop)) → Nat → Value → World → Prop
  | [], _, _, _ => True
  | (i, P) :: l, d, v, x => bif Nat.beq d i then P v x else look l d v x
theorem look_keep {R : World → World → Prop} : ∀ {l : List (Nat × (Value → World → Prop))}, (∀ q ∈ l, ∀ v x y, q.2 v x → R x y → q.2 v y) → ∀ d v x y, look l d v x → R x y → look l d v y
  | [], _, _, _, _, _, _, _ => trivial
  | (i, P) :: l, h, d, v, x, y, hl, hr => by
    unfold look at hl ⊢
    cases hb : Nat.beq d i
    · rw [hb] at hl
      exact look_keep (fun q hq => h q (List.mem_cons_of_mem _ hq)) d v x y hl hr
    · rw [hb] at hl
      exact h (i, P) (List.mem_cons_self ..) v x y hl hr
def VC (a b : Int) (v : Value) (_ : World) : Prop := v = .agg #[.int .i64 a, .int .i64 b]
def VB (B : Nat) (v : Value) (_ : World) : Prop := v = .pointer (some ⟨B, 0, none⟩)
def VI (lo hi : Int) (v : Value) (_ : World) : Prop := ∃ n : Int, v = .int .i64 n ∧ lo ≤ n ∧ n ≤ hi
def VTc (v : Value) (_ : World) : Prop := ∃ (a b : Int) (o : Bool), v = .tuple #[.agg #[.int .i64 a, .int .i64 b], .bool o]
def VCe (v : Value) (_ : World) : Prop := ∃ a b : Int, v = .agg #[.int .i64 a, .int .i64 b]
def VBo (v : Value) (_ : World) : Prop := ∃ o : Bool, v = .bool o
/-- a pointer to a box that the region itself has laid. -/
def VFc (B M : Nat) (v : Value) (x : World) : Prop := ∃ m, v = .pointer (some ⟨m, 0, none⟩) ∧ M ≤ m ∧ ∃ a b, BoxC B x m a b
def RT (_ _ : World) : Prop := True
def RF (B M : Nat) (x y : World) : Prop := ∀ m, M ≤ m → (∃ a b, BoxC B x m a b) → ∃ a b, BoxC B y m a b
theorem RF.refl (B M : Nat) (x : World) : RF B M x x := fun _ _ h => h
theorem RF.grown {B M : Nat} {x y : World} (g : x.grownBy y (some B)) : RF B M x y := fun _ _ ⟨a, b, h⟩ => ⟨a, b, h.keep g⟩
theorem RF.put {B M n : Nat} {x : World} {a0 b0 : Int} (h0 : BoxC B x n a0 b0) (a b : Int) : RF B M x ((x.setCell ⟨n, 0, none⟩ (.int .i64 a)).setCell ⟨n, 1, none⟩ (.int .i64 b)) := fun m _ ⟨c, d, h⟩ => by
  by_cases e : m = n
  · subst e; exact ⟨a, b, h0.put a b⟩
  · exact ⟨c, d, (h.far1 (v := .int .i64 a) e).far1 e⟩
theorem VFc.keep {B M : Nat} {v : Value} {x y : World} (h : VFc B M v x) (r : RF B M x y) : VFc B M v y := by
  obtain ⟨m, hv, hm, hb⟩ := h
  exact ⟨m, hv, hm, r m hm hb⟩
section
variable {P : Program} {ops : Array Oper} {Q : Exit → Act → World → Prop} {a0 : Act} {ds : List Nat} {R : World → World → Prop} {T : Nat → Value → World → Prop} {S : Nat → World → Prop}
theorem LStep.of {o : Oper} (hg : o.guard = none)
    (h : ∀ g x, S (ops.size - 1) x → (∀ d ∈ needs ops o, T d (g d) x) → ∃ v x', OpDone P o (fill a0 g ds) x v x' ∧ Q .normal ((fill a0 g ds).put o.dst v) x') : LStep P ops Q a0 ds T S o := fun g x hS hd K hK => by
  rw [if_pos (wanted_none hg _)]
  obtain ⟨v, x', h1, h2⟩ := h g x hS hd
  exact h1.out K Q (hK _ _ h2)
end
theorem run_ext {P : Program} {x : World} {d : Option Nat} {t : TypeId} {s : String} {af : Array Edge} {i k : Nat} {vs : Array Value} (ρ : Operand → Value) (h : ρ (.tmp i) = .tuple vs) (hk : k < vs.size) :
    (execOp ρ { dst := d, op := .extract (.tmp i) k, type := t, pos := s, after := af, guard := none }).run P x = .ok (.value (vs.getD k undef)) x := by
  simp only [execOp, h]
  simp [go_sem, hk]
theorem run_addL {x : World} {d : Option Nat} {t : TypeId} {s : String} {af : Array Edge} {i : Nat} {n c : Int} (ρ : Operand → Value) (h : ρ (.tmp i) = .int .i64 n) (hc : ρ (.const (.int .i64 c)) = .int .i64 c) :
    (execOp ρ { dst := d, op := .binOp .add 3 (.const (.int .i64 c)) (.tmp i) 3, type := t, pos := s, after := af, guard := none }).run Tryz.prog x = .ok (.value (.int .i64 (IntKind.i64.wrap (c + n)))) x := by
  simp only [execOp, h, hc]
  go_simp
theorem run_subR {x : World} {d : Option Nat} {t : TypeId} {s : String} {af : Array Edge} {i : Nat} {n c : Int} (ρ : Operand → Value) (h : ρ (.tmp i) = .int .i64 n) (hc : ρ (.const (.int .i64 c)) = .int .i64 c) :
    (execOp ρ { dst := d, op := .binOp .sub 3 (.tmp i) (.const (.int .i64 c)) 3, type := t, pos := s, after := af, guard := none }).run Tryz.prog x = .ok (.value (.int .i64 (IntKind.i64.wrap (n - c)))) x := by
  simp only [execOp, h, hc]
  go_simp
theorem run_allocC {x : World} {d : Option Nat} {t : TypeId} {s : String} {af : Array Edge} (ρ : Operand → Value) :
    (execOp ρ { dst := d, op := .alloc 50, type := t, pos := s, after := af, guard := none }).run Tryz.prog x = .ok (.value (.pointer (some ⟨x.heap.size, 0, none⟩))) (x.alloc (.cells #[.int .i64 0, .int .i64 0] 50)) := by
  simp only [execOp]
  go_simp
theorem run_callAny {i : Nat} {x : World} {d : Option Nat} {t : TypeId} {ts : Array TypeId} {s : String} {af : Array Edge} (ρ : Operand → Value) (hf : ρ (.func 140) = .func (.func 140) #[] #[]) :
    (execOp ρ { dst := d, op := .call { callee := .value (.func 140), args := #[.tmp i], argTypes := ts }, type := t, pos := s, after := af, guard := none }).run Tryz.prog x = .ok (.enter 140 #[ρ (.tmp i)]) x := by
  simp only [execOp, resolve, hf]
  go_simp
end Go.Proofs.YtakilincclnpdaaGreatDoor
