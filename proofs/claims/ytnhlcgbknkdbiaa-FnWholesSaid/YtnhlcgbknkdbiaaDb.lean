/- Db: draws: loads, stores and calls in regions that draw their order; the reader's box at the start. No conditions. -/
import Derived.Test.YtnhlcgbknkdbiaaDc
import Derived.Test.YtnhlcgbknkdbiaaDg
import Derived.Test.YtnhlcgbknkdbiaaDk
namespace Go.Proofs.Ytnhlcgbknkdbiaa
open Go.RowKit

theorem wp_ldCb {B n i : Nat} {a b : Int} {x : World} {d : Option Nat} {t : TypeId} {s : String} {af : Array Edge} {A : Act} (r : BoxC B x n a b) (h : A.eval (.tmp i) = .pointer (some ⟨n, 0, none⟩)) :
    OpDone Try.prog { dst := d, op := .load 39 (.tmp i), type := t, pos := s, after := af, guard := none } A x (.agg #[.int .i64 a, .int .i64 b]) x := by
  refine ⟨fun K Q hk => ?_⟩
  obtain ⟨r1, r2, r3, r4, r5, r6⟩ := r
  unfold Oper.wp execOp
  dsimp only
  rw [h]
  go_simp
  exact hk
theorem wp_stCb {B n i j : Nat} {a b a' b' : Int} {x : World} {d : Option Nat} {t : TypeId} {s : String} {af : Array Edge} {A : Act} (r : BoxC B x n a' b') (h : A.eval (.tmp i) = .pointer (some ⟨n, 0, none⟩)) (h' : A.eval (.tmp j) = .agg #[.int .i64 a, .int .i64 b]) :
    OpDone Try.prog { dst := d, op := .store 39 (.tmp i) (.tmp j), type := t, pos := s, after := af, guard := none } A x undef ((x.setCell ⟨n, 0, none⟩ (.int .i64 a)).setCell ⟨n, 1, none⟩ (.int .i64 b)) := by
  refine ⟨fun K Q hk => ?_⟩
  obtain ⟨r1, r2, r3, r4, r5, r6⟩ := r
  unfold Oper.wp execOp
  dsimp only
  rw [h, h']
  go_simp
  exact hk
theorem wp_call_ofb {P : Program} {o : Oper} {f : FuncId} {vs : Array Value} {A : Act} {x : World} (hr : (execOp A.eval o).run P x = .ok (.enter f vs) x) : OpCall P o A x f vs := by
  refine ⟨fun K Q hk => ?_⟩
  unfold Oper.wp
  rw [hr, Oper.upon_enter]
  refine hk.mono ?_
  rintro e x' ⟨v, rfl, hk⟩
  exact hk
theorem run_callPickb {i : Nat} {n : Int} {x : World} {d : Option Nat} {t : TypeId} {ts : Array TypeId} {s : String} {af : Array Edge} (ρ : Operand → Value) (hf : ρ (.func 56) = .func (.func 56) #[] #[]) (hc : ρ (.const (.int .i64 n)) = .int .i64 n) :
    (execOp ρ { dst := d, op := .call { callee := .value (.func 56), args := #[.tmp i, .const (.int .i64 n)], argTypes := ts }, type := t, pos := s, after := af, guard := none }).run Try.prog x = .ok (.enter 56 #[ρ (.tmp i), .int .i64 n]) x := by
  simp only [execOp, resolve, hf]
  go_simp
theorem run_callAmongb {i j : Nat} {x : World} {d : Option Nat} {t : TypeId} {ts : Array TypeId} {s : String} {af : Array Edge} (ρ : Operand → Value) (hf : ρ (.func 70) = .func (.func 70) #[] #[]) :
    (execOp ρ { dst := d, op := .call { callee := .value (.func 70), args := #[.tmp i, .tmp j], argTypes := ts }, type := t, pos := s, after := af, guard := none }).run Try.prog x = .ok (.enter 70 #[ρ (.tmp i), ρ (.tmp j)]) x := by
  simp only [execOp, resolve, hf]
  go_simp
theorem wp_value_ofb {P : Program} {o : Oper} {v : Value} {A : Act} {x x' : World} (hr : (execOp A.eval o).run P x = .ok (.value v) x') : OpDone P o A x v x' := by
  refine ⟨fun K Q hk => ?_⟩
  unfold Oper.wp
  rw [hr, Oper.upon_value]
  exact hk
theorem grown_belowNb {a V V' : World} {B n : Nat} (h : Below n a V) (g : V.grownBy V' (some B)) (hB : n ≤ B) (hn : n ≤ a.heap.size) : Below n a V' :=
  ⟨g.os.trans h.os, g.tape.trans h.tape, g.output.trans h.output, Nat.le_trans h.size g.size, fun i hi => (g.block i (Nat.lt_of_lt_of_le (Nat.lt_of_lt_of_le hi hn) h.size) (by intro e; cases e; omega)).trans (h.block i hi)⟩
theorem cr_putb {B n o : Nat} {V : World} {lim a0 : Int} (h : Cr V B lim) (hn : n ≠ B) (h0 : V.cell? ⟨n, o, none⟩ = some (.int .i64 a0)) (v : Value) : Cr (V.setCell ⟨n, o, none⟩ v) B lim := by
  obtain ⟨h1, h2, h3, ad, len, cap, at_, seed, c0, c1, c2, a0, a1, s0, s1, hl, hc⟩ := h
  have far : ∀ i, (V.setCell ⟨n, o, none⟩ v).cell? ⟨B, i, none⟩ = V.cell? ⟨B, i, none⟩ := fun i => World.cell?_setCell_other _ _ _ _ (by intro e; injection e with e1; exact hn e1)
  refine ⟨by simpa using h1, by simp [go_sem, h2], by simp [go_sem, h3], ad, len, cap, at_, seed, (far 0).trans c0, (far 1).trans c1, (far 2).trans c2, a0, a1, s0, s1, hl, fun hp => ?_⟩
  obtain ⟨b, off, ha, hlt, hcell⟩ := hc hp
  refine ⟨b, off, ha, hlt, fun i hi => ?_⟩
  obtain ⟨c, q0, q1, q2⟩ := hcell i hi
  refine ⟨c, q0, q1, (World.cell?_setCell_other _ _ _ _ fun e => ?_).trans q2⟩
  rw [← e, h0] at q2
  cases q2
theorem u8_bdb {n : Int} (h : (Lit.int .u8 n).wf = true) : 0 ≤ n ∧ n ≤ 255 := by
  simp [Lit.wf, IntKind.min, IntKind.max, IntKind.signed, IntKind.bits] at h
  omega
theorem cr_startb {w V : World} {ad : Option Addr} {len cap : Nat} {zs : List Int} (h : IsRow .u8 w ad len cap zs) (hl : len ≤ 2097152) (hb : Below w.heap.size w V) (t : TypeId) :
    Cr (V.alloc (.cells #[.slice ad len cap, .int .i64 0, .int .u64 0] t)) V.heap.size 0 := by
  refine ⟨by simp, by simp [go_sem], by simp [go_sem], ad, len, cap, 0, 0, by simp [go_sem], by simp [go_sem], by simp [go_sem], by omega, by omega, by omega, by omega, hl, fun hp => ?_⟩
  rcases h with ⟨rfl, rfl, rfl, rfl⟩ | ⟨x, rfl, hlc, hm, hz, hcell, hwz⟩
  · omega
  · obtain ⟨b, off, spot⟩ := x
    have h0 := hcell 0 (by omega)
    have hspot : spot = none := by simpa [Addr.add] using World.cell?_spot h0
    subst hspot
    have hbl : b < w.heap.size := by
      have := World.block_lt_of_cell? w _ h0
      simpa [Addr.add] using this
    have hbV := Nat.lt_of_lt_of_le hbl hb.size
    refine ⟨b, off, rfl, hbV, fun i hi => ?_⟩
    have hi' := hcell i (by omega)
    have he : ((⟨b, off, none⟩ : Addr).add i) = ⟨b, off + i, none⟩ := by unfold Addr.add; split <;> simp_all
    rw [he] at hi'
    have hmem : zs.getD i 0 ∈ zs := by rw [List.getD_eq_getElem?_getD, List.getElem?_eq_getElem (by omega)]; exact List.getElem_mem (by omega)
    obtain ⟨q0, q1⟩ := u8_bdb (hwz _ hmem)
    exact ⟨_, q0, q1, ((below_allocD V _).cell (p := ⟨b, off + i, none⟩) hbV).trans ((hb.cell (p := ⟨b, off + i, none⟩) hbl).trans hi')⟩
theorem draw_endb {w V x : World} {N B : Nat} {n m : Value} (hl : Below w.heap.size w V) (hg : V.grownBy x (some B)) (hN : N = w.heap.size) (hB : B = w.heap.size + 1) : Below w.heap.size w ((x.setCell ⟨N, 0, none⟩ n).setCell ⟨N, 1, none⟩ m) :=
  ((grown_belowNb hl hg (by omega) (Nat.le_refl _)).setCell (by dsimp only; omega) _).setCell (by dsimp only; omega) _
theorem isRow_keepDb {k : IntKind} {w w' : World} {a : Option Addr} {len cap : Nat} {zs : List Int} (h : IsRow k w a len cap zs) (hb : Below w.heap.size w w') : IsRow k w' a len cap zs := by
  rcases h with h | ⟨x, rfl, h1, h2, h3, h4, h5⟩
  · exact .inl h
  · refine .inr ⟨x, rfl, h1, h2, h3, fun i hi => ?_, h5⟩
    have hc := h4 i hi
    have hlt := World.block_lt_of_cell? w _ hc
    exact (hb.cell hlt).trans hc
end Go.Proofs.Ytnhlcgbknkdbiaa
