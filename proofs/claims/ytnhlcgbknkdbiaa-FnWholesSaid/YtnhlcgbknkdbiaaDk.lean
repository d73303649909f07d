/- Dk: words for walks of what is drawn: worlds named, boxes of two and three numbers, literals. No conditions. -/
import Derived.Test.YtnhlcgbknkdbiaaDc
namespace Go.Proofs.Ytnhlcgbknkdbiaa
open Go.RowKit

theorem calls_gen {P : Program} {f : FuncId} {args : Array Value} {w : World} {Q : Ending → World → Prop} (h : ∀ V, w = V → Calls P f args V Q) : Calls P f args w Q := h w rfl
theorem cr_drewK {w : World} {B : Nat} {lim : Int} (h : Cr w B lim) : Cr w.drew B lim := h
theorem cr_eq {a b : World} {B : Nat} {lim : Int} (e : a = b) (h : Cr a B lim) : Cr b B lim := e ▸ h
theorem gr_eq {a b c : World} {B : Option Nat} (e : a = b) (h : c.grownBy a B) : c.grownBy b B := e ▸ h
theorem i64w (x : Int) : I64 (IntKind.i64.wrap x) := by
  unfold I64 IntKind.wrap
  simp only [IntKind.bits, IntKind.signed]
  simp
  omega
theorem i64w' (x : Int) : I64 (wrap64 x) := by unfold I64 wrap64; omega
/-- a box of three whole numbers, another than the reader's. -/
def BoxP (B : Nat) (w : World) (n : Nat) (x y e : Int) : Prop := n < w.heap.size ∧ n ≠ B ∧ w.cell? ⟨n, 0, none⟩ = some (.int .i64 x) ∧ w.cell? ⟨n, 1, none⟩ = some (.int .i64 y) ∧ w.cell? ⟨n, 2, none⟩ = some (.int .i64 e) ∧ w.frozen? ⟨n, 0, none⟩ = false ∧ w.frozen? ⟨n, 1, none⟩ = false ∧ w.frozen? ⟨n, 2, none⟩ = false
theorem BoxP.keep {B n : Nat} {w w' : World} {x y e : Int} (h : BoxP B w n x y e) (g : w.grownBy w' (some B)) : BoxP B w' n x y e := by
  obtain ⟨h1, h2, h3, h4, h5, h6, h7, h8⟩ := h
  exact ⟨Nat.lt_of_lt_of_le h1 g.size, h2, (grown_cell g h1 h2).trans h3, (grown_cell g h1 h2).trans h4, (grown_cell g h1 h2).trans h5, (grown_frozen g h1 h2).trans h6, (grown_frozen g h1 h2).trans h7, (grown_frozen g h1 h2).trans h8⟩
theorem BoxP.new {B : Nat} {w : World} (x y e : Int) (t : TypeId) (hB : B < w.heap.size) : BoxP B (w.alloc (.cells #[.int .i64 x, .int .i64 y, .int .i64 e] t)) w.heap.size x y e :=
  ⟨by simp, by omega, by simp [go_sem], by simp [go_sem], by simp [go_sem], by simp [go_sem], by simp [go_sem], by simp [go_sem]⟩
theorem BoxP.put0 {B n : Nat} {w : World} {x y e : Int} (h : BoxP B w n x y e) (z : Int) : BoxP B (w.setCell ⟨n, 0, none⟩ (.int .i64 z)) n z y e := by
  obtain ⟨h1, h2, h3, h4, h5, h6, h7, h8⟩ := h
  exact ⟨by simpa using h1, h2, by simp [go_sem, h3], by simp [go_sem, h4], by simp [go_sem, h5], by simp [go_sem, h6], by simp [go_sem, h7], by simp [go_sem, h8]⟩
theorem BoxP.put1 {B n : Nat} {w : World} {x y e : Int} (h : BoxP B w n x y e) (z : Int) : BoxP B (w.setCell ⟨n, 1, none⟩ (.int .i64 z)) n x z e := by
  obtain ⟨h1, h2, h3, h4, h5, h6, h7, h8⟩ := h
  exact ⟨by simpa using h1, h2, by simp [go_sem, h3], by simp [go_sem, h4], by simp [go_sem, h5], by simp [go_sem, h6], by simp [go_sem, h7], by simp [go_sem, h8]⟩
theorem BoxP.put2 {B n : Nat} {w : World} {x y e : Int} (h : BoxP B w n x y e) (z : Int) : BoxP B (w.setCell ⟨n, 2, none⟩ (.int .i64 z)) n x y z := by
  obtain ⟨h1, h2, h3, h4, h5, h6, h7, h8⟩ := h
  exact ⟨by simpa using h1, h2, by simp [go_sem, h3], by simp [go_sem, h4], by simp [go_sem, h5], by simp [go_sem, h6], by simp [go_sem, h7], by simp [go_sem, h8]⟩
theorem BoxP.far1 {B n m o : Nat} {w : World} {x y e : Int} {v : Value} (h : BoxP B w n x y e) (_hne : n ≠ m) : BoxP B (w.setCell ⟨m, o, none⟩ v) n x y e := by
  obtain ⟨h1, h2, h3, h4, h5, h6, h7, h8⟩ := h
  exact ⟨by simpa using h1, h2, by simp [go_sem, h3], by simp [go_sem, h4], by simp [go_sem, h5], by simp [go_sem, h6], by simp [go_sem, h7], by simp [go_sem, h8]⟩
theorem boxc_eq {a b : World} {B n : Nat} {x y : Int} (e : a = b) (h : BoxC B a n x y) : BoxC B b n x y := e ▸ h
theorem boxp_eq {a b : World} {B n : Nat} {x y z : Int} (e : a = b) (h : BoxP B a n x y z) : BoxP B b n x y z := e ▸ h
theorem grown_transN {a a' b c : World} {B : Nat} (_h0 : a.grownBy a' (some B)) (h : a.grownBy b (some B)) (k : b.grownBy c (some B)) : a.grownBy c (some B) := h.trans k
theorem gr_eqN {a b c c' : World} {B : Option Nat} (_h0 : c.grownBy c' B) (e : a = b) (h : c.grownBy a B) : c.grownBy b B := e ▸ h
theorem boxc_eqN {a b w0 : World} {B n : Nat} {x y x0 y0 : Int} (_h0 : BoxC B w0 n x0 y0) (e : a = b) (h : BoxC B a n x y) : BoxC B b n x y := e ▸ h
theorem boxp_eqN {a b w0 : World} {B n : Nat} {x y z x0 y0 z0 : Int} (_h0 : BoxP B w0 n x0 y0 z0) (e : a = b) (h : BoxP B a n x y z) : BoxP B b n x y z := e ▸ h
theorem BoxC.keepN {w0 w w' : World} {B n : Nat} {x y x0 y0 : Int} (_h0 : BoxC B w0 n x0 y0) (h : BoxC B w n x y) (g : w.grownBy w' (some B)) : BoxC B w' n x y := h.keep g
theorem BoxP.keepN {w0 w w' : World} {B n : Nat} {x y z x0 y0 z0 : Int} (_h0 : BoxP B w0 n x0 y0 z0) (h : BoxP B w n x y z) (g : w.grownBy w' (some B)) : BoxP B w' n x y z := h.keep g
/-- whole numbers, all of them. -/
def AllI : List Value → Prop
  | [] => True
  | v :: l => AnyI v ∧ AllI l
theorem anyI_mk {n : Int} (h : I64 n) : AnyI (.int .i64 n) := ⟨n, rfl, h⟩
theorem allI_list : ∀ {l : List Value}, AllI l → ∃ xs : List Int, l = xs.map (Value.int .i64) ∧ ∀ n ∈ xs, I64 n
  | [], _ => ⟨[], rfl, fun _ h => by cases h⟩
  | v :: l, ⟨⟨n, hv, hn⟩, h⟩ => by
    obtain ⟨xs, e, hx⟩ := allI_list h
    refine ⟨n :: xs, by rw [hv, e]; rfl, fun m hm => ?_⟩
    rcases List.mem_cons.1 hm with rfl | hm
    · exact hn
    · exact hx m hm
theorem amongW_any (B : Nat) (lim : Int) (w : World) (vs : Array Value) (t : TypeId) (n : Nat) (h : Cr w B lim) (hl : lim ≤ 3000000000000000000) (hn : vs.size = n) (h0 : 0 < n) (h1 : n ≤ 1000) (hx : AllI vs.toList) :
    Calls Try.prog 70 #[.pointer (some ⟨B, 0, none⟩), .slice (some ⟨w.heap.size, 0, none⟩) n n] (w.alloc (.cells vs t)) (RetC AnyI B (lim + 2) w) := by
  obtain ⟨xs, e, hx2⟩ := allI_list hx
  have e2 : vs = (xs.map (Value.int .i64)).toArray := by rw [← e]
  have hl2 : xs.length = n := by rw [← hn, e2]; simp
  subst e2
  subst hl2
  exact amongLit_any B lim w xs t h hl hx2 h0 h1
end Go.Proofs.Ytnhlcgbknkdbiaa
