/- Dv: regions that draw their order, told by a list of slots and what they hold; their operations on curves. No conditions. -/
import Derived.Test.YtnhlcgbknkdbiaaDb
namespace Go.Proofs.Ytnhlcgbknkdbiaa
open Go.RowKit

/-- what a slot holds, looked up in a list. -/
def look : List (Nat × (Value → World → Prop)) → Nat → Value → World → Prop
  | [], _, _, _ => True
  | (i, P) :: l, d, v, x => bif Nat.beq d i then P v x else look l d v x
theorem look_keep {R : World → World → Prop} : ∀ {l : List (Nat × (Value → World → Prop))}, (∀ q ∈ l, ∀ v x y, q.2 v x → R x y → q.2 v y) → ∀ d v x y, look l d v x → R x y → look l d v y
  | [], _, _, _, _, _, _, _ => trivial
  | (i, P) :: l, h, d, v, x, y, hl, hr => by
    unfold look at hl ⊢
    cases hb : Nat.beq d i
    · rw [hb] at hl
      exact look_keep (fun q hq => h q (List.mem_cons_of_mem _ hq)) d v x y hl hr
    · rw [hb] at hl
      exact h (i, P) (List.mem_cons_self ..) v x y hl hr
def VC (a b : Int) (v : Value) (_ : World) : Prop := v = .agg #[.int .i64 a, .int .i64 b]
def VB (B : Nat) (v : Value) (_ : World) : Prop := v = .pointer (some ⟨B, 0, none⟩)
def VI (lo hi : Int) (v : Value) (_ : World) : Prop := ∃ n : Int, v = .int .i64 n ∧ lo ≤ n ∧ n ≤ hi
def VTc (v : Value) (_ : World) : Prop := ∃ (a b : Int) (o : Bool), v = .tuple #[.agg #[.int .i64 a, .int .i64 b], .bool o]
def VCe (v : Value) (_ : World) : Prop := ∃ a b : Int, v = .agg #[.int .i64 a, .int .i64 b]
def VBo (v : Value) (_ : World) : Prop := ∃ o : Bool, v = .bool o
/-- a pointer to a box that the region itself has laid. -/
def VFc (B M : Nat) (v : Value) (x : World) : Prop := ∃ m, v = .pointer (some ⟨m, 0, none⟩) ∧ M ≤ m ∧ ∃ a b, BoxC B x m a b
def RT (_ _ : World) : Prop := True
def RF (B M : Nat) (x y : World) : Prop := ∀ m, M ≤ m → (∃ a b, BoxC B x m a b) → ∃ a b, BoxC B y m a b
theorem RF.refl (B M : Nat) (x : World) : RF B M x x := fun _ _ h => h
theorem RF.grown {B M : Nat} {x y : World} (g : x.grownBy y (some B)) : RF B M x y := fun _ _ ⟨a, b, h⟩ => ⟨a, b, h.keep g⟩
theorem RF.put {B M n : Nat} {x : World} {a0 b0 : Int} (h0 : BoxC B x n a0 b0) (a b : Int) : RF B M x ((x.setCell ⟨n, 0, none⟩ (.int .i64 a)).setCell ⟨n, 1, none⟩ (.int .i64 b)) := fun m _ ⟨c, d, h⟩ => by
  by_cases e : m = n
  · subst e; exact ⟨a, b, h0.put a b⟩
  · exact ⟨c, d, (h.far1 (v := .int .i64 a) e).far1 e⟩
theorem VFc.keep {B M : Nat} {v : Value} {x y : World} (h : VFc B M v x) (r : RF B M x y) : VFc B M v y := by
  obtain ⟨m, hv, hm, hb⟩ := h
  exact ⟨m, hv, hm, r m hm hb⟩
section
variable {P : Program} {ops : Array Oper} {Q : Exit → Act → World → Prop} {a0 : Act} {ds : List Nat} {R : World → World → Prop} {T : Nat → Value → World → Prop} {S : Nat → World → Prop}
theorem LStep.of {o : Oper} (hg : o.guard = none)
    (h : ∀ g x, S (ops.size - 1) x → (∀ d ∈ needs ops o, T d (g d) x) → ∃ v x', OpDone P o (fill a0 g ds) x v x' ∧ Q .normal ((fill a0 g ds).put o.dst v) x') : LStep P ops Q a0 ds T S o := fun g x hS hd K hK => by
  rw [if_pos (wanted_none hg _)]
  obtain ⟨v, x', h1, h2⟩ := h g x hS hd
  exact h1.out K Q (hK _ _ h2)
end
theorem run_ext {P : Program} {x : World} {d : Option Nat} {t : TypeId} {s : String} {af : Array Edge} {i k : Nat} {vs : Array Value} (ρ : Operand → Value) (h : ρ (.tmp i) = .tuple vs) (hk : k < vs.size) :
    (execOp ρ { dst := d, op := .extract (.tmp i) k, type := t, pos := s, after := af, guard := none }).run P x = .ok (.value (vs.getD k undef)) x := by
  simp only [execOp, h]
  simp [go_sem, hk]
theorem run_addL {x : World} {d : Option Nat} {t : TypeId} {s : String} {af : Array Edge} {i : Nat} {n c : Int} (ρ : Operand → Value) (h : ρ (.tmp i) = .int .i64 n) (hc : ρ (.const (.int .i64 c)) = .int .i64 c) :
    (execOp ρ { dst := d, op := .binOp .add 3 (.const (.int .i64 c)) (.tmp i) 3, type := t, pos := s, after := af, guard := none }).run Try.prog x = .ok (.value (.int .i64 (IntKind.i64.wrap (c + n)))) x := by
  simp only [execOp, h, hc]
  go_simp
theorem run_subR {x : World} {d : Option Nat} {t : TypeId} {s : String} {af : Array Edge} {i : Nat} {n c : Int} (ρ : Operand → Value) (h : ρ (.tmp i) = .int .i64 n) (hc : ρ (.const (.int .i64 c)) = .int .i64 c) :
    (execOp ρ { dst := d, op := .binOp .sub 3 (.tmp i) (.const (.int .i64 c)) 3, type := t, pos := s, after := af, guard := none }).run Try.prog x = .ok (.value (.int .i64 (IntKind.i64.wrap (n - c)))) x := by
  simp only [execOp, h, hc]
  go_simp
theorem run_allocC {x : World} {d : Option Nat} {t : TypeId} {s : String} {af : Array Edge} (ρ : Operand → Value) :
    (execOp ρ { dst := d, op := .alloc 39, type := t, pos := s, after := af, guard := none }).run Try.prog x = .ok (.value (.pointer (some ⟨x.heap.size, 0, none⟩))) (x.alloc (.cells #[.int .i64 0, .int .i64 0] 39)) := by
  simp only [execOp]
  go_simp
theorem run_callAny {i : Nat} {x : World} {d : Option Nat} {t : TypeId} {ts : Array TypeId} {s : String} {af : Array Edge} (ρ : Operand → Value) (hf : ρ (.func 82) = .func (.func 82) #[] #[]) :
    (execOp ρ { dst := d, op := .call { callee := .value (.func 82), args := #[.tmp i], argTypes := ts }, type := t, pos := s, after := af, guard := none }).run Try.prog x = .ok (.enter 82 #[ρ (.tmp i)]) x := by
  simp only [execOp, resolve, hf]
  go_simp
end Go.Proofs.Ytnhlcgbknkdbiaa
