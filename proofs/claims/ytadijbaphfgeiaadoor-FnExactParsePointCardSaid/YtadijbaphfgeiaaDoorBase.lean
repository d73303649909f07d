/- Base: small words used by all texts of this claim: what a call that only makes memory of its own leaves (Ret), bounds of products, cells kept under Below. No conditions. -/
import Derived.Test.YtadijbaphfgeiaaDoorRows
import Derived.WalkKit
import Derived.WalkSpells
import Derived.WalkLawsBesides
import Derived.ProofKit
import Derived.OpenShut
import Derived.Handy
import Derived.Outline
import Derived.BigQuiet
import Derived.Deep.QuietTactic
import Derived.Lib.Hide
import Derived.Lib.SmallJoins
import Derived.StillTailTactics
import Derived.BigRegion
import Derived.Deep.RegionHeld3
namespace Go.Proofs.YtadijbaphfgeiaaDoor
open Go.RowKit

/-- returned v, and nothing that was there has turned. -/
def Ret (v : Value) (w : World) (e : Ending) (w' : World) : Prop := e = .returned v ∧ Below w.heap.size w w'

theorem ret_mk {v : Value} {w w' : World} (h : Below w.heap.size w w') : Ret v w (.returned v) w' := ⟨rfl, h⟩
theorem ret_eq {v v' : Value} {w w' : World} (e : v' = v) (h : Below w.heap.size w w') : Ret v w (.returned v') w' := ⟨by rw [e], h⟩

theorem bel_trans {w a b : World} (k : Below a.heap.size a b) (h : Below w.heap.size w a) : Below w.heap.size w b := h.trans (k.mono h.size)
theorem bel_alloc {w a : World} (h : Below w.heap.size w a) (o : Obj) : Below w.heap.size w (a.alloc o) := h.alloc h.size o
theorem bel_drew {w a : World} (h : Below w.heap.size w a) : Below w.heap.size w a.drew := h.drew
theorem bel_drewN {w a : World} (h : Below w.heap.size w a) (n : Nat) : Below w.heap.size w (a.drewN n) := ⟨h.os, h.tape, h.output, h.size, h.block⟩

theorem bcell {W w1 : World} (hb : Below W.heap.size W w1) : (∀ b o, b < W.heap.size → w1.cell? ⟨b, o, none⟩ = W.cell? ⟨b, o, none⟩) ∧ (∀ b o, b < W.heap.size → w1.frozen? ⟨b, o, none⟩ = W.frozen? ⟨b, o, none⟩) :=
  ⟨fun b o h => hb.cell (p := ⟨b, o, none⟩) h, fun b o h => hb.frozen (p := ⟨b, o, none⟩) h⟩

/-- what a call leaves of a world that is known: its cells and marks read on; sizes. -/
theorem aft {a w1 : World} (hb : Below a.heap.size a w1) : (∀ b o, b < a.heap.size → w1.cell? ⟨b, o, none⟩ = a.cell? ⟨b, o, none⟩) ∧ (∀ b o, b < a.heap.size → w1.frozen? ⟨b, o, none⟩ = a.frozen? ⟨b, o, none⟩) := bcell hb
/-- a call's world, the caller's blocks written out ('a'), behind a chain of earlier calls. -/
theorem aft2 {a w1 w2 : World} (hb2 : Below w1.heap.size w1 w2) (hb1 : Below a.heap.size a w1) : Below a.heap.size a w2 := bel_trans hb2 hb1

/-- the same, with what is known of sizes: for a caller that lays blocks behind the call. -/
theorem aftz {a w1 : World} (hb : Below a.heap.size a w1) : (∀ b o, b < a.heap.size → w1.cell? ⟨b, o, none⟩ = a.cell? ⟨b, o, none⟩) ∧ (∀ b o, b < a.heap.size → w1.frozen? ⟨b, o, none⟩ = a.frozen? ⟨b, o, none⟩) ∧
    (∀ n, n < a.heap.size → n < w1.heap.size) ∧ (∀ n, n < a.heap.size → n ≤ w1.heap.size) ∧ (∀ n, n < a.heap.size → ¬ n = w1.heap.size) ∧ (∀ n, n < a.heap.size → ¬ w1.heap.size = n) := by
  have hz := hb.size
  exact ⟨(bcell hb).1, (bcell hb).2, fun n h => by omega, fun n h => by omega, fun n h => by omega, fun n h => by omega⟩

theorem still_of_quiet {P : Program} {ops : Array Oper} {w0 : World} {Q : Act → Prop} : ∀ (l : List Oper) (a : Act), wpQuiet P ops (fun w' => w' = w0) Q l a → wpStill P ops w0 Q l a
  | [], _, h => h
  | o :: rest, a, h => by
    unfold wpQuiet at h
    unfold wpStill
    by_cases hw : Region.wanted o (yielded ops a.tmps) = true
    · rw [if_pos hw] at h ⊢
      obtain ⟨v, h1, h2⟩ := h
      have h3 := h1 w0 rfl
      have k2 := still_of_quiet rest _ h2
      unfold Oper.quietAt at h3
      unfold Oper.still
      generalize (execOp a.eval o).run P w0 = r at *
      cases r with
      | ok n w' =>
        cases n <;> simp only [Oper.quietUpon] at h3 <;> simp only [Oper.stillUpon]
        case value u => obtain ⟨e1, e2⟩ := h3; subst e2; exact ⟨e1, k2⟩
        case skip => obtain ⟨e1, e2⟩ := h3; subst e2; exact ⟨e1, k2⟩
        case enter f args => exact ⟨h3.1, v, h3.2, k2⟩
      | halt x w' => simp only [Oper.quietUpon] at h3
    · rw [if_neg hw] at h ⊢
      exact still_of_quiet rest _ h
theorem wp_region_tail {P : Program} {id : Nat} {Q : Exit → Act → World → Prop} {a : Act} {w : World} {l : List Oper} (n : Nat) (hm : P.follows .mixedOrders = true) (hB : Region.lexTailB .any l.toArray n = true)
    (h : wpQuiet P l.toArray (fun w' => w' = w.drew) (fun a' => wpList P l.toArray Q (l.drop n) a' w.drew) (l.take n) a) : (Code.region id l.toArray true).wp P Q a w :=
  wp_region_still_tail n hm hB (still_of_quiet _ _ h)

@[go_sem] theorem run_max_int4 {P : Program} (w : World) (ts : Array TypeId) (t : TypeId) (x y z u : Int) :
    (Builtin.max_ ts t #[.int .i64 x, .int .i64 y, .int .i64 z, .int .i64 u]).run P w = .ok (.int .i64 (max (max (max x y) z) u)) w := by
  have e1 : ∀ p q : Int, (if q > p then q else p) = max p q := fun p q => by omega
  have e2 : (Builtin.max_ ts t #[.int .i64 x, .int .i64 y, .int .i64 z, .int .i64 u]).run P w = .ok (.int .i64 (if u > (if z > (if y > x then y else x) then z else (if y > x then y else x)) then u else (if z > (if y > x then y else x) then z else (if y > x then y else x)))) w := by
    simp [Builtin.max_, Builtin.max2]
  rw [e2]
  simp only [e1]

/-! sizes that simp does not see by itself -/
@[simp, go_sem] theorem ltA0_2 (n : Nat) : n < n + 1 + 1 := by omega
@[simp, go_sem] theorem ltA0_3 (n : Nat) : n < n + 1 + 1 + 1 := by omega
@[simp, go_sem] theorem ltA1_3 (n : Nat) : n + 1 < n + 1 + 1 + 1 := by omega
@[simp, go_sem] theorem ltA0_4 (n : Nat) : n < n + 1 + 1 + 1 + 1 := by omega
@[simp, go_sem] theorem ltA1_4 (n : Nat) : n + 1 < n + 1 + 1 + 1 + 1 := by omega
@[simp, go_sem] theorem ltA2_4 (n : Nat) : n + 1 + 1 < n + 1 + 1 + 1 + 1 := by omega
@[simp, go_sem] theorem ltB2_4 (n : Nat) : n + 2 < n + 1 + 1 + 1 + 1 := by omega
@[simp, go_sem] theorem ltA0_5 (n : Nat) : n < n + 1 + 1 + 1 + 1 + 1 := by omega
@[simp, go_sem] theorem ltA1_5 (n : Nat) : n + 1 < n + 1 + 1 + 1 + 1 + 1 := by omega
@[simp, go_sem] theorem ltA2_5 (n : Nat) : n + 1 + 1 < n + 1 + 1 + 1 + 1 + 1 := by omega
@[simp, go_sem] theorem ltB2_5 (n : Nat) : n + 2 < n + 1 + 1 + 1 + 1 + 1 := by omega
@[simp, go_sem] theorem ltA3_5 (n : Nat) : n + 1 + 1 + 1 < n + 1 + 1 + 1 + 1 + 1 := by omega
@[simp, go_sem] theorem ltB3_5 (n : Nat) : n + 3 < n + 1 + 1 + 1 + 1 + 1 := by omega
@[simp, go_sem] theorem ltA0_6 (n : Nat) : n < n + 1 + 1 + 1 + 1 + 1 + 1 := by omega
@[simp, go_sem] theorem ltA1_6 (n : Nat) : n + 1 < n + 1 + 1 + 1 + 1 + 1 + 1 := by omega
@[simp, go_sem] theorem ltA2_6 (n : Nat) : n + 1 + 1 < n + 1 + 1 + 1 + 1 + 1 + 1 := by omega
@[simp, go_sem] theorem ltB2_6 (n : Nat) : n + 2 < n + 1 + 1 + 1 + 1 + 1 + 1 := by omega
@[simp, go_sem] theorem ltA3_6 (n : Nat) : n + 1 + 1 + 1 < n + 1 + 1 + 1 + 1 + 1 + 1 := by omega
@[simp, go_sem] theorem ltB3_6 (n : Nat) : n + 3 < n + 1 + 1 + 1 + 1 + 1 + 1 := by omega
@[simp, go_sem] theorem ltA4_6 (n : Nat) : n + 1 + 1 + 1 + 1 < n + 1 + 1 + 1 + 1 + 1 + 1 := by omega
@[simp, go_sem] theorem ltB4_6 (n : Nat) : n + 4 < n + 1 + 1 + 1 + 1 + 1 + 1 := by omega

/-- the worlds that a world grows into: for a region that draws its order and holds calls that make memory of their own. -/
def Grow (w0 : World) := {x : World // Below w0.heap.size w0 x}
instance growNonempty (w0 : World) : Nonempty (Grow w0) := ⟨⟨w0, Below.refl _ _⟩⟩
def Grow.wd {w0 : World} (g : Grow w0) : World := g.1
@[go_sem] theorem Grow.cell {w0 : World} (g : Grow w0) {b o : Nat} (h : b < w0.heap.size) : g.wd.cell? ⟨b, o, none⟩ = w0.cell? ⟨b, o, none⟩ := g.2.cell (p := ⟨b, o, none⟩) h
@[go_sem] theorem Grow.frozen {w0 : World} (g : Grow w0) {b o : Nat} (h : b < w0.heap.size) : g.wd.frozen? ⟨b, o, none⟩ = w0.frozen? ⟨b, o, none⟩ := g.2.frozen (p := ⟨b, o, none⟩) h
theorem wp_region_grow {P : Program} {id : Nat} {Q : Exit → Act → World → Prop} {a : Act} {w : World} {l : List Oper} (hm : P.follows .mixedOrders = true) (hB : Region.lexB .any l.toArray = true)
    (h : wpQuiet P l.toArray (fun w' => ∃ g : Grow w, w' = g.wd) (fun a' => ∀ w', Below w.heap.size w w' → Q .normal a' w') l a) : (Code.region id l.toArray true).wp P Q a w := by
  refine wp_region_quiet (C := fun w' => ∃ g : Grow w, w' = g.wd) hm hB ⟨⟨w.drew, (Below.refl _ _).drew⟩, rfl⟩ ?_
  have e : (fun a' => ∀ w', (∃ g : Grow w, w' = g.wd) → Q .normal a' w') = (fun a' => ∀ w', Below w.heap.size w w' → Q .normal a' w') := by
    funext a'
    exact propext ⟨fun h w' hb => h w' ⟨⟨w', hb⟩, rfl⟩, fun h w' ⟨g, hg⟩ => h w' (by rw [hg]; exact g.2)⟩
  rw [e]
  simpa using h
/-- a callee's contract, met in a world of the class. -/
theorem grow_ret {P : Program} {f : FuncId} {args : Array Value} {w : World} {g : Grow w} {v : Value} (h : Calls P f args g.wd (Ret v g.wd)) :
    Calls P f args g.wd fun e w'' => e = .returned v ∧ ∃ g' : Grow w, w'' = g'.wd :=
  h.mono fun _ w'' ⟨he, hb⟩ => ⟨he, ⟨w'', bel_trans hb g.2⟩, rfl⟩
theorem grow_same {P : Program} {f : FuncId} {args : Array Value} {w : World} {g : Grow w} {v : Value} (h : Calls P f args g.wd fun e w' => e = .returned v ∧ g.wd = w') :
    Calls P f args g.wd fun e w'' => e = .returned v ∧ ∃ g' : Grow w, w'' = g'.wd :=
  h.mono fun _ _ ⟨he, hw⟩ => ⟨he, g, hw.symm⟩

theorem mul_bd {a b A B : Int} (h1 : -A ≤ a) (h2 : a ≤ A) (h3 : -B ≤ b) (h4 : b ≤ B) : -(A * B) ≤ a * b ∧ a * b ≤ A * B := by
  have k1 : 0 ≤ (A - a) * (B + b) := Int.mul_nonneg (by omega) (by omega)
  have k2 : 0 ≤ (A + a) * (B - b) := Int.mul_nonneg (by omega) (by omega)
  have k3 : 0 ≤ (A - a) * (B - b) := Int.mul_nonneg (by omega) (by omega)
  have k4 : 0 ≤ (A + a) * (B + b) := Int.mul_nonneg (by omega) (by omega)
  simp only [Int.sub_mul, Int.add_mul, Int.mul_sub, Int.mul_add] at k1 k2 k3 k4
  constructor <;> omega

/-- fits an int. A plain def: omega does not look behind it; 'unfold I64 at h' opens it. -/
def I64 (n : Int) : Prop := -9223372036854775808 ≤ n ∧ n ≤ 9223372036854775807
theorem i64_of {n : Int} (h : (Lit.int .i64 n).wf = true) : I64 n := bounds_i64 h

/-- what the walk is told of a slice of integers that came in. -/
def IsRow (k : IntKind) (w : World) (a : Option Addr) (len cap : Nat) (zs : List Int) : Prop :=
  (a = none ∧ len = 0 ∧ cap = 0 ∧ zs = []) ∨
  ∃ x, a = some x ∧ len ≤ cap ∧ cap ≤ maxLen ∧ zs.length = cap ∧ (∀ i, i < zs.length → w.cell? (x.add i) = some (.int k (zs.getD i 0))) ∧ ∀ n ∈ zs, (Lit.int k n).wf = true
end Go.Proofs.YtadijbaphfgeiaaDoor
