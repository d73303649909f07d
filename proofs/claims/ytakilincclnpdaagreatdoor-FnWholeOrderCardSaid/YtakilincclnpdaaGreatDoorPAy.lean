/- Pri: contracts of primality tests and residues. No conditions. -/
import Derived.Test.YtakilincclnpdaaGreatDoorRows
import Derived.WalkKit
import Derived.WalkSpells
import Derived.WalkLawsBesides
import Derived.ProofKit
import Derived.OpenShut
import Derived.Handy
import Derived.Outline
import Derived.BigQuiet
import Derived.Deep.QuietTactic
import Derived.Lib.Hide
import Derived.Lib.SmallJoins
import Derived.StillTailTactics
import Derived.BigRegion
import Derived.Deep.RegionHeld3
/- Base: small words used by all texts of this claim: what a call that only makes memory of its own leaves (Ret), bounds of products, cells kept under Below. No conditions. -/
namespace Go.Proofs.YtakilincclnpdaaGreatDoor
open Go.RowKit

/-- returned v, and nothing that was there has turned. -/
def Ret (v : Value) (w : World) (e : Ending) (w' : World) : Prop := e = .returned v ∧ Below w.heap.size w w'

theorem ret_mk {v : Value} {w w' : World} (h : Below w.heap.size w w') : Ret v w (.returned v) w' := ⟨rfl, h⟩
theorem ret_eq {v v' : Value} {w w' : World} (e : v' = v) (h : Below w.heap.size w w') : Ret v w (.returned v') w' := ⟨by rw [e], h⟩

theorem bel_trans {w a b : World} (k : Below a.heap.size a b) (h : Below w.heap.size w a) : Below w.heap.size w b := h.trans (k.mono h.size)
theorem bel_alloc {w a : World} (h : Below w.heap.size w a) (o : Obj) : Below w.heap.size w (a.alloc o) := h.alloc h.size o
theorem bel_drew {w a : World} (h : Below w.heap.size w a) : Below w.heap.size w a.drew := h.drew
theorem bel_drewN {w a : World} (h : Below w.heap.size w a) (n : Nat) : Below w.heap.size w (a.drewN n) := ⟨h.os, h.tape, h.output, h.size, h.block⟩

theorem bcell {W w1 : World} (hb : Below W.heap.size W w1) : (∀ b o, b < W.heap.size → w1.cell? ⟨b, o, none⟩ = W.cell? ⟨b, o, none⟩) ∧ (∀ b o, b < W.heap.size → w1.frozen? ⟨b, o, none⟩ = W.frozen? ⟨b, o, none⟩) :=
  ⟨fun b o h => hb.cell (p := ⟨b, o, none⟩) h, fun b o h => hb.frozen (p := ⟨b, o, none⟩) h⟩

/-- what a call leaves of a world that is known: its cells and marks read on; sizes. -/
theorem aft {a w1 : World} (hb : Below a.heap.size a w1) : (∀ b o, b < a.heap.size → w1.cell? ⟨b, o, none⟩ = a.cell? ⟨b, o, none⟩) ∧ (∀ b o, b < a.heap.size → w1.frozen? ⟨b, o, none⟩ = a.frozen? ⟨b, o, none⟩) := bcell hb
/-- a call's world, the caller's blocks written out ('a'), behind a chain of earlier calls. -/
theorem aft2 {a w1 w2 : World} (hb2 : Below w1.heap.size w1 w2) (hb1 : Below a.heap.size a w1) : Below a.heap.size a w2 := bel_trans hb2 hb1

/-- the same, with what is known of sizes: for a caller that lays blocks behind the call. -/
theorem aftz {a w1 : World} (hb : Below a.heap.size a w1) : (∀ b o, b < a.heap.size → w1.cell? ⟨b, o, none⟩ = a.cell? ⟨b, o, none⟩) ∧ (∀ b o, b < a.heap.size → w1.frozen? ⟨b, o, none⟩ = a.frozen? ⟨b, o, none⟩) ∧
    (∀ n, n < a.heap.size → n < w1.heap.size) ∧ (∀ n, n < a.heap.size → n ≤ w1.heap.size) ∧ (∀ n, n < a.heap.size → ¬ n = w1.heap.size) ∧ (∀ n, n < a.heap.size → ¬ w1.heap.size = n) := by
  have hz := hb.size
  exact ⟨(bcell hb).1, (bcell hb).2, fun n h => by omega, fun n h => by omega, fun n h => by omega, fun n h => by omega⟩

theorem still_of_quiet {P : Program} {ops : Array Oper} {w0 : World} {Q : Act → Prop} : ∀ (l : List Oper) (a : Act), wpQuiet P ops (fun w' => w' = w0) Q l a → wpStill P ops w0 Q l a
  | [], _, h => h
  | o :: rest, a, h => by
    unfold wpQuiet at h
    unfold wpStill
    by_cases hw : Region.wanted o (yielded ops a.tmps) = true
    · rw [if_pos hw] at h ⊢
      obtain ⟨v, h1, h2⟩ := h
      have h3 := h1 w0 rfl
      have k2 := still_of_quiet rest _ h2
      unfold Oper.quietAt at h3
      unfold Oper.still
      generalize (execOp a.eval o).run P w0 = r at *
      cases r with
      | ok n w' =>
        cases n <;> simp only [Oper.quietUpon] at h3 <;> simp only [Oper.stillUpon]
        case value u => obtain ⟨e1, e2⟩ := h3; subst e2; exact ⟨e1, k2⟩
        case skip => obtain ⟨e1, e2⟩ := h3; subst e2; exact ⟨e1, k2⟩
        case enter f args => exact ⟨h3.1, v, h3.2, k2⟩
      | halt x w' => simp only [Oper.quietUpon] at h3
    · rw [if_neg hw] at h ⊢
      exact still_of_quiet rest _ h
theorem wp_region_tail {P : Program} {id : Nat} {Q : Exit → Act → World → Prop} {a : Act} {w : World} {l : List Oper} (n : Nat) (hm : P.follows .mixedOrders = true) (hB : Region.lexTailB .any l.toArray n = true)
    (h : wpQuiet P l.toArray (fun w' => w' = w.drew) (fun a' => wpList P l.toArray Q (l.drop n) a' w.drew) (l.take n) a) : (Code.region id l.toArray true).wp P Q a w :=
  wp_region_still_tail n hm hB (still_of_quiet _ _ h)

@[go_sem] theorem run_max_int4 {P : Program} (w : World) (ts : Array TypeId) (t : TypeId) (x y z u : Int) :
    (Builtin.max_ ts t #[.int .i64 x, .int .i64 y, .int .i64 z, .int .i64 u]).run P w = .ok (.int .i64 (max (max (max x y) z) u)) w := by
  have e1 : ∀ p q : Int, (if q > p then q else p) = max p q := fun p q => by omega
  have e2 : (Builtin.max_ ts t #[.int .i64 x, .int .i64 y, .int .i64 z, .int .i64 u]).run P w = .ok (.int .i64 (if u > (if z > (if y > x then y else x) then z else (if y > x then y else x)) then u else (if z > (if y > x then y else x) then z else (if y > x then y else x)))) w := by
    simp [Builtin.max_, Builtin.max2]
  rw [e2]
  simp only [e1]

/-! sizes that simp does not see by itself -/
@[simp, go_sem] theorem ltA0_2 (n : Nat) : n < n + 1 + 1 := by omega
@[simp, go_sem] theorem ltA0_3 (n : Nat) : n < n + 1 + 1 + 1 := by omega
@[simp, go_sem] theorem ltA1_3 (n : Nat) : n + 1 < n + 1 + 1 + 1 := by omega
@[simp, go_sem] theorem ltA0_4 (n : Nat) : n < n + 1 + 1 + 1 + 1 := by omega
@[simp, go_sem] theorem ltA1_4 (n : Nat) : n + 1 < n + 1 + 1 + 1 + 1 := by omega
@[simp, go_sem] theorem ltA2_4 (n : Nat) : n + 1 + 1 < n + 1 + 1 + 1 + 1 := by omega
@[simp, go_sem] theorem ltB2_4 (n : Nat) : n + 2 < n + 1 + 1 + 1 + 1 := by omega
@[simp, go_sem] theorem ltA0_5 (n : Nat) : n < n + 1 + 1 + 1 + 1 + 1 := by omega
@[simp, go_sem] theorem ltA1_5 (n : Nat) : n + 1 < n + 1 + 1 + 1 + 1 + 1 := by omega
@[simp, go_sem] theorem ltA2_5 (n : Nat) : n + 1 + 1 < n + 1 + 1 + 1 + 1 + 1 := by omega
@[simp, go_sem] theorem ltB2_5 (n : Nat) : n + 2 < n + 1 + 1 + 1 + 1 + 1 := by omega
@[simp, go_sem] theorem ltA3_5 (n : Nat) : n + 1 + 1 + 1 < n + 1 + 1 + 1 + 1 + 1 := by omega
@[simp, go_sem] theorem ltB3_5 (n : Nat) : n + 3 < n + 1 + 1 + 1 + 1 + 1 := by omega
@[simp, go_sem] theorem ltA0_6 (n : Nat) : n < n + 1 + 1 + 1 + 1 + 1 + 1 := by omega
@[simp, go_sem] theorem ltA1_6 (n : Nat) : n + 1 < n + 1 + 1 + 1 + 1 + 1 + 1 := by omega
@[simp, go_sem] theorem ltA2_6 (n : Nat) : n + 1 + 1 < n + 1 + 1 + 1 + 1 + 1 + 1 := by omega
@[simp, go_sem] theorem ltB2_6 (n : Nat) : n + 2 < n + 1 + 1 + 1 + 1 + 1 + 1 := by omega
@[simp, go_sem] theorem ltA3_6 (n : Nat) : n + 1 + 1 + 1 < n + 1 + 1 + 1 + 1 + 1 + 1 := by omega
@[simp, go_sem] theorem ltB3_6 (n : Nat) : n + 3 < n + 1 + 1 + 1 + 1 + 1 + 1 := by omega
@[simp, go_sem] theorem ltA4_6 (n : Nat) : n + 1 + 1 + 1 + 1 < n + 1 + 1 + 1 + 1 + 1 + 1 := by omega
@[simp, go_sem] theorem ltB4_6 (n : Nat) : n + 4 < n + 1 + 1 + 1 + 1 + 1 + 1 := by omega

/-- the worlds that a world grows into: for a region that draws its order and holds calls that make memory of their own. -/
def Grow (w0 : World) := {x : World // Below w0.heap.size w0 x}
instance growNonempty (w0 : World) : Nonempty (Grow w0) := ⟨⟨w0, Below.refl _ _⟩⟩
def Grow.wd {w0 : World} (g : Grow w0) : World := g.1
@[go_sem] theorem Grow.cell {w0 : World} (g : Grow w0) {b o : Nat} (h : b < w0.heap.size) : g.wd.cell? ⟨b, o, none⟩ = w0.cell? ⟨b, o, none⟩ := g.2.cell (p := ⟨b, o, none⟩) h
@[go_sem] theorem Grow.frozen {w0 : World} (g : Grow w0) {b o : Nat} (h : b < w0.heap.size) : g.wd.frozen? ⟨b, o, none⟩ = w0.frozen? ⟨b, o, none⟩ := g.2.frozen (p := ⟨b, o, none⟩) h
theorem wp_region_grow {P : Program} {id : Nat} {Q : Exit → Act → World → Prop} {a : Act} {w : World} {l : List Oper} (hm : P.follows .mixedOrders = true) (hB : Region.lexB .any l.toArray = true)
    (h : wpQuiet P l.toArray (fun w' => ∃ g : Grow w, w' = g.wd) (fun a' => ∀ w', Below w.heap.size w w' → Q .normal a' w') l a) : (Code.region id l.toArray true).wp P Q a w := by
  refine wp_region_quiet (C := fun w' => ∃ g : Grow w, w' = g.wd) hm hB ⟨⟨w.drew, (Below.refl _ _).drew⟩, rfl⟩ ?_
  have e : (fun a' => ∀ w', (∃ g : Grow w, w' = g.wd) → Q .normal a' w') = (fun a' => ∀ w', Below w.heap.size w w' → Q .normal a' w') := by
    funext a'
    exact propext ⟨fun h w' hb => h w' ⟨⟨w', hb⟩, rfl⟩, fun h w' ⟨g, hg⟩ => h w' (by rw [hg]; exact g.2)⟩
  rw [e]
  simpa using h
/-- a callee's contract, met in a world of the class. -/
theorem grow_ret {P : Program} {f : FuncId} {args : Array Value} {w : World} {g : Grow w} {v : Value} (h : Calls P f args g.wd (Ret v g.wd)) :
    Calls P f args g.wd fun e w'' => e = .returned v ∧ ∃ g' : Grow w, w'' = g'.wd :=
  h.mono fun _ w'' ⟨he, hb⟩ => ⟨he, ⟨w'', bel_trans hb g.2⟩, rfl⟩
theorem grow_same {P : Program} {f : FuncId} {args : Array Value} {w : World} {g : Grow w} {v : Value} (h : Calls P f args g.wd fun e w' => e = .returned v ∧ g.wd = w') :
    Calls P f args g.wd fun e w'' => e = .returned v ∧ ∃ g' : Grow w, w'' = g'.wd :=
  h.mono fun _ _ ⟨he, hw⟩ => ⟨he, g, hw.symm⟩

theorem mul_bd {a b A B : Int} (h1 : -A ≤ a) (h2 : a ≤ A) (h3 : -B ≤ b) (h4 : b ≤ B) : -(A * B) ≤ a * b ∧ a * b ≤ A * B := by
  have k1 : 0 ≤ (A - a) * (B + b) := Int.mul_nonneg (by omega) (by omega)
  have k2 : 0 ≤ (A + a) * (B - b) := Int.mul_nonneg (by omega) (by omega)
  have k3 : 0 ≤ (A - a) * (B - b) := Int.mul_nonneg (by omega) (by omega)
  have k4 : 0 ≤ (A + a) * (B + b) := Int.mul_nonneg (by omega) (by omega)
  simp only [Int.sub_mul, Int.add_mul, Int.mul_sub, Int.mul_add] at k1 k2 k3 k4
  constructor <;> omega

/-- fits an int. A plain def: omega does not look behind it; 'unfold I64 at h' opens it. -/
def I64 (n : Int) : Prop := -9223372036854775808 ≤ n ∧ n ≤ 9223372036854775807
theorem i64_of {n : Int} (h : (Lit.int .i64 n).wf = true) : I64 n := bounds_i64 h

/-- what the walk is told of a slice of integers that came in. -/
def IsRow (k : IntKind) (w : World) (a : Option Addr) (len cap : Nat) (zs : List Int) : Prop :=
  (a = none ∧ len = 0 ∧ cap = 0 ∧ zs = []) ∨
  ∃ x, a = some x ∧ len ≤ cap ∧ cap ≤ maxLen ∧ zs.length = cap ∧ (∀ i, i < zs.length → w.cell? (x.add i) = some (.int k (zs.getD i 0))) ∧ ∀ n ∈ zs, (Lit.int k n).wf = true
end Go.Proofs.YtakilincclnpdaaGreatDoor
/- Plain: the plain functions that the program's functions compute, and what is true of them. No conditions. -/
namespace Go.Proofs.YtakilincclnpdaaGreatDoor

def inB (n lo hi : Int) : Bool := decide (lo ≤ n ∧ n ≤ hi)
theorem inB_true {n lo hi : Int} : inB n lo hi = true ↔ lo ≤ n ∧ n ≤ hi := by simp [inB]
theorem inB_false {n lo hi : Int} : inB n lo hi = false ↔ ¬ (lo ≤ n ∧ n ≤ hi) := by simp [inB]

/-- a two-curve's conditions. -/
def twoB (a b : Int) : Bool := decide (-300 ≤ a ∧ a ≤ 300 ∧ -300 ≤ b ∧ b ≤ 300 ∧ b ≠ 0 ∧ a * a ≠ 4 * b)
theorem twoB_true {a b : Int} : twoB a b = true ↔ (-300 ≤ a ∧ a ≤ 300 ∧ -300 ≤ b ∧ b ≤ 300 ∧ b ≠ 0 ∧ a * a ≠ 4 * b) := by simp [twoB]
theorem twoB_false {a b : Int} : twoB a b = false ↔ ¬ (-300 ≤ a ∧ a ≤ 300 ∧ -300 ≤ b ∧ b ≤ 300 ∧ b ≠ 0 ∧ a * a ≠ 4 * b) := by simp only [twoB, decide_eq_false_iff_not]

/-- 4 A^3 + 27 B^2 -/
def discI (a b : Int) : Int := 4 * a * a * a + 27 * b * b
def curveB (a b : Int) : Bool := decide (-1000 ≤ a ∧ a ≤ 1000 ∧ -10000 ≤ b ∧ b ≤ 10000 ∧ discI a b ≠ 0)
theorem curveB_true {a b : Int} : curveB a b = true ↔ (-1000 ≤ a ∧ a ≤ 1000 ∧ -10000 ≤ b ∧ b ≤ 10000 ∧ discI a b ≠ 0) := by simp [curveB]
theorem curveB_false {a b : Int} : curveB a b = false ↔ ¬ (-1000 ≤ a ∧ a ≤ 1000 ∧ -10000 ≤ b ∧ b ≤ 10000 ∧ discI a b ≠ 0) := by simp only [curveB, decide_eq_false_iff_not]
theorem disc_bd {a b : Int} (h1 : -1000 ≤ a) (h2 : a ≤ 1000) (h3 : -10000 ≤ b) (h4 : b ≤ 10000) : -6700000000 ≤ discI a b ∧ discI a b ≤ 6700000000 := by
  have b1 := mul_bd (a := 4 * a) (b := a) (A := 4000) (B := 1000) (by omega) (by omega) (by omega) (by omega)
  have b2 := mul_bd (a := 4 * a * a) (b := a) (A := 4000000) (B := 1000) (by omega) (by omega) (by omega) (by omega)
  have b3 := mul_bd (a := 27 * b) (b := b) (A := 270000) (B := 10000) (by omega) (by omega) (by omega) (by omega)
  unfold discI
  omega

/-- the greatest common divisor, as a number of the program. -/
def gcdI (a b : Int) : Int := (Int.gcd a b : Int)
theorem gcdI_nonneg (a b : Int) : 0 ≤ gcdI a b := by unfold gcdI; omega
theorem gcd_step (u v : Int) : Int.gcd v (u.tmod v) = Int.gcd u v := by
  rw [Int.gcd_eq_natAbs_gcd_natAbs, Int.gcd_eq_natAbs_gcd_natAbs, Int.natAbs_tmod, Nat.gcd_comm v.natAbs, ← Nat.gcd_rec, Nat.gcd_comm]
theorem gcdI_natAbs (a b : Int) : gcdI (a.natAbs : Int) (b.natAbs : Int) = gcdI a b := by simp [gcdI, Int.gcd_eq_natAbs_gcd_natAbs]

theorem tmod_bd (a : Int) {m : Int} (h : 1 ≤ m) : -m < a.tmod m ∧ a.tmod m < m := by
  have h1 := Int.natAbs_tmod a m
  have h2 : a.natAbs % m.natAbs < m.natAbs := Nat.mod_lt _ (by omega)
  omega
theorem natAbs_tmod_le (u v : Int) : (u.tmod v).natAbs ≤ u.natAbs := by rw [Int.natAbs_tmod]; exact Nat.mod_le _ _
theorem natAbs_tmod_lt (u : Int) {v : Int} (h : ¬ v = 0) : (u.tmod v).natAbs < v.natAbs := by rw [Int.natAbs_tmod]; exact Nat.mod_lt _ (by omega)
theorem tmod_fix (a : Int) {m : Int} (_h : 1 ≤ m) : (a.tmod m + m) % m = a % m := by
  rw [Int.add_emod_right, Int.tmod_def, Int.sub_mul_emod_self_left]
theorem tmod_zero_iff {a m : Int} : a.tmod m = 0 ↔ a % m = 0 := by
  rw [← Int.dvd_iff_tmod_eq_zero, ← Int.dvd_iff_emod_eq_zero]

/-- a prime number. -/
def Pr (n : Int) : Prop := 2 ≤ n ∧ ∀ d : Int, 2 ≤ d → d < n → n % d ≠ 0
open Classical in
noncomputable def primeB (n : Int) : Bool := decide (Pr n)
theorem primeB_true {n : Int} : primeB n = true ↔ Pr n := by simp [primeB]
theorem primeB_false {n : Int} : primeB n = false ↔ ¬ Pr n := by simp [primeB]
/-- no divisor up to the root: none at all. -/
theorem pr_of_root {n k : Int} (h2 : 2 ≤ n) (hk : n < k * k) (hk2 : 2 ≤ k) (hno : ∀ d : Int, 2 ≤ d → d < k → n % d ≠ 0) : Pr n := by
  refine ⟨h2, fun d hd hdn hz => ?_⟩
  by_cases hlt : d < k
  · exact hno d hd hlt hz
  · obtain ⟨q, hq⟩ := Int.dvd_of_emod_eq_zero hz
    have hqpos : 0 < q := by
      rcases Int.lt_or_le 0 q with h | h
      · exact h
      · have : d * q ≤ 0 := Int.mul_nonpos_of_nonneg_of_nonpos (by omega) h
        omega
    have hq2 : 2 ≤ q := by
      rcases Int.lt_or_le 1 q with h | h
      · omega
      · have : q = 1 := by omega
        subst this; omega
    have hqk : q < k := by
      rcases Int.lt_or_le q k with h | h
      · exact h
      · have : k * k ≤ d * q := Int.mul_le_mul (by omega) h (by omega) (by omega)
        omega
    exact hno q hq2 hqk (by rw [hq]; exact Int.mul_emod_left _ _)
theorem not_pr_of_dvd {n d : Int} (h2 : 2 ≤ d) (hd : d * d ≤ n) (hz : n % d = 0) : ¬ Pr n := by
  intro h
  have : d < n := by
    have h1 : d * 2 ≤ d * d := Int.mul_le_mul_of_nonneg_left h2 (by omega)
    omega
  exact h.2 d h2 this hz
end Go.Proofs.YtakilincclnpdaaGreatDoor
/- Num: contracts of the small functions on numbers: inside, absolute values, greatest common divisors, primes, residues. No conditions. -/
namespace Go.Proofs.YtakilincclnpdaaGreatDoor
open Go.RowKit

theorem inside_any (n lo hi : Int) (w : World) :
    Calls Tryz.prog 66 #[.int .i64 n, .int .i64 lo, .int .i64 hi] w fun e w' => e = .returned (.bool (inB n lo hi)) ∧ w = w' := by
  unfold inB
  go_enter Tryz.func66, Tryz.ntmps66
  go_wp2
  all_goals (go_ret; exact ⟨by simp [*]; try omega, rfl⟩)
theorem l1In_any (n lo hi : Int) (w : World) :
    Calls Tryz.prog 68 #[.int .i64 n, .int .i64 lo, .int .i64 hi] w fun e w' => e = .returned (.bool (inB n lo hi)) ∧ w = w' := by
  unfold inB
  go_enter Tryz.func68, Tryz.ntmps68
  go_wp2
  all_goals (go_ret; exact ⟨by simp [*]; try omega, rfl⟩)
theorem l1Most_any (a b : Int) (w : World) :
    Calls Tryz.prog 81 #[.int .i64 a, .int .i64 b] w fun e w' => e = .returned (.int .i64 (max a b)) ∧ w = w' := by
  by_cases h : b < a
  · go_enter Tryz.func81, Tryz.ntmps81
    go_wp2
    go_ret
    exact ⟨by rw [show max a b = a by omega]; rfl, rfl⟩
  · go_enter Tryz.func81, Tryz.ntmps81
    go_wp2
    go_ret
    exact ⟨by rw [show max a b = b by omega]; rfl, rfl⟩
theorem l1Abs_any (a : Int) (w : World) (h1 : -9223372036854775807 ≤ a) (h2 : a ≤ 9223372036854775807) :
    Calls Tryz.prog 123 #[.int .i64 a] w fun e w' => e = .returned (.int .i64 (a.natAbs : Int)) ∧ w = w' := by
  have hm : max a (-a) = (a.natAbs : Int) := by omega
  have HM := Lib.hid hm; clear hm
  go_enter Tryz.func123, Tryz.ntmps123
  go_wp2_with (go_at_call 81; refine (l1Most_any _ _ _).mono ?_; rintro e w' ⟨rfl, rfl⟩)
  go_ret
  exact ⟨by rw [← HM.out]; rfl, rfl⟩
theorem gcd_any (a b : Int) (w : World) (ha1 : -9223372036854775807 ≤ a) (ha2 : a ≤ 9223372036854775807) (hb1 : -9223372036854775807 ≤ b) (hb2 : b ≤ 9223372036854775807) :
    Calls Tryz.prog 125 #[.int .i64 a, .int .i64 b] w (Ret (.int .i64 (gcdI a b)) w) := by
  go_enter Tryz.func125, Tryz.ntmps125
  go_wp2
  go_loopw [0, 1] (fun x y wr => ∃ u v : Int, x = .int .i64 u ∧ y = .int .i64 v ∧ -9223372036854775807 ≤ u ∧ u ≤ 9223372036854775807 ∧ -9223372036854775807 ≤ v ∧ v ≤ 9223372036854775807 ∧ Int.gcd u v = Int.gcd a b ∧ Below w.heap.size w wr)
    (fun _ y _ => (intOf y).natAbs)
  case atStart => exact ⟨a, b, rfl, rfl, ha1, ha2, hb1, hb2, rfl, Below.refl _ _⟩
  case round =>
    obtain ⟨u, v, rfl, rfl, h1, h2, h3, h4, hg, hbel⟩ := hrel
    have HG := Lib.hid hg; clear hg
    by_cases hv : v = 0
    · subst hv
      have hm : max u (-u) = (u.natAbs : Int) := by omega
      have HM := Lib.hid hm; clear hm
      go_wp2
      all_goals (go_ret; exact ret_eq (congrArg (Value.int .i64) (by unfold gcdI; rw [← HG.out, Int.gcd_zero]; omega)) (by repeat (first | exact Below.refl _ _ | (with_reducible assumption) | refine bel_alloc ?_ _ | refine bel_drew ?_ | refine bel_drewN ?_ _ | refine Below.setCell ?_ (by dsimp only; omega) _ | refine bel_trans (by assumption) ?_)))
    · have hv' : (v != 0) = true := by simp [hv]
      have hv'' : (v == 0) = false := by simp [hv]
      have hb := natAbs_tmod_le u v
      have hb3 := natAbs_tmod_lt u hv
      go_wp2
      go_quiet (fail)
      go_wp2
      go_roundw
      case rel => exact ⟨v, u.tmod v, rfl, rfl, by omega, by omega, by omega, by omega, by rw [gcd_step]; exact HG.out, (by repeat (first | exact Below.refl _ _ | (with_reducible assumption) | refine bel_alloc ?_ _ | refine bel_drew ?_ | refine bel_drewN ?_ _ | refine Below.setCell ?_ (by dsimp only; omega) _ | refine bel_trans (by assumption) ?_))⟩
      case measure => exact hb3
theorem bgCommon_any (a b : Int) (w : World) (ha1 : 0 ≤ a) (ha2 : a ≤ 9223372036854775807) (hb1 : 0 ≤ b) (hb2 : b ≤ 9223372036854775807) :
    Calls Tryz.prog 76 #[.int .i64 a, .int .i64 b] w (Ret (.int .i64 (gcdI a b)) w) := by
  go_enter Tryz.func76, Tryz.ntmps76
  go_wp2
  go_loop [0, 1] (fun x y => ∃ u v : Int, x = .int .i64 u ∧ y = .int .i64 v ∧ 0 ≤ u ∧ u ≤ 9223372036854775807 ∧ 0 ≤ v ∧ v ≤ 9223372036854775807 ∧ Hid (Int.gcd u v = Int.gcd a b))
    (fun _ y => (intOf y).toNat)
  case atStart => exact ⟨a, b, rfl, rfl, ha1, ha2, hb1, hb2, rfl⟩
  case round =>
    obtain ⟨u, v, rfl, rfl, h1, h2, h3, h4, HG⟩ := hrel
    by_cases hv : 0 < v
    · have hv' : (v == 0) = false := by simp; omega
      have hm1 := Int.emod_nonneg u (show v ≠ 0 by omega)
      have hm2 := Int.emod_lt_of_pos u hv
      have hs := gcd_step u v
      rw [Int.tmod_eq_emod_of_nonneg h1] at hs
      have HS := Lib.hid hs; clear hs
      go_wp2
      go_round
      case rel => exact ⟨v, u % v, rfl, rfl, by omega, by omega, by omega, by omega, by unfold Hid; rw [HS.out]; exact HG.out⟩
      case measure => simp [intOf]; omega
    · have hv0 : v = 0 := by omega
      subst hv0
      go_wp2
      go_ret
      exact ret_eq (congrArg (Value.int .i64) (by unfold gcdI; rw [← HG.out, Int.gcd_zero]; omega)) (by repeat (first | exact Below.refl _ _ | (with_reducible assumption) | refine bel_alloc ?_ _ | refine bel_drew ?_ | refine bel_drewN ?_ _ | refine Below.setCell ?_ (by dsimp only; omega) _ | refine bel_trans (by assumption) ?_))
end Go.Proofs.YtakilincclnpdaaGreatDoor
/- Cur: contracts of the functions on curves: discriminants, validity. No conditions. -/
namespace Go.Proofs.YtakilincclnpdaaGreatDoor
open Go.RowKit

theorem core_any (a b : Int) (w : World) (h1 : -1000 ≤ a) (h2 : a ≤ 1000) (h3 : -10000 ≤ b) (h4 : b ≤ 10000) :
    Calls Tryz.prog 132 #[.agg #[.int .i64 a, .int .i64 b]] w (Ret (.int .i64 (discI a b)) w) := by
  unfold discI
  have b1 := mul_bd (a := 4 * a) (b := a) (A := 4000) (B := 1000) (by omega) (by omega) (by omega) (by omega)
  have b2 := mul_bd (a := 4 * a * a) (b := a) (A := 4000000) (B := 1000) (by omega) (by omega) (by omega) (by omega)
  have b3 := mul_bd (a := 27 * b) (b := b) (A := 270000) (B := 10000) (by omega) (by omega) (by omega) (by omega)
  go_enter Tryz.func132, Tryz.ntmps132
  go_wp2
  go_ret
  exact ret_mk (by repeat (first | exact Below.refl _ _ | (with_reducible assumption) | refine bel_alloc ?_ _ | refine bel_drew ?_ | refine bel_drewN ?_ _ | refine Below.setCell ?_ (by dsimp only; omega) _ | refine bel_trans (by assumption) ?_))
theorem ecDisc_any (a b : Int) (w : World) (h1 : -1000 ≤ a) (h2 : a ≤ 1000) (h3 : -10000 ≤ b) (h4 : b ≤ 10000) :
    Calls Tryz.prog 137 #[.agg #[.int .i64 a, .int .i64 b]] w (Ret (.int .i64 (discI a b)) w) := by
  unfold discI
  have b1 := mul_bd (a := 4 * a) (b := a) (A := 4000) (B := 1000) (by omega) (by omega) (by omega) (by omega)
  have b2 := mul_bd (a := 4 * a * a) (b := a) (A := 4000000) (B := 1000) (by omega) (by omega) (by omega) (by omega)
  have b3 := mul_bd (a := 27 * b) (b := b) (A := 270000) (B := 10000) (by omega) (by omega) (by omega) (by omega)
  go_enter Tryz.func137, Tryz.ntmps137
  go_wp2
  go_ret
  exact ret_mk (by repeat (first | exact Below.refl _ _ | (with_reducible assumption) | refine bel_alloc ?_ _ | refine bel_drew ?_ | refine bel_drewN ?_ _ | refine Below.setCell ?_ (by dsimp only; omega) _ | refine bel_trans (by assumption) ?_))
theorem isCurve_any (a b : Int) (w : World) :
    Calls Tryz.prog 93 #[.agg #[.int .i64 a, .int .i64 b]] w (Ret (.bool (curveB a b)) w) := by
  by_cases h : -1000 ≤ a ∧ a ≤ 1000 ∧ -10000 ≤ b ∧ b ≤ 10000
  · obtain ⟨h1, h2, h3, h4⟩ := h
    have i1 := inB_true.2 ⟨h1, h2⟩
    have i2 := inB_true.2 ⟨h3, h4⟩
    go_enter Tryz.func93, Tryz.ntmps93
    go_wp2_with (first | (go_at_call 66; refine (inside_any _ _ _ _).mono ?_; rintro e w' ⟨rfl, rfl⟩) | (go_at_call 132; refine (core_any _ _ _ h1 h2 h3 h4).mono ?_; rintro e w' ⟨rfl, hb⟩; (try replace hb := aft2 hb (by assumption)); obtain ⟨hc, hf⟩ := aft hb))
    all_goals (go_ret; exact ret_eq (congrArg Value.bool (by rw [Bool.eq_iff_iff, curveB_true]; simp; try omega)) (by repeat (first | exact Below.refl _ _ | (with_reducible assumption) | refine bel_alloc ?_ _ | refine bel_drew ?_ | refine bel_drewN ?_ _ | refine Below.setCell ?_ (by dsimp only; omega) _ | refine bel_trans (by assumption) ?_)))
  · have hf := curveB_false.2 (fun k => h ⟨k.1, k.2.1, k.2.2.1, k.2.2.2.1⟩)
    by_cases h1 : -1000 ≤ a ∧ a ≤ 1000
    · have i1 := inB_true.2 h1
      have i2 := inB_false.2 (fun k => h ⟨h1.1, h1.2, k⟩)
      go_enter Tryz.func93, Tryz.ntmps93
      go_wp2_with (go_at_call 66; refine (inside_any _ _ _ _).mono ?_; rintro e w' ⟨rfl, rfl⟩)
      go_ret; exact ret_eq (congrArg Value.bool hf.symm) (by repeat (first | exact Below.refl _ _ | (with_reducible assumption) | refine bel_alloc ?_ _ | refine bel_drew ?_ | refine bel_drewN ?_ _ | refine Below.setCell ?_ (by dsimp only; omega) _ | refine bel_trans (by assumption) ?_))
    · have i1 := inB_false.2 h1
      go_enter Tryz.func93, Tryz.ntmps93
      go_wp2_with (go_at_call 66; refine (inside_any _ _ _ _).mono ?_; rintro e w' ⟨rfl, rfl⟩)
      go_ret; exact ret_eq (congrArg Value.bool hf.symm) (by repeat (first | exact Below.refl _ _ | (with_reducible assumption) | refine bel_alloc ?_ _ | refine bel_drew ?_ | refine bel_drewN ?_ _ | refine Below.setCell ?_ (by dsimp only; omega) _ | refine bel_trans (by assumption) ?_))
theorem ecGood_any (a b : Int) (w : World) :
    Calls Tryz.prog 95 #[.agg #[.int .i64 a, .int .i64 b]] w (Ret (.bool (curveB a b)) w) := by
  by_cases h : -1000 ≤ a ∧ a ≤ 1000 ∧ -10000 ≤ b ∧ b ≤ 10000
  · obtain ⟨h1, h2, h3, h4⟩ := h
    have i1 := inB_true.2 ⟨h1, h2⟩
    have i2 := inB_true.2 ⟨h3, h4⟩
    go_enter Tryz.func95, Tryz.ntmps95
    go_wp2_with (first | (go_at_call 68; refine (l1In_any _ _ _ _).mono ?_; rintro e w' ⟨rfl, rfl⟩) | (go_at_call 137; refine (ecDisc_any _ _ _ h1 h2 h3 h4).mono ?_; rintro e w' ⟨rfl, hb⟩; (try replace hb := aft2 hb (by assumption)); obtain ⟨hc, hf⟩ := aft hb))
    all_goals (go_ret; exact ret_eq (congrArg Value.bool (by rw [Bool.eq_iff_iff, curveB_true]; simp; try omega)) (by repeat (first | exact Below.refl _ _ | (with_reducible assumption) | refine bel_alloc ?_ _ | refine bel_drew ?_ | refine bel_drewN ?_ _ | refine Below.setCell ?_ (by dsimp only; omega) _ | refine bel_trans (by assumption) ?_)))
  · have hf := curveB_false.2 (fun k => h ⟨k.1, k.2.1, k.2.2.1, k.2.2.2.1⟩)
    by_cases h1 : -1000 ≤ a ∧ a ≤ 1000
    · have i1 := inB_true.2 h1
      have i2 := inB_false.2 (fun k => h ⟨h1.1, h1.2, k⟩)
      go_enter Tryz.func95, Tryz.ntmps95
      go_wp2_with (go_at_call 68; refine (l1In_any _ _ _ _).mono ?_; rintro e w' ⟨rfl, rfl⟩)
      go_ret; exact ret_eq (congrArg Value.bool hf.symm) (by repeat (first | exact Below.refl _ _ | (with_reducible assumption) | refine bel_alloc ?_ _ | refine bel_drew ?_ | refine bel_drewN ?_ _ | refine Below.setCell ?_ (by dsimp only; omega) _ | refine bel_trans (by assumption) ?_))
    · have i1 := inB_false.2 h1
      go_enter Tryz.func95, Tryz.ntmps95
      go_wp2_with (go_at_call 68; refine (l1In_any _ _ _ _).mono ?_; rintro e w' ⟨rfl, rfl⟩)
      go_ret; exact ret_eq (congrArg Value.bool hf.symm) (by repeat (first | exact Below.refl _ _ | (with_reducible assumption) | refine bel_alloc ?_ _ | refine bel_drew ?_ | refine bel_drewN ?_ _ | refine Below.setCell ?_ (by dsimp only; omega) _ | refine bel_trans (by assumption) ?_))
end Go.Proofs.YtakilincclnpdaaGreatDoor
namespace Go.Proofs.YtakilincclnpdaaGreatDoor
open Go.RowKit

end Go.Proofs.YtakilincclnpdaaGreatDoor
