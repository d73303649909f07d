/- Bf: contracts: the bad primes from five on. No conditions. -/
import Derived.Test.YtakilincclnpdaaGreatDoorPBy
import Derived.Test.YtakilincclnpdaaGreatDoorFacy
import Derived.Test.YtakilincclnpdaaGreatDoorPCy
/- Ss: slices of slices of integers that the call has made: what a walk is told of them (OwnSS); appending a row. No conditions. -/
namespace Go.Proofs.YtakilincclnpdaaGreatDoor
open Go.RowKit

theorem Tryz.info_row : (Tryz.prog.info? 24).map (fun i => (i.zero, i.size, i.bytes)) = some (some (.slice none 0 0), 1, 24) := by kernel_rfl
/-- the call's own slice of the call's own slices, no two rows in one block. -/
def OwnSS (w : World) (base : Nat) (v : Value) (xss : List (List Int)) : Prop :=
  ∃ vs : List Value, w.ownsRow base 24 1 v xss.length vs ∧ vs.length = xss.length ∧ (∀ i, i < xss.length → Own w base (vs.getD i undef) (xss.getD i [])) ∧
    ∀ i j g, i < j → j < xss.length → (vs.getD i undef).ownBlock = some g → (vs.getD j undef).ownBlock ≠ some g
def RetSS (xss : List (List Int)) (w : World) (e : Ending) (w' : World) : Prop := ∃ v, e = .returned v ∧ Below w.heap.size w w' ∧ OwnSS w' w.heap.size v xss

theorem OwnSS.nil (w : World) (base : Nat) : OwnSS w base (.slice none 0 0) [] :=
  ⟨[], World.ownsRow_nil _ _ _ _, rfl, fun i h => by simp at h, fun i j g _ h => by simp at h⟩
theorem row_keep {w w' : World} {base n : Nat} {v : Value} {e : TypeId} {vs : List Value} (h : w.ownsRow base e 1 v n vs) (hb : Below w.heap.size w w') : w'.ownsRow base e 1 v n vs := by
  obtain ⟨h1, h2⟩ := h
  refine ⟨h1, ?_⟩
  rcases h2 with h2 | ⟨g, cap, cur, hv, hg, hh, r⟩
  · exact .inl h2
  · have hlt : g < w.heap.size := by
      rcases Nat.lt_or_ge g w.heap.size with h' | h'
      · exact h'
      · rw [Array.getElem?_eq_none h'] at hh; cases hh
    exact .inr ⟨g, cap, cur, hv, hg, (hb.block g hlt).trans hh, r⟩
theorem OwnSS.keep {w w' : World} {base : Nat} {v : Value} {xss : List (List Int)} (h : OwnSS w base v xss) (hb : Below w.heap.size w w') : OwnSS w' base v xss := by
  obtain ⟨vs, h1, h2, h3, h4⟩ := h
  exact ⟨vs, row_keep h1 hb, h2, fun i hi => (h3 i hi).keep hb, h4⟩
theorem below_alloc2' (w : World) (o o' : Obj) : Below w.heap.size w ((w.alloc o).alloc o') := ((Below.refl _ _).alloc (Nat.le_refl _) o).alloc (by simp) o'
/-- a row of integers and a row of slices do not lie in one block. -/
theorem rows_apart {w : World} {base base' n : Nat} {v u : Value} {xs : List Int} {vs : List Value} (h : Own w base u xs) (h' : w.ownsRow base' 24 1 v n vs) : u.ownBlock = none ∨ u.ownBlock ≠ v.ownBlock := by
  rcases h.2 with ⟨rfl, _⟩ | ⟨g, cap, cur, rfl, _, hh, _⟩
  · exact .inl rfl
  · right
    rcases h'.2 with ⟨rfl, _⟩ | ⟨g', cap', cur', rfl, _, hh', _⟩
    · simp [Value.ownBlock]
    · intro e
      simp only [Value.ownBlock, Option.some.injEq] at e
      subst e
      rw [hh] at hh'
      simp at hh'
theorem getD_snoc {α : Type} (l : List α) (x d : α) (i : Nat) : (l ++ [x]).getD i d = if i < l.length then l.getD i d else if i = l.length then x else d := by
  simp only [List.getD_eq_getElem?_getD, List.getElem?_append]
  by_cases h : i < l.length
  · rw [if_pos h, if_pos h]
  · rw [if_neg h, if_neg h]
    by_cases h2 : i = l.length
    · subst h2; simp
    · rw [if_neg h2]
      have : ¬ i - l.length < 1 := by omega
      simp [List.getElem?_eq_none (show [x].length ≤ i - l.length by simp; omega)]
/-- a new row of integers is laid, and appended. -/
theorem ownSS_snoc {w0 wr w1 : World} {v v' : Value} {xss : List (List Int)} {ys : List Int} {vs : List Value} {o : Obj} (hbel : Below w0.heap.size w0 wr)
    (hrow : wr.ownsRow w0.heap.size 24 1 v xss.length vs) (hlen : vs.length = xss.length) (hin : ∀ i, i < xss.length → Own wr w0.heap.size (vs.getD i undef) (xss.getD i []))
    (hdis : ∀ i j g, i < j → j < xss.length → (vs.getD i undef).ownBlock = some g → (vs.getD j undef).ownBlock ≠ some g) (hys : ys.length ≤ maxLen)
    (hown1 : w1.ownsRow w0.heap.size 24 1 v' (xss.length + 1) (vs ++ [.slice (some ⟨wr.heap.size, 0, none⟩) ys.length ys.length]))
    (hg : ((wr.alloc (.cells (ys.map (Value.int .i64)).toArray 3)).alloc o).grownBy w1 v.ownBlock) : Below w0.heap.size w0 w1 ∧ OwnSS w1 w0.heap.size v' (xss ++ [ys]) := by
  have hsz := hbel.size
  have ha : Below w0.heap.size w0 ((wr.alloc (.cells (ys.map (Value.int .i64)).toArray 3)).alloc o) := (hbel.alloc hsz _).alloc (by simp; omega) o
  have hk : ∀ k, v.ownBlock = some k → w0.heap.size ≤ k ∧ k < wr.heap.size := fun k hk => hrow.lt k hk
  refine ⟨ha.grown hg ha.size (fun k h => (hk k h).1), ?_⟩
  have hlit : Own ((wr.alloc (.cells (ys.map (Value.int .i64)).toArray 3)).alloc o) w0.heap.size (.slice (some ⟨wr.heap.size, 0, none⟩) ys.length ys.length) ys := by
    have h := World.ownsRow_lit (base := w0.heap.size) (e := 3) (size := 1) wr (ys.map (Value.int .i64)).toArray ys.length hsz hys (by simp)
    have h' : Own (wr.alloc (.cells (ys.map (Value.int .i64)).toArray 3)) w0.heap.size (.slice (some ⟨wr.heap.size, 0, none⟩) ys.length ys.length) ys := by
      unfold Own; simpa using h
    exact h'.keep ((Below.refl _ _).alloc (Nat.le_refl _) o)
  refine ⟨vs ++ [.slice (some ⟨wr.heap.size, 0, none⟩) ys.length ys.length], by rw [List.length_append]; exact hown1, by simp [hlen], fun i hi => ?_, fun i j g hij hj he => ?_⟩
  · rw [getD_snoc, getD_snoc, hlen]
    by_cases h : i < xss.length
    · rw [if_pos h, if_pos h]
      have h1 := hin i h
      have h2 : Own ((wr.alloc (.cells (ys.map (Value.int .i64)).toArray 3)).alloc o) w0.heap.size (vs.getD i undef) (xss.getD i []) := h1.keep ((below_alloc2' wr _ _))
      exact World.ownsRow.kept h2 hg (rows_apart h1 hrow)
    · have hi' : i = xss.length := by simp at hi; omega
      rw [if_neg h, if_neg h, if_pos hi', if_pos hi']
      refine World.ownsRow.kept hlit hg ?_
      right
      intro e
      have := (hk wr.heap.size e.symm).2
      omega
  · simp only [List.length_append, List.length_singleton] at hj
    rw [getD_snoc, hlen] at he ⊢
    rw [if_pos (by omega)] at he
    by_cases h : j < xss.length
    · rw [if_pos h]; exact hdis i j g hij h he
    · rw [if_neg h, if_pos (by omega)]
      intro e
      simp only [Value.ownBlock, Option.some.injEq] at e
      have := ((hin i (by omega) : World.ownsRow _ _ _ _ _ _ _).lt g he).2
      omega
end Go.Proofs.YtakilincclnpdaaGreatDoor
/- Fx: contracts: factoring into pairs (mdFactors), squarefree parts. No conditions. -/
namespace Go.Proofs.YtakilincclnpdaaGreatDoor
open Go.RowKit

/-- each prime that divides N, and how often. -/
noncomputable def facL (N : Int) : List (List Int) := (primesL N).map fun q => [q, valP N q]
theorem valF_le : ∀ (f : Nat) (a p : Int), valF f a p ≤ f
  | 0, _, _ => by unfold valF; omega
  | f + 1, a, p => by
    unfold valF; split
    · have := valF_le f (a.tdiv p) p; omega
    · omega
theorem valP_le (a p : Int) : valP a p ≤ a.natAbs := valF_le _ _ _
theorem FacInv.val {N n p p' : Int} {l : List Int} (h : FacInv N n p l) (hp : Pr p') (hle : p ≤ p') : valP n p' = valP N p' := by
  obtain ⟨h1, h2, h3, h4, h5, h6, h7, m, h8, h9⟩ := h
  rw [h8, valP_coprime hp (h9 p' hp hle) n.natAbs n (Nat.le_refl _) (by omega)]
theorem valP_self {n : Int} (hn : 2 ≤ n) : valP n n = 1 := by
  have := valP_mul_self (p := n) (c := 1) hn (by omega)
  rw [Int.mul_one] at this
  rw [this, valP_not (fun h => by have := Int.le_of_dvd (by omega) h; omega)]
  rfl
theorem valP_emod {a p : Int} (hp : 2 ≤ p) (ha : 1 ≤ a) (h : 0 < valP a p) : a % p = 0 ∧ valP (a / p) p = valP a p - 1 := by
  by_cases hm : a.tmod p = 0
  · have h2 := valP_pos hp (by omega) hm
    rw [Int.tdiv_eq_ediv_of_nonneg (by omega)] at h2
    exact ⟨tmod_zero_iff.1 hm, by omega⟩
  · rw [valP_zero hm] at h; omega
theorem valP_iff {a p : Int} (hp : 2 ≤ p) (ha : 1 ≤ a) : valP a p = 0 ↔ a % p ≠ 0 := by
  constructor
  · intro h hm
    have := valP_pos hp (by omega) (tmod_zero_iff.2 hm)
    have := valP_nonneg (a.tdiv p) p
    omega
  · intro h; exact valP_zero (fun k => h (tmod_zero_iff.1 k))


/-! ### squarefree parts -/
/-- the product of those primes of a list that divide N an odd number of times, as the program's numbers multiply. -/
def clsF (N : Int) : List Int → Int → Int
  | [], a => a
  | q :: r, a => clsF N r (if valP N q % 2 = 1 then wrap64 (a * q) else a)
noncomputable def classI (n : Int) : Int := clsF n (primesL (n.natAbs : Int)) n.sign
theorem clsF_natAbs (n : Int) : ∀ (l : List Int) (a : Int), clsF (n.natAbs : Int) l a = clsF n l a
  | [], _ => rfl
  | q :: r, a => by unfold clsF; rw [valP_natAbs, clsF_natAbs n r]
theorem clsF_drop (N : Int) {l : List Int} {k : Nat} (hk : k < l.length) (a : Int) : clsF N (l.drop k) a = clsF N (l.drop (k + 1)) (if valP N (l.getD k 0) % 2 = 1 then wrap64 (a * l.getD k 0) else a) := by
  rw [List.drop_eq_getElem_cons hk]
  conv => lhs; unfold clsF
  simp [List.getD_eq_getElem?_getD, List.getElem?_eq_getElem hk]
theorem primesL_mem {N : Int} (hN : 1 ≤ N) {k : Nat} (hk : k < (primesL N).length) : 2 ≤ (primesL N).getD k 0 ∧ (primesL N).getD k 0 ≤ N ∧ Pr ((primesL N).getD k 0) := by
  have hm : (primesL N).getD k 0 ∈ primesL N := by
    rw [List.getD_eq_getElem?_getD, List.getElem?_eq_getElem hk]; exact List.getElem_mem hk
  obtain ⟨h1, h2⟩ := ((primesL_spec (by omega)).2 _).1 hm
  exact ⟨h1.1, Int.le_of_dvd (by omega) h2, h1⟩
theorem primesL_len {N : Int} (hN : 1 ≤ N) : ((primesL N).length : Int) ≤ N := by
  rcases inc_length (primesL N) 2 (N + 1) (primesL_spec (by omega)).1 (fun q hq => by
    obtain ⟨h1, h2⟩ := ((primesL_spec (by omega)).2 q).1 hq
    exact ⟨h1.1, by have := Int.le_of_dvd (by omega) h2; omega⟩) with k | k
  · omega
  · rw [k]; simp; omega
/-- a number whose class is asked. -/
def smallN (n : Int) : Bool := decide (-1000000000 ≤ n ∧ n ≤ 1000000000 ∧ n ≠ 0)
theorem smallN_true {n : Int} : smallN n = true ↔ (-1000000000 ≤ n ∧ n ≤ 1000000000 ∧ n ≠ 0) := by simp [smallN]
theorem smallN_false {n : Int} : smallN n = false ↔ ¬ (-1000000000 ≤ n ∧ n ≤ 1000000000 ∧ n ≠ 0) := by simp only [smallN, decide_eq_false_iff_not]
end Go.Proofs.YtakilincclnpdaaGreatDoor
namespace Go.Proofs.YtakilincclnpdaaGreatDoor
open Go.RowKit

def badP (a b p : Int) : Bool := decide (5 ≤ p) && (kindN (minA a b p) b p != 0)
def badF (a b : Int) (l : List Int) : List Int := l.filter (badP a b)
noncomputable def bfL (a b : Int) : List Int := primesL ((discI a b).natAbs : Int)
noncomputable def bfOk (a b : Int) : Bool := (bfL a b).all fun p => decide (p ≤ 997)
noncomputable def bfX (a b : Int) : List Int := bif bfOk a b then badF a b (bfL a b) else []
theorem badF_step (a b : Int) {xs : List Int} {i : Nat} (h : i < xs.length) : badF a b (xs.take (i + 1)) = badF a b (xs.take i) ++ (if badP a b (xs.getD i 0) = true then [xs.getD i 0] else []) := by
  unfold badF
  rw [List.take_add_one, List.filter_append, List.getElem?_eq_getElem h]
  simp [List.filter_cons, List.getD_eq_getElem?_getD, List.getElem?_eq_getElem h]
theorem badF_len (a b : Int) (l : List Int) : (badF a b l).length ≤ l.length := List.length_filter_le _ _
theorem all_take {xs : List Int} {i : Nat} (h : i < xs.length) (h1 : ∀ q ∈ xs.take i, q ≤ 997) (h2 : xs.getD i 0 ≤ 997) : ∀ q ∈ xs.take (i + 1), q ≤ 997 := by
  intro q hq
  rw [List.take_add_one, List.getElem?_eq_getElem h, List.mem_append] at hq
  rcases hq with hq | hq
  · exact h1 q hq
  · rw [List.getD_eq_getElem?_getD, List.getElem?_eq_getElem h] at h2
    have e : q = xs[i] := by simpa using hq
    rw [e]; exact h2
theorem ok_true {xs : List Int} (h : ∀ q ∈ xs.take xs.length, q ≤ 997) : (xs.all fun p => decide (p ≤ 997)) = true := by
  rw [List.take_length] at h
  simpa using h
theorem ok_false {xs : List Int} {i : Nat} (h : i < xs.length) (h2 : 997 < xs.getD i 0) : (xs.all fun p => decide (p ≤ 997)) = false := by
  rw [← Bool.not_eq_true]
  intro k
  rw [List.all_eq_true] at k
  have hm : xs.getD i 0 ∈ xs := by simp [List.getD_eq_getElem?_getD, List.getElem?_eq_getElem h]
  have := k _ hm
  simp only [decide_eq_true_eq] at this
  omega
theorem pr_p5 {p : Int} (h : Pr p) (h5 : 5 ≤ p) (h6 : p ≤ 997) : p5B p = true := by
  unfold p5B; rw [inB_true.2 ⟨h5, h6⟩, primeB_true.2 h]; rfl
end Go.Proofs.YtakilincclnpdaaGreatDoor
