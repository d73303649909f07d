/- Dg: a region that draws its order, walked once for each operation, whatever came before it: what a slot holds is told by a type of its own. No conditions. -/
import Derived.Test.YtadijbaphfgeiaaDoorRg
namespace Go.Proofs.YtadijbaphfgeiaaDoor
open Go.RowKit

def upd (g : Nat → Value) (d : Nat) (v : Value) : Nat → Value := fun j => if j = d then v else g j
def fill (a : Act) (g : Nat → Value) : List Nat → Act
  | [] => a
  | d :: ds => (fill a g ds).put (some d) (g d)
theorem fill_size (a : Act) (g : Nat → Value) : ∀ ds, (fill a g ds).tmps.size = a.tmps.size
  | [] => rfl
  | d :: ds => by simp [fill, Act.put, fill_size a g ds]
theorem fill_defers (a : Act) (g : Nat → Value) : ∀ ds, (fill a g ds).defers = a.defers
  | [] => rfl
  | d :: ds => by simp [fill, Act.put, fill_defers a g ds]
theorem fill_get (a : Act) (g : Nat → Value) (j : Nat) : ∀ ds, (fill a g ds).tmps[j]? = if j ∈ ds ∧ j < a.tmps.size then some (g j) else a.tmps[j]?
  | [] => by simp [fill]
  | d :: ds => by
    simp only [fill, Act.put, Array.getElem?_setIfInBounds, fill_get a g j ds, fill_size]
    by_cases h : d = j
    · subst h
      by_cases h2 : d < a.tmps.size
      · simp [h2]
      · simp [h2]
    · have h' : ¬ j = d := fun e => h e.symm
      simp [h, h']
theorem act_ext {a b : Act} (h1 : a.tmps = b.tmps) (h2 : a.defers = b.defers) : a = b := by cases a; cases b; simp_all
theorem fill_put {a : Act} {g : Nat → Value} {d : Nat} {v : Value} {ds : List Nat} (hd : d ∈ ds) : (fill a g ds).put (some d) v = fill a (upd g d v) ds := by
  refine act_ext (Array.ext_getElem? fun j => ?_) (by simp [Act.put, fill_defers])
  rw [fill_get]
  simp only [Act.put, Array.getElem?_setIfInBounds, fill_get, fill_size]
  by_cases h : d = j
  · subst h
    by_cases h2 : d < a.tmps.size
    · simp [h2, hd, upd]
    · simp [h2]
  · have h' : ¬ j = d := fun e => h e.symm
    simp [h, h', upd]
theorem fill_start (a : Act) (ds : List Nat) : fill a (fun j => a.tmps.getD j undef) ds = a := by
  refine act_ext (Array.ext_getElem? fun j => ?_) (fill_defers _ _ _)
  rw [fill_get]
  split
  · rename_i h
    simp [Array.getD, h.2]
  · rfl

/-- the slots that an operation waits for. -/
def needs (ops : Array Oper) (o : Oper) : List Nat := o.after.toList.filterMap fun e => if Region.binds .any e then (ops[e.on]?).bind (·.dst) else none
/-- the region's form: each operation waits for earlier ones alone; each but the last has a slot of its own and is waited for by a later one. -/
def formB (ops : Array Oper) (ds : List Nat) : Bool :=
  (List.range ops.size).all fun i => match ops[i]? with
    | none => false
    | some o => (o.after.all fun e => !Region.binds .any e || decide (e.on < i)) && (decide (i + 1 = ops.size) ||
      ((match o.dst with | none => true | some d => ds.contains d && (List.range ops.size).all fun j => j == i || (match ops[j]? with | none => true | some o' => o'.dst != some d)) &&
       (List.range ops.size).any fun k => decide (i < k) && (match ops[k]? with | none => false | some o' => o'.after.any fun e => Region.binds .any e && e.on == i)))
/-- the slots behind an operation. -/
def next (g : Nat → Value) (v : Value) : Option Nat → Nat → Value
  | none => g
  | some d => upd g d v
def TStep (P : Program) (ops : Array Oper) (Q : Exit → Act → World → Prop) (a0 : Act) (ds : List Nat) (R : World → World → Prop) (T : Nat → Value → World → Prop) (S : Nat → World → Prop) (o : Oper) : Prop :=
  ∀ n g w', n < ops.size → S n w' → (∀ d ∈ needs ops o, T d (g d) w') → ∀ K : Act → World → Prop, Shut (∀ v w'', (∀ d, o.dst = some d → T d v w'') → S (n + 1) w'' → R w' w'' → K (fill a0 (next g v o.dst) ds) w'') →
    if Region.wanted o (yielded ops (fill a0 g ds).tmps) = true then Oper.wp P o (fill a0 g ds) w' K Q else K ((fill a0 g ds).put o.dst undef) w'

section
variable {P : Program} {ops : Array Oper} {Q : Exit → Act → World → Prop} {a0 : Act} {ds : List Nat} {R : World → World → Prop} {T : Nat → Value → World → Prop} {S : Nat → World → Prop}
theorem wpAny_over {md : Region.Mode} {listed : Array Bool} {a : Act} {w : World} (hr : Region.ready md ops listed = []) (h : Q .normal a w) : ∀ fuel, wpAny P md ops Q fuel listed a w
  | 0 => ⟨hr, h⟩
  | _ + 1 => ⟨fun _ => h, fun i hi => by rw [hr] at hi; cases hi⟩
theorem ready_iff {listed : Array Bool} {i : Nat} : i ∈ Region.ready .any ops listed ↔ i < ops.size ∧ listed.getD i true = false ∧ ∃ o, ops[i]? = some o ∧ ∀ e ∈ o.after, Region.binds .any e = true → listed.getD e.on false = true := by
  simp only [Region.ready, List.mem_filter, List.mem_range, Bool.and_eq_true, Bool.not_eq_true']
  refine and_congr_right fun hi => and_congr_right fun _ => ?_
  rw [Array.getElem?_eq_getElem hi]
  simp only [Option.map_some, Option.getD_some, Option.some.injEq, exists_eq_left', Array.all_eq_true_iff_forall_mem, Bool.or_eq_true, Bool.not_eq_true']
  refine forall_congr' fun e => forall_congr' fun _ => ?_
  cases Region.binds .any e <;> simp
theorem form_at (hf : formB ops ds = true) {i : Nat} {o : Oper} (ho : ops[i]? = some o) : (∀ e ∈ o.after, Region.binds .any e = true → e.on < i) ∧ (i + 1 ≠ ops.size →
    (∀ d, o.dst = some d → d ∈ ds ∧ ∀ j o', ops[j]? = some o' → j ≠ i → o'.dst ≠ some d) ∧ ∃ k o', i < k ∧ ops[k]? = some o' ∧ ∃ e ∈ o'.after, Region.binds .any e = true ∧ e.on = i) := by
  have hi : i < ops.size := (Array.getElem?_eq_some_iff.1 ho).1
  have h := List.all_eq_true.1 hf i (List.mem_range.2 hi)
  simp only [ho, Bool.and_eq_true, Bool.or_eq_true, decide_eq_true_eq, Array.all_eq_true_iff_forall_mem] at h
  refine ⟨fun e he hb => (h.1 e he).resolve_left (by rw [hb]; decide), fun hn => ?_⟩
  obtain ⟨h1, h2⟩ := h.2.resolve_left hn
  constructor
  · cases hd : o.dst with
    | none => exact fun d e => by cases e
    | some d =>
      rw [hd] at h1
      rintro _ ⟨⟩
      simp only [Bool.and_eq_true, List.all_eq_true, List.mem_range, Bool.or_eq_true, beq_iff_eq, List.contains_iff_mem] at h1
      refine ⟨h1.1, fun j o' hj hne => ?_⟩
      have hjs : j < ops.size := (Array.getElem?_eq_some_iff.1 hj).1
      have := (h1.2 j hjs).resolve_left hne
      simpa [hj] using this
  · obtain ⟨k, hk, h3⟩ := List.any_eq_true.1 h2
    have hks := List.mem_range.1 hk
    simp only [Bool.and_eq_true, decide_eq_true_eq, Array.getElem?_eq_getElem hks] at h3
    obtain ⟨hlt, h4⟩ := h3
    obtain ⟨e, he, h5⟩ := Array.any_eq_true'.1 h4
    simp only [Bool.and_eq_true, beq_iff_eq] at h5
    exact ⟨k, _, hlt, Array.getElem?_eq_getElem hks, e, he, h5.1, h5.2⟩
theorem all_of_none (hf : formB ops ds = true) {listed : Array Bool} (hs : listed.size = ops.size) (hr : Region.ready .any ops listed = []) : ∀ i, i < ops.size → listed.getD i true = true := by
  intro i
  induction i using Nat.strongRecOn with
  | ind i ih =>
    intro hi
    cases h : listed.getD i true with
    | true => rfl
    | false =>
      have hm : i ∈ Region.ready .any ops listed := ready_iff.2 ⟨hi, h, _, Array.getElem?_eq_getElem hi, fun e he hb => by
        have hlt := (form_at hf (Array.getElem?_eq_getElem hi)).1 e he hb
        have h2 := ih e.on hlt (by omega)
        have hz : e.on < listed.size := by omega
        simpa [Array.getD, hz] using h2⟩
      rw [hr] at hm; cases hm
/-- what is listed is closed: what an operation waits for came before it. -/
def Closed (ops : Array Oper) (listed : Array Bool) : Prop := ∀ i o, ops[i]? = some o → listed.getD i false = true → ∀ e ∈ o.after, Region.binds .any e = true → listed.getD e.on false = true
theorem all_of_last (hf : formB ops ds = true) {listed : Array Bool} (hc : Closed ops listed) (hl : ∀ e o, ops[ops.size - 1]? = some o → e ∈ o.after → Region.binds .any e = true → listed.getD e.on false = true) : ∀ n i, ops.size - i = n → i + 1 < ops.size → listed.getD i false = true := by
  intro n
  induction n using Nat.strongRecOn with
  | ind n ih =>
    intro i hn hi
    have hi' : i < ops.size := by omega
    obtain ⟨_, k, o', hk, hok, e, he, hb, rfl⟩ := (form_at hf (Array.getElem?_eq_getElem hi')).2 (by omega)
    have hks : k < ops.size := (Array.getElem?_eq_some_iff.1 hok).1
    by_cases h : k + 1 = ops.size
    · have : ops.size - 1 = k := by omega
      exact hl e o' (by rw [this]; exact hok) he hb
    · exact hc k o' hok (ih (ops.size - k) (by omega) k rfl (by omega)) e he hb
theorem wpOp_of {i : Nat} {o : Oper} {K : Act → World → Prop} {a : Act} {w : World} (ho : ops[i]? = some o) (h : if Region.wanted o (yielded ops a.tmps) = true then Oper.wp P o a w K Q else K (a.put o.dst undef) w) : wpOp P ops Q i K a w := by
  unfold wpOp
  rw [ho]
  dsimp only
  split
  · rename_i hw; rw [if_pos hw] at h; exact .inl h
  · rename_i hw; rw [if_neg hw] at h; exact h
theorem count_set (l : Array Bool) (i : Nat) (h : l.getD i true = false) : (l.setIfInBounds i true).toList.count false + 1 = l.toList.count false := by
  have hi : i < l.size := by
    rcases Nat.lt_or_ge i l.size with h1 | h1
    · exact h1
    · simp [Array.getD, Nat.not_lt.2 h1] at h
  have hv : l[i] = false := by simpa [Array.getD, hi] using h
  have hp : 0 < l.toList.count false := List.count_pos_iff.2 (by rw [← hv]; simp)
  have e1 : (l.toList[i]'(by simpa using hi) == false) = true := by simp [hv]
  rw [Array.toList_setIfInBounds, List.count_set (by simpa using hi), if_pos e1, if_neg (by decide)]
  omega
theorem getD_set (l : Array Bool) (i j : Nat) (d : Bool) (hi : i < l.size) : (l.setIfInBounds i true).getD j d = if i = j then true else l.getD j d := by
  simp only [Array.getD_eq_getD_getElem?, Array.getElem?_setIfInBounds]
  by_cases h : i = j
  · subst h; simp [hi]
  · simp [h]
theorem wpAny_typed (hf : formB ops ds = true) (hT : ∀ d v w w'', T d v w → R w w'' → T d v w'')
    (hstep : ∀ i o, i + 1 < ops.size → ops[i]? = some o → TStep P ops Q a0 ds R T S o)
    (hlast : ∀ o, ops[ops.size - 1]? = some o → ∀ g w', S (ops.size - 1) w' → (∀ d ∈ needs ops o, T d (g d) w') → ∀ K : Act → World → Prop, Shut (∀ a w'', Q .normal a w'' → K a w'') →
      if Region.wanted o (yielded ops (fill a0 g ds).tmps) = true then Oper.wp P o (fill a0 g ds) w' K Q else K ((fill a0 g ds).put o.dst undef) w') :
    ∀ fuel (listed : Array Bool) g w', listed.size = ops.size → listed.toList.count false = fuel → Closed ops listed → listed.getD (ops.size - 1) true = false → 0 < ops.size → S (ops.size - fuel) w' →
      (∀ i o d, ops[i]? = some o → listed.getD i false = true → o.dst = some d → T d (g d) w') → wpAny P .any ops Q fuel listed (fill a0 g ds) w' := by
  intro fuel
  induction fuel with
  | zero =>
    intro listed g w' hs hcnt hc hl h0 _ _
    have := count_set listed _ hl
    omega
  | succ fuel ih =>
    intro listed g w' hs hcnt hc hl h0 hS hg
    refine ⟨fun hr => ?_, fun i hi => ?_⟩
    · have := all_of_none hf hs hr (ops.size - 1) (by omega)
      rw [this] at hl; cases hl
    · obtain ⟨hi0, hi1, o, ho, hdep⟩ := ready_iff.1 hi
      have hcs := count_set listed i hi1
      have hneeds : ∀ d ∈ needs ops o, T d (g d) w' := by
        intro d hd
        obtain ⟨e, he, hed⟩ := List.mem_filterMap.1 hd
        by_cases hb : Region.binds .any e = true
        · rw [if_pos hb] at hed
          obtain ⟨oe, hoe, hod⟩ := Option.bind_eq_some_iff.1 hed
          exact hg e.on oe d hoe (hdep e (by simpa using he) hb) hod
        · rw [if_neg hb] at hed; cases hed
      by_cases hlast' : i + 1 = ops.size
      · have hil : ops.size - 1 = i := by omega
        have hall : ∀ j, j + 1 < ops.size → listed.getD j false = true := fun j hj => all_of_last hf hc (fun e o' ho' he hb => by rw [hil, ho] at ho'; cases ho'; exact hdep e he hb) _ j rfl hj
        have hcnt1 : fuel = 0 := by
          rcases Nat.eq_zero_or_pos fuel with h | h
          · exact h
          · have hp : 0 < (listed.setIfInBounds i true).toList.count false := by omega
            obtain ⟨j, hj, hv⟩ := List.getElem_of_mem (List.count_pos_iff.1 hp)
            have hj' : j < listed.size := by simpa using hj
            have e1 : (listed.setIfInBounds i true).getD j true = false := by
              rw [Array.getD_eq_getD_getElem?, ← Array.getElem?_toList, List.getElem?_eq_getElem hj, hv]; rfl
            rw [getD_set _ _ _ _ (by omega)] at e1
            by_cases hij : i = j
            · rw [if_pos hij] at e1; cases e1
            · rw [if_neg hij] at e1
              have := hall j (by omega)
              simp [Array.getD, hj'] at this e1
              rw [this] at e1; cases e1
        subst hcnt1
        refine wpOp_of ho (hlast o (by rw [hil]; exact ho) g w' hS hneeds _ fun a w'' hq => ?_)
        refine ⟨?_, hq⟩
        rcases he : Region.ready .any ops (listed.setIfInBounds i true) with _ | ⟨j, r⟩
        · rfl
        · have hj : j ∈ Region.ready .any ops (listed.setIfInBounds i true) := by rw [he]; exact .head _
          obtain ⟨hj0, hj1, _⟩ := ready_iff.1 hj
          rw [getD_set _ _ _ _ (by omega)] at hj1
          by_cases hij : i = j
          · rw [if_pos hij] at hj1; cases hj1
          · rw [if_neg hij] at hj1
            have := hall j (by omega)
            have hj' : j < listed.size := by omega
            simp [Array.getD, hj'] at this hj1
            rw [this] at hj1; cases hj1
      · refine wpOp_of ho (hstep i o (by omega) ho (ops.size - (fuel + 1)) g w' (by omega) hS hneeds _ fun v w'' hTv hS' hgr => ?_)
        have hform := ((form_at hf ho).2 hlast').1
        refine ih _ _ _ (by simpa using hs) (by omega) ?_ ?_ h0 ?_ ?_
        · intro j oj hoj hlj e he hb
          rw [getD_set _ _ _ _ (by omega)] at hlj ⊢
          by_cases hie : i = e.on
          · rw [if_pos hie]
          · rw [if_neg hie]
            by_cases hij : i = j
            · subst hij; rw [ho] at hoj; cases hoj; exact hdep e he hb
            · rw [if_neg hij] at hlj; exact hc j oj hoj hlj e he hb
        · rw [getD_set _ _ _ _ (by omega), if_neg (by omega)]; exact hl
        · have : ops.size - fuel = ops.size - (fuel + 1) + 1 := by have := List.count_le_length (a := false) (l := listed.toList); rw [Array.length_toList] at this; omega
          rw [this]; exact hS'
        · intro j oj dj hoj hlj hdj
          rw [getD_set _ _ _ _ (by omega)] at hlj
          by_cases hij : i = j
          · subst hij
            rw [ho] at hoj; cases hoj
            rw [hdj]
            simpa [next, upd] using hTv _ hdj
          · rw [if_neg hij] at hlj
            have hsame : next g v o.dst dj = g dj := by
              cases hod : o.dst with
              | none => rfl
              | some d =>
                have hne : dj ≠ d := by
                  rintro rfl
                  exact (hform _ hod).2 j oj hoj (fun e => hij e.symm) hdj
                simp [next, upd, hne]
            rw [hsame]
            exact hT _ _ _ _ (hg j oj dj hoj hlj hdj) hgr
/-- a region that draws its order, each of its operations walked once. -/
theorem wp_region_typed {id : Nat} {a : Act} {w : World} (ds : List Nat) (R : World → World → Prop) (T : Nat → Value → World → Prop) (S : Nat → World → Prop) (hm : P.follows .mixedOrders = true) (hf : formB ops ds = true) (hpos : 0 < ops.size)
    (hT : ∀ d v w w'', T d v w → R w w'' → T d v w'') (hS : S 0 w.drew)
    (hstep : ∀ i o, i + 1 < ops.size → ops[i]? = some o → TStep P ops Q a ds R T S o)
    (hlast : ∀ o, ops[ops.size - 1]? = some o → ∀ g w', S (ops.size - 1) w' → (∀ d ∈ needs ops o, T d (g d) w') → ∀ K : Act → World → Prop, Shut (∀ a w'', Q .normal a w'' → K a w'') →
      if Region.wanted o (yielded ops (fill a g ds).tmps) = true then Oper.wp P o (fill a g ds) w' K Q else K ((fill a g ds).put o.dst undef) w') : (Code.region id ops true).wp P Q a w := by
  refine wp_region_any hm ?_
  have hfalse : ∀ (i : Nat), (Array.replicate ops.size false).getD i false = false := fun i => by
    simp only [Array.getD_eq_getD_getElem?, Array.getElem?_replicate]; split <;> rfl
  have h := wpAny_typed (Q := Q) (a0 := a) hf hT hstep hlast ops.size (Array.replicate ops.size false) (fun j => a.tmps.getD j undef) w.drew (by simp) (by simp)
    (fun i o _ hl => by rw [hfalse] at hl; cases hl) (by simp only [Array.getD_eq_getD_getElem?, Array.getElem?_replicate]; rw [if_pos (by omega)]; rfl) hpos (by simpa using hS) (fun i o d _ hl => by rw [hfalse] at hl; cases hl)
  rwa [fill_start] at h
def LStep (P : Program) (ops : Array Oper) (Q : Exit → Act → World → Prop) (a0 : Act) (ds : List Nat) (T : Nat → Value → World → Prop) (S : Nat → World → Prop) (o : Oper) : Prop :=
  ∀ g w', S (ops.size - 1) w' → (∀ d ∈ needs ops o, T d (g d) w') → ∀ K : Act → World → Prop, Shut (∀ a w'', Q .normal a w'' → K a w'') →
    if Region.wanted o (yielded ops (fill a0 g ds).tmps) = true then Oper.wp P o (fill a0 g ds) w' K Q else K ((fill a0 g ds).put o.dst undef) w'
def Steps (P : Program) (ops : Array Oper) (Q : Exit → Act → World → Prop) (a0 : Act) (ds : List Nat) (R : World → World → Prop) (T : Nat → Value → World → Prop) (S : Nat → World → Prop) : List Oper → Prop
  | [] => False
  | [o] => LStep P ops Q a0 ds T S o
  | o :: o' :: l => TStep P ops Q a0 ds R T S o ∧ Steps P ops Q a0 ds R T S (o' :: l)
theorem mem_b {d : Nat} {l : List Nat} (h : l.elem d = true) : d ∈ l := List.mem_of_elem_eq_true h
theorem eval_in {a : Act} {g : Nat → Value} {ds : List Nat} {i : Nat} (h : i ∈ ds) (hs : i < a.tmps.size) : (fill a g ds).eval (.tmp i) = g i := by
  simp [Act.eval, Array.getD_eq_getD_getElem?, fill_get, h, hs]
theorem eval_out {a : Act} {g : Nat → Value} {ds : List Nat} {i : Nat} (h : i ∉ ds) : (fill a g ds).eval (.tmp i) = a.eval (.tmp i) := by
  simp [Act.eval, Array.getD_eq_getD_getElem?, fill_get, h]
theorem wanted_none {o : Oper} (hg : o.guard = none) (y : Nat → Option Bool) : Region.wanted o y = true := by
  unfold Region.wanted; rw [hg]
theorem fill_next {a : Act} {g : Nat → Value} {ds : List Nat} {d : Option Nat} {v : Value} (hds : ∀ e, d = some e → e ∈ ds) : fill a (next g v d) ds = (fill a g ds).put d v := by
  cases d with
  | none => rfl
  | some d => exact (fill_put (hds d rfl)).symm
structure OpDone (P : Program) (o : Oper) (A : Act) (x : World) (v : Value) (x' : World) : Prop where
  out : ∀ (K : Act → World → Prop) (Q' : Exit → Act → World → Prop), K (A.put o.dst v) x' → Oper.wp P o A x K Q'
structure OpCall (P : Program) (o : Oper) (A : Act) (x : World) (f : FuncId) (args : Array Value) : Prop where
  out : ∀ (K : Act → World → Prop) (Q' : Exit → Act → World → Prop), Calls P f args x (fun e x' => ∃ v, e = .returned v ∧ K (A.put o.dst v) x') → Oper.wp P o A x K Q'
/-- a step that returns one value and one world. -/
theorem TStep.of {o : Oper} (hg : o.guard = none) (hds : ∀ d, o.dst = some d → d ∈ ds)
    (h : ∀ n g x, n < ops.size → S n x → (∀ d ∈ needs ops o, T d (g d) x) → ∃ v x', OpDone P o (fill a0 g ds) x v x' ∧ (∀ d, o.dst = some d → T d v x') ∧ S (n + 1) x' ∧ R x x') :
    TStep P ops Q a0 ds R T S o := fun n g x hn hS hd K hK => by
  rw [if_pos (wanted_none hg _)]
  obtain ⟨v, x', h1, h2, h3, h4⟩ := h n g x hn hS hd
  refine h1.out K Q ?_
  rw [← fill_next hds]
  exact hK v x' h2 h3 h4
/-- a step that moves a value. -/
theorem TStep.move {o : Oper} (i : Nat) (ho : o.op = .move (.tmp i) ∨ o.op = .assign (.tmp i)) (hg : o.guard = none) (hds : ∀ d, o.dst = some d → d ∈ ds) (hS : ∀ n x, S n x → S (n + 1) x) (hR : ∀ x, R x x)
    (h : ∀ g x, (∀ d ∈ needs ops o, T d (g d) x) → ∀ d, o.dst = some d → T d ((fill a0 g ds).eval (.tmp i)) x) : TStep P ops Q a0 ds R T S o :=
  TStep.of hg hds fun n g x _ hs hd => ⟨(fill a0 g ds).eval (.tmp i), x, ⟨fun K Q' hk => by
    rcases ho with ho | ho
    · unfold Oper.wp execOp; rw [ho]; exact hk
    · unfold Oper.wp execOp; rw [ho]; exact hk⟩, h g x hd, hS n x hs, hR x⟩
/-- a step that calls. -/
theorem TStep.call {o : Oper} (hg : o.guard = none) (hds : ∀ d, o.dst = some d → d ∈ ds)
    (h : ∀ n g x, n < ops.size → S n x → (∀ d ∈ needs ops o, T d (g d) x) → ∃ (f : FuncId) (args : Array Value), OpCall P o (fill a0 g ds) x f args ∧
      Calls P f args x (fun e x' => ∃ v, e = .returned v ∧ (∀ d, o.dst = some d → T d v x') ∧ S (n + 1) x' ∧ R x x')) :
    TStep P ops Q a0 ds R T S o := fun n g x hn hS hd K hK => by
  rw [if_pos (wanted_none hg _)]
  obtain ⟨f, args, h1, h2⟩ := h n g x hn hS hd
  refine h1.out K Q (h2.mono ?_)
  rintro e x' ⟨v, rfl, t1, t2, t3⟩
  refine ⟨v, rfl, ?_⟩
  rw [← fill_next hds]
  exact hK v x' t1 t2 t3
/-- the last step, if it moves a value. -/
theorem LStep.move {o : Oper} (i : Nat) (ho : o.op = .move (.tmp i) ∨ o.op = .assign (.tmp i)) (hg : o.guard = none)
    (h : ∀ g x, S (ops.size - 1) x → (∀ d ∈ needs ops o, T d (g d) x) → Q .normal ((fill a0 g ds).put o.dst ((fill a0 g ds).eval (.tmp i))) x) : LStep P ops Q a0 ds T S o := fun g x hS hd K hK => by
  rw [if_pos (wanted_none hg _)]
  rcases ho with ho | ho
  · unfold Oper.wp execOp; rw [ho]; exact hK _ _ (h g x hS hd)
  · unfold Oper.wp execOp; rw [ho]; exact hK _ _ (h g x hS hd)
theorem Steps.cons {o o' : Oper} {l : List Oper} (h : TStep P ops Q a0 ds R T S o) (k : Steps P ops Q a0 ds R T S (o' :: l)) : Steps P ops Q a0 ds R T S (o :: o' :: l) := ⟨h, k⟩
theorem Steps.one {o : Oper} (h : LStep P ops Q a0 ds T S o) : Steps P ops Q a0 ds R T S [o] := h
theorem Steps.step : ∀ (l : List Oper), Steps P ops Q a0 ds R T S l → ∀ i o, i + 1 < l.length → l[i]? = some o → TStep P ops Q a0 ds R T S o
  | [], h, _, _, _, _ => h.elim
  | [_], _, i, _, hi, _ => by simp at hi
  | o :: o' :: l, h, 0, _, _, he => by cases he; exact h.1
  | o :: o' :: l, h, i + 1, x, hi, he => Steps.step (o' :: l) h.2 i x (by simpa using hi) (by simpa using he)
theorem Steps.last : ∀ (l : List Oper), Steps P ops Q a0 ds R T S l → ∀ o, l[l.length - 1]? = some o → LStep P ops Q a0 ds T S o
  | [], h, _, _ => h.elim
  | [_], h, _, he => by cases he; exact h
  | o :: o' :: l, h, x, he => Steps.last (o' :: l) h.2 x (by simpa using he)
theorem wp_region_steps {id : Nat} {a : Act} {w : World} {l : List Oper} (ds : List Nat) (R : World → World → Prop) (T : Nat → Value → World → Prop) (S : Nat → World → Prop) (hm : P.follows .mixedOrders = true) (hf : formB l.toArray ds = true) (hpos : 0 < l.toArray.size)
    (hT : ∀ d v w w'', T d v w → R w w'' → T d v w'') (hS : S 0 w.drew) (h : Steps P l.toArray Q a ds R T S l) : (Code.region id l.toArray true).wp P Q a w :=
  wp_region_typed ds R T S hm hf hpos hT hS (fun i o hi ho => h.step _ i o (by simpa using hi) (by simpa using ho)) (fun o ho => h.last _ o (by simpa using ho))
end
end Go.Proofs.YtadijbaphfgeiaaDoor
