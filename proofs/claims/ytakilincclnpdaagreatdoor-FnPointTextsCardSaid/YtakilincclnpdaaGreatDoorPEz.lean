/- Dv: regions that draw their order, told by a list of slots and what they hold; their operations on curves. No conditions. -/
import Derived.Test.YtakilincclnpdaaGreatDoorDgz
import Derived.Test.YtakilincclnpdaaGreatDoorDrz
import Derived.Test.YtakilincclnpdaaGreatDoorPAz
/- Dgu: a region that draws its order, each operation walked once; what its stores have brought about is told too. No conditions. -/
namespace Go.Proofs.YtakilincclnpdaaGreatDoor
open Go.RowKit

def TStep2 (P : Program) (ops : Array Oper) (Q : Exit → Act → World → Prop) (a0 : Act) (ds : List Nat) (R : World → World → Prop) (T : Nat → Value → World → Prop) (U : Nat → World → Prop) (S : Nat → World → Prop) (i : Nat) (o : Oper) : Prop :=
  ∀ n g w', n < ops.size → S n w' → (∀ d ∈ needs ops o, T d (g d) w') → ∀ K : Act → World → Prop, Shut (∀ v w'', (∀ d, o.dst = some d → T d v w'') → (o.dst = none → U i w'') → S (n + 1) w'' → R w' w'' → K (fill a0 (next g v o.dst) ds) w'') →
    if Region.wanted o (yielded ops (fill a0 g ds).tmps) = true then Oper.wp P o (fill a0 g ds) w' K Q else K ((fill a0 g ds).put o.dst undef) w'
section
variable {P : Program} {ops : Array Oper} {Q : Exit → Act → World → Prop} {a0 : Act} {ds : List Nat} {R : World → World → Prop} {T : Nat → Value → World → Prop} {U : Nat → World → Prop} {S : Nat → World → Prop}
theorem wpAny_typed2 (hf : formB ops ds = true) (hT : ∀ d v w w'', T d v w → R w w'' → T d v w'') (hU : ∀ i w w'', U i w → R w w'' → U i w'')
    (hstep : ∀ i o, i + 1 < ops.size → ops[i]? = some o → TStep2 P ops Q a0 ds R T U S i o)
    (hlast : ∀ o, ops[ops.size - 1]? = some o → ∀ g w', S (ops.size - 1) w' → (∀ d ∈ needs ops o, T d (g d) w') → (∀ i o, i + 1 < ops.size → ops[i]? = some o → o.dst = none → U i w') → ∀ K : Act → World → Prop, Shut (∀ a w'', Q .normal a w'' → K a w'') →
      if Region.wanted o (yielded ops (fill a0 g ds).tmps) = true then Oper.wp P o (fill a0 g ds) w' K Q else K ((fill a0 g ds).put o.dst undef) w') :
    ∀ fuel (listed : Array Bool) g w', listed.size = ops.size → listed.toList.count false = fuel → Closed ops listed → listed.getD (ops.size - 1) true = false → 0 < ops.size → S (ops.size - fuel) w' →
      (∀ i o d, ops[i]? = some o → listed.getD i false = true → o.dst = some d → T d (g d) w') → (∀ i o, ops[i]? = some o → listed.getD i false = true → o.dst = none → U i w') → wpAny P .any ops Q fuel listed (fill a0 g ds) w' := by
  intro fuel
  induction fuel with
  | zero =>
    intro listed g w' hs hcnt hc hl h0 _ _ _
    have := count_set listed _ hl
    omega
  | succ fuel ih =>
    intro listed g w' hs hcnt hc hl h0 hS hg hu
    refine ⟨fun hr => ?_, fun i hi => ?_⟩
    · have := all_of_none hf hs hr (ops.size - 1) (by omega)
      rw [this] at hl; cases hl
    · obtain ⟨hi0, hi1, o, ho, hdep⟩ := ready_iff.1 hi
      have hcs := count_set listed i hi1
      have hneeds : ∀ d ∈ needs ops o, T d (g d) w' := by
        intro d hd
        obtain ⟨e, he, hed⟩ := List.mem_filterMap.1 hd
        by_cases hb : Region.binds .any e = true
        · rw [if_pos hb] at hed
          obtain ⟨oe, hoe, hod⟩ := Option.bind_eq_some_iff.1 hed
          exact hg e.on oe d hoe (hdep e (by simpa using he) hb) hod
        · rw [if_neg hb] at hed; cases hed
      by_cases hlast' : i + 1 = ops.size
      · have hil : ops.size - 1 = i := by omega
        have hall : ∀ j, j + 1 < ops.size → listed.getD j false = true := fun j hj => all_of_last hf hc (fun e o' ho' he hb => by rw [hil, ho] at ho'; cases ho'; exact hdep e he hb) _ j rfl hj
        have hcnt1 : fuel = 0 := by
          rcases Nat.eq_zero_or_pos fuel with h | h
          · exact h
          · have hp : 0 < (listed.setIfInBounds i true).toList.count false := by omega
            obtain ⟨j, hj, hv⟩ := List.getElem_of_mem (List.count_pos_iff.1 hp)
            have hj' : j < listed.size := by simpa using hj
            have e1 : (listed.setIfInBounds i true).getD j true = false := by
              rw [Array.getD_eq_getD_getElem?, ← Array.getElem?_toList, List.getElem?_eq_getElem hj, hv]; rfl
            rw [getD_set _ _ _ _ (by omega)] at e1
            by_cases hij : i = j
            · rw [if_pos hij] at e1; cases e1
            · rw [if_neg hij] at e1
              have := hall j (by omega)
              simp [Array.getD, hj'] at this e1
              rw [this] at e1; cases e1
        subst hcnt1
        refine wpOp_of ho (hlast o (by rw [hil]; exact ho) g w' hS hneeds (fun j oj hj hoj hdj => hu j oj hoj (hall j hj) hdj) _ fun a w'' hq => ?_)
        refine ⟨?_, hq⟩
        rcases he : Region.ready .any ops (listed.setIfInBounds i true) with _ | ⟨j, r⟩
        · rfl
        · have hj : j ∈ Region.ready .any ops (listed.setIfInBounds i true) := by rw [he]; exact .head _
          obtain ⟨hj0, hj1, _⟩ := ready_iff.1 hj
          rw [getD_set _ _ _ _ (by omega)] at hj1
          by_cases hij : i = j
          · rw [if_pos hij] at hj1; cases hj1
          · rw [if_neg hij] at hj1
            have := hall j (by omega)
            have hj' : j < listed.size := by omega
            simp [Array.getD, hj'] at this hj1
            rw [this] at hj1; cases hj1
      · refine wpOp_of ho (hstep i o (by omega) ho (ops.size - (fuel + 1)) g w' (by omega) hS hneeds _ fun v w'' hTv hUv hS' hgr => ?_)
        have hform := ((form_at hf ho).2 hlast').1
        refine ih _ _ _ (by simpa using hs) (by omega) ?_ ?_ h0 ?_ ?_ ?_
        · intro j oj hoj hlj e he hb
          rw [getD_set _ _ _ _ (by omega)] at hlj ⊢
          by_cases hie : i = e.on
          · rw [if_pos hie]
          · rw [if_neg hie]
            by_cases hij : i = j
            · subst hij; rw [ho] at hoj; cases hoj; exact hdep e he hb
            · rw [if_neg hij] at hlj; exact hc j oj hoj hlj e he hb
        · rw [getD_set _ _ _ _ (by omega), if_neg (by omega)]; exact hl
        · have : ops.size - fuel = ops.size - (fuel + 1) + 1 := by have := List.count_le_length (a := false) (l := listed.toList); rw [Array.length_toList] at this; omega
          rw [this]; exact hS'
        · intro j oj dj hoj hlj hdj
          rw [getD_set _ _ _ _ (by omega)] at hlj
          by_cases hij : i = j
          · subst hij
            rw [ho] at hoj; cases hoj
            rw [hdj]
            simpa [next, upd] using hTv _ hdj
          · rw [if_neg hij] at hlj
            have hsame : next g v o.dst dj = g dj := by
              cases hod : o.dst with
              | none => rfl
              | some d =>
                have hne : dj ≠ d := by
                  rintro rfl
                  exact (hform _ hod).2 j oj hoj (fun e => hij e.symm) hdj
                simp [next, upd, hne]
            rw [hsame]
            exact hT _ _ _ _ (hg j oj dj hoj hlj hdj) hgr
        · intro j oj hoj hlj hdj
          rw [getD_set _ _ _ _ (by omega)] at hlj
          by_cases hij : i = j
          · subst hij
            rw [ho] at hoj; cases hoj
            exact hUv hdj
          · rw [if_neg hij] at hlj
            exact hU _ _ _ (hu j oj hoj hlj hdj) hgr
theorem wp_region_typed2 {id : Nat} {a : Act} {w : World} (ds : List Nat) (R : World → World → Prop) (T : Nat → Value → World → Prop) (U : Nat → World → Prop) (S : Nat → World → Prop) (hm : P.follows .mixedOrders = true) (hf : formB ops ds = true) (hpos : 0 < ops.size)
    (hT : ∀ d v w w'', T d v w → R w w'' → T d v w'') (hU : ∀ i w w'', U i w → R w w'' → U i w'') (hS : S 0 w.drew)
    (hstep : ∀ i o, i + 1 < ops.size → ops[i]? = some o → TStep2 P ops Q a ds R T U S i o)
    (hlast : ∀ o, ops[ops.size - 1]? = some o → ∀ g w', S (ops.size - 1) w' → (∀ d ∈ needs ops o, T d (g d) w') → (∀ i o, i + 1 < ops.size → ops[i]? = some o → o.dst = none → U i w') → ∀ K : Act → World → Prop, Shut (∀ a w'', Q .normal a w'' → K a w'') →
      if Region.wanted o (yielded ops (fill a g ds).tmps) = true then Oper.wp P o (fill a g ds) w' K Q else K ((fill a g ds).put o.dst undef) w') : (Code.region id ops true).wp P Q a w := by
  refine wp_region_any hm ?_
  have hfalse : ∀ (i : Nat), (Array.replicate ops.size false).getD i false = false := fun i => by
    simp only [Array.getD_eq_getD_getElem?, Array.getElem?_replicate]; split <;> rfl
  have h := wpAny_typed2 (Q := Q) (a0 := a) hf hT hU hstep hlast ops.size (Array.replicate ops.size false) (fun j => a.tmps.getD j undef) w.drew (by simp) (by simp)
    (fun i o _ hl => by rw [hfalse] at hl; cases hl) (by simp only [Array.getD_eq_getD_getElem?, Array.getElem?_replicate]; rw [if_pos (by omega)]; rfl) hpos (by simpa using hS) (fun i o d _ hl => by rw [hfalse] at hl; cases hl) (fun i o _ hl => by rw [hfalse] at hl; cases hl)
  rwa [fill_start] at h
def LStep2 (P : Program) (ops : Array Oper) (Q : Exit → Act → World → Prop) (a0 : Act) (ds : List Nat) (T : Nat → Value → World → Prop) (U : Nat → World → Prop) (S : Nat → World → Prop) (o : Oper) : Prop :=
  ∀ g w', S (ops.size - 1) w' → (∀ d ∈ needs ops o, T d (g d) w') → (∀ i o, i + 1 < ops.size → ops[i]? = some o → o.dst = none → U i w') → ∀ K : Act → World → Prop, Shut (∀ a w'', Q .normal a w'' → K a w'') →
    if Region.wanted o (yielded ops (fill a0 g ds).tmps) = true then Oper.wp P o (fill a0 g ds) w' K Q else K ((fill a0 g ds).put o.dst undef) w'
def Steps2 (P : Program) (ops : Array Oper) (Q : Exit → Act → World → Prop) (a0 : Act) (ds : List Nat) (R : World → World → Prop) (T : Nat → Value → World → Prop) (U : Nat → World → Prop) (S : Nat → World → Prop) : Nat → List Oper → Prop
  | _, [] => False
  | _, [o] => LStep2 P ops Q a0 ds T U S o
  | i, o :: o' :: l => TStep2 P ops Q a0 ds R T U S i o ∧ Steps2 P ops Q a0 ds R T U S (i + 1) (o' :: l)
theorem TStep2.of {o : Oper} {i : Nat} (hg : o.guard = none) (hds : ∀ d, o.dst = some d → d ∈ ds)
    (h : ∀ n g x, n < ops.size → S n x → (∀ d ∈ needs ops o, T d (g d) x) → ∃ v x', OpDone P o (fill a0 g ds) x v x' ∧ (∀ d, o.dst = some d → T d v x') ∧ (o.dst = none → U i x') ∧ S (n + 1) x' ∧ R x x') :
    TStep2 P ops Q a0 ds R T U S i o := fun n g x hn hS hd K hK => by
  rw [if_pos (wanted_none hg _)]
  obtain ⟨v, x', h1, h2, h5, h3, h4⟩ := h n g x hn hS hd
  refine h1.out K Q ?_
  rw [← fill_next hds]
  exact hK v x' h2 h5 h3 h4
theorem TStep2.one {o : Oper} {i : Nat} (d : Nat) (ho : o.dst = some d) (h : TStep P ops Q a0 ds R T S o) : TStep2 P ops Q a0 ds R T U S i o := fun n g x hn hS hd K hK =>
  h n g x hn hS hd K fun v w'' h1 h2 h3 => hK v w'' h1 (fun e => by rw [ho] at e; cases e) h2 h3
theorem LStep2.of {o : Oper} (hg : o.guard = none)
    (h : ∀ g x, S (ops.size - 1) x → (∀ d ∈ needs ops o, T d (g d) x) → (∀ i o, i + 1 < ops.size → ops[i]? = some o → o.dst = none → U i x) → ∃ v x', OpDone P o (fill a0 g ds) x v x' ∧ Q .normal ((fill a0 g ds).put o.dst v) x') : LStep2 P ops Q a0 ds T U S o := fun g x hS hd hu K hK => by
  rw [if_pos (wanted_none hg _)]
  obtain ⟨v, x', h1, h2⟩ := h g x hS hd hu
  exact h1.out K Q (hK _ _ h2)
theorem Steps2.cons {i : Nat} {o o' : Oper} {l : List Oper} (h : TStep2 P ops Q a0 ds R T U S i o) (k : Steps2 P ops Q a0 ds R T U S (i + 1) (o' :: l)) : Steps2 P ops Q a0 ds R T U S i (o :: o' :: l) := ⟨h, k⟩
theorem Steps2.last1 {i : Nat} {o : Oper} (h : LStep2 P ops Q a0 ds T U S o) : Steps2 P ops Q a0 ds R T U S i [o] := h
theorem Steps2.step : ∀ (l : List Oper) (k : Nat), Steps2 P ops Q a0 ds R T U S k l → ∀ i o, i + 1 < l.length → l[i]? = some o → TStep2 P ops Q a0 ds R T U S (k + i) o
  | [], _, h, _, _, _, _ => h.elim
  | [_], _, _, i, _, hi, _ => by simp at hi
  | o :: o' :: l, k, h, 0, _, _, he => by cases he; exact h.1
  | o :: o' :: l, k, h, i + 1, x, hi, he => by
    have := Steps2.step (o' :: l) (k + 1) h.2 i x (by simpa using hi) (by simpa using he)
    rwa [show k + 1 + i = k + (i + 1) by omega] at this
theorem Steps2.last : ∀ (l : List Oper) (k : Nat), Steps2 P ops Q a0 ds R T U S k l → ∀ o, l[l.length - 1]? = some o → LStep2 P ops Q a0 ds T U S o
  | [], _, h, _, _ => h.elim
  | [_], _, h, _, he => by cases he; exact h
  | o :: o' :: l, k, h, x, he => Steps2.last (o' :: l) (k + 1) h.2 x (by simpa using he)
theorem wp_region_steps2 {id : Nat} {a : Act} {w : World} {l : List Oper} (ds : List Nat) (R : World → World → Prop) (T : Nat → Value → World → Prop) (U : Nat → World → Prop) (S : Nat → World → Prop) (hm : P.follows .mixedOrders = true) (hf : formB l.toArray ds = true) (hpos : 0 < l.toArray.size)
    (hT : ∀ d v w w'', T d v w → R w w'' → T d v w'') (hU : ∀ i w w'', U i w → R w w'' → U i w'') (hS : S 0 w.drew) (h : Steps2 P l.toArray Q a ds R T U S 0 l) : (Code.region id l.toArray true).wp P Q a w :=
  wp_region_typed2 ds R T U S hm hf hpos hT hU hS (fun i o hi ho => by have := Steps2.step l 0 h i o (by simpa using hi) (by simpa using ho); rwa [Nat.zero_add] at this) (fun o ho => Steps2.last l 0 h o (by simpa using ho))
end
end Go.Proofs.YtakilincclnpdaaGreatDoor
/- Dc: contracts: drawn curves. No conditions. -/
namespace Go.Proofs.YtakilincclnpdaaGreatDoor
open Go.RowKit

theorem below_allocD (w : World) (o : Obj) : Below w.heap.size w (w.alloc o) := (Below.refl _ _).alloc (Nat.le_refl _) o
theorem grown_frozen {a b : World} {B : Nat} (h : a.grownBy b (some B)) {k o : Nat} (hk : k < a.heap.size) (hne : k ≠ B) : b.frozen? ⟨k, o, none⟩ = a.frozen? ⟨k, o, none⟩ := by
  have e := h.block k hk (by intro e; cases e; exact hne rfl)
  simp only [World.frozen?, e]
def AnyI (v : Value) : Prop := ∃ n : Int, v = .int .i64 n ∧ I64 n
/-- a box of two whole numbers, another than the reader's. -/
def BoxC (B : Nat) (w : World) (n : Nat) (a b : Int) : Prop := n < w.heap.size ∧ n ≠ B ∧ w.cell? ⟨n, 0, none⟩ = some (.int .i64 a) ∧ w.cell? ⟨n, 1, none⟩ = some (.int .i64 b) ∧ w.frozen? ⟨n, 0, none⟩ = false ∧ w.frozen? ⟨n, 1, none⟩ = false
theorem BoxC.keep {B n : Nat} {w w' : World} {a b : Int} (h : BoxC B w n a b) (g : w.grownBy w' (some B)) : BoxC B w' n a b := by
  obtain ⟨h1, h2, h3, h4, h5, h6⟩ := h
  exact ⟨Nat.lt_of_lt_of_le h1 g.size, h2, (grown_cell g h1 h2).trans h3, (grown_cell g h1 h2).trans h4, (grown_frozen g h1 h2).trans h5, (grown_frozen g h1 h2).trans h6⟩
theorem BoxC.new {B : Nat} {w : World} (a b : Int) (t : TypeId) (hB : B < w.heap.size) : BoxC B (w.alloc (.cells #[.int .i64 a, .int .i64 b] t)) w.heap.size a b :=
  ⟨by simp, by omega, by simp [go_sem], by simp [go_sem], by simp [go_sem], by simp [go_sem]⟩
theorem BoxC.put {B n : Nat} {w : World} {a b : Int} (h : BoxC B w n a b) (a' b' : Int) : BoxC B ((w.setCell ⟨n, 0, none⟩ (.int .i64 a')).setCell ⟨n, 1, none⟩ (.int .i64 b')) n a' b' := by
  obtain ⟨h1, h2, h3, h4, h5, h6⟩ := h
  exact ⟨by simpa using h1, h2, by simp [go_sem, h3], by simp [go_sem, h4], by simp [go_sem, h5], by simp [go_sem, h6]⟩
theorem BoxC.put0 {B n : Nat} {w : World} {a b : Int} (h : BoxC B w n a b) (a' : Int) : BoxC B (w.setCell ⟨n, 0, none⟩ (.int .i64 a')) n a' b := by
  obtain ⟨h1, h2, h3, h4, h5, h6⟩ := h
  exact ⟨by simpa using h1, h2, by simp [go_sem, h3], by simp [go_sem, h4], by simp [go_sem, h5], by simp [go_sem, h6]⟩
theorem BoxC.put1 {B n : Nat} {w : World} {a b : Int} (h : BoxC B w n a b) (b' : Int) : BoxC B (w.setCell ⟨n, 1, none⟩ (.int .i64 b')) n a b' := by
  obtain ⟨h1, h2, h3, h4, h5, h6⟩ := h
  exact ⟨by simpa using h1, h2, by simp [go_sem, h3], by simp [go_sem, h4], by simp [go_sem, h5], by simp [go_sem, h6]⟩
theorem BoxC.far1 {B n m o : Nat} {w : World} {a b : Int} {v : Value} (h : BoxC B w n a b) (_hne : n ≠ m) : BoxC B (w.setCell ⟨m, o, none⟩ v) n a b := by
  obtain ⟨h1, h2, h3, h4, h5, h6⟩ := h
  exact ⟨by simpa using h1, h2, by simp [go_sem, h3], by simp [go_sem, h4], by simp [go_sem, h5], by simp [go_sem, h6]⟩
theorem set_grown {B n o : Nat} {w V : World} (g : w.grownBy V (some B)) (hn : w.heap.size ≤ n) (a : Value) : w.grownBy (V.setCell ⟨n, o, none⟩ a) (some B) :=
  ⟨g.os, g.tape, g.output, by simpa using g.size, fun i hi hne => by
    rw [Below.heap_setCell _ _ _ _ (by dsimp only; omega)]; exact g.block i hi hne⟩
theorem set_cr {B n o : Nat} {V : World} {lim : Int} (h : Cr V B lim) (hlt : B < n) (a : Value) : Cr (V.setCell ⟨n, o, none⟩ a) B lim :=
  h.keep (Below.setCell (Below.refl _ _) (by dsimp only; omega) _)
theorem rdx_lit {B : Nat} {w : World} (hB : B < w.heap.size) (xs : List Int) (t : TypeId) (h0 : 0 < xs.length) (h1 : xs.length ≤ 1000) : RdX B (w.alloc (.cells (xs.map (Value.int .i64)).toArray t)) (.slice (some ⟨w.heap.size, 0, none⟩) xs.length xs.length) xs :=
  ⟨w.heap.size, 0, xs.length, rfl, by omega, by simp, h0, h1, fun i hi => by simp [go_sem, List.getD_eq_getElem?_getD, hi]⟩
theorem amongLit_any (B : Nat) (lim : Int) (w : World) (xs : List Int) (t : TypeId) (h : Cr w B lim) (hl : lim ≤ 3000000000000000000) (hx : ∀ n ∈ xs, I64 n) (h0 : 0 < xs.length) (h1 : xs.length ≤ 1000) :
    Calls Tryz.prog 65 #[.pointer (some ⟨B, 0, none⟩), .slice (some ⟨w.heap.size, 0, none⟩) xs.length xs.length] (w.alloc (.cells (xs.map (Value.int .i64)).toArray t)) (RetC AnyI B (lim + 2) w) :=
  (among_any B lim _ xs _ (h.keep' (below_allocD w _)) hl (rdx_lit h.lt xs t h0 h1)).mono fun _ _ ⟨v, he, ⟨n, hv, hn⟩, hg, hc⟩ => ⟨v, he, ⟨n, hv, hx n hn⟩, grown_trans (below_grown B (below_allocD w _)) hg, hc⟩
set_option maxHeartbeats 4000000 in
set_option maxRecDepth 100000 in
theorem curve_any (B : Nat) (lim : Int) (w : World) (h : Cr w B lim) (hl : lim ≤ 2000000000000000000) :
    Calls Tryz.prog 164 #[.pointer (some ⟨B, 0, none⟩)] w (RetC (fun v => ∃ a b : Int, v = .agg #[.int .i64 a, .int .i64 b] ∧ curveB a b = true) B (lim + 100) w) := by
  have hB := h.lt
  have hc0 : Cr (w.alloc (.cells #[.int .i64 0, .int .i64 0] 50)) B lim := h.keep' (below_allocD w _)
  have hg0 : w.grownBy (w.alloc (.cells #[.int .i64 0, .int .i64 0] 50)) (some B) := below_grown B (below_allocD w _)
  have hr0 := BoxC.new 0 0 50 hB
  have HC0 := Lib.hid hc0; have HG0 := Lib.hid hg0; have HR0 := Lib.hid hr0; clear hc0 hg0 hr0 h
  go_enter Tryz.func164, Tryz.ntmps164
  go_wp2_with fail
  refine (pick_any B _ 41 _ HC0.out (by omega) (by omega) (by omega)).mono ?_; rintro e w1 ⟨v, rfl, ⟨x, rfl, x0, x1⟩, hg1, hc1⟩
  have HC1 := Lib.hid hc1; have HG1 := Lib.hid (grown_trans HG0.out hg1); have HR1 := Lib.hid (HR0.out.keep hg1); clear hg1 hc1
  go_wp2_with fail
  refine (pick_any B _ 2001 _ HC1.out (by omega) (by omega) (by omega)).mono ?_; rintro e w2 ⟨v, rfl, ⟨y, rfl, y0, y1⟩, hg2, hc2⟩
  have HC2 := Lib.hid hc2; have HG2 := Lib.hid (grown_trans HG1.out hg2); have HR2 := Lib.hid (HR1.out.keep hg2); clear hg2 hc2
  go_wp2_with fail
  refine (amongLit_any B _ _ [-16, -1, 0, 1, -2, -7, -25, 4, x - 20, y - 1000] _ HC2.out (by omega) (by intro n hn; simp only [List.mem_cons, List.not_mem_nil, or_false] at hn; unfold I64; omega) (by simp) (by simp)).mono ?_; rintro e w3 ⟨v, rfl, ⟨a, rfl, ai⟩, hg3, hc3⟩
  have HC3 := Lib.hid hc3; have HG3 := Lib.hid (grown_trans HG2.out hg3); have HR3 := Lib.hid (HR2.out.keep hg3); clear hg3 hc3
  go_wp2_with fail
  refine (pick_any B _ 41 _ HC3.out (by omega) (by omega) (by omega)).mono ?_; rintro e w4 ⟨v, rfl, ⟨z, rfl, z0, z1⟩, hg4, hc4⟩
  have HC4 := Lib.hid hc4; have HG4 := Lib.hid (grown_trans HG3.out hg4); have HR4 := Lib.hid (HR3.out.keep hg4); clear hg4 hc4
  go_wp2_with fail
  refine (pick_any B _ 20001 _ HC4.out (by omega) (by omega) (by omega)).mono ?_; rintro e w5 ⟨v, rfl, ⟨u, rfl, u0, u1⟩, hg5, hc5⟩
  have HC5 := Lib.hid hc5; have HG5 := Lib.hid (grown_trans HG4.out hg5); have HR5 := Lib.hid (HR4.out.keep hg5); clear hg5 hc5
  go_wp2_with fail
  refine (amongLit_any B _ _ [16, 0, 0, 1, -1, 10, 36, z - 20, u - 10000] _ HC5.out (by omega) (by intro n hn; simp only [List.mem_cons, List.not_mem_nil, or_false] at hn; unfold I64; omega) (by simp) (by simp)).mono ?_; rintro e w6 ⟨v, rfl, ⟨b, rfl, bi⟩, hg6, hc6⟩
  have HC6 := Lib.hid hc6; have HG6 := Lib.hid (grown_trans HG5.out hg6); have HR6 := Lib.hid (HR5.out.keep hg6); clear hg6 hc6
  go_wp2_with fail
  have hc7 : Cr (w6.alloc (.cells #[.int .i64 a, .int .i64 b] 50)) B _ := HC6.out.keep' (below_allocD _ _)
  have hg7 : w6.grownBy (w6.alloc (.cells #[.int .i64 a, .int .i64 b] 50)) (some B) := below_grown B (below_allocD _ _)
  have hb7 := BoxC.new a b 50 HC6.out.lt
  have hs7 := HG6.out.size
  have hr7 := HR6.out.1
  generalize w6.alloc (.cells #[.int .i64 a, .int .i64 b] 50) = w7 at hc7 hg7 hb7 ⊢
  generalize w6.heap.size = n at hb7 hs7 hr7 ⊢
  have HB7 := Lib.hid hb7; clear hb7
  have HC7 := Lib.hid hc7; have HG7 := Lib.hid (grown_trans HG6.out hg7); have HR7 := Lib.hid (HR6.out.keep hg7); clear hg7 hc7
  refine (one_any B _ 8 _ HC7.out (by omega) (by omega) (by omega)).mono ?_; rintro e w8 ⟨v, rfl, ⟨bo, rfl⟩, hg8, hc8⟩
  have HC8 := Lib.hid hc8; have HG8 := Lib.hid (grown_trans HG7.out hg8); have HR8 := Lib.hid (HR7.out.keep hg8); have HB8 := Lib.hid (HB7.out.keep hg8); clear hg8 hc8
  rcases bo with _ | _
  · go_wp2_with fail
    refine (one_any B _ 16 _ HC8.out (by omega) (by omega) (by omega)).mono ?_; rintro e w9 ⟨v, rfl, ⟨bo, rfl⟩, hg9, hc9⟩
    have HC9 := Lib.hid hc9; have HG9 := Lib.hid (grown_trans HG8.out hg9); have HR9 := Lib.hid (HR8.out.keep hg9); have HB9 := Lib.hid (HB8.out.keep hg9); clear hg9 hc9
    rcases bo with _ | _
    · skip
      obtain ⟨b1, b2, b3, b4, b5, b6⟩ := HB9.out
      obtain ⟨r1, r2, r3, r4, r5, r6⟩ := HR9.out
      go_wp2_with fail
      refine (ecGood_any a b _).mono ?_; rintro e w10 ⟨rfl, hb10⟩
      have hg10 := below_grown B hb10; have hc10 := HC9.out.keep' hb10; have HHQ : True := trivial; clear b1 b2 b3 b4 b5 b6 r1 r2 r3 r4 r5 r6 hb10
      have HC10 := Lib.hid hc10; have HG10 := Lib.hid (grown_trans HG9.out hg10); have HR10 := Lib.hid (HR9.out.keep hg10); have HB10 := Lib.hid (HB9.out.keep hg10); clear hg10 hc10
      obtain ⟨b1, b2, b3, b4, b5, b6⟩ := HB10.out
      obtain ⟨r1, r2, r3, r4, r5, r6⟩ := HR10.out
      by_cases hq : curveB a b = true
      · rw [hq]
        go_wp2_with fail
        refine bodyPost_ret (by simp (maxDischargeDepth := 3) [results, Tryz.results164, go_sem, *]; try rfl) rfl ?_
        exact ⟨_, rfl, ⟨a, b, rfl, hq⟩, set_grown (set_grown HG10.out (Nat.le_refl _) _) (Nat.le_refl _) _, (set_cr (set_cr HC10.out hB _) hB _).le (by omega)⟩
      · rw [Bool.eq_false_iff.2 hq]
        go_wp2_with fail
        refine bodyPost_ret (by simp (maxDischargeDepth := 3) [results, Tryz.results164, go_sem, *]; try rfl) rfl ?_
        exact ⟨_, rfl, ⟨-16, 16, rfl, by decide⟩, set_grown (set_grown HG10.out (Nat.le_refl _) _) (Nat.le_refl _) _, (set_cr (set_cr HC10.out hB _) hB _).le (by omega)⟩
    · go_wp2_with fail
      refine (amongLit_any B _ _ [-1000, 1000] _ HC9.out (by omega) (by intro n hn; simp only [List.mem_cons, List.not_mem_nil, or_false] at hn; unfold I64; omega) (by simp) (by simp)).mono ?_; rintro e w11 ⟨v, rfl, ⟨c, rfl, ci⟩, hg11, hc11⟩
      have HC11 := Lib.hid hc11; have HG11 := Lib.hid (grown_trans HG9.out hg11); have HR11 := Lib.hid (HR9.out.keep hg11); have HB11 := Lib.hid (HB9.out.keep hg11); clear hg11 hc11
      go_wp2_with fail
      refine (amongLit_any B _ _ [-10000, 10000] _ HC11.out (by omega) (by intro n hn; simp only [List.mem_cons, List.not_mem_nil, or_false] at hn; unfold I64; omega) (by simp) (by simp)).mono ?_; rintro e w12 ⟨v, rfl, ⟨d, rfl, di⟩, hg12, hc12⟩
      have HC12 := Lib.hid hc12; have HG12 := Lib.hid (grown_trans HG11.out hg12); have HR12 := Lib.hid (HR11.out.keep hg12); have HB12 := Lib.hid (HB11.out.keep hg12); clear hg12 hc12
      obtain ⟨b1, b2, b3, b4, b5, b6⟩ := HB12.out
      go_wp2_with fail
      clear b1 b2 b3 b4 b5 b6
      have hc13 := set_cr (set_cr HC12.out (n := n) (o := 0) (by omega) (.int .i64 (c))) (n := n) (o := 1) (by omega) (.int .i64 (d))
      have hG13 := set_grown (set_grown HG12.out (n := n) (o := 0) (by omega) (.int .i64 (c))) (n := n) (o := 1) (by omega) (.int .i64 (d))
      have hb13 := HB12.out.put (c) (d)
      have hr13 := (HR12.out.far1 (m := n) (o := 0) (v := .int .i64 (c)) (by omega)).far1 (m := n) (o := 1) (v := .int .i64 (d)) (by omega)
      generalize (w12.setCell ⟨n, 0, none⟩ (.int .i64 (c))).setCell ⟨n, 1, none⟩ (.int .i64 (d)) = w13 at hc13 hG13 hb13 hr13 ⊢
      have HC13 := Lib.hid hc13; have HG13 := Lib.hid hG13; have HB13 := Lib.hid hb13; have HR13 := Lib.hid hr13; clear hc13 hG13 hb13 hr13
      obtain ⟨b1, b2, b3, b4, b5, b6⟩ := HB13.out
      obtain ⟨r1, r2, r3, r4, r5, r6⟩ := HR13.out
      refine (ecGood_any c d _).mono ?_; rintro e w14 ⟨rfl, hb14⟩
      have hg14 := below_grown B hb14; have hc14 := HC13.out.keep' hb14; have HHQ : True := trivial; clear b1 b2 b3 b4 b5 b6 r1 r2 r3 r4 r5 r6 hb14
      have HC14 := Lib.hid hc14; have HG14 := Lib.hid (grown_trans HG13.out hg14); have HR14 := Lib.hid (HR13.out.keep hg14); have HB14 := Lib.hid (HB13.out.keep hg14); clear hg14 hc14
      obtain ⟨b1, b2, b3, b4, b5, b6⟩ := HB14.out
      obtain ⟨r1, r2, r3, r4, r5, r6⟩ := HR14.out
      by_cases hq : curveB c d = true
      · rw [hq]
        go_wp2_with fail
        refine bodyPost_ret (by simp (maxDischargeDepth := 3) [results, Tryz.results164, go_sem, *]; try rfl) rfl ?_
        exact ⟨_, rfl, ⟨c, d, rfl, hq⟩, set_grown (set_grown HG14.out (Nat.le_refl _) _) (Nat.le_refl _) _, (set_cr (set_cr HC14.out hB _) hB _).le (by omega)⟩
      · rw [Bool.eq_false_iff.2 hq]
        go_wp2_with fail
        refine bodyPost_ret (by simp (maxDischargeDepth := 3) [results, Tryz.results164, go_sem, *]; try rfl) rfl ?_
        exact ⟨_, rfl, ⟨-16, 16, rfl, by decide⟩, set_grown (set_grown HG14.out (Nat.le_refl _) _) (Nat.le_refl _) _, (set_cr (set_cr HC14.out hB _) hB _).le (by omega)⟩
  · go_wp2_with fail
    refine (pick_any B _ 21 _ HC8.out (by omega) (by omega) (by omega)).mono ?_; rintro e w15 ⟨v, rfl, ⟨p, rfl, p0, p1⟩, hg15, hc15⟩
    have HC15 := Lib.hid hc15; have HG15 := Lib.hid (grown_trans HG8.out hg15); have HR15 := Lib.hid (HR8.out.keep hg15); have HB15 := Lib.hid (HB8.out.keep hg15); clear hg15 hc15
    go_wp2_with fail
    refine (pick_any B _ 21 _ HC15.out (by omega) (by omega) (by omega)).mono ?_; rintro e w16 ⟨v, rfl, ⟨q, rfl, q0, q1⟩, hg16, hc16⟩
    have HC16 := Lib.hid hc16; have HG16 := Lib.hid (grown_trans HG15.out hg16); have HR16 := Lib.hid (HR15.out.keep hg16); have HB16 := Lib.hid (HB15.out.keep hg16); clear hg16 hc16
    obtain ⟨b1, b2, b3, b4, b5, b6⟩ := HB16.out
    go_wp2_with fail
    clear b1 b2 b3 b4 b5 b6
    have hc17 := set_cr (set_cr HC16.out (n := n) (o := 0) (by omega) (.int .i64 (16 * (p - 10)))) (n := n) (o := 1) (by omega) (.int .i64 (64 * (q - 10)))
    have hG17 := set_grown (set_grown HG16.out (n := n) (o := 0) (by omega) (.int .i64 (16 * (p - 10)))) (n := n) (o := 1) (by omega) (.int .i64 (64 * (q - 10)))
    have hb17 := HB16.out.put (16 * (p - 10)) (64 * (q - 10))
    have hr17 := (HR16.out.far1 (m := n) (o := 0) (v := .int .i64 (16 * (p - 10))) (by omega)).far1 (m := n) (o := 1) (v := .int .i64 (64 * (q - 10))) (by omega)
    generalize (w16.setCell ⟨n, 0, none⟩ (.int .i64 (16 * (p - 10)))).setCell ⟨n, 1, none⟩ (.int .i64 (64 * (q - 10))) = w17 at hc17 hG17 hb17 hr17 ⊢
    have HC17 := Lib.hid hc17; have HG17 := Lib.hid hG17; have HB17 := Lib.hid hb17; have HR17 := Lib.hid hr17; clear hc17 hG17 hb17 hr17
    refine (one_any B _ 16 _ HC17.out (by omega) (by omega) (by omega)).mono ?_; rintro e w18 ⟨v, rfl, ⟨bo, rfl⟩, hg18, hc18⟩
    have HC18 := Lib.hid hc18; have HG18 := Lib.hid (grown_trans HG17.out hg18); have HR18 := Lib.hid (HR17.out.keep hg18); have HB18 := Lib.hid (HB17.out.keep hg18); clear hg18 hc18
    rcases bo with _ | _
    · skip
      obtain ⟨b1, b2, b3, b4, b5, b6⟩ := HB18.out
      obtain ⟨r1, r2, r3, r4, r5, r6⟩ := HR18.out
      go_wp2_with fail
      refine (ecGood_any (16 * (p - 10)) (64 * (q - 10)) _).mono ?_; rintro e w19 ⟨rfl, hb19⟩
      have hg19 := below_grown B hb19; have hc19 := HC18.out.keep' hb19; have HHQ : True := trivial; clear b1 b2 b3 b4 b5 b6 r1 r2 r3 r4 r5 r6 hb19
      have HC19 := Lib.hid hc19; have HG19 := Lib.hid (grown_trans HG18.out hg19); have HR19 := Lib.hid (HR18.out.keep hg19); have HB19 := Lib.hid (HB18.out.keep hg19); clear hg19 hc19
      obtain ⟨b1, b2, b3, b4, b5, b6⟩ := HB19.out
      obtain ⟨r1, r2, r3, r4, r5, r6⟩ := HR19.out
      by_cases hq : curveB (16 * (p - 10)) (64 * (q - 10)) = true
      · rw [hq]
        go_wp2_with fail
        refine bodyPost_ret (by simp (maxDischargeDepth := 3) [results, Tryz.results164, go_sem, *]; try rfl) rfl ?_
        exact ⟨_, rfl, ⟨(16 * (p - 10)), (64 * (q - 10)), rfl, hq⟩, set_grown (set_grown HG19.out (Nat.le_refl _) _) (Nat.le_refl _) _, (set_cr (set_cr HC19.out hB _) hB _).le (by omega)⟩
      · rw [Bool.eq_false_iff.2 hq]
        go_wp2_with fail
        refine bodyPost_ret (by simp (maxDischargeDepth := 3) [results, Tryz.results164, go_sem, *]; try rfl) rfl ?_
        exact ⟨_, rfl, ⟨-16, 16, rfl, by decide⟩, set_grown (set_grown HG19.out (Nat.le_refl _) _) (Nat.le_refl _) _, (set_cr (set_cr HC19.out hB _) hB _).le (by omega)⟩
    · go_wp2_with fail
      refine (amongLit_any B _ _ [-1000, 1000] _ HC18.out (by omega) (by intro n hn; simp only [List.mem_cons, List.not_mem_nil, or_false] at hn; unfold I64; omega) (by simp) (by simp)).mono ?_; rintro e w20 ⟨v, rfl, ⟨c, rfl, ci⟩, hg20, hc20⟩
      have HC20 := Lib.hid hc20; have HG20 := Lib.hid (grown_trans HG18.out hg20); have HR20 := Lib.hid (HR18.out.keep hg20); have HB20 := Lib.hid (HB18.out.keep hg20); clear hg20 hc20
      go_wp2_with fail
      refine (amongLit_any B _ _ [-10000, 10000] _ HC20.out (by omega) (by intro n hn; simp only [List.mem_cons, List.not_mem_nil, or_false] at hn; unfold I64; omega) (by simp) (by simp)).mono ?_; rintro e w21 ⟨v, rfl, ⟨d, rfl, di⟩, hg21, hc21⟩
      have HC21 := Lib.hid hc21; have HG21 := Lib.hid (grown_trans HG20.out hg21); have HR21 := Lib.hid (HR20.out.keep hg21); have HB21 := Lib.hid (HB20.out.keep hg21); clear hg21 hc21
      obtain ⟨b1, b2, b3, b4, b5, b6⟩ := HB21.out
      go_wp2_with fail
      clear b1 b2 b3 b4 b5 b6
      have hc22 := set_cr (set_cr HC21.out (n := n) (o := 0) (by omega) (.int .i64 (c))) (n := n) (o := 1) (by omega) (.int .i64 (d))
      have hG22 := set_grown (set_grown HG21.out (n := n) (o := 0) (by omega) (.int .i64 (c))) (n := n) (o := 1) (by omega) (.int .i64 (d))
      have hb22 := HB21.out.put (c) (d)
      have hr22 := (HR21.out.far1 (m := n) (o := 0) (v := .int .i64 (c)) (by omega)).far1 (m := n) (o := 1) (v := .int .i64 (d)) (by omega)
      generalize (w21.setCell ⟨n, 0, none⟩ (.int .i64 (c))).setCell ⟨n, 1, none⟩ (.int .i64 (d)) = w22 at hc22 hG22 hb22 hr22 ⊢
      have HC22 := Lib.hid hc22; have HG22 := Lib.hid hG22; have HB22 := Lib.hid hb22; have HR22 := Lib.hid hr22; clear hc22 hG22 hb22 hr22
      obtain ⟨b1, b2, b3, b4, b5, b6⟩ := HB22.out
      obtain ⟨r1, r2, r3, r4, r5, r6⟩ := HR22.out
      refine (ecGood_any c d _).mono ?_; rintro e w23 ⟨rfl, hb23⟩
      have hg23 := below_grown B hb23; have hc23 := HC22.out.keep' hb23; have HHQ : True := trivial; clear b1 b2 b3 b4 b5 b6 r1 r2 r3 r4 r5 r6 hb23
      have HC23 := Lib.hid hc23; have HG23 := Lib.hid (grown_trans HG22.out hg23); have HR23 := Lib.hid (HR22.out.keep hg23); have HB23 := Lib.hid (HB22.out.keep hg23); clear hg23 hc23
      obtain ⟨b1, b2, b3, b4, b5, b6⟩ := HB23.out
      obtain ⟨r1, r2, r3, r4, r5, r6⟩ := HR23.out
      by_cases hq : curveB c d = true
      · rw [hq]
        go_wp2_with fail
        refine bodyPost_ret (by simp (maxDischargeDepth := 3) [results, Tryz.results164, go_sem, *]; try rfl) rfl ?_
        exact ⟨_, rfl, ⟨c, d, rfl, hq⟩, set_grown (set_grown HG23.out (Nat.le_refl _) _) (Nat.le_refl _) _, (set_cr (set_cr HC23.out hB _) hB _).le (by omega)⟩
      · rw [Bool.eq_false_iff.2 hq]
        go_wp2_with fail
        refine bodyPost_ret (by simp (maxDischargeDepth := 3) [results, Tryz.results164, go_sem, *]; try rfl) rfl ?_
        exact ⟨_, rfl, ⟨-16, 16, rfl, by decide⟩, set_grown (set_grown HG23.out (Nat.le_refl _) _) (Nat.le_refl _) _, (set_cr (set_cr HC23.out hB _) hB _).le (by omega)⟩
theorem curve_i64 {a b : Int} (h : curveB a b = true) : I64 a ∧ I64 b := by
  obtain ⟨h1, h2, h3, h4, _⟩ := curveB_true.1 h
  unfold I64
  omega
set_option maxHeartbeats 4000000 in
set_option maxRecDepth 100000 in
theorem anyCurve_any (B : Nat) (lim : Int) (w : World) (h : Cr w B lim) (hl : lim ≤ 1000000000000000000) :
    Calls Tryz.prog 140 #[.pointer (some ⟨B, 0, none⟩)] w (RetC (fun v => ∃ a b : Int, v = .agg #[.int .i64 a, .int .i64 b] ∧ I64 a ∧ I64 b) B (lim + 200) w) := by
  have hB := h.lt
  have hc0 : Cr (w.alloc (.cells #[.int .i64 0, .int .i64 0] 50)) B lim := h.keep' (below_allocD w _)
  have hg0 : w.grownBy (w.alloc (.cells #[.int .i64 0, .int .i64 0] 50)) (some B) := below_grown B (below_allocD w _)
  have hr0 := BoxC.new 0 0 50 hB
  have HC0 := Lib.hid hc0; have HG0 := Lib.hid hg0; have HR0 := Lib.hid hr0; clear hc0 hg0 hr0 h
  go_enter Tryz.func140, Tryz.ntmps140
  go_wp2_with fail
  refine (curve_any B _ _ HC0.out (by omega)).mono ?_; rintro e w1 ⟨v, rfl, ⟨a, b, rfl, hq⟩, hg1, hc1⟩
  have hab := curve_i64 hq; clear hq
  have HC1 := Lib.hid hc1; have HG1 := Lib.hid (grown_trans HG0.out hg1); have HR1 := Lib.hid (HR0.out.keep hg1); clear hg1 hc1
  go_wp2_with fail
  have hc2 : Cr (w1.alloc (.cells #[.int .i64 a, .int .i64 b] 50)) B _ := HC1.out.keep' (below_allocD _ _)
  have hg2 : w1.grownBy (w1.alloc (.cells #[.int .i64 a, .int .i64 b] 50)) (some B) := below_grown B (below_allocD _ _)
  have hb2 := BoxC.new a b 50 HC1.out.lt
  have hs2 := HG1.out.size
  have hr2 := HR1.out.1
  generalize w1.alloc (.cells #[.int .i64 a, .int .i64 b] 50) = w2 at hc2 hg2 hb2 ⊢
  generalize w1.heap.size = n at hb2 hs2 hr2 ⊢
  have HB2 := Lib.hid hb2; clear hb2
  have HC2 := Lib.hid hc2; have HG2 := Lib.hid (grown_trans HG1.out hg2); have HR2 := Lib.hid (HR1.out.keep hg2); clear hg2 hc2
  refine (pick_any B _ 30 _ HC2.out (by omega) (by omega) (by omega)).mono ?_; rintro e w3 ⟨v, rfl, ⟨x, rfl, x0, x1⟩, hg3, hc3⟩
  have HC3 := Lib.hid hc3; have HG3 := Lib.hid (grown_trans HG2.out hg3); have HR3 := Lib.hid (HR2.out.keep hg3); have HB3 := Lib.hid (HB2.out.keep hg3); clear hg3 hc3
  by_cases hx0 : x = 0
  · subst hx0
    go_wp2_with fail
    refine (amongLit_any B _ _ [-1001, -1000, 1000, 1001, -9223372036854775808] _ HC3.out (by omega) (by intro n hn; simp only [List.mem_cons, List.not_mem_nil, or_false] at hn; unfold I64; omega) (by simp) (by simp)).mono ?_; rintro e w4 ⟨v, rfl, ⟨c, rfl, ci⟩, hg4, hc4⟩
    have HC4 := Lib.hid hc4; have HG4 := Lib.hid (grown_trans HG3.out hg4); have HR4 := Lib.hid (HR3.out.keep hg4); have HB4 := Lib.hid (HB3.out.keep hg4); clear hg4 hc4
    skip
    obtain ⟨b1, b2, b3, b4, b5, b6⟩ := HB4.out
    obtain ⟨r1, r2, r3, r4, r5, r6⟩ := HR4.out
    go_wp2_with fail
    refine bodyPost_ret (by simp (maxDischargeDepth := 3) [results, Tryz.results140, go_sem, *]; try rfl) rfl ?_
    exact ⟨_, rfl, ⟨c, b, rfl, ci, hab.2⟩, set_grown (set_grown (set_grown HG4.out (by omega) _) (Nat.le_refl _) _) (Nat.le_refl _) _, (set_cr (set_cr (set_cr HC4.out (by omega) _) hB _) hB _).le (by omega)⟩
  by_cases hx1 : x = 1
  · subst hx1
    go_wp2_with fail
    refine (amongLit_any B _ _ [-10001, -10000, 10000, 10001, 9223372036854775807] _ HC3.out (by omega) (by intro n hn; simp only [List.mem_cons, List.not_mem_nil, or_false] at hn; unfold I64; omega) (by simp) (by simp)).mono ?_; rintro e w5 ⟨v, rfl, ⟨c, rfl, ci⟩, hg5, hc5⟩
    have HC5 := Lib.hid hc5; have HG5 := Lib.hid (grown_trans HG3.out hg5); have HR5 := Lib.hid (HR3.out.keep hg5); have HB5 := Lib.hid (HB3.out.keep hg5); clear hg5 hc5
    skip
    obtain ⟨b1, b2, b3, b4, b5, b6⟩ := HB5.out
    obtain ⟨r1, r2, r3, r4, r5, r6⟩ := HR5.out
    go_wp2_with fail
    refine bodyPost_ret (by simp (maxDischargeDepth := 3) [results, Tryz.results140, go_sem, *]; try rfl) rfl ?_
    exact ⟨_, rfl, ⟨a, c, rfl, hab.1, ci⟩, set_grown (set_grown (set_grown HG5.out (by omega) _) (Nat.le_refl _) _) (Nat.le_refl _) _, (set_cr (set_cr (set_cr HC5.out (by omega) _) hB _) hB _).le (by omega)⟩
  by_cases hx2 : x = 2
  · subst hx2
    go_wp2_with fail
    refine (amongLit_any B _ _ [0, -3, -12] _ HC3.out (by omega) (by intro n hn; simp only [List.mem_cons, List.not_mem_nil, or_false] at hn; unfold I64; omega) (by simp) (by simp)).mono ?_; rintro e w6 ⟨v, rfl, ⟨c, rfl, ci⟩, hg6, hc6⟩
    have HC6 := Lib.hid hc6; have HG6 := Lib.hid (grown_trans HG3.out hg6); have HR6 := Lib.hid (HR3.out.keep hg6); have HB6 := Lib.hid (HB3.out.keep hg6); clear hg6 hc6
    go_wp2_with fail
    refine (amongLit_any B _ _ [0, 2, 16] _ HC6.out (by omega) (by intro n hn; simp only [List.mem_cons, List.not_mem_nil, or_false] at hn; unfold I64; omega) (by simp) (by simp)).mono ?_; rintro e w7 ⟨v, rfl, ⟨d, rfl, di⟩, hg7, hc7⟩
    have HC7 := Lib.hid hc7; have HG7 := Lib.hid (grown_trans HG6.out hg7); have HR7 := Lib.hid (HR6.out.keep hg7); have HB7 := Lib.hid (HB6.out.keep hg7); clear hg7 hc7
    obtain ⟨b1, b2, b3, b4, b5, b6⟩ := HB7.out
    obtain ⟨r1, r2, r3, r4, r5, r6⟩ := HR7.out
    go_wp2_with fail
    refine bodyPost_ret (by simp (maxDischargeDepth := 3) [results, Tryz.results140, go_sem, *]; try rfl) rfl ?_
    exact ⟨_, rfl, ⟨c, d, rfl, ci, di⟩, set_grown (set_grown (set_grown (set_grown HG7.out (by omega) _) (by omega) _) (Nat.le_refl _) _) (Nat.le_refl _) _, (set_cr (set_cr (set_cr (set_cr HC7.out (by omega) _) (by omega) _) hB _) hB _).le (by omega)⟩
  have e0 : (x == 0) = false := by simp [hx0]
  have e1 : (x == 1) = false := by simp [hx1]
  have e2 : (x == 2) = false := by simp [hx2]
  obtain ⟨b1, b2, b3, b4, b5, b6⟩ := HB3.out
  obtain ⟨r1, r2, r3, r4, r5, r6⟩ := HR3.out
  go_wp2_with fail
  refine bodyPost_ret (by simp (maxDischargeDepth := 3) [results, Tryz.results140, go_sem, *]; try rfl) rfl ?_
  exact ⟨_, rfl, ⟨a, b, rfl, hab.1, hab.2⟩, set_grown (set_grown HG3.out (Nat.le_refl _) _) (Nat.le_refl _) _, (set_cr (set_cr HC3.out hB _) hB _).le (by omega)⟩
end Go.Proofs.YtakilincclnpdaaGreatDoor
/- Dk: words for walks of what is drawn: worlds named, boxes of two and three numbers, literals. No conditions. -/
namespace Go.Proofs.YtakilincclnpdaaGreatDoor
open Go.RowKit

theorem calls_gen {P : Program} {f : FuncId} {args : Array Value} {w : World} {Q : Ending → World → Prop} (h : ∀ V, w = V → Calls P f args V Q) : Calls P f args w Q := h w rfl
theorem cr_drewK {w : World} {B : Nat} {lim : Int} (h : Cr w B lim) : Cr w.drew B lim := h
theorem cr_eq {a b : World} {B : Nat} {lim : Int} (e : a = b) (h : Cr a B lim) : Cr b B lim := e ▸ h
theorem gr_eq {a b c : World} {B : Option Nat} (e : a = b) (h : c.grownBy a B) : c.grownBy b B := e ▸ h
theorem i64w (x : Int) : I64 (IntKind.i64.wrap x) := by
  unfold I64 IntKind.wrap
  simp only [IntKind.bits, IntKind.signed]
  simp
  omega
theorem i64w' (x : Int) : I64 (wrap64 x) := by unfold I64 wrap64; omega
/-- a box of three whole numbers, another than the reader's. -/
def BoxP (B : Nat) (w : World) (n : Nat) (x y e : Int) : Prop := n < w.heap.size ∧ n ≠ B ∧ w.cell? ⟨n, 0, none⟩ = some (.int .i64 x) ∧ w.cell? ⟨n, 1, none⟩ = some (.int .i64 y) ∧ w.cell? ⟨n, 2, none⟩ = some (.int .i64 e) ∧ w.frozen? ⟨n, 0, none⟩ = false ∧ w.frozen? ⟨n, 1, none⟩ = false ∧ w.frozen? ⟨n, 2, none⟩ = false
theorem BoxP.keep {B n : Nat} {w w' : World} {x y e : Int} (h : BoxP B w n x y e) (g : w.grownBy w' (some B)) : BoxP B w' n x y e := by
  obtain ⟨h1, h2, h3, h4, h5, h6, h7, h8⟩ := h
  exact ⟨Nat.lt_of_lt_of_le h1 g.size, h2, (grown_cell g h1 h2).trans h3, (grown_cell g h1 h2).trans h4, (grown_cell g h1 h2).trans h5, (grown_frozen g h1 h2).trans h6, (grown_frozen g h1 h2).trans h7, (grown_frozen g h1 h2).trans h8⟩
theorem BoxP.new {B : Nat} {w : World} (x y e : Int) (t : TypeId) (hB : B < w.heap.size) : BoxP B (w.alloc (.cells #[.int .i64 x, .int .i64 y, .int .i64 e] t)) w.heap.size x y e :=
  ⟨by simp, by omega, by simp [go_sem], by simp [go_sem], by simp [go_sem], by simp [go_sem], by simp [go_sem], by simp [go_sem]⟩
theorem BoxP.put0 {B n : Nat} {w : World} {x y e : Int} (h : BoxP B w n x y e) (z : Int) : BoxP B (w.setCell ⟨n, 0, none⟩ (.int .i64 z)) n z y e := by
  obtain ⟨h1, h2, h3, h4, h5, h6, h7, h8⟩ := h
  exact ⟨by simpa using h1, h2, by simp [go_sem, h3], by simp [go_sem, h4], by simp [go_sem, h5], by simp [go_sem, h6], by simp [go_sem, h7], by simp [go_sem, h8]⟩
theorem BoxP.put1 {B n : Nat} {w : World} {x y e : Int} (h : BoxP B w n x y e) (z : Int) : BoxP B (w.setCell ⟨n, 1, none⟩ (.int .i64 z)) n x z e := by
  obtain ⟨h1, h2, h3, h4, h5, h6, h7, h8⟩ := h
  exact ⟨by simpa using h1, h2, by simp [go_sem, h3], by simp [go_sem, h4], by simp [go_sem, h5], by simp [go_sem, h6], by simp [go_sem, h7], by simp [go_sem, h8]⟩
theorem BoxP.put2 {B n : Nat} {w : World} {x y e : Int} (h : BoxP B w n x y e) (z : Int) : BoxP B (w.setCell ⟨n, 2, none⟩ (.int .i64 z)) n x y z := by
  obtain ⟨h1, h2, h3, h4, h5, h6, h7, h8⟩ := h
  exact ⟨by simpa using h1, h2, by simp [go_sem, h3], by simp [go_sem, h4], by simp [go_sem, h5], by simp [go_sem, h6], by simp [go_sem, h7], by simp [go_sem, h8]⟩
theorem BoxP.far1 {B n m o : Nat} {w : World} {x y e : Int} {v : Value} (h : BoxP B w n x y e) (_hne : n ≠ m) : BoxP B (w.setCell ⟨m, o, none⟩ v) n x y e := by
  obtain ⟨h1, h2, h3, h4, h5, h6, h7, h8⟩ := h
  exact ⟨by simpa using h1, h2, by simp [go_sem, h3], by simp [go_sem, h4], by simp [go_sem, h5], by simp [go_sem, h6], by simp [go_sem, h7], by simp [go_sem, h8]⟩
theorem boxc_eq {a b : World} {B n : Nat} {x y : Int} (e : a = b) (h : BoxC B a n x y) : BoxC B b n x y := e ▸ h
theorem boxp_eq {a b : World} {B n : Nat} {x y z : Int} (e : a = b) (h : BoxP B a n x y z) : BoxP B b n x y z := e ▸ h
theorem grown_transN {a a' b c : World} {B : Nat} (_h0 : a.grownBy a' (some B)) (h : a.grownBy b (some B)) (k : b.grownBy c (some B)) : a.grownBy c (some B) := h.trans k
theorem gr_eqN {a b c c' : World} {B : Option Nat} (_h0 : c.grownBy c' B) (e : a = b) (h : c.grownBy a B) : c.grownBy b B := e ▸ h
theorem boxc_eqN {a b w0 : World} {B n : Nat} {x y x0 y0 : Int} (_h0 : BoxC B w0 n x0 y0) (e : a = b) (h : BoxC B a n x y) : BoxC B b n x y := e ▸ h
theorem boxp_eqN {a b w0 : World} {B n : Nat} {x y z x0 y0 z0 : Int} (_h0 : BoxP B w0 n x0 y0 z0) (e : a = b) (h : BoxP B a n x y z) : BoxP B b n x y z := e ▸ h
theorem BoxC.keepN {w0 w w' : World} {B n : Nat} {x y x0 y0 : Int} (_h0 : BoxC B w0 n x0 y0) (h : BoxC B w n x y) (g : w.grownBy w' (some B)) : BoxC B w' n x y := h.keep g
theorem BoxP.keepN {w0 w w' : World} {B n : Nat} {x y z x0 y0 z0 : Int} (_h0 : BoxP B w0 n x0 y0 z0) (h : BoxP B w n x y z) (g : w.grownBy w' (some B)) : BoxP B w' n x y z := h.keep g
/-- whole numbers, all of them. -/
def AllI : List Value → Prop
  | [] => True
  | v :: l => AnyI v ∧ AllI l
theorem anyI_mk {n : Int} (h : I64 n) : AnyI (.int .i64 n) := ⟨n, rfl, h⟩
theorem allI_list : ∀ {l : List Value}, AllI l → ∃ xs : List Int, l = xs.map (Value.int .i64) ∧ ∀ n ∈ xs, I64 n
  | [], _ => ⟨[], rfl, fun _ h => by cases h⟩
  | v :: l, ⟨⟨n, hv, hn⟩, h⟩ => by
    obtain ⟨xs, e, hx⟩ := allI_list h
    refine ⟨n :: xs, by rw [hv, e]; rfl, fun m hm => ?_⟩
    rcases List.mem_cons.1 hm with rfl | hm
    · exact hn
    · exact hx m hm
theorem amongW_any (B : Nat) (lim : Int) (w : World) (vs : Array Value) (t : TypeId) (n : Nat) (h : Cr w B lim) (hl : lim ≤ 3000000000000000000) (hn : vs.size = n) (h0 : 0 < n) (h1 : n ≤ 1000) (hx : AllI vs.toList) :
    Calls Tryz.prog 65 #[.pointer (some ⟨B, 0, none⟩), .slice (some ⟨w.heap.size, 0, none⟩) n n] (w.alloc (.cells vs t)) (RetC AnyI B (lim + 2) w) := by
  obtain ⟨xs, e, hx2⟩ := allI_list hx
  have e2 : vs = (xs.map (Value.int .i64)).toArray := by rw [← e]
  have hl2 : xs.length = n := by rw [← hn, e2]; simp
  subst e2
  subst hl2
  exact amongLit_any B lim w xs t h hl hx2 h0 h1
end Go.Proofs.YtakilincclnpdaaGreatDoor
/- Db: draws: loads, stores and calls in regions that draw their order; the reader's box at the start. No conditions. -/
namespace Go.Proofs.YtakilincclnpdaaGreatDoor
open Go.RowKit

theorem wp_ldCb {B n i : Nat} {a b : Int} {x : World} {d : Option Nat} {t : TypeId} {s : String} {af : Array Edge} {A : Act} (r : BoxC B x n a b) (h : A.eval (.tmp i) = .pointer (some ⟨n, 0, none⟩)) :
    OpDone Tryz.prog { dst := d, op := .load 50 (.tmp i), type := t, pos := s, after := af, guard := none } A x (.agg #[.int .i64 a, .int .i64 b]) x := by
  refine ⟨fun K Q hk => ?_⟩
  obtain ⟨r1, r2, r3, r4, r5, r6⟩ := r
  unfold Oper.wp execOp
  dsimp only
  rw [h]
  go_simp
  exact hk
theorem wp_stCb {B n i j : Nat} {a b a' b' : Int} {x : World} {d : Option Nat} {t : TypeId} {s : String} {af : Array Edge} {A : Act} (r : BoxC B x n a' b') (h : A.eval (.tmp i) = .pointer (some ⟨n, 0, none⟩)) (h' : A.eval (.tmp j) = .agg #[.int .i64 a, .int .i64 b]) :
    OpDone Tryz.prog { dst := d, op := .store 50 (.tmp i) (.tmp j), type := t, pos := s, after := af, guard := none } A x undef ((x.setCell ⟨n, 0, none⟩ (.int .i64 a)).setCell ⟨n, 1, none⟩ (.int .i64 b)) := by
  refine ⟨fun K Q hk => ?_⟩
  obtain ⟨r1, r2, r3, r4, r5, r6⟩ := r
  unfold Oper.wp execOp
  dsimp only
  rw [h, h']
  go_simp
  exact hk
theorem wp_call_ofb {P : Program} {o : Oper} {f : FuncId} {vs : Array Value} {A : Act} {x : World} (hr : (execOp A.eval o).run P x = .ok (.enter f vs) x) : OpCall P o A x f vs := by
  refine ⟨fun K Q hk => ?_⟩
  unfold Oper.wp
  rw [hr, Oper.upon_enter]
  refine hk.mono ?_
  rintro e x' ⟨v, rfl, hk⟩
  exact hk
theorem run_callPickb {i : Nat} {n : Int} {x : World} {d : Option Nat} {t : TypeId} {ts : Array TypeId} {s : String} {af : Array Edge} (ρ : Operand → Value) (hf : ρ (.func 79) = .func (.func 79) #[] #[]) (hc : ρ (.const (.int .i64 n)) = .int .i64 n) :
    (execOp ρ { dst := d, op := .call { callee := .value (.func 79), args := #[.tmp i, .const (.int .i64 n)], argTypes := ts }, type := t, pos := s, after := af, guard := none }).run Tryz.prog x = .ok (.enter 79 #[ρ (.tmp i), .int .i64 n]) x := by
  simp only [execOp, resolve, hf]
  go_simp
theorem run_callAmongb {i j : Nat} {x : World} {d : Option Nat} {t : TypeId} {ts : Array TypeId} {s : String} {af : Array Edge} (ρ : Operand → Value) (hf : ρ (.func 65) = .func (.func 65) #[] #[]) :
    (execOp ρ { dst := d, op := .call { callee := .value (.func 65), args := #[.tmp i, .tmp j], argTypes := ts }, type := t, pos := s, after := af, guard := none }).run Tryz.prog x = .ok (.enter 65 #[ρ (.tmp i), ρ (.tmp j)]) x := by
  simp only [execOp, resolve, hf]
  go_simp
theorem wp_value_ofb {P : Program} {o : Oper} {v : Value} {A : Act} {x x' : World} (hr : (execOp A.eval o).run P x = .ok (.value v) x') : OpDone P o A x v x' := by
  refine ⟨fun K Q hk => ?_⟩
  unfold Oper.wp
  rw [hr, Oper.upon_value]
  exact hk
theorem grown_belowNb {a V V' : World} {B n : Nat} (h : Below n a V) (g : V.grownBy V' (some B)) (hB : n ≤ B) (hn : n ≤ a.heap.size) : Below n a V' :=
  ⟨g.os.trans h.os, g.tape.trans h.tape, g.output.trans h.output, Nat.le_trans h.size g.size, fun i hi => (g.block i (Nat.lt_of_lt_of_le (Nat.lt_of_lt_of_le hi hn) h.size) (by intro e; cases e; omega)).trans (h.block i hi)⟩
theorem cr_putb {B n o : Nat} {V : World} {lim a0 : Int} (h : Cr V B lim) (hn : n ≠ B) (h0 : V.cell? ⟨n, o, none⟩ = some (.int .i64 a0)) (v : Value) : Cr (V.setCell ⟨n, o, none⟩ v) B lim := by
  obtain ⟨h1, h2, h3, ad, len, cap, at_, seed, c0, c1, c2, a0, a1, s0, s1, hl, hc⟩ := h
  have far : ∀ i, (V.setCell ⟨n, o, none⟩ v).cell? ⟨B, i, none⟩ = V.cell? ⟨B, i, none⟩ := fun i => World.cell?_setCell_other _ _ _ _ (by intro e; injection e with e1; exact hn e1)
  refine ⟨by simpa using h1, by simp [go_sem, h2], by simp [go_sem, h3], ad, len, cap, at_, seed, (far 0).trans c0, (far 1).trans c1, (far 2).trans c2, a0, a1, s0, s1, hl, fun hp => ?_⟩
  obtain ⟨b, off, ha, hlt, hcell⟩ := hc hp
  refine ⟨b, off, ha, hlt, fun i hi => ?_⟩
  obtain ⟨c, q0, q1, q2⟩ := hcell i hi
  refine ⟨c, q0, q1, (World.cell?_setCell_other _ _ _ _ fun e => ?_).trans q2⟩
  rw [← e, h0] at q2
  cases q2
theorem u8_bdb {n : Int} (h : (Lit.int .u8 n).wf = true) : 0 ≤ n ∧ n ≤ 255 := by
  simp [Lit.wf, IntKind.min, IntKind.max, IntKind.signed, IntKind.bits] at h
  omega
theorem cr_startb {w V : World} {ad : Option Addr} {len cap : Nat} {zs : List Int} (h : IsRow .u8 w ad len cap zs) (hl : len ≤ 2097152) (hb : Below w.heap.size w V) (t : TypeId) :
    Cr (V.alloc (.cells #[.slice ad len cap, .int .i64 0, .int .u64 0] t)) V.heap.size 0 := by
  refine ⟨by simp, by simp [go_sem], by simp [go_sem], ad, len, cap, 0, 0, by simp [go_sem], by simp [go_sem], by simp [go_sem], by omega, by omega, by omega, by omega, hl, fun hp => ?_⟩
  rcases h with ⟨rfl, rfl, rfl, rfl⟩ | ⟨x, rfl, hlc, hm, hz, hcell, hwz⟩
  · omega
  · obtain ⟨b, off, spot⟩ := x
    have h0 := hcell 0 (by omega)
    have hspot : spot = none := by simpa [Addr.add] using World.cell?_spot h0
    subst hspot
    have hbl : b < w.heap.size := by
      have := World.block_lt_of_cell? w _ h0
      simpa [Addr.add] using this
    have hbV := Nat.lt_of_lt_of_le hbl hb.size
    refine ⟨b, off, rfl, hbV, fun i hi => ?_⟩
    have hi' := hcell i (by omega)
    have he : ((⟨b, off, none⟩ : Addr).add i) = ⟨b, off + i, none⟩ := by unfold Addr.add; split <;> simp_all
    rw [he] at hi'
    have hmem : zs.getD i 0 ∈ zs := by rw [List.getD_eq_getElem?_getD, List.getElem?_eq_getElem (by omega)]; exact List.getElem_mem (by omega)
    obtain ⟨q0, q1⟩ := u8_bdb (hwz _ hmem)
    exact ⟨_, q0, q1, ((below_allocD V _).cell (p := ⟨b, off + i, none⟩) hbV).trans ((hb.cell (p := ⟨b, off + i, none⟩) hbl).trans hi')⟩
theorem draw_endb {w V x : World} {N B : Nat} {n m : Value} (hl : Below w.heap.size w V) (hg : V.grownBy x (some B)) (hN : N = w.heap.size) (hB : B = w.heap.size + 1) : Below w.heap.size w ((x.setCell ⟨N, 0, none⟩ n).setCell ⟨N, 1, none⟩ m) :=
  ((grown_belowNb hl hg (by omega) (Nat.le_refl _)).setCell (by dsimp only; omega) _).setCell (by dsimp only; omega) _
theorem isRow_keepDb {k : IntKind} {w w' : World} {a : Option Addr} {len cap : Nat} {zs : List Int} (h : IsRow k w a len cap zs) (hb : Below w.heap.size w w') : IsRow k w' a len cap zs := by
  rcases h with h | ⟨x, rfl, h1, h2, h3, h4, h5⟩
  · exact .inl h
  · refine .inr ⟨x, rfl, h1, h2, h3, fun i hi => ?_, h5⟩
    have hc := h4 i hi
    have hlt := World.block_lt_of_cell? w _ hc
    exact (hb.cell hlt).trans hc
end Go.Proofs.YtakilincclnpdaaGreatDoor
namespace Go.Proofs.YtakilincclnpdaaGreatDoor
open Go.RowKit

/-- what a slot holds, looked up in a list. -/
def look : List (Nat × (Value → World → Prop)) → Nat → Value → World → Prop
  | [], _, _, _ => True
  | (i, P) :: l, d, v, x => bif Nat.beq d i then P v x else look l d v x
theorem look_keep {R : World → World → Prop} : ∀ {l : List (Nat × (Value → World → Prop))}, (∀ q ∈ l, ∀ v x y, q.2 v x → R x y → q.2 v y) → ∀ d v x y, look l d v x → R x y → look l d v y
  | [], _, _, _, _, _, _, _ => trivial
  | (i, P) :: l, h, d, v, x, y, hl, hr => by
    unfold look at hl ⊢
    cases hb : Nat.beq d i
    · rw [hb] at hl
      exact look_keep (fun q hq => h q (List.mem_cons_of_mem _ hq)) d v x y hl hr
    · rw [hb] at hl
      exact h (i, P) (List.mem_cons_self ..) v x y hl hr
def VC (a b : Int) (v : Value) (_ : World) : Prop := v = .agg #[.int .i64 a, .int .i64 b]
def VB (B : Nat) (v : Value) (_ : World) : Prop := v = .pointer (some ⟨B, 0, none⟩)
def VI (lo hi : Int) (v : Value) (_ : World) : Prop := ∃ n : Int, v = .int .i64 n ∧ lo ≤ n ∧ n ≤ hi
def VTc (v : Value) (_ : World) : Prop := ∃ (a b : Int) (o : Bool), v = .tuple #[.agg #[.int .i64 a, .int .i64 b], .bool o]
def VCe (v : Value) (_ : World) : Prop := ∃ a b : Int, v = .agg #[.int .i64 a, .int .i64 b]
def VBo (v : Value) (_ : World) : Prop := ∃ o : Bool, v = .bool o
/-- a pointer to a box that the region itself has laid. -/
def VFc (B M : Nat) (v : Value) (x : World) : Prop := ∃ m, v = .pointer (some ⟨m, 0, none⟩) ∧ M ≤ m ∧ ∃ a b, BoxC B x m a b
def RT (_ _ : World) : Prop := True
def RF (B M : Nat) (x y : World) : Prop := ∀ m, M ≤ m → (∃ a b, BoxC B x m a b) → ∃ a b, BoxC B y m a b
theorem RF.refl (B M : Nat) (x : World) : RF B M x x := fun _ _ h => h
theorem RF.grown {B M : Nat} {x y : World} (g : x.grownBy y (some B)) : RF B M x y := fun _ _ ⟨a, b, h⟩ => ⟨a, b, h.keep g⟩
theorem RF.put {B M n : Nat} {x : World} {a0 b0 : Int} (h0 : BoxC B x n a0 b0) (a b : Int) : RF B M x ((x.setCell ⟨n, 0, none⟩ (.int .i64 a)).setCell ⟨n, 1, none⟩ (.int .i64 b)) := fun m _ ⟨c, d, h⟩ => by
  by_cases e : m = n
  · subst e; exact ⟨a, b, h0.put a b⟩
  · exact ⟨c, d, (h.far1 (v := .int .i64 a) e).far1 e⟩
theorem VFc.keep {B M : Nat} {v : Value} {x y : World} (h : VFc B M v x) (r : RF B M x y) : VFc B M v y := by
  obtain ⟨m, hv, hm, hb⟩ := h
  exact ⟨m, hv, hm, r m hm hb⟩
section
variable {P : Program} {ops : Array Oper} {Q : Exit → Act → World → Prop} {a0 : Act} {ds : List Nat} {R : World → World → Prop} {T : Nat → Value → World → Prop} {S : Nat → World → Prop}
theorem LStep.of {o : Oper} (hg : o.guard = none)
    (h : ∀ g x, S (ops.size - 1) x → (∀ d ∈ needs ops o, T d (g d) x) → ∃ v x', OpDone P o (fill a0 g ds) x v x' ∧ Q .normal ((fill a0 g ds).put o.dst v) x') : LStep P ops Q a0 ds T S o := fun g x hS hd K hK => by
  rw [if_pos (wanted_none hg _)]
  obtain ⟨v, x', h1, h2⟩ := h g x hS hd
  exact h1.out K Q (hK _ _ h2)
end
theorem run_ext {P : Program} {x : World} {d : Option Nat} {t : TypeId} {s : String} {af : Array Edge} {i k : Nat} {vs : Array Value} (ρ : Operand → Value) (h : ρ (.tmp i) = .tuple vs) (hk : k < vs.size) :
    (execOp ρ { dst := d, op := .extract (.tmp i) k, type := t, pos := s, after := af, guard := none }).run P x = .ok (.value (vs.getD k undef)) x := by
  simp only [execOp, h]
  simp [go_sem, hk]
theorem run_addL {x : World} {d : Option Nat} {t : TypeId} {s : String} {af : Array Edge} {i : Nat} {n c : Int} (ρ : Operand → Value) (h : ρ (.tmp i) = .int .i64 n) (hc : ρ (.const (.int .i64 c)) = .int .i64 c) :
    (execOp ρ { dst := d, op := .binOp .add 3 (.const (.int .i64 c)) (.tmp i) 3, type := t, pos := s, after := af, guard := none }).run Tryz.prog x = .ok (.value (.int .i64 (IntKind.i64.wrap (c + n)))) x := by
  simp only [execOp, h, hc]
  go_simp
theorem run_subR {x : World} {d : Option Nat} {t : TypeId} {s : String} {af : Array Edge} {i : Nat} {n c : Int} (ρ : Operand → Value) (h : ρ (.tmp i) = .int .i64 n) (hc : ρ (.const (.int .i64 c)) = .int .i64 c) :
    (execOp ρ { dst := d, op := .binOp .sub 3 (.tmp i) (.const (.int .i64 c)) 3, type := t, pos := s, after := af, guard := none }).run Tryz.prog x = .ok (.value (.int .i64 (IntKind.i64.wrap (n - c)))) x := by
  simp only [execOp, h, hc]
  go_simp
theorem run_allocC {x : World} {d : Option Nat} {t : TypeId} {s : String} {af : Array Edge} (ρ : Operand → Value) :
    (execOp ρ { dst := d, op := .alloc 50, type := t, pos := s, after := af, guard := none }).run Tryz.prog x = .ok (.value (.pointer (some ⟨x.heap.size, 0, none⟩))) (x.alloc (.cells #[.int .i64 0, .int .i64 0] 50)) := by
  simp only [execOp]
  go_simp
theorem run_callAny {i : Nat} {x : World} {d : Option Nat} {t : TypeId} {ts : Array TypeId} {s : String} {af : Array Edge} (ρ : Operand → Value) (hf : ρ (.func 140) = .func (.func 140) #[] #[]) :
    (execOp ρ { dst := d, op := .call { callee := .value (.func 140), args := #[.tmp i], argTypes := ts }, type := t, pos := s, after := af, guard := none }).run Tryz.prog x = .ok (.enter 140 #[ρ (.tmp i)]) x := by
  simp only [execOp, resolve, hf]
  go_simp
end Go.Proofs.YtakilincclnpdaaGreatDoor
