/- Cl: contracts: copies of a list. No conditions. -/
import Derived.Test.YtakilincclnpdaaGreatDoorPBy
import Derived.Laws.AppendOwnNone
/- Oe: results that are the call's own slice, or an empty one of whatever block; marking them. No conditions. -/
namespace Go.Proofs.YtakilincclnpdaaGreatDoor
open Go.RowKit

/-- the call's own slice, or one without elements. -/
def OwnE (w : World) (B : Nat) (v : Value) (xs : List Int) : Prop := Own w B v xs ∨ (xs = [] ∧ ∃ ad cap, v = .slice ad 0 cap)
theorem OwnE.rd {w : World} {B : Nat} {v : Value} {xs : List Int} (h : OwnE w B v xs) : Rd w v xs := by
  rcases h with h | ⟨rfl, ad, cap, rfl⟩
  · exact h.rd
  · exact ⟨ad, cap, rfl, Nat.zero_le _, fun h => by simp at h⟩
theorem OwnE.keep {w w' : World} {B : Nat} {v : Value} {xs : List Int} (h : OwnE w B v xs) (hb : Below w.heap.size w w') : OwnE w' B v xs := h.imp (fun h => h.keep hb) id
theorem OwnE.le {w : World} {B B' : Nat} {v : Value} {xs : List Int} (h : OwnE w B v xs) (hb : B' ≤ B) : OwnE w B' v xs := h.imp (fun h => h.le hb) id
theorem OwnE.other {w w' : World} {B : Nat} {v : Value} {xs : List Int} {g : Option Nat} (h : OwnE w B v xs) (hg : w.grownBy w' g) (hne : ∀ j, g = some j → j < B) : OwnE w' B v xs := by
  refine h.imp (fun h => ?_) id
  obtain ⟨h1, h2⟩ := h
  refine ⟨h1, ?_⟩
  rcases h2 with h2 | ⟨b, cap, cur, hv, hB, hh, r⟩
  · exact .inl h2
  · have hlt : b < w.heap.size := by
      rcases Nat.lt_or_ge b w.heap.size with h' | h'
      · exact h'
      · rw [Array.getElem?_eq_none h'] at hh; cases hh
    exact .inr ⟨b, cap, cur, hv, hB, (hg.block b hlt (fun e => by have := hne b e.symm; omega)).trans hh, r⟩
/-- the block of an own slice lies below the world's size. -/
def Blk (v : Value) (n : Nat) : Prop := ∀ j, v.ownBlock = some j → j < n
theorem Own.blk {w : World} {B : Nat} {v : Value} {xs : List Int} (h : Own w B v xs) : Blk v w.heap.size := fun j hj => ((h : World.ownsRow _ _ _ _ _ _ _).lt j hj).2
/-- the slice's numbers are written, and nothing besides. -/
def MarkedE (v : Value) (n : Nat) (k : Int) (B : Nat) (w : World) (e : Ending) (w' : World) : Prop :=
  e = .returned (.int .i64 (k + n)) ∧ ∃ g, w.grownBy w' g ∧ OwnE w' B v (marks k n) ∧ (g = none ∨ g = v.ownBlock) ∧ ∀ j, g = some j → B ≤ j
theorem grown_below {g : Option Nat} {B m : Nat} {w w' : World} (hg : w.grownBy w' g) (hB : ∀ j, g = some j → B ≤ j) (hm : m ≤ B) (hs : m ≤ w.heap.size) : Below m w w' :=
  (Below.refl m w).grown hg hs (fun k hk => Nat.le_trans hm (hB k hk))
/-- returned the slice xs, the call's own or an empty one, and b. -/
def RetSlE (xs : List Int) (ok : Bool) (w : World) (e : Ending) (w' : World) : Prop := ∃ v, e = .returned (.tuple #[v, .bool ok]) ∧ Below w.heap.size w w' ∧ OwnE w' w.heap.size v xs
theorem RetSlB.e {xs : List Int} {ok : Bool} {w w' : World} {e : Ending} (h : RetSlB xs ok w e w') : RetSlE xs ok w e w' := by
  obtain ⟨v, h1, h2, h3⟩ := h
  exact ⟨v, h1, h2, .inl h3⟩
end Go.Proofs.YtakilincclnpdaaGreatDoor
namespace Go.Proofs.YtakilincclnpdaaGreatDoor
open Go.RowKit

theorem below_allocC (w : World) (o : Obj) : Below w.heap.size w (w.alloc o) := (Below.refl _ _).alloc (Nat.le_refl _) o
/-- no row without cells claims room. -/
def NilZ (v : Value) : Prop := ∀ n c, v = .slice none n c → c = 0
theorem Own.nilz {w : World} {B : Nat} {v : Value} {xs : List Int} (h : Own w B v xs) : NilZ v := by
  rcases h.shape with ⟨rfl, _⟩ | ⟨g, cap, rfl, _⟩
  · intro n c h; cases h; rfl
  · intro n c h; cases h
set_option maxRecDepth 4000 in
theorem clone_any (v : Value) (xs : List Int) (w : World) (hrd : Rd w v xs) (hz : NilZ v) (hsm : xs.length ≤ 1048576) :
    Calls Tryz.prog 145 #[v] w (RetSl xs w) := by
  obtain ⟨i0, hi, hz0, hz1, hz2⟩ := info_parts Tryz.info_int
  obtain ⟨ad, cap, rfl, hl, hcs⟩ := hrd
  cases ad with
  | none =>
    obtain rfl := hz _ _ rfl
    have hx : xs = [] := by
      cases xs with
      | nil => rfl
      | cons x r => obtain ⟨_, _, h, _⟩ := hcs (by simp); cases h
    subst hx
    have he : ∀ w : World, (binOp .eql 24 (.slice none 0 0) (.slice none 0 0)).run Tryz.prog w = .ok (.bool true) w := fun _ => rfl
    go_enter Tryz.func145, Tryz.ntmps145
    go_wp2_with fail
    go_ret
    exact ⟨_, rfl, (by repeat (first | exact Below.refl _ _ | (with_reducible assumption) | refine bel_alloc ?_ _ | refine bel_drew ?_ | refine bel_drewN ?_ _ | refine Below.setCell ?_ (by dsimp only; omega) _ | refine bel_trans (by assumption) ?_)), Own.nil _ _⟩
  | some ad =>
    have hown : (w.alloc (.cells #[] 3)).ownsRow w.heap.size 3 1 (.slice (some ⟨w.heap.size, 0, none⟩) 0 0) 0 [] := by
      simpa using World.ownsRow_lit (base := w.heap.size) (e := 3) (size := 1) w #[] 0 (Nat.le_refl _) (by unfold maxLen; omega) (by simp)
    have hnews : ∀ (j : Nat) (u : Value), (xs.map (Value.int .i64))[j]? = some u → (w.alloc (.cells #[] 3)).cell? (ad.add j) = some u := by
      intro j u hj
      have hjl : j < xs.length := by
        have := (List.getElem?_eq_some_iff.1 hj).1
        simpa using this
      obtain ⟨b, off, ha, hb, hc⟩ := hcs (by omega)
      simp only [Option.some.injEq] at ha
      subst ha
      have e : ((⟨b, off, none⟩ : Addr).add j) = ⟨b, off + j, none⟩ := by unfold Addr.add; split <;> simp_all
      rw [e, (below_allocC w (.cells #[] 3)).cell (p := ⟨b, off + j, none⟩) hb, hc j hjl, ← hj, getD_map_int xs j hjl]
    clear hcs hz
    have he : ∀ w : World, (binOp .eql 24 (.slice (some ad) xs.length cap) (.slice none 0 0)).run Tryz.prog w = .ok (.bool false) w := fun _ => rfl
    go_enter Tryz.func145, Tryz.ntmps145
    go_wp2_with (first | (at_builtin; refine wpList_append_own _ rfl _ _ 24 rfl w.heap.size 3 i0 (.int .i64 0) 1 8 Tryz.underlying24 hi hz0 hz1 hz2 rfl (by decide) _ _ _ rfl hown ad xs.length cap (xs.map (Value.int .i64)) rfl (by simp) hnews ?_ ?_ ?_ ?_ ?_))
    · intro u hu
      obtain ⟨n, _, rfl⟩ := List.mem_map.1 hu
      rfl
    · unfold maxLen; omega
    · omega
    · simp
    · intro v' w1 hown1 hgrow _
      have hb1 : Below w.heap.size w w1 := (below_allocC w (.cells #[] 3)).grown hgrow (by simp) (fun k hk => by
        simp only [Value.ownBlock, Option.some.injEq] at hk
        omega)
      have ho : Own w1 w.heap.size v' xs := by unfold Own; simpa using hown1
      clear hown hown1 hgrow hnews
      go_wp2_with fail
      go_ret
      exact ⟨_, rfl, hb1, ho⟩
set_option maxRecDepth 4000 in
theorem l1Own_any (v : Value) (xs : List Int) (w : World) (hrd : Rd w v xs) (hz : NilZ v) (hsm : xs.length ≤ 1048576) :
    Calls Tryz.prog 48 #[v] w (RetSl xs w) := by
  obtain ⟨i0, hi, hz0, hz1, hz2⟩ := info_parts Tryz.info_int
  obtain ⟨ad, cap, rfl, hl, hcs⟩ := hrd
  cases ad with
  | none =>
    obtain rfl := hz _ _ rfl
    have hx : xs = [] := by
      cases xs with
      | nil => rfl
      | cons x r => obtain ⟨_, _, h, _⟩ := hcs (by simp); cases h
    subst hx
    have hown : (w.alloc (.cells #[] 3)).ownsRow w.heap.size 3 1 (.slice (some ⟨w.heap.size, 0, none⟩) 0 0) 0 [] := by
      simpa using World.ownsRow_lit (base := w.heap.size) (e := 3) (size := 1) w #[] 0 (Nat.le_refl _) (by unfold maxLen; omega) (by simp)
    go_enter Tryz.func48, Tryz.ntmps48
    go_wp2_with (first | (at_builtin; refine wpList_append_own_none rfl _ _ 24 rfl w.heap.size 3 i0 1 Tryz.underlying24 hi _ _ _ rfl hown rfl ?_))
    go_wp2_with fail
    go_ret
    exact ⟨_, rfl, (by repeat (first | exact Below.refl _ _ | (with_reducible assumption) | refine bel_alloc ?_ _ | refine bel_drew ?_ | refine bel_drewN ?_ _ | refine Below.setCell ?_ (by dsimp only; omega) _ | refine bel_trans (by assumption) ?_)), by simpa [Own] using hown⟩
  | some ad =>
    have hown : (w.alloc (.cells #[] 3)).ownsRow w.heap.size 3 1 (.slice (some ⟨w.heap.size, 0, none⟩) 0 0) 0 [] := by
      simpa using World.ownsRow_lit (base := w.heap.size) (e := 3) (size := 1) w #[] 0 (Nat.le_refl _) (by unfold maxLen; omega) (by simp)
    have hnews : ∀ (j : Nat) (u : Value), (xs.map (Value.int .i64))[j]? = some u → (w.alloc (.cells #[] 3)).cell? (ad.add j) = some u := by
      intro j u hj
      have hjl : j < xs.length := by
        have := (List.getElem?_eq_some_iff.1 hj).1
        simpa using this
      obtain ⟨b, off, ha, hb, hc⟩ := hcs (by omega)
      simp only [Option.some.injEq] at ha
      subst ha
      have e : ((⟨b, off, none⟩ : Addr).add j) = ⟨b, off + j, none⟩ := by unfold Addr.add; split <;> simp_all
      rw [e, (below_allocC w (.cells #[] 3)).cell (p := ⟨b, off + j, none⟩) hb, hc j hjl, ← hj, getD_map_int xs j hjl]
    clear hcs hz
    go_enter Tryz.func48, Tryz.ntmps48
    go_wp2_with (first | (at_builtin; refine wpList_append_own _ rfl _ _ 24 rfl w.heap.size 3 i0 (.int .i64 0) 1 8 Tryz.underlying24 hi hz0 hz1 hz2 rfl (by decide) _ _ _ rfl hown ad xs.length cap (xs.map (Value.int .i64)) rfl (by simp) hnews ?_ ?_ ?_ ?_ ?_))
    · intro u hu
      obtain ⟨n, _, rfl⟩ := List.mem_map.1 hu
      rfl
    · unfold maxLen; omega
    · omega
    · simp
    · intro v' w1 hown1 hgrow _
      have hb1 : Below w.heap.size w w1 := (below_allocC w (.cells #[] 3)).grown hgrow (by simp) (fun k hk => by
        simp only [Value.ownBlock, Option.some.injEq] at hk
        omega)
      have ho : Own w1 w.heap.size v' xs := by unfold Own; simpa using hown1
      clear hown hown1 hgrow hnews
      go_wp2_with fail
      go_ret
      exact ⟨_, rfl, hb1, ho⟩
end Go.Proofs.YtakilincclnpdaaGreatDoor
