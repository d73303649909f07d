/- Cl: contracts: copies of a list. No conditions. -/
import Derived.Test.YtnhlcgbknkdbiaaOe
import Derived.Laws.AppendOwnNone
namespace Go.Proofs.Ytnhlcgbknkdbiaa
open Go.RowKit

theorem below_allocC (w : World) (o : Obj) : Below w.heap.size w (w.alloc o) := (Below.refl _ _).alloc (Nat.le_refl _) o
/-- no row without cells claims room. -/
def NilZ (v : Value) : Prop := ∀ n c, v = .slice none n c → c = 0
theorem Own.nilz {w : World} {B : Nat} {v : Value} {xs : List Int} (h : Own w B v xs) : NilZ v := by
  rcases h.shape with ⟨rfl, _⟩ | ⟨g, cap, rfl, _⟩
  · intro n c h; cases h; rfl
  · intro n c h; cases h
set_option maxRecDepth 4000 in
theorem clone_any (v : Value) (xs : List Int) (w : World) (hrd : Rd w v xs) (hz : NilZ v) (hsm : xs.length ≤ 1048576) :
    Calls Try.prog 99 #[v] w (RetSl xs w) := by
  obtain ⟨i0, hi, hz0, hz1, hz2⟩ := info_parts Try.info_int
  obtain ⟨ad, cap, rfl, hl, hcs⟩ := hrd
  cases ad with
  | none =>
    obtain rfl := hz _ _ rfl
    have hx : xs = [] := by
      cases xs with
      | nil => rfl
      | cons x r => obtain ⟨_, _, h, _⟩ := hcs (by simp); cases h
    subst hx
    have he : ∀ w : World, (binOp .eql 24 (.slice none 0 0) (.slice none 0 0)).run Try.prog w = .ok (.bool true) w := fun _ => rfl
    go_enter Try.func99, Try.ntmps99
    go_wp2_with fail
    go_ret
    exact ⟨_, rfl, (by repeat (first | exact Below.refl _ _ | (with_reducible assumption) | refine bel_alloc ?_ _ | refine bel_drew ?_ | refine bel_drewN ?_ _ | refine Below.setCell ?_ (by dsimp only; omega) _ | refine bel_trans (by assumption) ?_)), Own.nil _ _⟩
  | some ad =>
    have hown : (w.alloc (.cells #[] 3)).ownsRow w.heap.size 3 1 (.slice (some ⟨w.heap.size, 0, none⟩) 0 0) 0 [] := by
      simpa using World.ownsRow_lit (base := w.heap.size) (e := 3) (size := 1) w #[] 0 (Nat.le_refl _) (by unfold maxLen; omega) (by simp)
    have hnews : ∀ (j : Nat) (u : Value), (xs.map (Value.int .i64))[j]? = some u → (w.alloc (.cells #[] 3)).cell? (ad.add j) = some u := by
      intro j u hj
      have hjl : j < xs.length := by
        have := (List.getElem?_eq_some_iff.1 hj).1
        simpa using this
      obtain ⟨b, off, ha, hb, hc⟩ := hcs (by omega)
      simp only [Option.some.injEq] at ha
      subst ha
      have e : ((⟨b, off, none⟩ : Addr).add j) = ⟨b, off + j, none⟩ := by unfold Addr.add; split <;> simp_all
      rw [e, (below_allocC w (.cells #[] 3)).cell (p := ⟨b, off + j, none⟩) hb, hc j hjl, ← hj, getD_map_int xs j hjl]
    clear hcs hz
    have he : ∀ w : World, (binOp .eql 24 (.slice (some ad) xs.length cap) (.slice none 0 0)).run Try.prog w = .ok (.bool false) w := fun _ => rfl
    go_enter Try.func99, Try.ntmps99
    go_wp2_with (first | (at_builtin; refine wpList_append_own _ rfl _ _ 24 rfl w.heap.size 3 i0 (.int .i64 0) 1 8 Try.underlying24 hi hz0 hz1 hz2 rfl (by decide) _ _ _ rfl hown ad xs.length cap (xs.map (Value.int .i64)) rfl (by simp) hnews ?_ ?_ ?_ ?_ ?_))
    · intro u hu
      obtain ⟨n, _, rfl⟩ := List.mem_map.1 hu
      rfl
    · unfold maxLen; omega
    · omega
    · simp
    · intro v' w1 hown1 hgrow _
      have hb1 : Below w.heap.size w w1 := (below_allocC w (.cells #[] 3)).grown hgrow (by simp) (fun k hk => by
        simp only [Value.ownBlock, Option.some.injEq] at hk
        omega)
      have ho : Own w1 w.heap.size v' xs := by unfold Own; simpa using hown1
      clear hown hown1 hgrow hnews
      go_wp2_with fail
      go_ret
      exact ⟨_, rfl, hb1, ho⟩
set_option maxRecDepth 4000 in
theorem l1Own_any (v : Value) (xs : List Int) (w : World) (hrd : Rd w v xs) (hz : NilZ v) (hsm : xs.length ≤ 1048576) :
    Calls Try.prog 98 #[v] w (RetSl xs w) := by
  obtain ⟨i0, hi, hz0, hz1, hz2⟩ := info_parts Try.info_int
  obtain ⟨ad, cap, rfl, hl, hcs⟩ := hrd
  cases ad with
  | none =>
    obtain rfl := hz _ _ rfl
    have hx : xs = [] := by
      cases xs with
      | nil => rfl
      | cons x r => obtain ⟨_, _, h, _⟩ := hcs (by simp); cases h
    subst hx
    have hown : (w.alloc (.cells #[] 3)).ownsRow w.heap.size 3 1 (.slice (some ⟨w.heap.size, 0, none⟩) 0 0) 0 [] := by
      simpa using World.ownsRow_lit (base := w.heap.size) (e := 3) (size := 1) w #[] 0 (Nat.le_refl _) (by unfold maxLen; omega) (by simp)
    go_enter Try.func98, Try.ntmps98
    go_wp2_with (first | (at_builtin; refine wpList_append_own_none rfl _ _ 24 rfl w.heap.size 3 i0 1 Try.underlying24 hi _ _ _ rfl hown rfl ?_))
    go_wp2_with fail
    go_ret
    exact ⟨_, rfl, (by repeat (first | exact Below.refl _ _ | (with_reducible assumption) | refine bel_alloc ?_ _ | refine bel_drew ?_ | refine bel_drewN ?_ _ | refine Below.setCell ?_ (by dsimp only; omega) _ | refine bel_trans (by assumption) ?_)), by simpa [Own] using hown⟩
  | some ad =>
    have hown : (w.alloc (.cells #[] 3)).ownsRow w.heap.size 3 1 (.slice (some ⟨w.heap.size, 0, none⟩) 0 0) 0 [] := by
      simpa using World.ownsRow_lit (base := w.heap.size) (e := 3) (size := 1) w #[] 0 (Nat.le_refl _) (by unfold maxLen; omega) (by simp)
    have hnews : ∀ (j : Nat) (u : Value), (xs.map (Value.int .i64))[j]? = some u → (w.alloc (.cells #[] 3)).cell? (ad.add j) = some u := by
      intro j u hj
      have hjl : j < xs.length := by
        have := (List.getElem?_eq_some_iff.1 hj).1
        simpa using this
      obtain ⟨b, off, ha, hb, hc⟩ := hcs (by omega)
      simp only [Option.some.injEq] at ha
      subst ha
      have e : ((⟨b, off, none⟩ : Addr).add j) = ⟨b, off + j, none⟩ := by unfold Addr.add; split <;> simp_all
      rw [e, (below_allocC w (.cells #[] 3)).cell (p := ⟨b, off + j, none⟩) hb, hc j hjl, ← hj, getD_map_int xs j hjl]
    clear hcs hz
    go_enter Try.func98, Try.ntmps98
    go_wp2_with (first | (at_builtin; refine wpList_append_own _ rfl _ _ 24 rfl w.heap.size 3 i0 (.int .i64 0) 1 8 Try.underlying24 hi hz0 hz1 hz2 rfl (by decide) _ _ _ rfl hown ad xs.length cap (xs.map (Value.int .i64)) rfl (by simp) hnews ?_ ?_ ?_ ?_ ?_))
    · intro u hu
      obtain ⟨n, _, rfl⟩ := List.mem_map.1 hu
      rfl
    · unfold maxLen; omega
    · omega
    · simp
    · intro v' w1 hown1 hgrow _
      have hb1 : Below w.heap.size w w1 := (below_allocC w (.cells #[] 3)).grown hgrow (by simp) (fun k hk => by
        simp only [Value.ownBlock, Option.some.injEq] at hk
        omega)
      have ho : Own w1 w.heap.size v' xs := by unfold Own; simpa using hown1
      clear hown hown1 hgrow hnews
      go_wp2_with fail
      go_ret
      exact ⟨_, rfl, hb1, ho⟩
end Go.Proofs.Ytnhlcgbknkdbiaa
