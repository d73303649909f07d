/- Mp: rows of points: what a walk is told of one; contracts of the helpers that compare, mark and look at them. No conditions. -/
import Derived.Test.YtnphdgekoelpjaaMk
import Derived.Test.YtnphdgekoelpjaaPt
namespace Go.Proofs.Ytnphdgekoelpjaa
open Go.RowKit
set_option linter.unusedVariables false

/-- the call's own row of points, its numbers one after another. -/
def OwnP (w : World) (B : Nat) (v : Value) (xs : List Int) : Prop := ∃ n, xs.length = 3 * n ∧ w.ownsRow B 26 3 v n (xs.map (Value.int .i64))
/-- reads as the numbers xs, its block below n. -/
def RdPN (n : Nat) (w : World) (v : Value) (xs : List Int) : Prop :=
  n ≤ w.heap.size ∧ ∃ (ad : Option Addr) (m cap : Nat), v = .slice ad m cap ∧ xs.length = 3 * m ∧ m ≤ maxLen ∧
    (0 < m → ∃ b off, ad = some ⟨b, off, none⟩ ∧ b < n ∧ ∀ i, i < xs.length → w.cell? ⟨b, off + i, none⟩ = some (.int .i64 (xs.getD i 0)))
theorem RdPN.step {n m : Nat} {w w' : World} {v : Value} {xs : List Int} (h : RdPN n w v xs) (hb : Below m w w') (hle : n ≤ m) : RdPN n w' v xs := by
  obtain ⟨h0, ad, l, cap, hv, hl, hm, hc⟩ := h
  refine ⟨Nat.le_trans h0 hb.size, ad, l, cap, hv, hl, hm, fun hp => ?_⟩
  obtain ⟨b, off, ha, hlt, hcell⟩ := hc hp
  exact ⟨b, off, ha, hlt, fun i hi => (hb.cell (p := ⟨b, off + i, none⟩) (Nat.lt_of_lt_of_le hlt hle)).trans (hcell i hi)⟩
theorem RdPN.keep {n : Nat} {w w' : World} {v : Value} {xs : List Int} (h : RdPN n w v xs) (hb : Below w.heap.size w w') : RdPN n w' v xs := h.step hb h.1
theorem OwnP.le {w : World} {B B' : Nat} {v : Value} {xs : List Int} (h : OwnP w B v xs) (hb : B' ≤ B) : OwnP w B' v xs := by
  obtain ⟨n, h1, h2⟩ := h
  exact ⟨n, h1, Joins.ownsRow_le h2 hb⟩
theorem OwnP.nil (w : World) (B : Nat) : OwnP w B (.slice none 0 0) [] := ⟨0, rfl, World.ownsRow_nil _ _ _ _⟩
theorem OwnP.keep {w w' : World} {B : Nat} {v : Value} {xs : List Int} (h : OwnP w B v xs) (hb : Below w.heap.size w w') : OwnP w' B v xs := by
  obtain ⟨n, h0, h1, h2⟩ := h
  refine ⟨n, h0, h1, ?_⟩
  rcases h2 with h2 | ⟨g, cap, cur, hv, hg, hh, r⟩
  · exact .inl h2
  · have hlt : g < w.heap.size := by
      rcases Nat.lt_or_ge g w.heap.size with h' | h'
      · exact h'
      · rw [Array.getElem?_eq_none h'] at hh; cases hh
    exact .inr ⟨g, cap, cur, hv, hg, (hb.block g hlt).trans hh, r⟩
theorem OwnP.shape {w : World} {B : Nat} {v : Value} {xs : List Int} (h : OwnP w B v xs) :
    (v = .slice none 0 0 ∧ xs = []) ∨ ∃ g n cap, v = .slice (some ⟨g, 0, none⟩) n cap ∧ xs.length = 3 * n ∧ B ≤ g ∧ g < w.heap.size ∧ n ≤ cap ∧ cap ≤ maxLen ∧ w.ownsRow B 26 3 (.slice (some ⟨g, 0, none⟩) n cap) n (xs.map (Value.int .i64)) := by
  obtain ⟨n, h0, h1, h2⟩ := h
  rcases h2 with ⟨h3, h4⟩ | ⟨g, cap, cur, hv, hg, hh, hn, hm, hs⟩
  · exact .inl ⟨h3, List.eq_nil_of_length_eq_zero (by omega)⟩
  · have hlt : g < w.heap.size := by
      rcases Nat.lt_or_ge g w.heap.size with h' | h'
      · exact h'
      · rw [Array.getElem?_eq_none h'] at hh; cases hh
    refine .inr ⟨g, n, cap, hv, h0, hg, hlt, hn, hm, ?_⟩
    rw [← hv]
    exact ⟨h1, .inr ⟨g, cap, cur, hv, hg, hh, hn, hm, hs⟩⟩
theorem OwnP.rd {w : World} {B : Nat} {v : Value} {xs : List Int} (h : OwnP w B v xs) : RdPN w.heap.size w v xs := by
  rcases h.shape with ⟨rfl, rfl⟩ | ⟨g, n, cap, rfl, h0, hg, hlt, hn, hm, ho⟩
  · exact ⟨Nat.le_refl _, none, 0, 0, rfl, rfl, Nat.zero_le _, fun h => by omega⟩
  · refine ⟨Nat.le_refl _, _, n, cap, rfl, h0, by omega, fun _ => ⟨g, 0, rfl, hlt, fun i hi => ?_⟩⟩
    rw [Nat.zero_add, World.ownsRow.cellAt ho i (by omega), getD_map_int xs i hi]
set_option maxHeartbeats 2000000 in
theorem eqPointS_same (v u : Value) (xs : List Int) (n m : Nat) (w : World) (h : RdPN n w v xs) (h' : RdPN m w u xs) :
    Calls Try.prog 30 #[v, u] w (Ret (.bool true) w) := by
  obtain ⟨hn0, ad, l, cap, rfl, hl, hlm, hcs⟩ := h
  obtain ⟨hm0, ad', l', cap', rfl, hl', _, hcs'⟩ := h'
  obtain rfl : l' = l := by omega
  unfold maxLen at hlm
  by_cases hn : l' = 0
  · subst hn
    go_enter Try.func30, Try.ntmps30
    go_wp2_with fail
    refine wp_loop_rounds 1 ?_; rw [rounds_succ]
    go_wp2_with fail
    go_ret
    exact ret_eq rfl (by repeat (first | exact Below.refl _ _ | (with_reducible assumption) | refine bel_alloc ?_ _ | refine bel_drew ?_ | refine bel_drewN ?_ _ | refine Below.setCell ?_ (by dsimp only; omega) _ | refine bel_trans (by assumption) ?_))
  · obtain ⟨b, off, rfl, hb, hcell⟩ := hcs (by omega)
    obtain ⟨b', off', rfl, hb', hcell'⟩ := hcs' (by omega)
    have HC := Lib.hid hcell; clear hcell
    have HC' := Lib.hid hcell'; clear hcell'
    clear hn hcs hcs'
    go_enter Try.func30, Try.ntmps30
    go_wp2_with fail
    go_loopw [5] (fun i wr => ∃ k : Nat, k ≤ l' ∧ i = .int .i64 k ∧ Below w.heap.size w wr) (fun i _ => l' - (intOf i).toNat)
    case atStart => exact ⟨0, Nat.zero_le _, rfl, Below.refl _ _⟩
    case round =>
      obtain ⟨k, hk, rfl, hbel⟩ := hrel
      by_cases hlt : k < l'
      · have hbr : b < wr.heap.size := Nat.lt_of_lt_of_le (by omega) hbel.size
        have hbr' : b' < wr.heap.size := Nat.lt_of_lt_of_le (by omega) hbel.size
        obtain ⟨X, hX⟩ : ∃ X, xs.getD (k * 3) 0 = X := ⟨_, rfl⟩
        obtain ⟨Y, hY⟩ : ∃ Y, xs.getD (k * 3 + 1) 0 = Y := ⟨_, rfl⟩
        obtain ⟨Z, hZ⟩ : ∃ Z, xs.getD (k * 3 + 2) 0 = Z := ⟨_, rfl⟩
        have q0 := (hbel.cell (p := ⟨b, off + k * 3, none⟩) (by dsimp only; omega)).trans (HC.out (k * 3) (by omega))
        have q1 := (hbel.cell (p := ⟨b, off + k * 3 + 1, none⟩) (by dsimp only; omega)).trans (HC.out (k * 3 + 1) (by omega))
        have q2 := (hbel.cell (p := ⟨b, off + k * 3 + 2, none⟩) (by dsimp only; omega)).trans (HC.out (k * 3 + 2) (by omega))
        have r0 := (hbel.cell (p := ⟨b', off' + k * 3, none⟩) (by dsimp only; omega)).trans (HC'.out (k * 3) (by omega))
        have r1 := (hbel.cell (p := ⟨b', off' + k * 3 + 1, none⟩) (by dsimp only; omega)).trans (HC'.out (k * 3 + 1) (by omega))
        have r2 := (hbel.cell (p := ⟨b', off' + k * 3 + 2, none⟩) (by dsimp only; omega)).trans (HC'.out (k * 3 + 2) (by omega))
        rw [hX] at q0 r0
        rw [hY] at q1 r1
        rw [hZ] at q2 r2
        clear hX hY hZ
        have hk0 : (0 : Int) ≤ (k : Int) := Int.natCast_nonneg _
        have hk1 : (k : Int) < (l' : Int) := by omega
        go_wp2_with fail
        refine wp_region_grow (by kernel_rfl) (by kernel_rfl) ?_
        repeat (go_big_quiet_step (((go_at_call 19; exact grow_ret (eqPoint_same _ _ _ _)))))
        refine wpQuiet_nil ?_
        rintro wg hbg
        (try replace hbg := aft2 hbg (by assumption))
        obtain ⟨hcg, hfg, hg1, hg2, hg3, hg4⟩ := aftz hbg
        go_wp2_with fail
        go_roundw
        case rel => exact ⟨k + 1, by omega, by go_num, hbg⟩
        case measure => simp [intOf]; omega
      · go_wp2_with fail
        go_ret
        exact ret_eq rfl hbel
/-- the call's own points are written, and nothing besides. -/
def MarkedP (v : Value) (m : Nat) (k : Int) (B : Nat) (w : World) (e : Ending) (w' : World) : Prop :=
  e = .returned (.int .i64 (k + m)) ∧ w.grownBy w' v.ownBlock ∧ OwnP w' B v (marks k m)
theorem OwnP.lt {w : World} {B : Nat} {v : Value} {xs : List Int} (h : OwnP w B v xs) {k : Nat} (hk : v.ownBlock = some k) : B ≤ k := by
  obtain ⟨n, _, h2⟩ := h
  exact (World.ownsRow.lt h2 k hk).1
theorem MarkedP.below {v : Value} {B m : Nat} {w w' : World} {xs : List Int} (hg : w.grownBy w' v.ownBlock) (ho : OwnP w B v xs) (hm : m ≤ B) (hs : m ≤ w.heap.size) : Below m w w' :=
  (Below.refl m w).grown hg hs (fun k hk => Nat.le_trans hm (ho.lt hk))
theorem mark_set3 (k : Int) (xs : List Int) (j : Nat) (hj : j * 3 + 2 < xs.length) :
    ((((marks k (j * 3) ++ xs.drop (j * 3)).map (Value.int .i64)).set (j * 3) (.int .i64 (k + 3 * (j : Int)))).set (j * 3 + 1) (.int .i64 (k + 3 * (j : Int) + 1))).set (j * 3 + 2) (.int .i64 (k + 3 * (j : Int) + 1 + 1)) = (marks k ((j + 1) * 3) ++ xs.drop ((j + 1) * 3)).map (Value.int .i64) := by
  have e0 : k + 3 * (j : Int) = k + ((j * 3 : Nat) : Int) := by omega
  have e1 : k + 3 * (j : Int) + 1 = k + ((j * 3 + 1 : Nat) : Int) := by omega
  have e2 : k + 3 * (j : Int) + 1 + 1 = k + ((j * 3 + 2 : Nat) : Int) := by omega
  rw [e2, e1, e0, mark_set k xs (j * 3) (by omega), mark_set k xs (j * 3 + 1) (by omega), mark_set k xs (j * 3 + 2) (by omega), show (j + 1) * 3 = j * 3 + 2 + 1 by omega]
set_option maxHeartbeats 2000000 in
theorem markPointS_any (v : Value) (xs : List Int) (k : Int) (B : Nat) (w : World) (h : OwnP w B v xs) (hk0 : 0 ≤ k) (hk : k ≤ 1000000) (hx : xs.length ≤ 1000000) :
    Calls Try.prog 31 #[v, .int .i64 k] w (MarkedP v xs.length k B w) := by
  rcases h.shape with ⟨rfl, rfl⟩ | ⟨g, n, cap, rfl, hlen, hg, hlt, hn, hm, hrow⟩
  · go_enter Try.func31, Try.ntmps31
    go_wp2_with fail
    refine wp_loop_rounds 1 ?_; rw [rounds_succ]
    go_wp2_with fail
    go_ret
    exact ⟨by simp, World.grownBy.refl _ _, by simpa [marks] using OwnP.nil w B⟩
  · clear h
    have HLEN := Lib.hid hlen
    unfold maxLen at hm
    go_enter Try.func31, Try.ntmps31
    go_wp2_with fail
    go_loopw [1, 5] (fun y x wr => ∃ j : Nat, x = .int .i64 j ∧ y = .int .i64 (k + 3 * (j : Int)) ∧ j ≤ n ∧ w.grownBy wr (some g) ∧ wr.ownsRow B 26 3 (.slice (some ⟨g, 0, none⟩) n cap) n ((marks k (j * 3) ++ xs.drop (j * 3)).map (Value.int .i64))) (fun _ x _ => n - (intOf x).toNat)
    case atStart => exact ⟨0, rfl, by simp, Nat.zero_le _, World.grownBy.refl _ _, by simpa [marks] using hrow⟩
    case round =>
      obtain ⟨j, rfl, rfl, hj, hgr, hown⟩ := hrel
      by_cases hlt2 : j < n
      · have hj0 : (0 : Int) ≤ (j : Int) := Int.natCast_nonneg _
        have hj1 : (j : Int) < (n : Int) := by omega
        have hfz0 := hown.frozenAt (j * 3)
        have hfz1 := hown.frozenAt (j * 3 + 1)
        have hfz2 := hown.frozenAt (j * 3 + 2)
        have hold : ∀ q, q < 3 → ∃ u, wr.cell? ⟨g, j * 3 + q, none⟩ = some u := fun q hq => by
          rw [hown.cellAt (j * 3 + q) (by omega)]
          exact ⟨_, List.getElem?_eq_getElem (by simp [marks_len]; omega)⟩
        obtain ⟨u0, hold0⟩ := hold 0 (by omega)
        obtain ⟨u1, hold1⟩ := hold 1 (by omega)
        obtain ⟨u2, hold2⟩ := hold 2 (by omega)
        rw [Nat.add_zero] at hold0
        clear hold
        have hs1 := hown.stored (j * 3) (.int .i64 (k + 3 * (j : Int)))
        have hs2 := hs1.1.stored (j * 3 + 1) (.int .i64 (k + 3 * (j : Int) + 1))
        have hs3 := hs2.1.stored (j * 3 + 2) (.int .i64 (k + 3 * (j : Int) + 1 + 1))
        have hfin := hs3.1
        rw [mark_set3 k xs j (by omega)] at hfin
        have HFIN := Lib.hid (And.intro hfin ((hs1.2.trans hs2.2).trans hs3.2))
        clear hs1 hs2 hs3 hfin hown
        go_wp2_with fail
        go_roundw
        case rel => exact ⟨j + 1, by go_num, by congr 1; omega, by omega, hgr.trans HFIN.out.2, HFIN.out.1⟩
        case measure => simp [intOf]; omega
      · have hjl : j = n := by omega
        subst hjl
        have hdr : xs.drop (j * 3) = [] := List.drop_eq_nil_of_le (by omega)
        rw [hdr, List.append_nil] at hown
        have hfin : OwnP wr B (.slice (some ⟨g, 0, none⟩) j cap) (marks k xs.length) := ⟨j, by rw [marks_len]; exact hlen, by rw [show xs.length = j * 3 by omega]; exact hown⟩
        clear hown
        go_wp2_with fail
        go_ret
        exact ⟨by have := HLEN.out; rw [show k + (xs.length : Int) = k + 3 * (j : Int) by omega]; rfl, hgr, hfin⟩
set_option maxHeartbeats 2000000 in
theorem heldPointS_any (v : Value) (m n : Nat) (k : Int) (w : World) (h : RdPN m w v (marks k n)) (hk0 : 0 ≤ k) (hk : k ≤ 1000000) (hx : n ≤ 1000000) :
    Calls Try.prog 32 #[v, .int .i64 k] w (Ret (.int .i64 (k + n)) w) := by
  obtain ⟨_, ad, l, cap, rfl, hl, hlm, hcs⟩ := h
  rw [marks_len] at hl hcs
  unfold maxLen at hlm
  by_cases hn : l = 0
  · subst hn
    obtain rfl : n = 0 := by omega
    go_enter Try.func32, Try.ntmps32
    go_wp2_with fail
    refine wp_loop_rounds 1 ?_; rw [rounds_succ]
    go_wp2_with fail
    go_ret
    exact ret_eq (by simp) (by repeat (first | exact Below.refl _ _ | (with_reducible assumption) | refine bel_alloc ?_ _ | refine bel_drew ?_ | refine bel_drewN ?_ _ | refine Below.setCell ?_ (by dsimp only; omega) _ | refine bel_trans (by assumption) ?_))
  · obtain ⟨b, off, rfl, hb, hcell⟩ := hcs (by omega)
    have HC := Lib.hid hcell; clear hcell hcs
    go_enter Try.func32, Try.ntmps32
    go_wp2_with fail
    go_loop [1, 5] (fun y x => ∃ j : Nat, x = .int .i64 j ∧ y = .int .i64 (k + 3 * (j : Int)) ∧ j ≤ l) (fun _ x => l - (intOf x).toNat)
    case atStart => exact ⟨0, rfl, by simp, Nat.zero_le _⟩
    case round =>
      obtain ⟨j, rfl, rfl, hj⟩ := hrel
      by_cases hlt : j < l
      · have hck0 := HC.out (j * 3) (by omega)
        have hck1 := HC.out (j * 3 + 1) (by omega)
        have hck2 := HC.out (j * 3 + 2) (by omega)
        rw [marks_getD k n _ (by omega), show k + ((j * 3 : Nat) : Int) = k + 3 * (j : Int) by omega] at hck0
        rw [marks_getD k n _ (by omega), show k + ((j * 3 + 1 : Nat) : Int) = k + 3 * (j : Int) + 1 by omega, ← Nat.add_assoc] at hck1
        rw [marks_getD k n _ (by omega), show k + ((j * 3 + 2 : Nat) : Int) = k + 3 * (j : Int) + 1 + 1 by omega, ← Nat.add_assoc] at hck2
        have hj0 : (0 : Int) ≤ (j : Int) := Int.natCast_nonneg _
        have hj1 : (j : Int) < (l : Int) := by omega
        go_wp2_with fail
        go_round
        case rel => exact ⟨j + 1, by go_num, by congr 1; omega, by omega⟩
        case measure => simp [intOf]; omega
      · have hjl : j = l := by omega
        subst hjl
        go_wp2_with fail
        go_ret
        exact ret_eq (by first | rfl | (congr 1; omega)) (by repeat (first | exact Below.refl _ _ | (with_reducible assumption) | refine bel_alloc ?_ _ | refine bel_drew ?_ | refine bel_drewN ?_ _ | refine Below.setCell ?_ (by dsimp only; omega) _ | refine bel_trans (by assumption) ?_))
end Go.Proofs.Ytnphdgekoelpjaa
