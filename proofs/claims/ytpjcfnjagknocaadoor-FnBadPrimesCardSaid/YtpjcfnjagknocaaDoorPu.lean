/- Pu: contracts: putting a number into an ordered list, where it is greater than all, or the only one. No conditions. -/
import Derived.Test.YtpjcfnjagknocaaDoorMk
import Derived.Test.YtpjcfnjagknocaaDoorFac
import Derived.Test.YtpjcfnjagknocaaDoorRg
import Derived.Laws.OwnMore
namespace Go.Proofs.YtpjcfnjagknocaaDoor
open Go.RowKit

theorem below_alloc' (w : World) (o : Obj) : Below w.heap.size w (w.alloc o) := (Below.refl _ _).alloc (Nat.le_refl _) o
theorem l1Put_two (v : Value) (w : World) (hrd : Rd w v [2]) :
    Calls Tryd.prog 68 #[v, .int .i64 2] w (fun e w' => e = .returned v ∧ Below w.heap.size w w') := by
  obtain ⟨ad, cap, rfl, hl, hcs⟩ := hrd
  obtain ⟨bb, off, rfl, hbb, hcell⟩ := hcs (by simp)
  have c0 : w.cell? ⟨bb, off, none⟩ = some (.int .i64 2) := hcell 0 (by simp)
  clear hcs hcell hl
  go_enter Tryd.func68, Tryd.ntmps68
  go_wp2_with fail
  refine wp_loop_rounds 1 ?_; rw [rounds_succ]
  go_wp2_with fail
  go_ret
  exact ⟨rfl, (by repeat (first | exact Below.refl _ _ | (with_reducible assumption) | refine bel_alloc ?_ _ | refine bel_drew ?_ | refine bel_drewN ?_ _ | refine Below.setCell ?_ (by dsimp only; omega) _ | refine bel_trans (by assumption) ?_))⟩
set_option maxRecDepth 4000 in
set_option maxHeartbeats 2000000 in
theorem l1Put_last (v : Value) (xs : List Int) (p : Int) (B : Nat) (w : World) (ho : Own w B v xs) (hne : xs ≠ []) (hlt : ∀ x ∈ xs, x < p) (hsm : xs.length ≤ 10000000000) :
    Calls Tryd.prog 68 #[v, .int .i64 p] w (RetSl (xs ++ [p]) w) := by
  obtain ⟨i0, hi, hz0, hz1, hz2⟩ := info_parts Tryd.info_int
  rcases ho.shape with ⟨_, h⟩ | ⟨g, cap, rfl, hBg, hgl, hkc, hcm⟩
  · exact absurd h hne
  have hcell : ∀ i, i < xs.length → w.cell? ⟨g, i, none⟩ = some (.int .i64 (xs.getD i 0)) := fun i hi => ho.cellAt i hi
  clear ho
  have hlen : 0 < xs.length := by cases xs with | nil => exact absurd rfl hne | cons => simp
  have hltk : ∀ k, k < xs.length → xs.getD k 0 < p := fun k hk => by
    rw [List.getD_eq_getElem?_getD, List.getElem?_eq_getElem hk]
    exact hlt _ (List.getElem_mem hk)
  have hown0 : (w.alloc (.cells #[] 3)).ownsRow w.heap.size 3 1 (.slice (some ⟨w.heap.size, 0, none⟩) 0 0) 0 [] := by
    simpa using World.ownsRow_lit (base := w.heap.size) (e := 3) (size := 1) w #[] 0 (Nat.le_refl _) (by unfold maxLen; omega) (by simp)
  have hnews : ∀ (j : Nat) (u : Value), (xs.map (Value.int .i64))[j]? = some u → (w.alloc (.cells #[] 3)).cell? ((⟨g, 0, none⟩ : Addr).add j) = some u := by
    intro j u hj
    have hjl : j < xs.length := by
      have := (List.getElem?_eq_some_iff.1 hj).1
      simpa using this
    have e : ((⟨g, 0, none⟩ : Addr).add j) = ⟨g, j, none⟩ := by unfold Addr.add; split <;> simp_all
    rw [e, (below_alloc' w (.cells #[] 3)).cell (p := ⟨g, j, none⟩) hgl, hcell j hjl, ← hj, getD_map_int xs j hjl]
  have HC := Lib.hid hcell; clear hcell hne hlt
  have HLT := Lib.hid hltk; clear hltk
  have HNEWS := Lib.hid hnews; clear hnews
  have HOWN := Lib.hid hown0; clear hown0
  obtain ⟨m, hm⟩ : ∃ m, xs.length = m := ⟨_, rfl⟩
  rw [hm] at hlen hsm hkc ⊢
  have HM := Lib.hid hm; clear hm
  unfold maxLen at hcm
  go_enter Tryd.func68, Tryd.ntmps68
  go_wp2_with fail
  go_loop [5] (fun i => ∃ k : Nat, i = .int .i64 k ∧ k ≤ m) (fun i => m - (intOf i).toNat)
  case atStart => exact ⟨0, rfl, Nat.zero_le _⟩
  case round =>
    obtain ⟨k, rfl, hk⟩ := hrel
    by_cases hlt : k < m
    · have hck := HC.out k (by rw [HM.out]; exact hlt)
      have hv := HLT.out k (by rw [HM.out]; exact hlt)
      generalize xs.getD k 0 = x at *
      have hk0 : (0 : Int) ≤ (k : Int) := Int.natCast_nonneg _
      have hk1 : (k : Int) < (m : Int) := by omega
      go_wp2_with fail
      go_round
      case rel => exact ⟨k + 1, by go_num, by omega⟩
      case measure => simp [intOf]; omega
    · have hkm : k = m := by omega
      subst hkm
      have hk0 : (0 : Int) ≤ (k : Int) := Int.natCast_nonneg _
      have hk1 : (k : Int) ≤ (cap : Int) := by omega
      clear hlt hk
      go_wp2_with (first | (at_builtin; refine wpList_append_own _ rfl _ _ 26 rfl w.heap.size 3 i0 (.int .i64 0) 1 8 Tryd.underlying26 hi hz0 hz1 hz2 rfl (by decide) _ _ _ rfl HOWN.out ⟨g, 0, none⟩ k cap (xs.map (Value.int .i64)) rfl (by simp [HM.out]) HNEWS.out ?_ ?_ ?_ ?_ ?_))
      any_goals first | (intro u hu; obtain ⟨n, _, rfl⟩ := List.mem_map.1 hu; rfl) | (intro u hu; rfl) | (unfold maxLen; omega) | omega | (show w.heap.size ≤ _; simp; done)
      · intro v1 w1 hown1 hgrow _
        have hb1 : Below w.heap.size w w1 := (below_alloc' w (.cells #[] 3)).grown hgrow (by simp) (fun j hj => by
          simp only [Value.ownBlock, Option.some.injEq] at hj
          omega)
        (try simp only [Nat.zero_add, List.nil_append] at hown1)
        clear hgrow
        have hgl1 : g < w1.heap.size := Nat.lt_of_lt_of_le hgl hb1.size
        have HOWN1 := Lib.hid hown1; clear hown1
        go_wp2_with (first | (at_builtin; refine wpList_append_own _ rfl _ _ 26 rfl w.heap.size 3 i0 (.int .i64 0) 1 8 Tryd.underlying26 hi hz0 hz1 hz2 rfl (by decide) _ _ _ rfl (HOWN1.out.alloc _) ⟨w1.heap.size, 0, none⟩ 1 1 [.int .i64 p] rfl rfl (cell_one_new _ _ _) ?_ ?_ ?_ ?_ ?_))
        · first | rfl | (intro u hu; simp at hu; subst hu; rfl)
        · unfold maxLen; omega
        · omega
        · have := hb1.size; simp; omega
        · intro v2 w2 hown2 hgrow _
          obtain ⟨hb2, ho2⟩ := own_snoc hb1 (by unfold Own; rw [HM.out]; exact HOWN1.out) (by rw [HM.out]; exact hown2) hgrow
          clear hown2 hgrow HOWN1
          have hlen2 : (xs ++ [p]).length = k + 1 := by simp [HM.out]
          have HO2 := Lib.hid ho2; clear ho2
          have hrow2 : w2.ownsRow w.heap.size 3 1 v2 (k + 1) ((xs ++ [p]).map (Value.int .i64)) := by have h := HO2.out; unfold Own at h; rw [hlen2] at h; exact h
          have HROW := Lib.hid hrow2; clear hrow2
          by_cases hck : cap = k
          all_goals
            go_wp2_with (first | (at_builtin; refine wpList_append_own _ rfl _ _ 26 rfl w.heap.size 3 i0 (.int .i64 0) 1 8 Tryd.underlying26 hi hz0 hz1 hz2 rfl (by decide) _ _ _ rfl HROW.out _ 0 _ [] rfl rfl (fun j u hj => by simp at hj) ?_ ?_ ?_ ?_ ?_))
            · intro u hu; simp at hu
            · unfold maxLen; omega
            · omega
            · exact hb2.size
            · intro v3 w3 hown3 hgrow _
              (try simp only [List.append_nil, Nat.add_zero] at hown3)
              have hb3 : Below w.heap.size w w3 := hb2.grown hgrow hb2.size (fun j hj => (HROW.out.lt j hj).1)
              have ho3 : Own w3 w.heap.size v3 (xs ++ [p]) := by unfold Own; rw [hlen2]; simpa using hown3
              clear hown3 hgrow HROW HO2
              go_wp2_with fail
              go_ret
              exact ⟨_, rfl, hb3, ho3⟩
end Go.Proofs.YtpjcfnjagknocaaDoor
