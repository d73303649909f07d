/- Pv: contracts: putting a number into an ordered list at its place. No conditions. -/
import Derived.Test.YtnphdgekoelpjaaPu
import Derived.Test.YtnphdgekoelpjaaSd
namespace Go.Proofs.Ytnphdgekoelpjaa
open Go.RowKit
set_option linter.unusedVariables false

set_option maxRecDepth 100000 in
set_option maxHeartbeats 4000000 in
theorem l1Put_at (v : Value) (xs : List Int) (p : Int) (B K : Nat) (w : World) (ho : Own w B v xs) (hne : xs ≠ []) (hK : K ≤ xs.length) (hlt : ∀ i, i < K → xs.getD i 0 < p) (hgt : K < xs.length → p < xs.getD K 0) (hsm : xs.length ≤ 10000000000) :
    Calls Try.prog 158 #[v, .int .i64 p] w (RetSl (xs.take K ++ [p] ++ xs.drop K) w) := by
  obtain ⟨i0, hi, hz0, hz1, hz2⟩ := info_parts Try.info_int
  rcases ho.shape with ⟨_, h⟩ | ⟨g, cap, rfl, hBg, hgl, hkc, hcm⟩
  · exact absurd h hne
  have hcell : ∀ i, i < xs.length → w.cell? ⟨g, i, none⟩ = some (.int .i64 (xs.getD i 0)) := fun i hi => ho.cellAt i hi
  clear ho
  have hlen : 0 < xs.length := by cases xs with | nil => exact absurd rfl hne | cons => simp
  have hltk := hlt
  have hown0 : (w.alloc (.cells #[] 3)).ownsRow w.heap.size 3 1 (.slice (some ⟨w.heap.size, 0, none⟩) 0 0) 0 [] := by
    simpa using World.ownsRow_lit (base := w.heap.size) (e := 3) (size := 1) w #[] 0 (Nat.le_refl _) (by unfold maxLen; omega) (by simp)
  have hcells : ∀ (wq : World), Below w.heap.size w wq → ∀ (j : Nat), j < xs.length → wq.cell? ⟨g, j, none⟩ = some (.int .i64 (xs.getD j 0)) := fun wq hb j hj => (hb.cell (p := ⟨g, j, none⟩) hgl).trans (hcell j hj)
  have hnews : ∀ (j : Nat) (u : Value), ((xs.take K).map (Value.int .i64))[j]? = some u → (w.alloc (.cells #[] 3)).cell? ((⟨g, 0, none⟩ : Addr).add j) = some u := by
    intro j u hj
    have hjl : j < (xs.take K).length := by
      have := (List.getElem?_eq_some_iff.1 hj).1
      simpa using this
    have hjk : j < K := by rw [List.length_take] at hjl; omega
    have e : ((⟨g, 0, none⟩ : Addr).add j) = ⟨g, j, none⟩ := by unfold Addr.add; split <;> simp_all
    rw [e, hcells _ (below_alloc' w (.cells #[] 3)) j (by omega), ← hj, getD_map_int (xs.take K) j hjl]
    congr 2
    simp only [List.getD_eq_getElem?_getD, List.getElem?_take, if_pos hjk]
  have hnews2 : ∀ (wq : World), Below w.heap.size w wq → ∀ (j : Nat) (u : Value), ((xs.drop K).map (Value.int .i64))[j]? = some u → wq.cell? ((⟨g, K, none⟩ : Addr).add j) = some u := by
    intro wq hb j u hj
    have hjl : j < (xs.drop K).length := by
      have := (List.getElem?_eq_some_iff.1 hj).1
      simpa using this
    have hjk : K + j < xs.length := by rw [List.length_drop] at hjl; omega
    have e : ((⟨g, K, none⟩ : Addr).add j) = ⟨g, K + j, none⟩ := by unfold Addr.add; split <;> simp_all
    rw [e, hcells wq hb (K + j) hjk, ← hj, getD_map_int (xs.drop K) j hjl]
    congr 2
    simp only [List.getD_eq_getElem?_getD, List.getElem?_drop]
  have HC := Lib.hid hcell; clear hcell hne hlt hcells
  have HLT := Lib.hid hltk; clear hltk
  have HNEWS := Lib.hid hnews; clear hnews
  have HNEWS2 := Lib.hid hnews2; clear hnews2
  have HGT := Lib.hid hgt; clear hgt
  have HOWN := Lib.hid hown0; clear hown0
  obtain ⟨m, hm⟩ : ∃ m, xs.length = m := ⟨_, rfl⟩
  rw [hm] at hlen hsm hkc hK ⊢
  obtain ⟨A, hA⟩ : ∃ A, xs.take K = A := ⟨_, rfl⟩
  obtain ⟨D, hD⟩ : ∃ D, xs.drop K = D := ⟨_, rfl⟩
  have hAl : A.length = K := by rw [← hA, List.length_take, hm]; omega
  have hDl : D.length = m - K := by rw [← hD, List.length_drop, hm]
  obtain ⟨R, hR⟩ : ∃ R, A ++ [p] ++ D = R := ⟨_, rfl⟩
  rw [hA, hD, hR]
  rw [hA] at HNEWS
  rw [hD] at HNEWS2
  have HR := Lib.hid hR; clear hR
  have HD := Lib.hid hD; clear hD hA
  have HM := Lib.hid hm; clear hm
  unfold maxLen at hcm
  go_enter Try.func158, Try.ntmps158
  go_wp2_with fail
  go_loop [5] (fun i => ∃ k : Nat, i = .int .i64 k ∧ k ≤ K) (fun i => K - (intOf i).toNat)
  case atStart => exact ⟨0, rfl, Nat.zero_le _⟩
  case round =>
    obtain ⟨k, rfl, hk⟩ := hrel
    by_cases hlt : k < K
    · have hck := HC.out k (by rw [HM.out]; omega)
      have hv := HLT.out k hlt
      generalize xs.getD k 0 = x at *
      have hk0 : (0 : Int) ≤ (k : Int) := Int.natCast_nonneg _
      have hk1 : (k : Int) < (m : Int) := by omega
      go_wp2_with fail
      go_round
      case rel => exact ⟨k + 1, by go_num, by omega⟩
      case measure => simp [intOf]; omega
    · obtain rfl : K = k := by omega
      have hk0 : (0 : Int) ≤ (K : Int) := Int.natCast_nonneg _
      have hk1 : (K : Int) ≤ (cap : Int) := by omega
      clear hlt hk
      by_cases hKm : K < m
      · have hck := HC.out K (by rw [HM.out]; omega)
        have hv := HGT.out (by rw [HM.out]; omega)
        generalize hxx : xs.getD K 0 = x at *
        have hk2 : (K : Int) < (m : Int) := by omega
        have hxp : ¬ x < p := by omega
        have hxb : (x == p) = false := by simp; omega
        go_wp2_with (first | (at_builtin; refine wpList_append_own _ rfl _ _ 54 rfl w.heap.size 3 i0 (.int .i64 0) 1 8 Try.underlying54 hi hz0 hz1 hz2 rfl (by decide) _ _ _ rfl HOWN.out ⟨g, 0, none⟩ K cap (A.map (Value.int .i64)) rfl (by rw [List.length_map, hAl]; omega) HNEWS.out ?_ ?_ ?_ ?_ ?_))
        any_goals first | (intro u hu; obtain ⟨n, _, rfl⟩ := List.mem_map.1 hu; rfl) | (intro u hu; rfl) | (unfold maxLen; omega) | omega | (show w.heap.size ≤ _; simp; done)
        · intro v1 w1 hown1 hgrow _
          have hb1 : Below w.heap.size w w1 := (below_alloc' w (.cells #[] 3)).grown hgrow (by simp) (fun j hj => by
            simp only [Value.ownBlock, Option.some.injEq] at hj
            omega)
          (try simp only [Nat.zero_add, List.nil_append] at hown1)
          clear hgrow
          have hgl1 : g < w1.heap.size := Nat.lt_of_lt_of_le hgl hb1.size
          have HOWN1 := Lib.hid hown1; clear hown1
          go_wp2_with (first | (at_builtin; refine wpList_append_own _ rfl _ _ 54 rfl w.heap.size 3 i0 (.int .i64 0) 1 8 Try.underlying54 hi hz0 hz1 hz2 rfl (by decide) _ _ _ rfl (HOWN1.out.alloc _) ⟨w1.heap.size, 0, none⟩ 1 1 [.int .i64 p] rfl rfl (cell_one_new _ _ _) ?_ ?_ ?_ ?_ ?_))
          · first | rfl | (intro u hu; simp at hu; subst hu; rfl)
          · unfold maxLen; omega
          · omega
          · have := hb1.size; simp; omega
          · intro v2 w2 hown2 hgrow _
            have hlt1 : A.length = K := hAl
            obtain ⟨hb2, ho2⟩ := own_snoc hb1 (by unfold Own; rw [hlt1]; exact HOWN1.out) (by rw [hlt1]; exact hown2) hgrow
            clear hown2 hgrow HOWN1
            have hlen2 : (A ++ [p]).length = K + 1 := by rw [List.length_append, hlt1]; rfl
            have HO2 := Lib.hid ho2; clear ho2
            have hrow2 : w2.ownsRow w.heap.size 3 1 v2 (K + 1) ((A ++ [p]).map (Value.int .i64)) := by have h := HO2.out; unfold Own at h; rw [hlen2] at h; exact h
            have HROW := Lib.hid hrow2; clear hrow2
            have hcap0 : (K : Int) ≤ (cap : Int) := by omega
            go_wp2_with (first | (at_builtin; refine wpList_append_own _ rfl _ _ 54 rfl w.heap.size 3 i0 (.int .i64 0) 1 8 Try.underlying54 hi hz0 hz1 hz2 rfl (by decide) _ _ _ rfl HROW.out ⟨g, K, none⟩ _ _ (D.map (Value.int .i64)) rfl (by rw [List.length_map, hDl]; omega) (HNEWS2.out w2 hb2) ?_ ?_ ?_ ?_ ?_))
            · intro u hu
              obtain ⟨n, _, rfl⟩ := List.mem_map.1 hu
              rfl
            · unfold maxLen; omega
            · omega
            · exact hb2.size
            · intro v3 w3 hown3 hgrow _
              have hb3 : Below w.heap.size w w3 := hb2.grown hgrow hb2.size (fun j hj => (HROW.out.lt j hj).1)
              have ho3 : Own w3 w.heap.size v3 R := by
                unfold Own
                rw [← HR.out, List.map_append, show (A ++ [p] ++ D).length = K + 1 + (m - K) by rw [List.length_append, hlen2, hDl]]
                have ea : List.map (Value.int .i64) (A ++ [p]) ++ List.map (Value.int .i64) D = List.map (Value.int .i64) A ++ Value.int .i64 p :: List.map (Value.int .i64) D := by simp
                rw [ea]
                exact hown3
              clear hown3 hgrow HROW HO2
              go_wp2_with fail
              go_ret
              exact ⟨_, rfl, hb3, ho3⟩
      · have hKe : K = m := by omega
        subst hKe
        go_wp2_with (first | (at_builtin; refine wpList_append_own _ rfl _ _ 54 rfl w.heap.size 3 i0 (.int .i64 0) 1 8 Try.underlying54 hi hz0 hz1 hz2 rfl (by decide) _ _ _ rfl HOWN.out ⟨g, 0, none⟩ K cap (A.map (Value.int .i64)) rfl (by rw [List.length_map, hAl]; omega) HNEWS.out ?_ ?_ ?_ ?_ ?_))
        any_goals first | (intro u hu; obtain ⟨n, _, rfl⟩ := List.mem_map.1 hu; rfl) | (intro u hu; rfl) | (unfold maxLen; omega) | omega | (show w.heap.size ≤ _; simp; done)
        · intro v1 w1 hown1 hgrow _
          have hb1 : Below w.heap.size w w1 := (below_alloc' w (.cells #[] 3)).grown hgrow (by simp) (fun j hj => by
            simp only [Value.ownBlock, Option.some.injEq] at hj
            omega)
          (try simp only [Nat.zero_add, List.nil_append] at hown1)
          clear hgrow
          have hgl1 : g < w1.heap.size := Nat.lt_of_lt_of_le hgl hb1.size
          have HOWN1 := Lib.hid hown1; clear hown1
          go_wp2_with (first | (at_builtin; refine wpList_append_own _ rfl _ _ 54 rfl w.heap.size 3 i0 (.int .i64 0) 1 8 Try.underlying54 hi hz0 hz1 hz2 rfl (by decide) _ _ _ rfl (HOWN1.out.alloc _) ⟨w1.heap.size, 0, none⟩ 1 1 [.int .i64 p] rfl rfl (cell_one_new _ _ _) ?_ ?_ ?_ ?_ ?_))
          · first | rfl | (intro u hu; simp at hu; subst hu; rfl)
          · unfold maxLen; omega
          · omega
          · have := hb1.size; simp; omega
          · intro v2 w2 hown2 hgrow _
            have hlt1 : A.length = K := hAl
            obtain ⟨hb2, ho2⟩ := own_snoc hb1 (by unfold Own; rw [hlt1]; exact HOWN1.out) (by rw [hlt1]; exact hown2) hgrow
            clear hown2 hgrow HOWN1
            have hlen2 : (A ++ [p]).length = K + 1 := by rw [List.length_append, hlt1]; rfl
            have HO2 := Lib.hid ho2; clear ho2
            have hrow2 : w2.ownsRow w.heap.size 3 1 v2 (K + 1) ((A ++ [p]).map (Value.int .i64)) := by have h := HO2.out; unfold Own at h; rw [hlen2] at h; exact h
            have HROW := Lib.hid hrow2; clear hrow2
            have hdr : D = [] := List.eq_nil_of_length_eq_zero (by rw [hDl]; omega)
            by_cases hck : cap = K
            all_goals
              go_wp2_with (first | (at_builtin; refine wpList_append_own _ rfl _ _ 54 rfl w.heap.size 3 i0 (.int .i64 0) 1 8 Try.underlying54 hi hz0 hz1 hz2 rfl (by decide) _ _ _ rfl HROW.out _ 0 _ [] rfl rfl (fun j u hj => by simp at hj) ?_ ?_ ?_ ?_ ?_))
              · intro u hu; simp at hu
              · unfold maxLen; omega
              · omega
              · exact hb2.size
              · intro v3 w3 hown3 hgrow _
                (try simp only [List.append_nil, Nat.add_zero] at hown3)
                have hb3 : Below w.heap.size w w3 := hb2.grown hgrow hb2.size (fun j hj => (HROW.out.lt j hj).1)
                have ho3 : Own w3 w.heap.size v3 R := by rw [← HR.out, hdr, List.append_nil]; unfold Own; rw [hlen2]; simpa using hown3
                clear hown3 hgrow HROW HO2
                go_wp2_with fail
                go_ret
                exact ⟨_, rfl, hb3, ho3⟩
end Go.Proofs.Ytnphdgekoelpjaa
