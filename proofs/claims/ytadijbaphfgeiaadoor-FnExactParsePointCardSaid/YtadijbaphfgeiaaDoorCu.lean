/- Cu: contracts: the program's text of two numbers, both CurveTexts. No conditions. -/
import Derived.Test.YtadijbaphfgeiaaDoorCv
import Derived.Test.YtadijbaphfgeiaaDoorJn
import Derived.Test.YtadijbaphfgeiaaDoorMk
import Derived.Test.YtadijbaphfgeiaaDoorFac
namespace Go.Proofs.YtadijbaphfgeiaaDoor
open Go.RowKit

theorem Tryd.info_str : (Tryd.prog.info? 9).map (fun i => (i.zero, i.size, i.bytes)) = some (some (.string ⟨#[]⟩), 1, 16) := by kernel_rfl
theorem rowS_keep {w w' : World} {base n : Nat} {v : Value} {e : TypeId} {vs : List Value} (h : w.ownsRow base e 1 v n vs) (hb : Below w.heap.size w w') : w'.ownsRow base e 1 v n vs := by
  obtain ⟨h1, h2⟩ := h
  refine ⟨h1, ?_⟩
  rcases h2 with h2 | ⟨g, cap, cur, hv, hg, hh, r⟩
  · exact .inl h2
  · have hlt : g < w.heap.size := by
      rcases Nat.lt_or_ge g w.heap.size with h' | h'
      · exact h'
      · rw [Array.getElem?_eq_none h'] at hh; cases hh
    exact .inr ⟨g, cap, cur, hv, hg, (hb.block g hlt).trans hh, r⟩
theorem join_two (A B : ByteArray) : (⟨(Lib.join ([A, B].map (·.data.toList)) (ByteArray.mk #[32]).data.toList).toArray⟩ : ByteArray) = A ++ ⟨#[32]⟩ ++ B := by
  apply ByteArray.ext
  simp [Lib.join]
theorem join_len (A B : ByteArray) : (Lib.join ([A, B].map (·.data.toList)) (ByteArray.mk #[32]).data.toList).length = A.size + 1 + B.size := by
  have h := congrArg ByteArray.size (join_two A B)
  rw [ByteArray.size_append, ByteArray.size_append] at h
  exact h
set_option maxHeartbeats 4000000 in
theorem numbersText_any (a b : Int) (ad : Nat) (w : World) (h1 : -1000 ≤ a) (h2 : a ≤ 1000) (h3 : -10000 ≤ b) (h4 : b ≤ 10000) (ht : PowT w) (hlt : ad < w.heap.size)
    (ca : w.cell? ⟨ad, 0, none⟩ = some (.int .i64 a)) (cb : w.cell? ⟨ad, 1, none⟩ = some (.int .i64 b)) :
    Calls Tryd.prog 24 #[.slice (some ⟨ad, 0, none⟩) 2 2] w (Ret (.string (cvT a b)) w) := by
  obtain ⟨i0, hi, hz0, hz1, hz2⟩ := info_parts Tryd.info_str
  have HT := Lib.hid ht; clear ht
  go_enter Tryd.func24, Tryd.ntmps24
  go_wp2_with fail
  refine wp_loop_rounds 3 ?_; rw [rounds_succ]
  go_wp2_with fail
  refine (itoaI a (by omega) (by omega) _ HT.out).mono ?_; rintro e w1 ⟨rfl, hb1⟩
  have hown0 : w1.ownsRow w.heap.size 9 1 (.slice none 0 0) 0 [] := World.ownsRow_nil _ _ _ _
  go_wp2_with (first | (at_builtin; refine wpList_append_own _ rfl _ _ 37 rfl w.heap.size 9 i0 (.string ⟨#[]⟩) 1 16 Tryd.underlying37 hi hz0 hz1 hz2 rfl (by decide) _ _ _ rfl (hown0.alloc _) ⟨w1.heap.size, 0, none⟩ 1 1 [.string (intS a)] rfl rfl (cell_one_new _ _ _) ?_ ?_ ?_ ?_ ?_))
  · intro u hu; simp at hu; subst hu; rfl
  · unfold maxLen; omega
  · omega
  · have := hb1.size; simp; omega
  intro v1 w2 hown2 hgrow _
  have ha := hb1.alloc hb1.size (.cells #[.string (intS a)] 9)
  have hb2 : Below w.heap.size w w2 := ha.grown hgrow ha.size (fun k hk => by cases hk)
  clear hgrow ha hown0 hb1
  have cb2 := (hb2.cell (p := ⟨ad, 1, none⟩) hlt).trans cb
  have HB2 := Lib.hid hb2; clear hb2
  rcases hown2.2 with ⟨_, h⟩ | ⟨g, cap, cur, rfl, hg, hh, hcap, _⟩
  · omega
  clear hh
  go_wp2_with fail
  rw [rounds_succ]
  go_wp2_with fail
  refine (itoaI b (by omega) (by omega) _ (HT.out.keep HB2.out)).mono ?_; rintro e w3 ⟨rfl, hb3⟩
  have hown3 := rowS_keep hown2 hb3
  have hb4 := bel_trans hb3 HB2.out
  clear hb3 cb2 hown2
  go_wp2_with (first | (at_builtin; refine wpList_append_own _ rfl _ _ 37 rfl w.heap.size 9 i0 (.string ⟨#[]⟩) 1 16 Tryd.underlying37 hi hz0 hz1 hz2 rfl (by decide) _ _ _ rfl (hown3.alloc _) ⟨w3.heap.size, 0, none⟩ 1 1 [.string (intS b)] rfl rfl (cell_one_new _ _ _) ?_ ?_ ?_ ?_ ?_))
  · intro u hu; simp at hu; subst hu; rfl
  · unfold maxLen; omega
  · omega
  · have := hb4.size; simp; omega
  intro v2 w4 hown4 hgrow2 _
  have ha2 := hb4.alloc hb4.size (.cells #[.string (intS b)] 9)
  have hb5 : Below w.heap.size w w4 := ha2.grown hgrow2 ha2.size (fun k hk => (hown3.lt k hk).1)
  have HB5 := Lib.hid hb5
  clear hgrow2 ha2 hown3 hb4 hb5
  rcases hown4.2 with ⟨_, h⟩ | ⟨g2, cap2, cur2, rfl, hg2, hh2, hcap2, _⟩
  · omega
  have hlt4 : g2 < w4.heap.size := by
    rcases Nat.lt_or_ge g2 w4.heap.size with h' | h'
    · exact h'
    · rw [Array.getElem?_eq_none h'] at hh2; cases hh2
  have e0 := hown4.cellAt 0 (by omega)
  have e1 := hown4.cellAt 1 (by omega)
  have hcells : ∀ (j : Nat) x, [intS a, intS b][j]? = some x → w4.cell? ⟨g2, 0 + j, none⟩ = some (.string x) := fun j x hx => by
    match j, hx with
    | 0, hx => cases hx; exact e0
    | 1, hx => cases hx; exact e1
    | j + 2, hx => simp at hx
  have s1 := intS_size a
  have s2 := intS_size b
  have hlen := join_len (intS a) (intS b)
  have hj := Tryd.strings_Join g2 0 cap2 [intS a, intS b] (ByteArray.mk #[32]) w4 hcells hlt4 (by simp) hcap2 (by rw [hlen]; omega)
  rw [join_two] at hj
  have HJ := Lib.hid hj
  clear hj hlen s1 s2 hcells e0 e1 hh2 hown4 hcap2 hg2 hlt4
  go_wp2_with fail
  rw [rounds_succ]
  go_wp2_with fail
  refine HJ.out.mono ?_; rintro e w6 ⟨rfl, hb6⟩
  have hb7 := bel_trans hb6 HB5.out
  clear hb6
  go_wp2_with fail
  go_ret
  exact ret_eq (by rfl) hb7
end Go.Proofs.YtadijbaphfgeiaaDoor
