/- Cu: contracts: the program's text of two numbers, both CurveTexts. No conditions. -/
import Derived.Test.YtcplmdnaboplnaaDoorCv
import Derived.Test.YtcplmdnaboplnaaDoorJn
import Derived.Test.YtcplmdnaboplnaaDoorMk
import Derived.Test.YtcplmdnaboplnaaDoorFac
namespace Go.Proofs.YtcplmdnaboplnaaDoor
open Go.RowKit

theorem Tryd.info_str : (Tryd.prog.info? 9).map (fun i => (i.zero, i.size, i.bytes)) = some (some (.string ⟨#[]⟩), 1, 16) := by kernel_rfl
theorem rowS_keep {w w' : World} {base n : Nat} {v : Value} {e : TypeId} {vs : List Value} (h : w.ownsRow base e 1 v n vs) (hb : Below w.heap.size w w') : w'.ownsRow base e 1 v n vs := by
  obtain ⟨h1, h2⟩ := h
  refine ⟨h1, ?_⟩
  rcases h2 with h2 | ⟨g, cap, cur, hv, hg, hh, r⟩
  · exact .inl h2
  · have hlt : g < w.heap.size := by
      rcases Nat.lt_or_ge g w.heap.size with h' | h'
      · exact h'
      · rw [Array.getElem?_eq_none h'] at hh; cases hh
    exact .inr ⟨g, cap, cur, hv, hg, (hb.block g hlt).trans hh, r⟩
theorem join_two (A B : ByteArray) : (⟨(Lib.join ([A, B].map (·.data.toList)) (ByteArray.mk #[32]).data.toList).toArray⟩ : ByteArray) = A ++ ⟨#[32]⟩ ++ B := by
  apply ByteArray.ext
  simp [Lib.join]
theorem join_len (A B : ByteArray) : (Lib.join ([A, B].map (·.data.toList)) (ByteArray.mk #[32]).data.toList).length = A.size + 1 + B.size := by
  have h := congrArg ByteArray.size (join_two A B)
  rw [ByteArray.size_append, ByteArray.size_append] at h
  exact h
end Go.Proofs.YtcplmdnaboplnaaDoor
