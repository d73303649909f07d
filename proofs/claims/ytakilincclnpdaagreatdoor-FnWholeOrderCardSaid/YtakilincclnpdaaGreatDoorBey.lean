/- Be: contracts: strings.Builder's WriteString and String, out of the laying of strings.Repeat; a new builder. No conditions. -/
import Derived.Test.YtakilincclnpdaaGreatDoorBdy
import Derived.Test.YtakilincclnpdaaGreatDoorPAy
import Derived.Shelf.Strings.BuilderK
namespace Go.Proofs.YtakilincclnpdaaGreatDoor
open Go.RowKit

/-- a builder of one's own that holds the bytes l. -/
def Bl (w : World) (B b : Nat) (l : List UInt8) : Prop := Lib.IsBuilderF 113 5 B b (Lib.byteCells l) w
theorem strCells_eq (s : ByteArray) : Lib.strCells s = Lib.byteCells s.data.toList := by
  first | rfl | simp [Lib.strCells, Lib.byteCells]
theorem byteCells_app (l m : List UInt8) : Lib.byteCells l ++ Lib.byteCells m = Lib.byteCells (l ++ m) := by
  first | rfl | simp [Lib.byteCells]
theorem byteCells_len (l : List UInt8) : (Lib.byteCells l).length = l.length := by simp [Lib.byteCells]
theorem Bl.new (w : World) : Bl (w.alloc (.cells #[.pointer none, .slice none 0 0] 113)) w.heap.size w.heap.size [] := by
  refine .inl ⟨Nat.le_refl _, .slice none 0 0, by show (w.heap.push _)[w.heap.size]? = _; exact Array.getElem?_push_size, World.ownsRowF_of (by first | exact ⟨rfl, .inl ⟨rfl, rfl⟩⟩ | simp [World.ownsRow]), by simp [Value.ownBlock]⟩
theorem rowF_keep {w w' : World} {base n : Nat} {v : Value} {e : TypeId} {xs : List Value} (h : w.ownsRowF base e 1 v n xs) (hb : Below w.heap.size w w') : w'.ownsRowF base e 1 v n xs := by
  have hlt := h.lt
  obtain ⟨h1, h2⟩ := h
  refine ⟨h1, ?_⟩
  rcases h2 with h2 | ⟨g, cap, cur, fz, hv, r⟩
  · exact .inl h2
  · have hg := (hlt g (by rw [hv]; rfl)).2
    refine .inr ⟨g, cap, cur, fz, hv, ?_⟩
    rw [hb.block g hg]
    exact r
theorem Bl.keep {w w' : World} {B b : Nat} {l : List UInt8} (h : Bl w B b l) (hb : Below w.heap.size w w') : Bl w' B b l := by
  rcases h with h | h
  · have hlt := h.lt
    obtain ⟨h1, v, h2, h3, h4⟩ := h
    exact .inl ⟨h1, v, (hb.block b hlt).trans h2, rowF_keep h3 hb, h4⟩
  · have hlt := h.lt
    obtain ⟨h1, v, h2, h3, h4⟩ := h
    exact .inr ⟨h1, v, (hb.block b hlt).trans h2, rowF_keep h3 hb, h4⟩
theorem Bl.drew {w : World} {B b : Nat} {l : List UInt8} (h : Bl w B b l) : Bl w.drew B b l := h
theorem Bl.lt {w : World} {B b : Nat} {l : List UInt8} (h : Bl w B b l) : b < w.heap.size := by
  rcases h with h | h <;> exact h.lt
theorem bWrite (B b : Nat) (l : List UInt8) (s : ByteArray) (w : World) (h : Bl w B b l) (hlen : l.length + s.size ≤ 140737488355328) (hBw : B ≤ w.heap.size) :
    Calls Tryz.prog 114 #[.pointer (some ⟨b, 0, none⟩), .string s] w fun e w' => e = .returned (.tuple #[.int .i64 s.size, .nilIface]) ∧ Bl w' B b (l ++ s.data.toList) ∧ Below B w w' ∧ Lib.OthersKept 5 (some b) w w' := by
  refine (Any.Builder_WriteString_k (ρ := Tryz.lays105_ren) { Tryz.lays105 with } Tryz.Builder_Extra_105 B b (Lib.byteCells l) s w h (by rw [byteCells_len]; exact hlen) hBw).mono ?_
  rintro e w' ⟨rfl, h1, h2, h3⟩
  rw [strCells_eq, byteCells_app] at h1
  exact ⟨rfl, .inr h1, h2, h3⟩
theorem bString (B b : Nat) (l : List UInt8) (w : World) (h : Bl w B b l) (hBw : B ≤ w.heap.size) :
    Calls Tryz.prog 117 #[.pointer (some ⟨b, 0, none⟩)] w fun e w' => e = .returned (.string ⟨l.toArray⟩) ∧ Below B w w' := by
  refine (Any.Builder_String_any_k (ρ := Tryz.lays169_ren) Tryz.lays169 Tryz.Builder_Extra_169 B b l w h hBw).mono ?_
  rintro e w' ⟨rfl, h1, h2, h3⟩
  exact ⟨rfl, h2⟩
end Go.Proofs.YtakilincclnpdaaGreatDoor
