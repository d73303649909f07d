/- Lt: contracts: strconv.Atoi and strings.Cut where the library's variables lie. No conditions. -/
import Derived.Test.YtpjcfnjagknocaaGreatDoorPa
import Derived.Test.YtpjcfnjagknocaaGreatDoorAto
import Derived.Test.YtpjcfnjagknocaaGreatDoorCut
import Derived.Lib.AtoiErrMem
import Derived.Lib.AtoiAllCases
namespace Go.Proofs.YtpjcfnjagknocaaGreatDoor
open Go.RowKit

/-- the table of powers of ten, the two errors and the greatest length lie as the program's text lays them. -/
def LibT (w : World) : Prop := PowT w ∧ (∃ m, w.cell? ⟨1, 0, none⟩ = some (.int .i64 m)) ∧
  (∃ t p, w.cell? ⟨2, 0, none⟩ = some (.iface t p)) ∧ (∃ t p, w.cell? ⟨3, 0, none⟩ = some (.iface t p))
theorem cell_keep {w w' : World} {g : Nat} {v : Value} (h : w.cell? ⟨g, 0, none⟩ = some v) (hb : Below w.heap.size w w') : w'.cell? ⟨g, 0, none⟩ = some v :=
  (hb.cell (p := ⟨g, 0, none⟩) (Lib.lt_of_cell h)).trans h
theorem LibT.keep {w w' : World} (h : LibT w) (hb : Below w.heap.size w w') : LibT w' := by
  obtain ⟨h1, ⟨m, h2⟩, ⟨t, p, h3⟩, ⟨u, q, h4⟩⟩ := h
  exact ⟨h1.keep hb, ⟨m, cell_keep h2 hb⟩, ⟨t, p, cell_keep h3 hb⟩, ⟨u, q, cell_keep h4 hb⟩⟩
/-- a number and an error, nil just where the text spells an int, and then its number. -/
def RetAto (s : ByteArray) (w : World) (e : Ending) (w' : World) : Prop :=
  ∃ v ev, e = .returned (.tuple #[.int .i64 v, ev]) ∧ ((ev = .nilIface ∧ Lib.atoiAll s.data.toList = .ok v) ∨ ((∃ t p, ev = .iface t p) ∧ ∀ n, Lib.atoiAll s.data.toList ≠ .ok n)) ∧ I64 v ∧ Below w.heap.size w w'
theorem atoi_any (s : ByteArray) (w : World) (hs : s.size ≤ 1048576) (ht : LibT w) : Calls Tryz.prog 149 #[.string s] w (RetAto s w) := by
  obtain ⟨_, _, ⟨t, p, h3⟩, ⟨u, q, h4⟩⟩ := ht
  cases h : Lib.atoiAll s.data.toList with
  | ok v =>
    refine (Tryz.strconv_Atoi_ok s (by omega) v h w).mono ?_
    rintro e w' ⟨rfl, hw⟩
    refine ⟨v, .nilIface, rfl, .inl ⟨rfl, h⟩, ?_, ?_⟩
    · have := Lib.atoiAll_bounds h
      unfold I64; omega
    · rcases hw with rfl | ⟨t, rfl⟩
      · exact Below.refl _ _
      · exact Lib.bytesWorld_below _ _ _
  | range =>
    refine (Tryz.strconv_Atoi_range s (by omega) h _ w h4 (.inr ⟨_, _, rfl⟩)).mono ?_
    rintro e w' ⟨N, rfl, _, _, hb⟩
    refine ⟨_, _, rfl, .inr ⟨⟨_, _, rfl⟩, fun n hn => by rw [h] at hn; cases hn⟩, ?_, hb⟩
    unfold I64 Lib.atoiSat
    split <;> omega
  | _ =>
    refine (Tryz.strconv_Atoi_other s (by omega) (fun n hn => by rw [h] at hn; cases hn) (fun hn => by rw [h] at hn; cases hn) _ w h3 (.inr ⟨_, _, rfl⟩)).mono ?_
    rintro e w' ⟨N, rfl, _, _, hb⟩
    exact ⟨0, _, rfl, .inr ⟨⟨_, _, rfl⟩, fun n hn => by rw [h] at hn; cases hn⟩, by unfold I64; omega, hb⟩
theorem cut_any (s : ByteArray) (b : UInt8) (w : World) (hs : s.size ≤ 1048576) (ht : LibT w) :
    Calls Tryz.prog 148 #[.string s, .string ⟨#[b]⟩] w (Ret (.tuple #[.string ⟨(Lib.cut s.data.toList [b]).1.toArray⟩, .string ⟨(Lib.cut s.data.toList [b]).2.1.toArray⟩, .bool (Lib.cut s.data.toList [b]).2.2]) w) := by
  obtain ⟨_, ⟨m, h2⟩, _⟩ := ht
  refine (Tryz.strings_Cut s ⟨#[b]⟩ m w (by omega) h2).mono ?_
  rintro e w' ⟨rfl, n, rfl⟩
  exact ⟨rfl, bel_drewN (Below.refl _ _) n⟩
theorem cut_size (l : List UInt8) (b : UInt8) : (Lib.cut l [b]).1.length ≤ l.length ∧ (Lib.cut l [b]).2.1.length ≤ l.length := by
  unfold Lib.cut
  split
  · simp; omega
  · simp
end Go.Proofs.YtpjcfnjagknocaaGreatDoor
