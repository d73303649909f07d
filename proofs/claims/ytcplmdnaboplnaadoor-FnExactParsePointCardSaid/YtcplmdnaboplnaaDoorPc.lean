/- Pc: contracts: both readers of a curve's text. No conditions. -/
import Derived.Test.YtcplmdnaboplnaaDoorPb
import Derived.Test.YtcplmdnaboplnaaDoorLt
import Derived.Test.YtcplmdnaboplnaaDoorMf
import Derived.Lib.Strings
namespace Go.Proofs.YtcplmdnaboplnaaDoor
open Go.RowKit

theorem str_ne {a b : ByteArray} (h : a ≠ b) : (a.toList == b.toList) = false := by
  rw [beq_eq_false_iff_ne, Lib.toList_data, Lib.toList_data]
  intro e
  apply h
  apply ByteArray.ext
  exact Array.toList_inj.1 e
theorem cvT_size {a b : Int} (hc : curveB a b = true) : (cvT a b).size ≤ 12 := by
  obtain ⟨h1, h2, h3, h4, _⟩ := curveB_true.1 hc
  have e : (cvT a b).data.toList.length = (cvT a b).size := by simp
  have k1 : (intS a).data.toList.length ≤ 5 := by
    rw [intS_list]
    unfold Lib.itoa
    split
    · have := dec_length 3 a.natAbs (by omega); simp; omega
    · have := dec_length 3 a.toNat (by omega); omega
  have k2 : (intS b).data.toList.length ≤ 6 := by
    rw [intS_list]
    unfold Lib.itoa
    split
    · have := dec_length 4 b.natAbs (by omega); simp; omega
    · have := dec_length 4 b.toNat (by omega); omega
  rw [← e, cvT_list, List.length_append, List.length_cons]
  omega
/-- the curve whose text it is, or none. -/
noncomputable def pcV (s : ByteArray) : Value := match pcs 32 s.data.toList with
  | [x, y] => if curveB (sgL x) (sgL y) = true ∧ cvT (sgL x) (sgL y) = s then .tuple #[.agg #[.int .i64 (sgL x), .int .i64 (sgL y)], .bool true] else .tuple #[.agg #[.int .i64 0, .int .i64 0], .bool false]
  | _ => .tuple #[.agg #[.int .i64 0, .int .i64 0], .bool false]
theorem pcs_cv (a b : Int) : pcs 32 (cvT a b).data.toList = [(intS a).data.toList, (intS b).data.toList] := by
  rw [cvT_list, pcs_two (int_none (.inl (by decide)) a) (int_none (.inl (by decide)) b)]
theorem pcV_yes {a b : Int} (hc : curveB a b = true) : pcV (cvT a b) = .tuple #[.agg #[.int .i64 a, .int .i64 b], .bool true] := by
  obtain ⟨h1, h2, h3, h4, _⟩ := curveB_true.1 hc
  unfold pcV
  rw [pcs_cv]
  simp only
  rw [sgL_int (by omega) (by omega), sgL_int (by omega) (by omega), if_pos ⟨hc, rfl⟩]
theorem pcV_no {s : ByteArray} (h : ∀ a b, curveB a b = true → cvT a b ≠ s) : pcV s = .tuple #[.agg #[.int .i64 0, .int .i64 0], .bool false] := by
  unfold pcV
  split
  · rw [if_neg (fun ⟨h1, h2⟩ => h _ _ h1 h2)]
  · rfl
theorem atoi_yes {n : Int} (h0 : -1000000 < n) (h1 : n < 1000000) (w : World) (ht : LibT w) : Calls Tryd.prog 126 #[.string (intS n)] w (Ret (.tuple #[.int .i64 n, .nilIface]) w) := by
  have hs := int_size (n := n) (k := 5) (by omega)
  have e : (intS n).data.toList.length = (intS n).size := by simp
  refine (atoi_any (intS n) w (by omega) ht).mono ?_
  rintro e w' ⟨v, ev, rfl, hv, _, hb⟩
  rw [atoi_int h0 h1] at hv
  rcases hv with ⟨rfl, h⟩ | ⟨_, h⟩
  · injection h with h
    subst h
    exact ⟨rfl, hb⟩
  · exact absurd rfl (h n)
theorem inside_known {n lo hi : Int} {r : Bool} (h : inB n lo hi = r) (w : World) : Calls Tryd.prog 91 #[.int .i64 n, .int .i64 lo, .int .i64 hi] w (fun e w' => e = .returned (.bool r) ∧ w = w') := by
  have := inside_any n lo hi w
  rw [h] at this
  exact this
/-- a fresh result of two zeros. -/
def RB (B : Nat) (w : World) : Prop := B < w.heap.size ∧ w.cell? ⟨B, 0, none⟩ = some (.int .i64 0) ∧ w.cell? ⟨B, 1, none⟩ = some (.int .i64 0) ∧ w.frozen? ⟨B, 0, none⟩ = false ∧ w.frozen? ⟨B, 1, none⟩ = false
theorem RB.keep {B : Nat} {w w' : World} (h : RB B w) (hb : Below w.heap.size w w') : RB B w' := by
  obtain ⟨h0, h1, h2, h3, h4⟩ := h
  exact ⟨Nat.lt_of_lt_of_le h0 hb.size, (hb.cell (p := ⟨B, 0, none⟩) h0).trans h1, (hb.cell (p := ⟨B, 1, none⟩) h0).trans h2, (hb.frozen (p := ⟨B, 0, none⟩) h0).trans h3, (hb.frozen (p := ⟨B, 1, none⟩) h0).trans h4⟩
theorem RB.mk (w : World) : RB w.heap.size (w.alloc (.cells #[.int .i64 0, .int .i64 0] 28)) :=
  ⟨by simp, by simp [go_sem], by simp [go_sem], by simp [go_sem], by simp [go_sem]⟩
theorem pcs_len (b : UInt8) : ∀ (l x : List UInt8), x ∈ pcs b l → x.length ≤ l.length
  | [], x, h => by
    obtain rfl : x = [] := by simpa [pcs] using h
    simp
  | c :: l, x, h => by
    rw [pcs_cons] at h
    split at h
    · rcases List.mem_cons.1 h with rfl | h
      · simp
      · have := pcs_len b l x h
        simp; omega
    · cases hp : pcs b l with
      | nil =>
        rw [hp] at h
        obtain rfl : x = [c] := by simpa using h
        simp
      | cons y t =>
        rw [hp] at h
        rcases List.mem_cons.1 h with rfl | h
        · have := pcs_len b l y (by rw [hp]; simp)
          simp; omega
        · have := pcs_len b l x (by rw [hp]; exact List.mem_cons_of_mem _ h)
          simp; omega
theorem pk_held {g : Nat} {X Y : ByteArray} {w1 w' : World} (hb : Below w1.heap.size w1 w') (hlt : g < w1.heap.size) (e0 : w1.cell? ⟨g, 0, none⟩ = some (.string X)) (e1 : w1.cell? ⟨g, 1, none⟩ = some (.string Y)) :
    Below w1.heap.size w1 w' ∧ w'.cell? ⟨g, 0, none⟩ = some (.string X) ∧ w'.cell? ⟨g, 1, none⟩ = some (.string Y) :=
  ⟨hb, (hb.cell (p := ⟨g, 0, none⟩) hlt).trans e0, (hb.cell (p := ⟨g, 1, none⟩) hlt).trans e1⟩
end Go.Proofs.YtcplmdnaboplnaaDoor
