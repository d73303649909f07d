/- Od: contracts: the order of a point modulo a prime. No conditions. -/
import Derived.Test.YtaaagjdakbnhnaaOr
namespace Go.Proofs.Ytaaagjdakbnhnaa
open Go.RowKit

structure OdSt (a b p : Int) (B0 : Nat) (v : Value) (s : List Int) (k : Nat) (vs : Value) (wr : World) : Prop where
  ca : wr.cell? ⟨B0, 0, none⟩ = some (.int .i64 a)
  cb : wr.cell? ⟨B0, 1, none⟩ = some (.int .i64 b)
  hB : B0 < wr.heap.size
  hs : Rd wr v s
  ht : Rd wr vs (seqI a p s k)
  hn : NilZ vs
theorem OdSt.keep {a b p : Int} {B0 k : Nat} {v vs : Value} {s : List Int} {w w' : World} (h : OdSt a b p B0 v s k vs w) (hb : Below w.heap.size w w') : OdSt a b p B0 v s k vs w' :=
  ⟨(hb.cell (p := ⟨B0, 0, none⟩) h.hB).trans h.ca, (hb.cell (p := ⟨B0, 1, none⟩) h.hB).trans h.cb, Nat.lt_of_lt_of_le h.hB hb.size, h.hs.keep hb, h.ht.keep hb, h.hn⟩
theorem small_disc {a b p : Int} (h : smallB a b p = true) : discI a b % p ≠ 0 := by
  obtain ⟨_, hg, _, _⟩ := small_bd h
  unfold goodB at hg
  rw [Bool.and_eq_true] at hg
  simpa using hg.2
/-- what the order's asking returns. -/
noncomputable def ordV (a b p : Int) (s : List Int) : Value := by
  classical
  exact if h : askB a b p s = true then .tuple #[.int .i64 ((ord_ex (small_p5 (by unfold askB at h; rw [Bool.and_eq_true] at h; exact h.1)) (small_disc (by unfold askB at h; rw [Bool.and_eq_true] at h; exact h.1)) (by unfold askB at h; rw [Bool.and_eq_true] at h; exact h.2) : ∃ K, IsOrd a p s K).choose : Nat), .bool true] else .tuple #[.int .i64 0, .bool false]
theorem ordV_no {a b p : Int} {s : List Int} (h : askB a b p s = false) : ordV a b p s = .tuple #[.int .i64 0, .bool false] := by
  unfold ordV; rw [dif_neg (by simp [h])]
theorem ordV_yes {a b p : Int} {s : List Int} (h : askB a b p s = true) : ∃ K, IsOrd a p s K ∧ ordV a b p s = .tuple #[.int .i64 (K : Nat), .bool true] := by
  have h' := h
  unfold askB at h'
  rw [Bool.and_eq_true] at h'
  have hex := ord_ex (small_p5 h'.1) (small_disc h'.1) h'.2
  refine ⟨hex.choose, hex.choose_spec, ?_⟩
  unfold ordV; rw [dif_pos h]
end Go.Proofs.Ytaaagjdakbnhnaa
