/- Ff: what the law FnFiniteSums needs: multiples one after the other, the contracts with their answers laid in. No conditions. -/
import Derived.Test.YtpjcfnjagknocaaGs
import Derived.Test.YtpjcfnjagknocaaTj
import Derived.Test.YtpjcfnjagknocaaLs
import Derived.Test.YtpjcfnjagknocaaDq
namespace Go.Proofs.Ytpjcfnjagknocaa
open Go.RowKit

theorem times_pos {a b p n : Int} {s : List Int} (hp : p5B p = true) (hdisc : discI a b % p ≠ 0) (hs : onF a b p s = true) (hn : 0 ≤ n) : timesL a p n s = seqI a p s n.natAbs := by
  unfold timesL
  rw [if_neg (by omega), tim_seq hp hdisc _ _ _ rfl hs, addI_nil]
theorem times_neg {a b p n : Int} {s : List Int} (hp : p5B p = true) (hdisc : discI a b % p ≠ 0) (hs : onF a b p s = true) (hn : n < 0) : timesL a p n s = seqI a p (negL p s) n.natAbs := by
  unfold timesL
  rw [if_pos hn, tim_seq hp hdisc _ _ _ rfl (on_neg2 hp hs), addI_nil]
/-- the next multiple is the sum of a multiple and the point. -/
theorem times_next {a b p n : Int} {s : List Int} (hp : p5B p = true) (hdisc : discI a b % p ≠ 0) (hs : onF a b p s = true) : addI a p (timesL a p n s) s = timesL a p (n + 1) s := by
  by_cases h : 0 ≤ n
  · rw [times_pos hp hdisc hs h, times_pos hp hdisc hs (by omega), show (n + 1).natAbs = n.natAbs + 1 by omega]
    rfl
  · rw [times_neg hp hdisc hs (by omega)]
    obtain ⟨k, hk⟩ : ∃ k, n.natAbs = k + 1 := ⟨n.natAbs - 1, by omega⟩
    have e : timesL a p (n + 1) s = seqI a p (negL p s) k := by
      by_cases h0 : n + 1 < 0
      · rw [times_neg hp hdisc hs h0, show (n + 1).natAbs = k by omega]
      · have h1 : n + 1 = 0 := by omega
        have h2 : k = 0 := by omega
        rw [times_pos hp hdisc hs (by omega), h1, h2]
        rfl
    rw [hk, e]
    show addI a p (addI a p (seqI a p (negL p s) k) (negL p s)) s = _
    have h1 := add_neg hp hdisc (on_neg2 hp hs) (on_seq hp (on_neg2 hp hs) k)
    rwa [neg_neg_pt hp hs] at h1
theorem three_sum {a b p : Int} {s t : List Int} (hp : p5B p = true) (hdisc : discI a b % p ≠ 0) (hs : onF a b p s = true) (ht : onF a b p t = true) : addI a p (addI a p s s) t = addI a p (addI a p s t) s := by
  rw [add_assoc_pt hp hdisc hs hs ht, add_comm_pt hp hs (on_add hp hs ht)]
theorem iTim_ok {a b p n : Int} {v : Value} {s r : List Int} {w : World} (hrd : Rd w v s) (hn : NilZ v) (h : askN a b p n s = true) (e : timesL a p n s = r) :
    Calls Try.prog 35 #[.agg #[.int .i64 a, .int .i64 b], .int .i64 p, .int .i64 n, v] w (RetSlB r true w) := by
  have := iTimesModulo_any a b p n v s w hrd hn
  rwa [h, if_pos rfl, e] at this
theorem iTim_no {a b p n : Int} {v : Value} {s : List Int} {w : World} (hrd : Rd w v s) (hn : NilZ v) (h : askN a b p n s = false) :
    Calls Try.prog 35 #[.agg #[.int .i64 a, .int .i64 b], .int .i64 p, .int .i64 n, v] w (RetSlB [] false w) := by
  have := iTimesModulo_any a b p n v s w hrd hn
  rwa [h, if_neg (by decide)] at this
theorem iOn_ok {a b p : Int} {v : Value} {s : List Int} {w : World} (hrd : Rd w v s) (h : askB a b p s = true) :
    Calls Try.prog 37 #[.agg #[.int .i64 a, .int .i64 b], .int .i64 p, v] w (Ret (.tuple #[.bool true, .bool true]) w) := by
  have := iIsPointModulo_any a b p v s w hrd
  unfold askB at h
  rw [Bool.and_eq_true] at h
  rwa [h.1, h.2, cond_true] at this
theorem same_ok {v u : Value} {s : List Int} {w : World} (h : Rd w v s) (h' : Rd w u s) : Calls Try.prog 68 #[v, u] w (Ret (.bool true) w) := by
  have := sameInts_any v u s s w h h'
  rwa [decide_eq_true rfl] at this
/-- a box of two numbers. -/
def Bx (n : Nat) (a b : Int) (w : World) : Prop := n < w.heap.size ∧ w.cell? ⟨n, 0, none⟩ = some (.int .i64 a) ∧ w.cell? ⟨n, 1, none⟩ = some (.int .i64 b)
theorem Bx.new (a b : Int) (w : World) (t : TypeId) : Bx w.heap.size a b (w.alloc (.cells #[.int .i64 a, .int .i64 b] t)) := ⟨by simp, by simp [go_sem], by simp [go_sem]⟩
theorem Bx.keep {n : Nat} {a b : Int} {w w' : World} (h : Bx n a b w) (hb : Below w.heap.size w w') : Bx n a b w' :=
  ⟨Nat.lt_of_lt_of_le h.1 hb.size, (hb.cell (p := ⟨n, 0, none⟩) h.1).trans h.2.1, (hb.cell (p := ⟨n, 1, none⟩) h.1).trans h.2.2⟩
theorem isRow_keep {k : IntKind} {w w' : World} {a : Option Addr} {len cap : Nat} {zs : List Int} (h : IsRow k w a len cap zs) (hb : Below w.heap.size w w') : IsRow k w' a len cap zs := by
  rcases h with h | ⟨x, rfl, h1, h2, h3, h4, h5⟩
  · exact .inl h
  · refine .inr ⟨x, rfl, h1, h2, h3, fun i hi => ?_, h5⟩
    have hc := h4 i hi
    have hlt := World.block_lt_of_cell? w _ hc
    exact (hb.cell hlt).trans hc
end Go.Proofs.Ytpjcfnjagknocaa
