/- Dz: contracts: DrawOrderTwoAt, DrawIsIntegerPoint: whatever the bytes are, a curve and numbers come out. No conditions. -/
import Derived.Test.YtpjcfnjagknocaaDoorDc
namespace Go.Proofs.YtpjcfnjagknocaaDoor
open Go.RowKit

theorem u8_bd {n : Int} (h : (Lit.int .u8 n).wf = true) : 0 ≤ n ∧ n ≤ 255 := by
  simp [Lit.wf, IntKind.min, IntKind.max, IntKind.signed, IntKind.bits] at h
  omega
/-- the reader's box at the start. -/
theorem cr_start {w V : World} {ad : Option Addr} {len cap : Nat} {zs : List Int} (h : IsRow .u8 w ad len cap zs) (hl : len ≤ 2097152) (hb : Below w.heap.size w V) (t : TypeId) :
    Cr (V.alloc (.cells #[.slice ad len cap, .int .i64 0, .int .u64 0] t)) V.heap.size 0 := by
  refine ⟨by simp, by simp [go_sem], by simp [go_sem], ad, len, cap, 0, 0, by simp [go_sem], by simp [go_sem], by simp [go_sem], by omega, by omega, by omega, by omega, hl, fun hp => ?_⟩
  rcases h with ⟨rfl, rfl, rfl, rfl⟩ | ⟨x, rfl, hlc, hm, hz, hcell, hwz⟩
  · omega
  · obtain ⟨b, off, spot⟩ := x
    have h0 := hcell 0 (by omega)
    have hspot : spot = none := by simpa [Addr.add] using World.cell?_spot h0
    subst hspot
    have hbl : b < w.heap.size := by
      have := World.block_lt_of_cell? w _ h0
      simpa [Addr.add] using this
    have hbV := Nat.lt_of_lt_of_le hbl hb.size
    refine ⟨b, off, rfl, hbV, fun i hi => ?_⟩
    have hi' := hcell i (by omega)
    have he : ((⟨b, off, none⟩ : Addr).add i) = ⟨b, off + i, none⟩ := by unfold Addr.add; split <;> simp_all
    rw [he] at hi'
    have hmem : zs.getD i 0 ∈ zs := by rw [List.getD_eq_getElem?_getD, List.getElem?_eq_getElem (by omega)]; exact List.getElem_mem (by omega)
    obtain ⟨q0, q1⟩ := u8_bd (hwz _ hmem)
    exact ⟨_, q0, q1, ((below_allocD V _).cell (p := ⟨b, off + i, none⟩) hbV).trans ((hb.cell (p := ⟨b, off + i, none⟩) hbl).trans hi')⟩
theorem grown_belowN {a V V' : World} {B n : Nat} (h : Below n a V) (g : V.grownBy V' (some B)) (hB : n ≤ B) (hn : n ≤ a.heap.size) : Below n a V' :=
  ⟨g.os.trans h.os, g.tape.trans h.tape, g.output.trans h.output, Nat.le_trans h.size g.size, fun i hi => (g.block i (Nat.lt_of_lt_of_le (Nat.lt_of_lt_of_le hi hn) h.size) (by intro e; cases e; omega)).trans (h.block i hi)⟩
def RetCur (w : World) (e : Ending) (w' : World) : Prop := ∃ a b : Int, e = .returned (.agg #[.int .i64 a, .int .i64 b]) ∧ Below w.heap.size w w'
def RetIP (w : World) (e : Ending) (w' : World) : Prop := ∃ a b x y : Int, e = .returned (.tuple #[.agg #[.int .i64 a, .int .i64 b], .int .i64 x, .int .i64 y]) ∧ Below w.heap.size w w'
theorem draw_end {w V x : World} {N B : Nat} {n m : Value} (hl : Below w.heap.size w V) (hg : V.grownBy x (some B)) (hN : N = w.heap.size) (hB : B = w.heap.size + 1) : Below w.heap.size w ((x.setCell ⟨N, 0, none⟩ n).setCell ⟨N, 1, none⟩ m) :=
  ((grown_belowN hl hg (by omega) (Nat.le_refl _)).setCell (by dsimp only; omega) _).setCell (by dsimp only; omega) _
end Go.Proofs.YtpjcfnjagknocaaDoor
