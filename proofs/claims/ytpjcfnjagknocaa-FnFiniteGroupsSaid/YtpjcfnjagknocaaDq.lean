/- Dq: contracts: DrawAddModulo, DrawTimesModulo: whatever the bytes are, a curve, a prime, numbers and slices come out. No conditions. -/
import Derived.Test.YtpjcfnjagknocaaDh
namespace Go.Proofs.Ytpjcfnjagknocaa
open Go.RowKit

theorem u8_bd {n : Int} (h : (Lit.int .u8 n).wf = true) : 0 ≤ n ∧ n ≤ 255 := by
  simp [Lit.wf, IntKind.min, IntKind.max, IntKind.signed, IntKind.bits] at h
  omega
/-- the reader's box at the start. -/
theorem cr_start {w V : World} {ad : Option Addr} {len cap : Nat} {zs : List Int} (h : IsRow .u8 w ad len cap zs) (hl : len ≤ 2097152) (hb : Below w.heap.size w V) (t : TypeId) :
    Cr (V.alloc (.cells #[.slice ad len cap, .int .i64 0, .int .u64 0] t)) V.heap.size 0 := by
  refine ⟨by simp, by simp [go_sem], by simp [go_sem], ad, len, cap, 0, 0, by simp [go_sem], by simp [go_sem], by simp [go_sem], by omega, by omega, by omega, by omega, hl, fun hp => ?_⟩
  rcases h with ⟨rfl, rfl, rfl, rfl⟩ | ⟨x, rfl, hlc, hm, hz, hcell, hwz⟩
  · omega
  · obtain ⟨b, off, spot⟩ := x
    have h0 := hcell 0 (by omega)
    have hspot : spot = none := by simpa [Addr.add] using World.cell?_spot h0
    subst hspot
    have hbl : b < w.heap.size := by
      have := World.block_lt_of_cell? w _ h0
      simpa [Addr.add] using this
    have hbV := Nat.lt_of_lt_of_le hbl hb.size
    refine ⟨b, off, rfl, hbV, fun i hi => ?_⟩
    have hi' := hcell i (by omega)
    have he : ((⟨b, off, none⟩ : Addr).add i) = ⟨b, off + i, none⟩ := by unfold Addr.add; split <;> simp_all
    rw [he] at hi'
    have hmem : zs.getD i 0 ∈ zs := by rw [List.getD_eq_getElem?_getD, List.getElem?_eq_getElem (by omega)]; exact List.getElem_mem (by omega)
    obtain ⟨q0, q1⟩ := u8_bd (hwz _ hmem)
    exact ⟨_, q0, q1, ((below_allocD V _).cell (p := ⟨b, off + i, none⟩) hbV).trans ((hb.cell (p := ⟨b, off + i, none⟩) hbl).trans hi')⟩
theorem SlB.le {M M' : Nat} {w : World} {v : Value} (h : SlB M w v) (hm : M' ≤ M) : SlB M' w v := by
  obtain ⟨xs, h1, h2, h3, h4⟩ := h
  exact ⟨xs, h1, h2, fun b off k n c e => Nat.le_trans hm (h3 b off k n c e), h4⟩
def SlD (w : World) (v : Value) : Prop := ∃ xs, Rd w v xs ∧ NilZ v
theorem SlB.d {M : Nat} {w : World} {v : Value} (h : SlB M w v) : SlD w v := by
  obtain ⟨xs, h1, h2, _⟩ := h
  exact ⟨xs, h1, h2⟩
def RetAdd (w : World) (e : Ending) (w' : World) : Prop := ∃ (a b p : Int) (v u : Value), e = .returned (.tuple #[.agg #[.int .i64 a, .int .i64 b], .int .i64 p, v, u]) ∧ SlD w' v ∧ SlD w' u ∧ Below w.heap.size w w'
def RetTimes (w : World) (e : Ending) (w' : World) : Prop := ∃ (a b p n : Int) (v : Value), e = .returned (.tuple #[.agg #[.int .i64 a, .int .i64 b], .int .i64 p, .int .i64 n, v]) ∧ I64 n ∧ SlD w' v ∧ Below w.heap.size w w'
end Go.Proofs.Ytpjcfnjagknocaa
