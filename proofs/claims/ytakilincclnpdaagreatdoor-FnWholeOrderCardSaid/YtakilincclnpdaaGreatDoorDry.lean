/- Dr: contracts: what is drawn out of bytes: whatever the bytes are, a number within bounds comes out. No conditions. -/
import Derived.Test.YtakilincclnpdaaGreatDoorPBy
import Derived.Laws.BitsLemmas
import Derived.Laws.Bits64
namespace Go.Proofs.YtakilincclnpdaaGreatDoor
open Go.RowKit

/-- block B is a reader of bytes that has read lim times at most. -/
def Cr (w : World) (B : Nat) (lim : Int) : Prop := B < w.heap.size ∧ w.frozen? ⟨B, 1, none⟩ = false ∧ w.frozen? ⟨B, 2, none⟩ = false ∧
  ∃ (ad : Option Addr) (len cap : Nat) (at_ seed : Int), w.cell? ⟨B, 0, none⟩ = some (.slice ad len cap) ∧ w.cell? ⟨B, 1, none⟩ = some (.int .i64 at_) ∧ w.cell? ⟨B, 2, none⟩ = some (.int .u64 seed) ∧
    0 ≤ at_ ∧ at_ ≤ lim ∧ 0 ≤ seed ∧ seed < 18446744073709551616 ∧ len ≤ 2097152 ∧
    (0 < len → ∃ b off, ad = some ⟨b, off, none⟩ ∧ b < B ∧ ∀ i, i < len → ∃ c : Int, 0 ≤ c ∧ c ≤ 255 ∧ w.cell? ⟨b, off + i, none⟩ = some (.int .u8 c))
theorem Cr.lt {w : World} {B : Nat} {lim : Int} (h : Cr w B lim) : B < w.heap.size := h.1
theorem Cr.keep {w w' : World} {B : Nat} {lim : Int} (h : Cr w B lim) (hb : Below (B + 1) w w') : Cr w' B lim := by
  obtain ⟨h1, h2, h3, ad, len, cap, at_, seed, c0, c1, c2, a0, a1, s0, s1, hl, hc⟩ := h
  refine ⟨Nat.lt_of_lt_of_le h1 hb.size, (hb.frozen (p := ⟨B, 1, none⟩) (by dsimp only; omega)).trans h2, (hb.frozen (p := ⟨B, 2, none⟩) (by dsimp only; omega)).trans h3, ad, len, cap, at_, seed, (hb.cell (p := ⟨B, 0, none⟩) (by dsimp only; omega)).trans c0, (hb.cell (p := ⟨B, 1, none⟩) (by dsimp only; omega)).trans c1, (hb.cell (p := ⟨B, 2, none⟩) (by dsimp only; omega)).trans c2, a0, a1, s0, s1, hl, fun h => ?_⟩
  obtain ⟨b, off, ha, hlt, hcell⟩ := hc h
  refine ⟨b, off, ha, hlt, fun i hi => ?_⟩
  obtain ⟨c, q0, q1, q2⟩ := hcell i hi
  exact ⟨c, q0, q1, (hb.cell (p := ⟨b, off + i, none⟩) (by dsimp only; omega)).trans q2⟩
theorem Cr.keep' {w w' : World} {B : Nat} {lim : Int} (h : Cr w B lim) (hb : Below w.heap.size w w') : Cr w' B lim := h.keep (hb.mono h.lt)
theorem Cr.le {w : World} {B : Nat} {lim lim' : Int} (h : Cr w B lim) (hl : lim ≤ lim') : Cr w B lim' := by
  obtain ⟨h1, h2, h3, ad, len, cap, at_, seed, c0, c1, c2, a0, a1, r⟩ := h
  exact ⟨h1, h2, h3, ad, len, cap, at_, seed, c0, c1, c2, a0, by omega, r⟩
/-- returned something of P; only the reader's block and new ones differ. -/
def RetC (P : Value → Prop) (B : Nat) (lim : Int) (w : World) (e : Ending) (w' : World) : Prop := ∃ v, e = .returned v ∧ P v ∧ w.grownBy w' (some B) ∧ Cr w' B lim
def IntIn (lo hi : Int) (v : Value) : Prop := ∃ n : Int, v = .int .i64 n ∧ lo ≤ n ∧ n ≤ hi
def AnyB (v : Value) : Prop := ∃ b : Bool, v = .bool b
theorem grown_trans {a b c : World} {B : Nat} (h : a.grownBy b (some B)) (k : b.grownBy c (some B)) : a.grownBy c (some B) := h.trans k
theorem grown_belowD {a b c : World} {B : Nat} (h : a.grownBy b (some B)) (k : Below b.heap.size b c) : a.grownBy c (some B) :=
  h.trans ⟨k.os, k.tape, k.output, k.size, fun i hi _ => k.block i hi⟩
theorem below_grown {a b : World} (B : Nat) (k : Below a.heap.size a b) : a.grownBy b (some B) := ⟨k.os, k.tape, k.output, k.size, fun i hi _ => k.block i hi⟩
theorem grown_drew {a b : World} {B : Nat} (h : a.grownBy b (some B)) : a.grownBy b.drew (some B) := ⟨h.os, h.tape, h.output, h.size, h.block⟩
theorem grown_cell {a b : World} {B : Nat} (h : a.grownBy b (some B)) {k o : Nat} (hk : k < a.heap.size) (hne : k ≠ B) : b.cell? ⟨k, o, none⟩ = a.cell? ⟨k, o, none⟩ :=
  World.cell?_of_block (h.block k hk (by intro e; cases e; exact hne rfl))
theorem u64_bd (x : Int) : 0 ≤ IntKind.u64.wrap x ∧ IntKind.u64.wrap x < 18446744073709551616 := by
  simp only [IntKind.wrap, IntKind.bits, IntKind.signed]
  simp
  omega
theorem cr_next {w : World} {B : Nat} {lim : Int} (h : Cr w B lim) (n m : Nat) (a' s' : Int) (h0 : 0 ≤ a') (h1 : a' ≤ lim + 1) (h2 : 0 ≤ s') (h3 : s' < 18446744073709551616) :
    w.grownBy ((((w.drewN n).setCell ⟨B, 1, none⟩ (.int .i64 a')).setCell ⟨B, 2, none⟩ (.int .u64 s')).drewN m) (some B) ∧ Cr ((((w.drewN n).setCell ⟨B, 1, none⟩ (.int .i64 a')).setCell ⟨B, 2, none⟩ (.int .u64 s')).drewN m) B (lim + 1) := by
  obtain ⟨hB, f1, f2, ad, len, cap, at_, seed, c0, c1, c2, a0, a1, s0, s1, hlen, hc⟩ := h
  refine ⟨⟨rfl, rfl, rfl, by simp, fun i hi hne => ?_⟩, by simpa using hB, by simp [go_sem, f1], by simp [go_sem, f2], ad, len, cap, a', s', by simp [go_sem, c0], by simp [go_sem, c1], by simp [go_sem, c2], h0, h1, h2, h3, hlen, fun hp => ?_⟩
  · have hne' : ¬ i = B := fun e => hne (by rw [e])
    show (((w.drewN n).setCell ⟨B, 1, none⟩ (.int .i64 a')).setCell ⟨B, 2, none⟩ (.int .u64 s')).heap[i]? = w.heap[i]?
    rw [Below.heap_setCell _ _ _ _ hne', Below.heap_setCell _ _ _ _ hne']
    rfl
  · obtain ⟨b, off, ha, hlt, hcell⟩ := hc hp
    refine ⟨b, off, ha, hlt, fun i hi => ?_⟩
    obtain ⟨c, q0, q1, q2⟩ := hcell i hi
    have _hne : ¬ b = B := by omega
    exact ⟨c, q0, q1, by simp [go_sem, q2]⟩
theorem and255 {x : Int} (h0 : 0 ≤ x) (h1 : x < 9223372036854775808) : bits .and .u64 x 255 = x % 256 := by
  have h := bits_mask .u64 63 (by decide) (fun (n : Int) (h₀ : 0 ≤ n) (h₁ : n < 2 ^ 63) => by rw [IntKind.wrap_u64]; omega) 8 (by decide) x h0 (by omega)
  have e : ((2 : Int) ^ 8 - 1) = 255 := by decide
  have e2 : ((2 : Int) ^ 8) = 256 := by decide
  rw [e, e2] at h
  exact h
theorem low_bd (y : Int) (h0 : 0 ≤ y) (h1 : y < 18446744073709551616) : 0 ≤ wrap64 (bits .and .u64 (y / 1099511627776) 255) ∧ wrap64 (bits .and .u64 (y / 1099511627776) 255) ≤ 255 := by
  rw [and255 (by omega) (by omega)]
  unfold wrap64
  omega
set_option maxHeartbeats 2000000 in
theorem next_any (B : Nat) (lim : Int) (w : World) (h : Cr w B lim) (hl : lim ≤ 4000000000000000000) :
    Calls Tryz.prog 126 #[.pointer (some ⟨B, 0, none⟩)] w (RetC (IntIn 0 255) B (lim + 1) w) := by
  have hcr := h
  obtain ⟨hB, f1, f2, ad, len, cap, at_, seed, c0, c1, c2, a0, a1, s0, s1, hlen, hc⟩ := h
  have HC := Lib.hid hc; clear hc
  have HCR := Lib.hid hcr; clear hcr
  by_cases hlt : at_ < (len : Int)
  · obtain ⟨b, off, rfl, hbB, hcell⟩ := HC.out (by omega)
    obtain ⟨c, q0, q1, q2⟩ := hcell at_.toNat (by omega)
    clear hcell
    have hne : ¬ b = B := by omega
    go_enter Tryz.func126, Tryz.ntmps126
    go_wp2_with fail
    go_quiet (fail)
    go_wp2_with fail
    go_quiet (fail)
    go_wp2_with fail
    go_quiet (fail)
    go_wp2_with fail
    go_ret
    have hu := u64_bd (IntKind.u64.wrap (IntKind.u64.wrap (seed * 6364136223846793005) + c) + 1442695040888963407)
    obtain ⟨hg, hc⟩ := cr_next HCR.out _ _ (at_ + 1) _ (by omega) (by omega) hu.1 hu.2
    exact ⟨_, rfl, ⟨c, rfl, q0, q1⟩, hg, hc⟩
  · go_enter Tryz.func126, Tryz.ntmps126
    go_wp2_with fail
    go_quiet (fail)
    go_wp2_with fail
    go_quiet (fail)
    go_wp2_with fail
    go_ret
    have hu := u64_bd (IntKind.u64.wrap (IntKind.u64.wrap (seed * 6364136223846793005)) + 1442695040888963407)
    obtain ⟨hg, hc⟩ := cr_next HCR.out _ _ (at_ + 1) _ (by omega) (by omega) hu.1 hu.2
    exact ⟨_, rfl, ⟨_, rfl, low_bd _ hu.1 hu.2⟩, hg, hc⟩
set_option maxHeartbeats 2000000 in
theorem pick_any (B : Nat) (lim n : Int) (w : World) (h : Cr w B lim) (hl : lim ≤ 3000000000000000000) (h0 : 1 ≤ n) (h1 : n ≤ 1000000) :
    Calls Tryz.prog 79 #[.pointer (some ⟨B, 0, none⟩), .int .i64 n] w (RetC (IntIn 0 (n - 1)) B (lim + 2) w) := by
  have hcr := Lib.hid h; clear h
  by_cases hn1 : n ≤ 1
  · go_enter Tryz.func79, Tryz.ntmps79
    go_wp2_with fail
    go_ret
    exact ⟨_, rfl, ⟨0, rfl, by omega, by omega⟩, World.grownBy.refl _ _, hcr.out.le (by omega)⟩
  · by_cases hn2 : 200 < n
    · go_enter Tryz.func79, Tryz.ntmps79
      go_wp2_with fail
      refine (next_any B lim _ hcr.out (by omega)).mono ?_; rintro e w1 ⟨v, rfl, ⟨x, rfl, x0, x1⟩, hg1, hc1⟩
      have HG1 := Lib.hid hg1; have HC1 := Lib.hid hc1; clear hg1 hc1
      go_wp2_with fail
      refine (next_any B (lim + 1) _ HC1.out (by omega)).mono ?_; rintro e w2 ⟨v, rfl, ⟨y, rfl, y0, y1⟩, hg2, hc2⟩
      have HG2 := Lib.hid hg2; have HC2 := Lib.hid hc2; clear hg2 hc2
      go_wp2_with fail
      go_ret
      exact ⟨_, rfl, ⟨_, rfl, Int.emod_nonneg _ (by omega), by have := Int.emod_lt_of_pos (x * 256 + y) (show 0 < n by omega); omega⟩, grown_trans HG1.out HG2.out, HC2.out.le (by omega)⟩
    · go_enter Tryz.func79, Tryz.ntmps79
      go_wp2_with fail
      refine (next_any B lim _ hcr.out (by omega)).mono ?_; rintro e w1 ⟨v, rfl, ⟨x, rfl, x0, x1⟩, hg1, hc1⟩
      have HG1 := Lib.hid hg1; have HC1 := Lib.hid hc1; clear hg1 hc1
      go_wp2_with fail
      go_ret
      exact ⟨_, rfl, ⟨_, rfl, Int.emod_nonneg _ (by omega), by have := Int.emod_lt_of_pos x (show 0 < n by omega); omega⟩, HG1.out, HC1.out.le (by omega)⟩
theorem one_any (B : Nat) (lim n : Int) (w : World) (h : Cr w B lim) (hl : lim ≤ 3000000000000000000) (h0 : 1 ≤ n) (h1 : n ≤ 1000000) :
    Calls Tryz.prog 47 #[.pointer (some ⟨B, 0, none⟩), .int .i64 n] w (RetC AnyB B (lim + 2) w) := by
  have hcr := Lib.hid h; clear h
  go_enter Tryz.func47, Tryz.ntmps47
  go_wp2_with fail
  refine (pick_any B lim n _ hcr.out (by omega) h0 h1).mono ?_; rintro e w1 ⟨v, rfl, ⟨x, rfl, x0, x1⟩, hg1, hc1⟩
  have HG1 := Lib.hid hg1; have HC1 := Lib.hid hc1; clear hg1 hc1
  go_wp2_with fail
  go_ret
  exact ⟨_, rfl, ⟨_, rfl⟩, HG1.out, HC1.out⟩
/-- reads as xs, its block another than the reader's. -/
def RdX (B : Nat) (w : World) (v : Value) (xs : List Int) : Prop := ∃ b off cap, v = .slice (some ⟨b, off, none⟩) xs.length cap ∧ b ≠ B ∧ b < w.heap.size ∧ 0 < xs.length ∧ xs.length ≤ 1000 ∧ ∀ i, i < xs.length → w.cell? ⟨b, off + i, none⟩ = some (.int .i64 (xs.getD i 0))
def OneOf (xs : List Int) (v : Value) : Prop := ∃ n, v = .int .i64 n ∧ n ∈ xs
theorem among_any (B : Nat) (lim : Int) (v : Value) (xs : List Int) (w : World) (h : Cr w B lim) (hl : lim ≤ 3000000000000000000) (hx : RdX B w v xs) :
    Calls Tryz.prog 65 #[.pointer (some ⟨B, 0, none⟩), v] w (RetC (OneOf xs) B (lim + 2) w) := by
  obtain ⟨b, off, cap, rfl, hbB, hb, x0, x1, hcell⟩ := hx
  have hcr := Lib.hid h; clear h
  have HX := Lib.hid hcell; clear hcell
  go_enter Tryz.func65, Tryz.ntmps65
  go_wp2_with fail
  refine (pick_any B lim (xs.length : Int) _ hcr.out (by omega) (by omega) (by omega)).mono ?_; rintro e w1 ⟨v, rfl, ⟨x, rfl, x0, x1⟩, hg1, hc1⟩
  have hck := (grown_cell hg1 (o := off + x.toNat) hb hbB).trans (HX.out x.toNat (by omega))
  have hmem : xs.getD x.toNat 0 ∈ xs := by rw [List.getD_eq_getElem?_getD, List.getElem?_eq_getElem (by omega)]; exact List.getElem_mem (by omega)
  generalize xs.getD x.toNat 0 = y at hck hmem
  have HG1 := Lib.hid hg1; have HC1 := Lib.hid hc1; clear hg1 hc1
  have HM := Lib.hid hmem; clear hmem
  have hxl : x < (xs.length : Int) := by omega
  go_wp2_with fail
  go_ret
  exact ⟨_, rfl, ⟨y, rfl, HM.out⟩, HG1.out, HC1.out⟩
end Go.Proofs.YtakilincclnpdaaGreatDoor
