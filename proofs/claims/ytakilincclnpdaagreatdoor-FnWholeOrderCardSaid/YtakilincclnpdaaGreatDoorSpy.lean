/- Sp: contract: a text with one or two edits, drawn. No conditions. -/
import Derived.Test.YtakilincclnpdaaGreatDoorPEy
import Derived.Test.YtakilincclnpdaaGreatDoorSyy
namespace Go.Proofs.YtakilincclnpdaaGreatDoor
open Go.RowKit

def one8 (c : Int) : ByteArray := ⟨#[UInt8.ofNat c.toNat]⟩
theorem one8_size (c : Int) : (one8 c).size = 1 := rfl
theorem one8_run (x : World) (c : Int) : (convert 22 9 (.slice (some ⟨x.heap.size, 0, none⟩) 1 1)).run Tryz.prog (x.alloc (.cells #[.int .u8 c] 5)) = .ok (.string (one8 c)) (x.alloc (.cells #[.int .u8 c] 5)) :=
  conv_one (by simp [go_sem])
theorem cr_drewN {w : World} {B : Nat} {lim : Int} {m : Nat} (h : Cr w B lim) : Cr (w.drewN m) B lim := h
theorem grown_drewN {a b : World} {B m : Nat} (h : a.grownBy b (some B)) : a.grownBy (b.drewN m) (some B) := ⟨h.os, h.tape, h.output, h.size, h.block⟩
def StrS (n : Nat) (v : Value) : Prop := ∃ s : ByteArray, v = .string s ∧ s.size ≤ n
set_option maxHeartbeats 4000000 in
set_option maxRecDepth 100000 in
theorem spoilt_any (B : Nat) (lim : Int) (t wi : ByteArray) (n : Nat) (w : World) (h : Cr w B lim) (hl : lim ≤ 1000000000000000000) (hw0 : 0 < wi.size) (hw1 : wi.size ≤ 1000) (ht : t.size ≤ n) (hn : n ≤ 900000) :
    Calls Tryz.prog 80 #[.pointer (some ⟨B, 0, none⟩), .string t, .string wi] w (RetC (StrS (n + 2)) B (lim + 40) w) := by
  have HC := Lib.hid h; clear h
  go_enter Tryz.func80, Tryz.ntmps80
  go_wp2_with fail
  refine (pick_any B lim 2 _ HC.out (by omega) (by omega) (by omega)).mono ?_; rintro e w1 ⟨v, rfl, ⟨c, rfl, c0, c1⟩, hg1, hc1⟩
  have HC1 := Lib.hid hc1; have HG1 := Lib.hid hg1; clear hg1 hc1 HC
  go_wp2_with fail
  go_loopw [1, 7] (fun y x wr => ∃ (k : Nat) (s : ByteArray), x = .int .i64 k ∧ y = .string s ∧ k ≤ 2 ∧ s.size + k ≤ n + 2 ∧ Hid (Cr wr B (lim + 2 + 10 * (2 - (k : Int)))) ∧ Hid (w.grownBy wr (some B))) (fun _ x _ => (intOf x).toNat)
  case atStart => exact ⟨(c + 1).toNat, t, by rw [Int.toNat_of_nonneg (by omega)]; first | rfl | go_num, rfl, by omega, by omega, HC1.out.le (by omega), HG1.out⟩
  case round =>
    obtain ⟨k, s, rfl, rfl, k2, hs, HCr, HGr⟩ := hrel
    by_cases hk : k = 0
    · subst hk
      go_wp2_with fail
      go_ret
      exact ⟨_, rfl, ⟨_, rfl, by omega⟩, HGr.out, HCr.out.le (by omega)⟩
    by_cases hz : s.size = 0
    · have hk0 : (0 : Int) < (k : Int) := by omega
      go_wp2_with fail
      go_ret
      exact ⟨_, rfl, ⟨_, rfl, by omega⟩, HGr.out, HCr.out.le (by omega)⟩
    have hk0 : (0 : Int) < (k : Int) := by omega
    have hs0 : (0 : Int) < (s.size : Int) := by omega
    go_wp2_with fail
    refine (pick_any B _ (s.size : Int) _ HCr.out (by omega) (by omega) (by omega)).mono ?_; rintro e w2 ⟨v, rfl, ⟨i, rfl, i0, i1⟩, hg2, hc2⟩
    have HC2 := Lib.hid hc2; have HG2 := Lib.hid (grown_trans HGr.out hg2); clear hg2 hc2 HCr HGr
    go_wp2_with fail
    refine (pick_any B _ (wi.size : Int) _ HC2.out (by omega) (by omega) (by omega)).mono ?_; rintro e w3 ⟨v, rfl, ⟨j, rfl, j0, j1⟩, hg3, hc3⟩
    have HC3 := Lib.hid hc3; have HG3 := Lib.hid (grown_trans HG2.out hg3); clear hg3 hc3 HC2 HG2
    have j2 : j < (wi.size : Int) := by omega
    have kc := one8_run
    have hj : j.toNat < wi.size := by omega
    go_wp2_with fail
    clear kc
    have hq := one8_size (wi[j.toNat].toNat : Int)
    generalize one8 (wi[j.toNat].toNat : Int) = q at hq ⊢
    generalize (wi[j.toNat].toNat : Int) = cc
    have hc4 := HC3.out.keep' (below_allocD w3 (.cells #[.int .u8 cc] 5))
    have hg4 := grown_belowD HG3.out (below_allocD w3 (.cells #[.int .u8 cc] 5))
    generalize w3.alloc (.cells #[.int .u8 cc] 5) = w4 at hc4 hg4 ⊢
    have HC4 := Lib.hid hc4; have HG4 := Lib.hid hg4; clear hc4 hg4 HC3 HG3 hj j0 j1 j2
    refine (pick_any B _ 3 _ HC4.out (by omega) (by omega) (by omega)).mono ?_; rintro e w5 ⟨v, rfl, ⟨x, rfl, x0, x1⟩, hg5, hc5⟩
    have HC5 := Lib.hid hc5; have HG5 := Lib.hid (grown_trans HG4.out hg5); clear hg5 hc5 HC4 HG4
    have hi2 : i + 1 ≤ (s.size : Int) := by omega
    have hi3 : i ≤ (s.size : Int) := by omega
    have hsl : s.size ≤ 900002 := by omega
    have hq1 : q.size ≤ 1 := by omega
    have hwi1 : IntKind.i64.wrap (i + 1) = i + 1 := i64_wrap (by omega) (by omega)
    have hkw : IntKind.i64.wrap ((k : Int) - 1) = (k : Int) - 1 := i64_wrap (by omega) (by omega)
    rcases (by omega : x = 0 ∨ x = 1 ∨ x = 2) with rfl | rfl | rfl
    all_goals
      go_wp2_with fail
      go_quiet (fail)
      go_wp2_with fail
      refine ⟨⟨k - 1, _, congrArg (Value.int .i64) (by omega), rfl, by omega, ?_, (cr_drewN HC5.out).le (by omega), grown_drewN HG5.out⟩, ?_⟩
      · simp only [ByteArray.size_append, ByteArray.size_extract]; omega
      · simp [intOf]; omega
end Go.Proofs.YtakilincclnpdaaGreatDoor
