/- The walk of FnPointTexts. No conditions. -/
import Derived.Test.YtakilincclnpdaaGreatDoorPTz
import Derived.Test.YtakilincclnpdaaGreatDoorDppz
import Derived.Test.YtakilincclnpdaaGreatDoorPUz
import Derived.Deep.Cut
import Derived.Deep.CutRange
import Derived.Deep.RegionHeld3
namespace Go.Proofs.YtakilincclnpdaaGreatDoor
open Go.RowKit
/-- a box of two numbers. -/
def Bc (n : Nat) (a b : Int) (w : World) : Prop := n < w.heap.size ∧ w.cell? ⟨n, 0, none⟩ = some (.int .i64 a) ∧ w.cell? ⟨n, 1, none⟩ = some (.int .i64 b)
theorem Bc.new (a b : Int) (w : World) (t : TypeId) : Bc w.heap.size a b (w.alloc (.cells #[.int .i64 a, .int .i64 b] t)) := ⟨by simp, by simp [go_sem], by simp [go_sem]⟩
theorem Bc.keep {n : Nat} {a b : Int} {w w' : World} (h : Bc n a b w) (hb : Below w.heap.size w w') : Bc n a b w' :=
  ⟨Nat.lt_of_lt_of_le h.1 hb.size, (hb.cell (p := ⟨n, 0, none⟩) h.1).trans h.2.1, (hb.cell (p := ⟨n, 1, none⟩) h.1).trans h.2.2⟩
/-- a box of three numbers. -/
def Bp (n : Nat) (a b c : Int) (w : World) : Prop := n < w.heap.size ∧ w.cell? ⟨n, 0, none⟩ = some (.int .i64 a) ∧ w.cell? ⟨n, 1, none⟩ = some (.int .i64 b) ∧ w.cell? ⟨n, 2, none⟩ = some (.int .i64 c)
theorem Bp.new (a b c : Int) (w : World) (t : TypeId) : Bp w.heap.size a b c (w.alloc (.cells #[.int .i64 a, .int .i64 b, .int .i64 c] t)) := ⟨by simp, by simp [go_sem], by simp [go_sem], by simp [go_sem]⟩
theorem Bp.keep {n : Nat} {a b c : Int} {w w' : World} (h : Bp n a b c w) (hb : Below w.heap.size w w') : Bp n a b c w' :=
  ⟨Nat.lt_of_lt_of_le h.1 hb.size, (hb.cell (p := ⟨n, 0, none⟩) h.1).trans h.2.1, (hb.cell (p := ⟨n, 1, none⟩) h.1).trans h.2.2.1, (hb.cell (p := ⟨n, 2, none⟩) h.1).trans h.2.2.2⟩
theorem len_wrap {len len' : Nat} (h1 : len ≤ 140737488355328) (h2 : len' ≤ 140737488355328) : IntKind.i64.wrap ((len : Int) + (len' : Int)) = (len : Int) + (len' : Int) := wrapkb (by omega) (by omega)
theorem len_wrap' {len len' : Nat} (h1 : len ≤ 140737488355328) (h2 : len' ≤ 140737488355328) : wrap64 ((len : Int) + (len' : Int)) = (len : Int) + (len' : Int) := by
  unfold wrap64
  omega
theorem held24 {W w' : World} {nf nq g off : Nat} {u0 u1 u2 u3 u4 u5 u6 u7 : Value} (h : Below W.heap.size W w') (h0 : nf < W.heap.size) (h1 : nf + 1 < W.heap.size) (h2 : nq < W.heap.size) (h3 : g < W.heap.size)
    (c0 : W.cell? ⟨nf, 0, none⟩ = some u0) (c1 : W.cell? ⟨nf, 1, none⟩ = some u1) (c2 : W.cell? ⟨nf + 1, 0, none⟩ = some u2) (c3 : W.cell? ⟨nf + 1, 1, none⟩ = some u3) (c4 : W.cell? ⟨nq, 0, none⟩ = some u4) (c5 : W.cell? ⟨nq, 1, none⟩ = some u5) (c6 : W.cell? ⟨nq, 2, none⟩ = some u6) (c7 : W.cell? ⟨g, off + 1, none⟩ = some u7) :
    Below W.heap.size W w' ∧ w'.cell? ⟨nf, 0, none⟩ = some u0 ∧ w'.cell? ⟨nf, 1, none⟩ = some u1 ∧ w'.cell? ⟨nf + 1, 0, none⟩ = some u2 ∧ w'.cell? ⟨nf + 1, 1, none⟩ = some u3 ∧ w'.cell? ⟨nq, 0, none⟩ = some u4 ∧ w'.cell? ⟨nq, 1, none⟩ = some u5 ∧ w'.cell? ⟨nq, 2, none⟩ = some u6 ∧ w'.cell? ⟨g, off + 1, none⟩ = some u7 :=
  ⟨h, (h.cell (p := ⟨nf, 0, none⟩) h0).trans c0, (h.cell (p := ⟨nf, 1, none⟩) h0).trans c1, (h.cell (p := ⟨nf + 1, 0, none⟩) h1).trans c2, (h.cell (p := ⟨nf + 1, 1, none⟩) h1).trans c3, (h.cell (p := ⟨nq, 0, none⟩) h2).trans c4, (h.cell (p := ⟨nq, 1, none⟩) h2).trans c5, (h.cell (p := ⟨nq, 2, none⟩) h2).trans c6, (h.cell (p := ⟨g, off + 1, none⟩) h3).trans c7⟩
end Go.Proofs.YtakilincclnpdaaGreatDoor
namespace Go.Proofs.YtakilincclnpdaaGreatDoor.fnPointTexts
open Go.RowKit
set_option maxHeartbeats 16000000 in
set_option maxRecDepth 100000 in
theorem walk (ad0 : Option Addr) (len0 cap0 : Nat) (z0 : List Int) (ad1 : Option Addr) (len1 cap1 : Nat) (z1 : List Int) (w : World) (h0 : IsRow .u8 w ad0 len0 cap0 z0) (h1 : IsRow .u8 w ad1 len1 cap1 z1) (hz0 : len0 ≤ 140737488355328) (hz1 : len1 ≤ 140737488355328) (ht : LibT w) :
    Calls Tryz.prog 4 #[.slice ad0 len0 cap0, .slice ad1 len1 cap1] w (Ret (.bool true) w) := by
  have hw1 : IntKind.i64.wrap ((len0 : Int) + (len1 : Int)) = (len0 : Int) + (len1 : Int) := len_wrap hz0 hz1
  have hw2 : wrap64 ((len0 : Int) + (len1 : Int)) = (len0 : Int) + (len1 : Int) := len_wrap' hz0 hz1
  have HRow := Lib.hid h0; have HM1 := Lib.hid h1; have HT1 := Lib.hid ht; clear h0 h1 hz0 hz1 ht
  by_cases hbig : (1048576 : Int) < (len0 : Int) + (len1 : Int)
  · clear HM1 HRow HT1
    go_enter Tryz.func4, Tryz.ntmps4
    go_wp2_with fail
    go_ret
    exact ret_eq (by rfl) (by repeat (first | exact Below.refl _ _ | (with_reducible assumption) | refine bel_alloc ?_ _ | refine bel_drew ?_ | refine bel_drewN ?_ _ | refine Below.setCell ?_ (by dsimp only; omega) _ | refine bel_trans (by assumption) ?_))
  have hl0 : len0 ≤ 1048576 := by omega
  have hl1 : len1 ≤ 1048576 := by omega
  have HL1 := Lib.hid hl1
  have hbig' : ¬ (1048576 : Int) < (len0 : Int) + (len1 : Int) := hbig
  go_enter Tryz.func4, Tryz.ntmps4
  go_wp2_with fail
  refine (drawPointText_any _ _ _ _ _ HRow.out hl0).mono ?_
  rintro e w2 ⟨a, b, x, y, ee, rfl, hb⟩
  have HB2 := Lib.hid hb
  have HM2 := Lib.hid (isRow_keepDb HM1.out hb)
  have HT2 := Lib.hid (HT1.out.keep hb)
  clear hb HM1 HRow HT1 hbig hbig' hl0 hl1 hw1 hw2
  go_wp2_with fail
  have hb : Below w2.heap.size w2 ((w2.alloc (.cells #[.int .i64 a, .int .i64 b] 50)).alloc (.cells #[.int .i64 x, .int .i64 y, .int .i64 ee] 52)) := bel_alloc (below_allocD _ _) _
  have hx0 := ((Bc.new (a) (b) w2 50).keep (below_allocD _ (.cells #[.int .i64 x, .int .i64 y, .int .i64 ee] 52)))
  have hx1 : Bp (w2.heap.size + 1) (x) (y) (ee) ((w2.alloc (.cells #[.int .i64 a, .int .i64 b] 50)).alloc (.cells #[.int .i64 x, .int .i64 y, .int .i64 ee] 52)) := by
    have := Bp.new (x) (y) (ee) (w2.alloc (.cells #[.int .i64 a, .int .i64 b] 50)) 52
    rw [show (w2.alloc (.cells #[.int .i64 a, .int .i64 b] 50)).heap.size = w2.heap.size + 1 by simp] at this
    exact this
  generalize (w2.alloc (.cells #[.int .i64 a, .int .i64 b] 50)).alloc (.cells #[.int .i64 x, .int .i64 y, .int .i64 ee] 52) = w3 at hb hx0 hx1 ⊢
  generalize hn : w2.heap.size = nc at hx0 hx1 ⊢
  have BXc_3 := Lib.hid hx0; clear hx0
  have BXp_3 := Lib.hid hx1; clear hx1
  clear hn
  have HB3 := Lib.hid (bel_trans hb HB2.out); clear HB2
  have HM3 := Lib.hid (isRow_keepDb HM2.out hb); clear HM2
  have HT3 := Lib.hid (HT2.out.keep hb); clear HT2
  clear hb
  obtain ⟨t, h, ok, rf⟩ := ptfacts a b x y ee ptT_small
  have K0 := Lib.hid rf.t0; have K1 := Lib.hid rf.t1; have K2 := Lib.hid rf.h0; have K3 := Lib.hid rf.h1; have KI := Lib.hid rf.isP; have KH := Lib.hid rf.hh; have KB := Lib.hid rf.back; have KZ := Lib.hid rf.zer; have KF := Lib.hid rf.fin
  clear rf
  refine (K0.out _ HT3.out.1).mono ?_
  rintro e w4 ⟨rfl, hb⟩
  have HB4 := Lib.hid (bel_trans hb HB3.out); clear HB3
  have HM4 := Lib.hid (isRow_keepDb HM3.out hb); clear HM3
  have HT4 := Lib.hid (HT3.out.keep hb); clear HT3
  have BXc_4 := Lib.hid (BXc_3.out.keep hb); clear BXc_3
  have BXp_4 := Lib.hid (BXp_3.out.keep hb); clear BXp_3
  clear hb
  obtain ⟨cc0, cc1, cc2⟩ := BXc_4.out
  obtain ⟨cp0, cp1, cp2, cp3⟩ := BXp_4.out
  go_wp2_with fail
  clear cc0 cc1 cc2
  clear cp0 cp1 cp2 cp3
  refine (K1.out _).mono ?_
  rintro e w5 ⟨rfl, hb⟩
  have HB5 := Lib.hid (bel_trans hb HB4.out); clear HB4
  have HM5 := Lib.hid (isRow_keepDb HM4.out hb); clear HM4
  have HT5 := Lib.hid (HT4.out.keep hb); clear HT4
  have BXc_5 := Lib.hid (BXc_4.out.keep hb); clear BXc_4
  have BXp_5 := Lib.hid (BXp_4.out.keep hb); clear BXp_4
  clear hb
  obtain ⟨cc0, cc1, cc2⟩ := BXc_5.out
  obtain ⟨cp0, cp1, cp2, cp3⟩ := BXp_5.out
  go_wp2_with fail
  clear cc0 cc1 cc2
  clear cp0 cp1 cp2 cp3
  refine (K2.out _).mono ?_
  rintro e w6 ⟨rfl, hb⟩
  have HB6 := Lib.hid (bel_trans hb HB5.out); clear HB5
  have HM6 := Lib.hid (isRow_keepDb HM5.out hb); clear HM5
  have HT6 := Lib.hid (HT5.out.keep hb); clear HT5
  have BXc_6 := Lib.hid (BXc_5.out.keep hb); clear BXc_5
  have BXp_6 := Lib.hid (BXp_5.out.keep hb); clear BXp_5
  clear hb
  obtain ⟨cc0, cc1, cc2⟩ := BXc_6.out
  obtain ⟨cp0, cp1, cp2, cp3⟩ := BXp_6.out
  go_wp2_with fail
  clear cc0 cc1 cc2
  clear cp0 cp1 cp2 cp3
  refine (K3.out _).mono ?_
  rintro e w7 ⟨rfl, hb⟩
  have HB7 := Lib.hid (bel_trans hb HB6.out); clear HB6
  have HM7 := Lib.hid (isRow_keepDb HM6.out hb); clear HM6
  have HT7 := Lib.hid (HT6.out.keep hb); clear HT6
  have BXc_7 := Lib.hid (BXc_6.out.keep hb); clear BXc_6
  have BXp_7 := Lib.hid (BXp_6.out.keep hb); clear BXp_6
  clear hb
  obtain ⟨cc0, cc1, cc2⟩ := BXc_7.out
  obtain ⟨cp0, cp1, cp2, cp3⟩ := BXp_7.out
  go_wp2_with fail
  clear cc0 cc1 cc2
  clear cp0 cp1 cp2 cp3
  clear K0 K1 K2 K3
  refine (drawParsePoint_any _ _ _ _ _ HM7.out HL1.out).mono ?_
  rintro e w8 ⟨a2, b2, s, rfl, hs, hb⟩
  have HB8 := Lib.hid (bel_trans hb HB7.out); clear HB7
  have HM8 := Lib.hid (isRow_keepDb HM7.out hb); clear HM7
  have HT8 := Lib.hid (HT7.out.keep hb); clear HT7
  have BXc_8 := Lib.hid (BXc_7.out.keep hb); clear BXc_7
  have BXp_8 := Lib.hid (BXp_7.out.keep hb); clear BXp_7
  clear hb
  obtain ⟨cc0, cc1, cc2⟩ := BXc_8.out
  obtain ⟨cp0, cp1, cp2, cp3⟩ := BXp_8.out
  go_wp2_with fail
  clear cc0 cc1 cc2
  clear cp0 cp1 cp2 cp3
  have hb : Below w8.heap.size w8 (w8.alloc (.cells #[.int .i64 a2, .int .i64 b2] 50)) := below_allocD _ _
  have hx0 := (Bc.new (a2) (b2) w8 50)
  generalize w8.alloc (.cells #[.int .i64 a2, .int .i64 b2] 50) = w9 at hb hx0 ⊢
  generalize hn : w8.heap.size = ne at hx0 ⊢
  have BXe_9 := Lib.hid hx0; clear hx0
  clear hn
  have HB9 := Lib.hid (bel_trans hb HB8.out); clear HB8
  have HM9 := Lib.hid (isRow_keepDb HM8.out hb); clear HM8
  have HT9 := Lib.hid (HT8.out.keep hb); clear HT8
  have BXc_9 := Lib.hid (BXc_8.out.keep hb); clear BXc_8
  have BXp_9 := Lib.hid (BXp_8.out.keep hb); clear BXp_8
  clear hb
  obtain ⟨x2, y2, e2, three, rf⟩ := ppfacts a2 b2 s hs
  have P0 := Lib.hid rf.p0; have P1 := Lib.hid rf.p1; have PI := Lib.hid rf.isP
  clear rf hs
  refine (P0.out _ HT9.out).mono ?_
  rintro e w10 ⟨rfl, hb⟩
  have HB10 := Lib.hid (bel_trans hb HB9.out); clear HB9
  have HM10 := Lib.hid (isRow_keepDb HM9.out hb); clear HM9
  have HT10 := Lib.hid (HT9.out.keep hb); clear HT9
  have BXc_10 := Lib.hid (BXc_9.out.keep hb); clear BXc_9
  have BXp_10 := Lib.hid (BXp_9.out.keep hb); clear BXp_9
  have BXe_10 := Lib.hid (BXe_9.out.keep hb); clear BXe_9
  clear hb
  obtain ⟨cc0, cc1, cc2⟩ := BXc_10.out
  obtain ⟨cp0, cp1, cp2, cp3⟩ := BXp_10.out
  obtain ⟨ce0, ce1, ce2⟩ := BXe_10.out
  go_wp2_with fail
  clear cc0 cc1 cc2
  clear cp0 cp1 cp2 cp3
  clear ce0 ce1 ce2
  have hb : Below w10.heap.size w10 (w10.alloc (.cells #[.int .i64 x2, .int .i64 y2, .int .i64 e2] 52)) := below_allocD _ _
  have hx0 := (Bp.new (x2) (y2) (e2) w10 52)
  generalize w10.alloc (.cells #[.int .i64 x2, .int .i64 y2, .int .i64 e2] 52) = w11 at hb hx0 ⊢
  generalize hn : w10.heap.size = nr at hx0 ⊢
  have BXr_11 := Lib.hid hx0; clear hx0
  clear hn
  have HB11 := Lib.hid (bel_trans hb HB10.out); clear HB10
  have HM11 := Lib.hid (isRow_keepDb HM10.out hb); clear HM10
  have HT11 := Lib.hid (HT10.out.keep hb); clear HT10
  have BXc_11 := Lib.hid (BXc_10.out.keep hb); clear BXc_10
  have BXp_11 := Lib.hid (BXp_10.out.keep hb); clear BXp_10
  have BXe_11 := Lib.hid (BXe_10.out.keep hb); clear BXe_10
  clear hb
  refine (P1.out _).mono ?_
  rintro e w12 ⟨rfl, hb⟩
  have HB12 := Lib.hid (bel_trans hb HB11.out); clear HB11
  have HM12 := Lib.hid (isRow_keepDb HM11.out hb); clear HM11
  have HT12 := Lib.hid (HT11.out.keep hb); clear HT11
  have BXc_12 := Lib.hid (BXc_11.out.keep hb); clear BXc_11
  have BXp_12 := Lib.hid (BXp_11.out.keep hb); clear BXp_11
  have BXe_12 := Lib.hid (BXe_11.out.keep hb); clear BXe_11
  have BXr_12 := Lib.hid (BXr_11.out.keep hb); clear BXr_11
  clear hb
  obtain ⟨cc0, cc1, cc2⟩ := BXc_12.out
  obtain ⟨cp0, cp1, cp2, cp3⟩ := BXp_12.out
  obtain ⟨ce0, ce1, ce2⟩ := BXe_12.out
  obtain ⟨cr0, cr1, cr2, cr3⟩ := BXr_12.out
  go_wp2_with fail
  clear cc0 cc1 cc2
  clear cp0 cp1 cp2 cp3
  clear ce0 ce1 ce2
  clear cr0 cr1 cr2 cr3
  have hb : Below w12.heap.size w12 (w12.alloc (.cells #[.int .i64 x2, .int .i64 y2, .int .i64 e2] 52)) := below_allocD _ _
  have hx0 := (Bp.new (x2) (y2) (e2) w12 52)
  generalize w12.alloc (.cells #[.int .i64 x2, .int .i64 y2, .int .i64 e2] 52) = w13 at hb hx0 ⊢
  generalize hn : w12.heap.size = nt at hx0 ⊢
  have BXt_13 := Lib.hid hx0; clear hx0
  clear hn
  have HB13 := Lib.hid (bel_trans hb HB12.out); clear HB12
  have HM13 := Lib.hid (isRow_keepDb HM12.out hb); clear HM12
  have HT13 := Lib.hid (HT12.out.keep hb); clear HT12
  have BXc_13 := Lib.hid (BXc_12.out.keep hb); clear BXc_12
  have BXp_13 := Lib.hid (BXp_12.out.keep hb); clear BXp_12
  have BXe_13 := Lib.hid (BXe_12.out.keep hb); clear BXe_12
  have BXr_13 := Lib.hid (BXr_12.out.keep hb); clear BXr_12
  clear hb
  clear P0 P1
  as_aux_lemma =>
  refine (drawPointsAtX_any _ _ _ _ _ HM13.out HL1.out).mono ?_
  rintro e w14 ⟨a3, b3, n, d, rfl, hb⟩
  have HB14 := Lib.hid (bel_trans hb HB13.out); clear HB13
  have HM14 := Lib.hid (isRow_keepDb HM13.out hb); clear HM13
  have HT14 := Lib.hid (HT13.out.keep hb); clear HT13
  have BXc_14 := Lib.hid (BXc_13.out.keep hb); clear BXc_13
  have BXp_14 := Lib.hid (BXp_13.out.keep hb); clear BXp_13
  have BXe_14 := Lib.hid (BXe_13.out.keep hb); clear BXe_13
  have BXr_14 := Lib.hid (BXr_13.out.keep hb); clear BXr_13
  have BXt_14 := Lib.hid (BXt_13.out.keep hb); clear BXt_13
  clear hb
  clear HM14 HL1
  obtain ⟨cc0, cc1, cc2⟩ := BXc_14.out
  obtain ⟨cp0, cp1, cp2, cp3⟩ := BXp_14.out
  obtain ⟨ce0, ce1, ce2⟩ := BXe_14.out
  obtain ⟨cr0, cr1, cr2, cr3⟩ := BXr_14.out
  obtain ⟨ct0, ct1, ct2, ct3⟩ := BXt_14.out
  go_wp2_with fail
  clear cc0 cc1 cc2
  clear cp0 cp1 cp2 cp3
  clear ce0 ce1 ce2
  clear cr0 cr1 cr2 cr3
  clear ct0 ct1 ct2 ct3
  have hb : Below w14.heap.size w14 ((w14.alloc (.cells #[.int .i64 a3, .int .i64 b3] 50)).alloc (.cells #[.int .i64 n, .int .i64 d] 62)) := bel_alloc (below_allocD _ _) _
  have hx0 := ((Bc.new (a3) (b3) w14 50).keep (below_allocD _ (.cells #[.int .i64 n, .int .i64 d] 62)))
  have hx1 : Bc (w14.heap.size + 1) (n) (d) ((w14.alloc (.cells #[.int .i64 a3, .int .i64 b3] 50)).alloc (.cells #[.int .i64 n, .int .i64 d] 62)) := by
    have := Bc.new (n) (d) (w14.alloc (.cells #[.int .i64 a3, .int .i64 b3] 50)) 62
    rw [show (w14.alloc (.cells #[.int .i64 a3, .int .i64 b3] 50)).heap.size = w14.heap.size + 1 by simp] at this
    exact this
  generalize (w14.alloc (.cells #[.int .i64 a3, .int .i64 b3] 50)).alloc (.cells #[.int .i64 n, .int .i64 d] 62) = w15 at hb hx0 hx1 ⊢
  generalize hn : w14.heap.size = nf at hx0 hx1 ⊢
  have BXf_15 := Lib.hid hx0; clear hx0
  have BXu_15 := Lib.hid hx1; clear hx1
  clear hn
  have HB15 := Lib.hid (bel_trans hb HB14.out); clear HB14
  have HT15 := Lib.hid (HT14.out.keep hb); clear HT14
  have BXc_15 := Lib.hid (BXc_14.out.keep hb); clear BXc_14
  have BXp_15 := Lib.hid (BXp_14.out.keep hb); clear BXp_14
  have BXe_15 := Lib.hid (BXe_14.out.keep hb); clear BXe_14
  have BXr_15 := Lib.hid (BXr_14.out.keep hb); clear BXr_14
  have BXt_15 := Lib.hid (BXt_14.out.keep hb); clear BXt_14
  clear hb
  obtain ⟨l, five, rf⟩ := pxfacts a3 b3 n d
  have X0 := Lib.hid rf.p0; have X1 := Lib.hid rf.p1; have XS := Lib.hid rf.sh
  clear rf
  refine (X0.out _).mono ?_
  rintro e w16 ⟨v1, rfl, hb, ho⟩
  have RW1_16 := Lib.hid ho.rd; clear ho
  have HB16 := Lib.hid (bel_trans hb HB15.out); clear HB15
  have HT16 := Lib.hid (HT15.out.keep hb); clear HT15
  have BXc_16 := Lib.hid (BXc_15.out.keep hb); clear BXc_15
  have BXp_16 := Lib.hid (BXp_15.out.keep hb); clear BXp_15
  have BXe_16 := Lib.hid (BXe_15.out.keep hb); clear BXe_15
  have BXr_16 := Lib.hid (BXr_15.out.keep hb); clear BXr_15
  have BXt_16 := Lib.hid (BXt_15.out.keep hb); clear BXt_15
  have BXf_16 := Lib.hid (BXf_15.out.keep hb); clear BXf_15
  have BXu_16 := Lib.hid (BXu_15.out.keep hb); clear BXu_15
  clear hb
  obtain ⟨cc0, cc1, cc2⟩ := BXc_16.out
  obtain ⟨cp0, cp1, cp2, cp3⟩ := BXp_16.out
  obtain ⟨ce0, ce1, ce2⟩ := BXe_16.out
  obtain ⟨cr0, cr1, cr2, cr3⟩ := BXr_16.out
  obtain ⟨ct0, ct1, ct2, ct3⟩ := BXt_16.out
  obtain ⟨cf0, cf1, cf2⟩ := BXf_16.out
  obtain ⟨cu0, cu1, cu2⟩ := BXu_16.out
  go_wp2_with fail
  clear cc0 cc1 cc2
  clear cp0 cp1 cp2 cp3
  clear ce0 ce1 ce2
  clear cr0 cr1 cr2 cr3
  clear ct0 ct1 ct2 ct3
  clear cf0 cf1 cf2
  clear cu0 cu1 cu2
  refine (X1.out _).mono ?_
  rintro e w17 ⟨v2, rfl, hb, ho⟩
  have RW2_17 := Lib.hid ho.rd; clear ho
  have HB17 := Lib.hid (bel_trans hb HB16.out); clear HB16
  have HT17 := Lib.hid (HT16.out.keep hb); clear HT16
  have BXc_17 := Lib.hid (BXc_16.out.keep hb); clear BXc_16
  have BXp_17 := Lib.hid (BXp_16.out.keep hb); clear BXp_16
  have BXe_17 := Lib.hid (BXe_16.out.keep hb); clear BXe_16
  have BXr_17 := Lib.hid (BXr_16.out.keep hb); clear BXr_16
  have BXt_17 := Lib.hid (BXt_16.out.keep hb); clear BXt_16
  have BXf_17 := Lib.hid (BXf_16.out.keep hb); clear BXf_16
  have BXu_17 := Lib.hid (BXu_16.out.keep hb); clear BXu_16
  have RW1_17 := Lib.hid (RW1_16.out.keep hb); clear RW1_16
  clear hb
  clear X0 X1
  as_aux_lemma =>
  have hthree : (three != three) = false := by cases three <;> rfl
  have hfive : (five != five) = false := by cases five <;> rfl
  have hhh : (h != h) = false := by simp
  obtain ⟨cc0, cc1, cc2⟩ := BXc_17.out
  obtain ⟨cp0, cp1, cp2, cp3⟩ := BXp_17.out
  obtain ⟨ce0, ce1, ce2⟩ := BXe_17.out
  obtain ⟨cr0, cr1, cr2, cr3⟩ := BXr_17.out
  obtain ⟨ct0, ct1, ct2, ct3⟩ := BXt_17.out
  obtain ⟨cf0, cf1, cf2⟩ := BXf_17.out
  obtain ⟨cu0, cu1, cu2⟩ := BXu_17.out
  go_upto_region 14 with fail
  clear cc0 cc1 cc2
  clear cp0 cp1 cp2 cp3
  clear ce0 ce1 ce2
  clear cr0 cr1 cr2 cr3
  clear ct0 ct1 ct2 ct3
  clear cf0 cf1 cf2
  clear cu0 cu1 cu2
  go_cut [166] from 109 to 165 (fun v wx => v = .bool false ∧ Below w17.heap.size w17 wx)
  case first =>
    as_aux_lemma =>
    have HBW := Lib.hid (Below.refl w17.heap.size w17)
    clear KB KZ KF PI XS
    clear BXe_17
    clear BXf_17
    clear BXu_17
    clear HT17
    cases ok
    · have hok : True := trivial
      clear KH
      obtain ⟨cc0, cc1, cc2⟩ := BXc_17.out
      obtain ⟨cp0, cp1, cp2, cp3⟩ := BXp_17.out
      obtain ⟨cr0, cr1, cr2, cr3⟩ := BXr_17.out
      obtain ⟨ct0, ct1, ct2, ct3⟩ := BXt_17.out
      go_wp2_with fail
      clear cc0 cc1 cc2
      clear cp0 cp1 cp2 cp3
      clear cr0 cr1 cr2 cr3
      clear ct0 ct1 ct2 ct3
      refine (qPoints_same _ _ _ _ _ _ RW1_17.out RW2_17.out).mono ?_
      rintro e w18 ⟨rfl, hb⟩
      have HBW' := Lib.hid (bel_trans hb HBW.out); clear HBW; have HBW := Lib.hid HBW'.out; clear HBW'
      have HB18 := Lib.hid (bel_trans hb HB17.out); clear HB17
      have BXc_18 := Lib.hid (BXc_17.out.keep hb); clear BXc_17
      have BXp_18 := Lib.hid (BXp_17.out.keep hb); clear BXp_17
      have BXr_18 := Lib.hid (BXr_17.out.keep hb); clear BXr_17
      have BXt_18 := Lib.hid (BXt_17.out.keep hb); clear BXt_17
      have RW1_18 := Lib.hid (RW1_17.out.keep hb); clear RW1_17
      have RW2_18 := Lib.hid (RW2_17.out.keep hb); clear RW2_17
      clear hb
      obtain ⟨cc0, cc1, cc2⟩ := BXc_18.out
      obtain ⟨cp0, cp1, cp2, cp3⟩ := BXp_18.out
      obtain ⟨cr0, cr1, cr2, cr3⟩ := BXr_18.out
      obtain ⟨ct0, ct1, ct2, ct3⟩ := BXt_18.out
      go_wp2_with fail
      clear cc0 cc1 cc2
      clear cp0 cp1 cp2 cp3
      clear cr0 cr1 cr2 cr3
      clear ct0 ct1 ct2 ct3
      refine (KI.out _).mono ?_
      rintro e w19 ⟨rfl, hb⟩
      have HBW' := Lib.hid (bel_trans hb HBW.out); clear HBW; have HBW := Lib.hid HBW'.out; clear HBW'
      have HB19 := Lib.hid (bel_trans hb HB18.out); clear HB18
      have BXc_19 := Lib.hid (BXc_18.out.keep hb); clear BXc_18
      have BXp_19 := Lib.hid (BXp_18.out.keep hb); clear BXp_18
      have BXr_19 := Lib.hid (BXr_18.out.keep hb); clear BXr_18
      have BXt_19 := Lib.hid (BXt_18.out.keep hb); clear BXt_18
      have RW1_19 := Lib.hid (RW1_18.out.keep hb); clear RW1_18
      have RW2_19 := Lib.hid (RW2_18.out.keep hb); clear RW2_18
      clear hb
      clear BXc_19
      clear BXp_19
      clear BXr_19
      clear BXt_19
      clear RW1_19
      clear RW2_19
      go_wp2_with fail
      go_meet
      exact ⟨rfl, HBW.out⟩
    · have hh1 := KH.out rfl
      have hh2 : ¬ h < 1 := by omega
      clear KH
      obtain ⟨cc0, cc1, cc2⟩ := BXc_17.out
      obtain ⟨cp0, cp1, cp2, cp3⟩ := BXp_17.out
      obtain ⟨cr0, cr1, cr2, cr3⟩ := BXr_17.out
      obtain ⟨ct0, ct1, ct2, ct3⟩ := BXt_17.out
      go_wp2_with fail
      clear cc0 cc1 cc2
      clear cp0 cp1 cp2 cp3
      clear cr0 cr1 cr2 cr3
      clear ct0 ct1 ct2 ct3
      refine (qPoints_same _ _ _ _ _ _ RW1_17.out RW2_17.out).mono ?_
      rintro e w18 ⟨rfl, hb⟩
      have HBW' := Lib.hid (bel_trans hb HBW.out); clear HBW; have HBW := Lib.hid HBW'.out; clear HBW'
      have HB18 := Lib.hid (bel_trans hb HB17.out); clear HB17
      have BXc_18 := Lib.hid (BXc_17.out.keep hb); clear BXc_17
      have BXp_18 := Lib.hid (BXp_17.out.keep hb); clear BXp_17
      have BXr_18 := Lib.hid (BXr_17.out.keep hb); clear BXr_17
      have BXt_18 := Lib.hid (BXt_17.out.keep hb); clear BXt_17
      have RW1_18 := Lib.hid (RW1_17.out.keep hb); clear RW1_17
      have RW2_18 := Lib.hid (RW2_17.out.keep hb); clear RW2_17
      clear hb
      obtain ⟨cc0, cc1, cc2⟩ := BXc_18.out
      obtain ⟨cp0, cp1, cp2, cp3⟩ := BXp_18.out
      obtain ⟨cr0, cr1, cr2, cr3⟩ := BXr_18.out
      obtain ⟨ct0, ct1, ct2, ct3⟩ := BXt_18.out
      go_wp2_with fail
      clear cc0 cc1 cc2
      clear cp0 cp1 cp2 cp3
      clear cr0 cr1 cr2 cr3
      clear ct0 ct1 ct2 ct3
      refine (KI.out _).mono ?_
      rintro e w19 ⟨rfl, hb⟩
      have HBW' := Lib.hid (bel_trans hb HBW.out); clear HBW; have HBW := Lib.hid HBW'.out; clear HBW'
      have HB19 := Lib.hid (bel_trans hb HB18.out); clear HB18
      have BXc_19 := Lib.hid (BXc_18.out.keep hb); clear BXc_18
      have BXp_19 := Lib.hid (BXp_18.out.keep hb); clear BXp_18
      have BXr_19 := Lib.hid (BXr_18.out.keep hb); clear BXr_18
      have BXt_19 := Lib.hid (BXt_18.out.keep hb); clear BXt_18
      have RW1_19 := Lib.hid (RW1_18.out.keep hb); clear RW1_18
      have RW2_19 := Lib.hid (RW2_18.out.keep hb); clear RW2_18
      clear hb
      clear BXc_19
      clear BXp_19
      clear BXr_19
      clear BXt_19
      clear RW1_19
      clear RW2_19
      go_wp2_with fail
      go_meet
      exact ⟨by rw [show decide (h < 1) = false from decide_eq_false (by omega)], HBW.out⟩
  case rest =>
    as_aux_lemma =>
    obtain ⟨rfl, hb⟩ := hcut
    generalize wc = w18 at hb ⊢
    have HB18 := Lib.hid (bel_trans hb HB17.out); clear HB17
    have HT18 := Lib.hid (HT17.out.keep hb); clear HT17
    have BXc_18 := Lib.hid (BXc_17.out.keep hb); clear BXc_17
    have BXp_18 := Lib.hid (BXp_17.out.keep hb); clear BXp_17
    have BXe_18 := Lib.hid (BXe_17.out.keep hb); clear BXe_17
    have BXr_18 := Lib.hid (BXr_17.out.keep hb); clear BXr_17
    have BXt_18 := Lib.hid (BXt_17.out.keep hb); clear BXt_17
    have BXf_18 := Lib.hid (BXf_17.out.keep hb); clear BXf_17
    have BXu_18 := Lib.hid (BXu_17.out.keep hb); clear BXu_17
    have RW1_18 := Lib.hid (RW1_17.out.keep hb); clear RW1_17
    have RW2_18 := Lib.hid (RW2_17.out.keep hb); clear RW2_17
    clear hb
    clear hthree hfive hhh KI KH
    clear BXt_18
    obtain ⟨cc0, cc1, cc2⟩ := BXc_18.out
    obtain ⟨cp0, cp1, cp2, cp3⟩ := BXp_18.out
    obtain ⟨ce0, ce1, ce2⟩ := BXe_18.out
    obtain ⟨cr0, cr1, cr2, cr3⟩ := BXr_18.out
    obtain ⟨cf0, cf1, cf2⟩ := BXf_18.out
    obtain ⟨cu0, cu1, cu2⟩ := BXu_18.out
    go_upto_region 16 with fail
    clear cc0 cc1 cc2
    clear cp0 cp1 cp2 cp3
    clear ce0 ce1 ce2
    clear cr0 cr1 cr2 cr3
    clear cf0 cf1 cf2
    clear cu0 cu1 cu2
    go_cut [173] from 167 to 172 (fun v wx => v = .bool false ∧ Below w18.heap.size w18 wx)
    case first =>
      as_aux_lemma =>
      have HBW := Lib.hid (Below.refl w18.heap.size w18)
      clear KB KZ KF XS
      clear BXc_18
      clear BXp_18
      clear BXf_18
      clear BXu_18
      clear RW1_18
      clear RW2_18
      clear HT18
      cases three
      · clear PI
        clear BXe_18
        clear BXr_18
        go_wp2_with fail
        go_meet
        exact ⟨rfl, HBW.out⟩
      · have PJ := Lib.hid (PI.out rfl)
        clear PI
        obtain ⟨ce0, ce1, ce2⟩ := BXe_18.out
        obtain ⟨cr0, cr1, cr2, cr3⟩ := BXr_18.out
        go_wp2_with fail
        clear ce0 ce1 ce2
        clear cr0 cr1 cr2 cr3
        refine (PJ.out _).mono ?_
        rintro e w19 ⟨rfl, hb⟩
        have HBW' := Lib.hid (bel_trans hb HBW.out); clear HBW; have HBW := Lib.hid HBW'.out; clear HBW'
        have HB19 := Lib.hid (bel_trans hb HB18.out); clear HB18
        have BXe_19 := Lib.hid (BXe_18.out.keep hb); clear BXe_18
        have BXr_19 := Lib.hid (BXr_18.out.keep hb); clear BXr_18
        clear hb
        obtain ⟨ce0, ce1, ce2⟩ := BXe_19.out
        obtain ⟨cr0, cr1, cr2, cr3⟩ := BXr_19.out
        go_wp2_with fail
        clear ce0 ce1 ce2
        clear cr0 cr1 cr2 cr3
        go_meet
        exact ⟨rfl, HBW.out⟩
    case rest =>
      as_aux_lemma =>
      obtain ⟨rfl, hb⟩ := hcut
      generalize wc = w19 at hb ⊢
      have HB19 := Lib.hid (bel_trans hb HB18.out); clear HB18
      have HT19 := Lib.hid (HT18.out.keep hb); clear HT18
      have BXc_19 := Lib.hid (BXc_18.out.keep hb); clear BXc_18
      have BXp_19 := Lib.hid (BXp_18.out.keep hb); clear BXp_18
      have BXe_19 := Lib.hid (BXe_18.out.keep hb); clear BXe_18
      have BXr_19 := Lib.hid (BXr_18.out.keep hb); clear BXr_18
      have BXf_19 := Lib.hid (BXf_18.out.keep hb); clear BXf_18
      have BXu_19 := Lib.hid (BXu_18.out.keep hb); clear BXu_18
      have RW1_19 := Lib.hid (RW1_18.out.keep hb); clear RW1_18
      have RW2_19 := Lib.hid (RW2_18.out.keep hb); clear RW2_18
      clear hb
      clear PI
      clear BXe_19
      clear BXr_19
      obtain ⟨cc0, cc1, cc2⟩ := BXc_19.out
      obtain ⟨cp0, cp1, cp2, cp3⟩ := BXp_19.out
      obtain ⟨cf0, cf1, cf2⟩ := BXf_19.out
      obtain ⟨cu0, cu1, cu2⟩ := BXu_19.out
      go_upto_if 174 with fail
      clear cc0 cc1 cc2
      clear cp0 cp1 cp2 cp3
      clear cf0 cf1 cf2
      clear cu0 cu1 cu2
      go_cut [27, 28] from 175 to 220 (fun _ _ wx => Below w19.heap.size w19 wx)
      case first =>
        as_aux_lemma =>
        have HBW := Lib.hid (Below.refl w19.heap.size w19)
        clear KB KZ KF
        clear RW1_19
        clear HT19
        clear BXc_19
        clear BXp_19
        cases five
        · clear XS
          clear BXf_19
          clear BXu_19
          clear RW2_19
          go_wp2_with fail
          go_meet
          exact HBW.out
        · obtain ⟨ad, m, cc, rfl, hm2, hrows⟩ := px_rows RW2_19.out XS.out
          have HRW := Lib.hid hrows; clear hrows XS
          clear RW2_19
          have hm3 : (m : Int) ≤ 2 := by omega
          have hm4 : ¬ (2 : Int) < (m : Int) := by omega
          obtain ⟨cf0, cf1, cf2⟩ := BXf_19.out
          obtain ⟨cu0, cu1, cu2⟩ := BXu_19.out
          go_wp2_with fail
          clear cf0 cf1 cf2
          clear cu0 cu1 cu2
          go_loopw [180] (fun z wr => ∃ (iz : Int) (i : Nat), z = .int .i64 iz ∧ iz = (i : Int) ∧ i ≤ m ∧ Below w19.heap.size w19 wr) (fun z _ => m - (intOf z).toNat)
          case atStart => exact ⟨0, 0, rfl, rfl, Nat.zero_le _, Below.refl _ _⟩
          case round =>
            obtain ⟨iz, i, rfl, hiz, hi, hbr⟩ := hrel
            by_cases him : i < m
            · obtain ⟨g, off, rfl, hg, hcell⟩ := HRW.out (by omega)
              obtain ⟨y4, k4, hq, d0, d1, d2, d3⟩ := hcell i him
              have KQ := Lib.hid hq.isP
              have hsq := hq.sq; have hy0 := hq.y0; have hy1 := hq.y1; have hk1 := hq.k1; have hk2 := hq.k2
              have hm0 : (0 : Int) < (m : Int) := by omega
              have hmn : 0 < m := by omega
              have q0 := (hbr.cell (p := ⟨g, off + i * 3, none⟩) hg).trans d0
              have q1 := (hbr.cell (p := ⟨g, off + i * 3 + 1, none⟩) hg).trans d1
              have q2 := (hbr.cell (p := ⟨g, off + i * 3 + 2, none⟩) hg).trans d2
              have hgr : g < wr.heap.size := Nat.lt_of_lt_of_le hg hbr.size
              have HD := Lib.hid hcell; have HD3 := Lib.hid d3
              have BF := Lib.hid (BXf_19.out.keep hbr); have BU := Lib.hid (BXu_19.out.keep hbr)
              have HBR := Lib.hid hbr; have HI := Lib.hid hi
              clear hcell d0 d1 d2 d3 hq hbr hi hm2
              rcases (by omega : i = 0 ∨ i = 1) with rfl | rfl
              · have q3 : wr.cell? ⟨g, off + 1, none⟩ = some (.int .i64 y4) := by simpa using q1
                obtain rfl : iz = 0 := by omega
                have hm1 : (0 : Int) < (m : Int) := by omega
                simp only [Nat.zero_mul, Nat.add_zero] at q0 q1 q2
                clear HD HD3 HRW hiz
                go_upto_region 24 with fail
                have hb4 : Below wr.heap.size wr (wr.alloc (.cells #[.int .i64 n, .int .i64 y4, .int .i64 k4] 52)) := below_allocD _ _
                have hx := Bp.new n y4 k4 wr 52
                generalize wr.alloc (.cells #[.int .i64 n, .int .i64 y4, .int .i64 k4] 52) = W4 at hb4 hx ⊢
                have hgw : g < W4.heap.size := Nat.lt_of_lt_of_le hgr hb4.size
                have q4 := (hb4.cell (p := ⟨g, off + 1, none⟩) hgr).trans q3
                obtain ⟨f0, f1, f2⟩ := BF.out.keep hb4
                obtain ⟨e0, e1, e2⟩ := BU.out.keep hb4
                have HB4 := Lib.hid (bel_trans hb4 HBR.out)
                clear q0 q1 q2 q3 hb4 BF BU
                generalize wr.heap.size = nq at hx ⊢
                obtain ⟨x0, x1, x2, x3⟩ := hx
                go_cut [219] from 185 to 218 (fun v wx => v = .bool false ∧ Below W4.heap.size W4 wx)
                case first =>
                  as_aux_lemma =>
                  have heq := mul_bd (a := k4) (b := k4) (A := 20) (B := 20) (by omega) (by omega) (by omega) (by omega)
                  have hd1 : IntKind.i64.wrap d = d := wrapkb (by omega) (by omega)
                  have hd2 : wrap64 d = d := by unfold wrap64; omega
                  have hkk : IntKind.i64.wrap (k4 * k4) = d := by rw [hsq]; exact hd1
                  have hkk2 : wrap64 (k4 * k4) = d := by rw [hsq]; exact hd2
                  have hng : IntKind.i64.wrap (-y4) = -y4 := wrapkb (by omega) (by omega)
                  have hng2 : wrap64 (-y4) = -y4 := by unfold wrap64; omega
                  clear hsq heq
                  refine wp_region_grow (by kernel_rfl) (by kernel_rfl) ?_
                  repeat (go_big_quiet_step ((go_at_call 44; exact grow_ret (KQ.out _))))
                  refine wpQuiet_nil ?_
                  rintro wg hbg
                  go_wp2_with fail
                  go_meet
                  exact ⟨rfl, hbg⟩
                case rest =>
                  as_aux_lemma =>
                  obtain ⟨rfl, hb⟩ := hcut
                  generalize wc = W5 at hb ⊢
                  have HB5 := Lib.hid (bel_trans hb HB4.out); clear hb HB4 f0 f1 f2 e0 e1 e2 x0 x1 x2 x3 q4
                  go_wp2_with fail
                  go_roundw
                  case rel => exact ⟨0 + 1, 0 + 1, by first | rfl | go_num, by omega, by omega, HB5.out⟩
                  case measure => simp [intOf]; omega
              · have q3 := (HBR.out.cell (p := ⟨g, off + 1, none⟩) hg).trans (HD3.out rfl)
                obtain rfl : iz = 1 := by omega
                have hm1 : (1 : Int) < (m : Int) := by omega
                clear HD HD3 HRW hiz
                go_upto_region 24 with fail
                have hb4 : Below wr.heap.size wr (wr.alloc (.cells #[.int .i64 n, .int .i64 y4, .int .i64 k4] 52)) := below_allocD _ _
                have hx := Bp.new n y4 k4 wr 52
                generalize wr.alloc (.cells #[.int .i64 n, .int .i64 y4, .int .i64 k4] 52) = W4 at hb4 hx ⊢
                have hgw : g < W4.heap.size := Nat.lt_of_lt_of_le hgr hb4.size
                have q4 := (hb4.cell (p := ⟨g, off + 1, none⟩) hgr).trans q3
                obtain ⟨f0, f1, f2⟩ := BF.out.keep hb4
                obtain ⟨e0, e1, e2⟩ := BU.out.keep hb4
                have HB4 := Lib.hid (bel_trans hb4 HBR.out)
                clear q0 q1 q2 q3 hb4 BF BU
                generalize wr.heap.size = nq at hx ⊢
                obtain ⟨x0, x1, x2, x3⟩ := hx
                go_cut [219] from 185 to 218 (fun v wx => v = .bool false ∧ Below W4.heap.size W4 wx)
                case first =>
                  as_aux_lemma =>
                  have heq := mul_bd (a := k4) (b := k4) (A := 20) (B := 20) (by omega) (by omega) (by omega) (by omega)
                  have hd1 : IntKind.i64.wrap d = d := wrapkb (by omega) (by omega)
                  have hd2 : wrap64 d = d := by unfold wrap64; omega
                  have hkk : IntKind.i64.wrap (k4 * k4) = d := by rw [hsq]; exact hd1
                  have hkk2 : wrap64 (k4 * k4) = d := by rw [hsq]; exact hd2
                  have hng : IntKind.i64.wrap (-y4) = -y4 := wrapkb (by omega) (by omega)
                  have hng2 : wrap64 (-y4) = -y4 := by unfold wrap64; omega
                  clear hsq heq
                  go_region_held3 (fun w' => Below W4.heap.size W4 w' ∧ w'.cell? ⟨nf, 0, none⟩ = some (.int .i64 a3) ∧ w'.cell? ⟨nf, 1, none⟩ = some (.int .i64 b3) ∧ w'.cell? ⟨nf + 1, 0, none⟩ = some (.int .i64 n) ∧ w'.cell? ⟨nf + 1, 1, none⟩ = some (.int .i64 d) ∧ w'.cell? ⟨nq, 0, none⟩ = some (.int .i64 n) ∧ w'.cell? ⟨nq, 1, none⟩ = some (.int .i64 y4) ∧ w'.cell? ⟨nq, 2, none⟩ = some (.int .i64 k4) ∧ w'.cell? ⟨g, off + 1, none⟩ = some (.int .i64 (-y4))) ((refine held24 ?_ f0 e0 x0 hgw f1 f2 e1 e2 x1 x2 x3 q4; go_split_ands; repeat (first | exact Below.refl _ _ | (with_reducible assumption) | refine bel_alloc ?_ _ | refine bel_drew ?_ | refine bel_trans (by assumption) ?_))) ((first | (go_at_call 44; refine (KQ.out _).mono ?_; rintro e w' ⟨rfl, hb⟩)))
                  all_goals
                    rename_i hHeld
                    go_wp2_with fail
                    go_meet
                    exact ⟨rfl, hHeld.1⟩
                case rest =>
                  as_aux_lemma =>
                  obtain ⟨rfl, hb⟩ := hcut
                  generalize wc = W5 at hb ⊢
                  have HB5 := Lib.hid (bel_trans hb HB4.out); clear hb HB4 f0 f1 f2 e0 e1 e2 x0 x1 x2 x3 q4
                  go_wp2_with fail
                  go_roundw
                  case rel => exact ⟨1 + 1, 1 + 1, by first | rfl | go_num, by omega, by omega, HB5.out⟩
                  case measure => simp [intOf]; omega
            · have hmi : i = m := by omega
              subst hmi
              subst hiz
              go_wp2_with fail
              go_meet
              exact hbr
      case rest =>
        as_aux_lemma =>
        have hb := hcut; clear hcut
        generalize wc = w20 at hb ⊢
        have HB20 := Lib.hid (bel_trans hb HB19.out); clear HB19
        have HT20 := Lib.hid (HT19.out.keep hb); clear HT19
        have BXc_20 := Lib.hid (BXc_19.out.keep hb); clear BXc_19
        have BXp_20 := Lib.hid (BXp_19.out.keep hb); clear BXp_19
        have BXf_20 := Lib.hid (BXf_19.out.keep hb); clear BXf_19
        have BXu_20 := Lib.hid (BXu_19.out.keep hb); clear BXu_19
        have RW1_20 := Lib.hid (RW1_19.out.keep hb); clear RW1_19
        have RW2_20 := Lib.hid (RW2_19.out.keep hb); clear RW2_19
        clear hb
        clear XS
        clear BXf_20
        clear BXu_20
        clear RW1_20
        clear RW2_20
        cases ok
        · clear KB KZ KF
          clear BXc_20
          clear BXp_20
          clear HT20
          go_wp2_with fail
          go_ret
          exact ret_eq (by rfl) HB20.out
        · have KC := Lib.hid (KB.out rfl); have KY := Lib.hid (KZ.out rfl); have KG := Lib.hid (KF.out rfl)
          clear KB KZ KF
          obtain ⟨cc0, cc1, cc2⟩ := BXc_20.out
          obtain ⟨cp0, cp1, cp2, cp3⟩ := BXp_20.out
          go_wp2_with fail
          clear cc0 cc1 cc2
          clear cp0 cp1 cp2 cp3
          refine (KC.out _ HT20.out).mono ?_
          rintro e w21 ⟨rfl, hb⟩
          have HB21 := Lib.hid (bel_trans hb HB20.out); clear HB20
          have HT21 := Lib.hid (HT20.out.keep hb); clear HT20
          have BXc_21 := Lib.hid (BXc_20.out.keep hb); clear BXc_20
          have BXp_21 := Lib.hid (BXp_20.out.keep hb); clear BXp_20
          clear hb
          clear HT21
          clear KC
          by_cases he : ee = 0
          · have hh := KY.out he
            subst he
            subst hh
            clear KG KY
            obtain ⟨cc0, cc1, cc2⟩ := BXc_21.out
            obtain ⟨cp0, cp1, cp2, cp3⟩ := BXp_21.out
            go_wp2_with fail
            clear cc0 cc1 cc2
            clear cp0 cp1 cp2 cp3
            go_ret
            exact ret_eq (by rfl) (bel_alloc HB21.out _)
          · obtain ⟨l2, rf⟩ := KG.out he
            have heb : (ee == 0) = false := by simp [he]
            have F0 := Lib.hid rf.fo; have F1 := Lib.hid rf.p0; have F2 := Lib.hid rf.p1; have FF := Lib.hid rf.fnd
            have heq := mul_bd (a := ee) (b := ee) (A := 20) (B := 20) (by have := rf.e1; omega) (by have := rf.e2; omega) (by have := rf.e1; omega) (by have := rf.e2; omega)
            have hee : IntKind.i64.wrap (ee * ee) = ee * ee := wrapkb (by omega) (by omega)
            have hee2 : wrap64 (ee * ee) = ee * ee := by unfold wrap64; omega
            clear rf KG KY heq
            obtain ⟨cc0, cc1, cc2⟩ := BXc_21.out
            obtain ⟨cp0, cp1, cp2, cp3⟩ := BXp_21.out
            go_wp2_with fail
            clear cc0 cc1 cc2
            clear cp0 cp1 cp2 cp3
            have hb : Below w21.heap.size w21 (w21.alloc (.cells #[.int .i64 x, .int .i64 y, .int .i64 ee] 52)) := below_allocD _ _
            have hx0 := (Bp.new (x) (y) (ee) w21 52)
            generalize w21.alloc (.cells #[.int .i64 x, .int .i64 y, .int .i64 ee] 52) = w22 at hb hx0 ⊢
            generalize hn : w21.heap.size = ng at hx0 ⊢
            have BXg_22 := Lib.hid hx0; clear hx0
            clear hn
            have HB22 := Lib.hid (bel_trans hb HB21.out); clear HB21
            have BXc_22 := Lib.hid (BXc_21.out.keep hb); clear BXc_21
            have BXp_22 := Lib.hid (BXp_21.out.keep hb); clear BXp_21
            clear hb
            clear BXg_22
            refine (F0.out _).mono ?_
            rintro e w23 ⟨rfl, hb⟩
            have HB23 := Lib.hid (bel_trans hb HB22.out); clear HB22
            have BXc_23 := Lib.hid (BXc_22.out.keep hb); clear BXc_22
            have BXp_23 := Lib.hid (BXp_22.out.keep hb); clear BXp_22
            clear hb
            obtain ⟨cc0, cc1, cc2⟩ := BXc_23.out
            obtain ⟨cp0, cp1, cp2, cp3⟩ := BXp_23.out
            go_wp2_with fail
            clear cc0 cc1 cc2
            clear cp0 cp1 cp2 cp3
            have hb : Below w23.heap.size w23 (w23.alloc (.cells #[.int .i64 x, .int .i64 (ee * ee)] 62)) := below_allocD _ _
            have hx0 := (Bc.new (x) ((ee * ee)) w23 62)
            generalize w23.alloc (.cells #[.int .i64 x, .int .i64 (ee * ee)] 62) = w24 at hb hx0 ⊢
            generalize hn : w23.heap.size = nz at hx0 ⊢
            have BXz_24 := Lib.hid hx0; clear hx0
            clear hn
            have HB24 := Lib.hid (bel_trans hb HB23.out); clear HB23
            have BXc_24 := Lib.hid (BXc_23.out.keep hb); clear BXc_23
            have BXp_24 := Lib.hid (BXp_23.out.keep hb); clear BXp_23
            clear hb
            clear hee hee2 F0
            refine (F1.out _).mono ?_
            rintro e w25 ⟨v3, rfl, hb, ho⟩
            have RW3_25 := Lib.hid ho.rd; clear ho
            have HB25 := Lib.hid (bel_trans hb HB24.out); clear HB24
            have BXc_25 := Lib.hid (BXc_24.out.keep hb); clear BXc_24
            have BXp_25 := Lib.hid (BXp_24.out.keep hb); clear BXp_24
            have BXz_25 := Lib.hid (BXz_24.out.keep hb); clear BXz_24
            clear hb
            obtain ⟨cc0, cc1, cc2⟩ := BXc_25.out
            obtain ⟨cp0, cp1, cp2, cp3⟩ := BXp_25.out
            obtain ⟨cz0, cz1, cz2⟩ := BXz_25.out
            go_wp2_with fail
            clear cc0 cc1 cc2
            clear cp0 cp1 cp2 cp3
            clear cz0 cz1 cz2
            refine (F2.out _).mono ?_
            rintro e w26 ⟨v4, rfl, hb, ho⟩
            have RW4_26 := Lib.hid ho.rd; clear ho
            have HB26 := Lib.hid (bel_trans hb HB25.out); clear HB25
            have BXc_26 := Lib.hid (BXc_25.out.keep hb); clear BXc_25
            have BXp_26 := Lib.hid (BXp_25.out.keep hb); clear BXp_25
            have BXz_26 := Lib.hid (BXz_25.out.keep hb); clear BXz_25
            have RW3_26 := Lib.hid (RW3_25.out.keep hb); clear RW3_25
            clear hb
            clear F1 F2
            clear BXc_26
            clear BXz_26
            obtain ⟨g, off, m, cc, J, rfl, hm2, hJ, hg, hrows⟩ := fnd_rows RW4_26.out FF.out
            have HRW := Lib.hid hrows; have HG := Lib.hid hg; clear hrows FF hg
            obtain ⟨cp0, cp1, cp2, cp3⟩ := BXp_26.out
            go_wp2_with fail
            clear cp0 cp1 cp2 cp3
            go_loopw [37, 266] (fun f z wr => ∃ (i : Nat) (fb : Bool), z = .int .i64 i ∧ f = .bool fb ∧ i ≤ m ∧ (fb = true ∨ i ≤ J) ∧ Below w26.heap.size w26 wr) (fun _ z _ => m - (intOf z).toNat)
            case atStart => exact ⟨0, false, rfl, rfl, Nat.zero_le _, .inr (Nat.zero_le _), Below.refl _ _⟩
            case round =>
              obtain ⟨i, fb, rfl, rfl, hi, hf, hbr⟩ := hrel
              by_cases him : i < m
              · obtain ⟨u1, u2, u3, d0, d1, d2, d3⟩ := HRW.out i him
                have hg := HG.out
                have hmI2 : (i : Int) < (m : Int) := by omega
                have hi0 : (0 : Int) ≤ (i : Int) := Int.natCast_nonneg _
                have q0 := (hbr.cell (p := ⟨g, off + i * 3, none⟩) hg).trans d0
                have q1 := (hbr.cell (p := ⟨g, off + i * 3 + 1, none⟩) hg).trans d1
                have q2 := (hbr.cell (p := ⟨g, off + i * 3 + 2, none⟩) hg).trans d2
                have hgr : g < wr.heap.size := Nat.lt_of_lt_of_le hg hbr.size
                have HD3 := Lib.hid d3
                have BP := Lib.hid (BXp_26.out.keep hbr)
                have HBR := Lib.hid hbr; have HI := Lib.hid hi; have HF := Lib.hid hf
                clear d0 d1 d2 d3 hbr hi hf HRW
                go_upto_region 41 with fail
                have hb4 : Below wr.heap.size wr (wr.alloc (.cells #[.int .i64 u1, .int .i64 u2, .int .i64 u3] 52)) := below_allocD _ _
                have hx := Bp.new u1 u2 u3 wr 52
                generalize wr.alloc (.cells #[.int .i64 u1, .int .i64 u2, .int .i64 u3] 52) = W4 at hb4 hx ⊢
                obtain ⟨f0, f1, f2, f3⟩ := BP.out.keep hb4
                have HB4 := Lib.hid (bel_trans hb4 HBR.out)
                clear q0 q1 q2 hb4 BP
                generalize wr.heap.size = nq at hx ⊢
                obtain ⟨x0, x1, x2, x3⟩ := hx
                cases fb
                · have hiJ : i ≤ J := by rcases HF.out with h | h; (cases h); exact h
                  by_cases hij : i = J
                  · obtain ⟨k1, k2, k3⟩ := HD3.out hij
                    subst hij
                    subst k1 k2 k3
                    clear HD3 HF
                    go_wp2_with fail
                    all_goals
                      go_roundw
                      case rel => exact ⟨i + 1, _, by first | rfl | go_num, rfl, by omega, .inl (by simp), HB4.out⟩
                      case measure => simp [intOf]; omega
                  · clear HD3 HF
                    go_wp2_with fail
                    all_goals
                      go_roundw
                      case rel => exact ⟨i + 1, _, by first | rfl | go_num, rfl, by omega, .inr (by omega), HB4.out⟩
                      case measure => simp [intOf]; omega
                · clear HD3 HF
                  go_wp2_with fail
                  all_goals
                    go_roundw
                    case rel => exact ⟨i + 1, _, by first | rfl | go_num, rfl, by omega, .inl rfl, HB4.out⟩
                    case measure => simp [intOf]; omega
              · have hmi : i = m := by omega
                have hft : fb = true := by rcases hf with h | h; (exact h); omega
                subst hft
                have R3 := RW3_26.out.keep hbr; have R4 := RW4_26.out.keep hbr
                have HBR := Lib.hid (bel_trans hbr HB26.out)
                have HR := Lib.hid (And.intro R3 R4)
                clear hbr R3 R4 HRW HG hf RW3_26 RW4_26 BXp_26 HB26 hm2 hJ
                go_wp2_with fail
                refine (qPoints_same _ _ _ _ _ _ HR.out.1 HR.out.2).mono ?_
                rintro e W7 ⟨rfl, hb⟩
                have HB7 := Lib.hid (bel_trans hb HBR.out); clear hb HBR HR
                go_wp2_with fail
                go_ret
                exact ret_eq (by rfl) HB7.out
end Go.Proofs.YtakilincclnpdaaGreatDoor.fnPointTexts
