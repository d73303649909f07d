/- Ze: contracts: texts of wholes, both sides. No conditions. -/
import Derived.Test.YtakilincclnpdaaGreatDoorZty
import Derived.Test.YtakilincclnpdaaGreatDoorZdy
import Derived.Test.YtakilincclnpdaaGreatDoorBey
import Derived.Test.YtakilincclnpdaaGreatDoorItay
import Derived.Lib.RepeatB
namespace Go.Proofs.YtakilincclnpdaaGreatDoor
open Go.RowKit

theorem ltxt_step {xs : List Int} {k : Nat} (h : k < xs.length) : ltxt (xs.drop k) = ltxt (xs.drop (k + 1)) ++ (if k + 1 < xs.length then pad4 (decL (xs.getD k 0)) else decL (xs.getD k 0)) := by
  have e : xs.getD k 0 = xs[k] := by rw [List.getD_eq_getElem?_getD, List.getElem?_eq_getElem h]; rfl
  rw [List.drop_eq_getElem_cons h, e]
  by_cases h2 : k + 1 < xs.length
  · rw [if_pos h2, List.drop_eq_getElem_cons h2]; rfl
  · rw [if_neg h2, List.drop_eq_nil_of_le (by omega)]; rfl
theorem repeat_zero (c : Nat) : Lib.repeatL (ByteArray.mk #[48]).data.toList c = List.replicate c 48 := by
  have h := Lib.repeatL_replicate 48 1 c
  rw [Nat.mul_one] at h
  exact h
theorem numS_list (X : Nat) : (numS X).data.toList = decL (X : Int) := rfl
theorem numS_decL {x : Int} (_h0 : 0 ≤ x) (h1 : x ≤ 9999) : (numS x.toNat).data.toList = decL x ∧ (numS x.toNat).size ≤ 4 := by
  have e : (numS x.toNat).data.toList = decL x := rfl
  refine ⟨e, ?_⟩
  have := decL_len h1
  rw [← e] at this
  show (numS x.toNat).data.size ≤ 4
  rw [← Array.length_toList]
  exact this
theorem wtxt_cons {z : Int} (h : digs z.natAbs ≠ []) : wtxt z = ⟨((if decide (z < 0) = true then [45] else []) ++ ltxt (digs z.natAbs)).toArray⟩ := by
  unfold wtxt wtxtL
  rw [if_neg h]
  split <;> rfl
theorem wtxt_nil {z : Int} (h : digs z.natAbs = []) : wtxt z = ⟨#[48]⟩ := by
  unfold wtxt wtxtL
  rw [if_pos h]
def strOf : Value → Nat
  | .string s => s.size
  | _ => 0
set_option maxHeartbeats 8000000 in
theorem wholeText_any (v : Value) (z : Int) (w : World) (hv : WV w v z) (hl : (digs z.natAbs).length ≤ 400) (ht : PowT w) :
    Calls Tryz.prog 60 #[v] w (Ret (.string (wtxt z)) w) := by
  have hres : digs z.natAbs ≠ [] → wtxt z = _ := wtxt_cons
  have hnil : digs z.natAbs = [] → wtxt z = _ := wtxt_nil
  have hdd := digs_dig z.natAbs
  have hst := fun k (h : k < (digs z.natAbs).length) => ltxt_step h
  have hln := fun k => (show (ltxt ((digs z.natAbs).drop k)).length ≤ 1600 by
    by_cases h : (digs z.natAbs).drop k = []
    · rw [h]; exact Nat.zero_le _
    · have h2 := (ltxt_len _ (fun t ht => digs_dig _ t (List.mem_of_mem_drop ht)) h).2
      rw [List.length_drop] at h2; omega)
  obtain ⟨ad, cap, rfl, hr, _⟩ := hv
  generalize wtxt z = R at *
  generalize decide (z < 0) = neg at *
  generalize digs z.natAbs = xs at *
  obtain ⟨ad', cap', hv', hlm, hcs⟩ := hr
  cases hv'
  clear hlm
  have HRES := Lib.hid hres; have HNIL := Lib.hid hnil; have HDD := Lib.hid hdd; have HST := Lib.hid hst; have HLN := Lib.hid hln; have HCS := Lib.hid hcs; have HT := Lib.hid ht
  clear hres hnil hdd hst hln hcs ht
  cases neg
  · go_enter Tryz.func60, Tryz.ntmps60
    go_wp2_with fail
    have g0 := (Bx.new (.bool false) (.slice ad xs.length cap) w 26).keep (below_allocC _ (.cells #[.pointer none, .slice none 0 0] 113))
    have gb := Bl.new (w.alloc (.cells #[.bool false, .slice ad xs.length cap] 26))
    rw [show (w.alloc (.cells #[.bool false, .slice ad xs.length cap] 26)).heap.size = w.heap.size + 1 by simp] at gb
    have hb0 : Below w.heap.size w ((w.alloc (.cells #[.bool false, .slice ad xs.length cap] 26)).alloc (.cells #[.pointer none, .slice none 0 0] 113)) := bel_alloc (below_allocC _ _) _
    generalize (w.alloc (.cells #[.bool false, .slice ad xs.length cap] 26)).alloc (.cells #[.pointer none, .slice none 0 0] 113) = W0 at g0 gb hb0 ⊢
    obtain ⟨b, hb⟩ : ∃ b, w.heap.size = b := ⟨_, rfl⟩
    rw [hb] at g0 gb hb0 ⊢
    have HBW := Lib.hid hb; clear hb
    have HBS := Lib.hid (Below.refl (b + 1) W0)
    replace gb : Bl W0 (b + 1) (b + 1) ([] ++ ltxt []) := gb
    have HG0 := Lib.hid g0; have HB0 := Lib.hid hb0; clear g0 hb0
    go_loopw [4] (fun i wr => ∃ k : Nat, i = .int .i64 ((k : Int) - 1) ∧ k ≤ xs.length ∧ Bl wr (b + 1) (b + 1) (([] : List UInt8) ++ ltxt (xs.drop k)) ∧ Below (b + 1) W0 wr) (fun i _ => (intOf i + 1).toNat)
    case atStart => exact ⟨xs.length, rfl, Nat.le_refl _, by rw [List.drop_length]; exact gb, HBS.out⟩
    case round =>
      obtain ⟨k, rfl, hk, gb, hbel⟩ := hrel
      have hbw : Below b w wr := HB0.out.trans (hbel.mono (by omega))
      have x0 : wr.cell? ⟨b, 0, none⟩ = some (.bool false) := (hbel.cell (p := ⟨b, 0, none⟩) (by dsimp only; omega)).trans HG0.out.2.1
      have x1 : wr.cell? ⟨b, 1, none⟩ = some (.slice ad xs.length cap) := (hbel.cell (p := ⟨b, 1, none⟩) (by dsimp only; omega)).trans HG0.out.2.2.1
      by_cases hk0 : k = 0
      · subst hk0
        rw [List.drop_zero] at gb
        by_cases hx : xs.length = 0
        · have hz : (xs.length == 0) = true := by simp [hx]
          have hxI : ((xs.length : Int) == 0) = true := by simp [hx]
          have hR := HNIL.out (List.length_eq_zero_iff.1 hx)
          subst hR
          have HB := Lib.hid hbw; clear hbw hbel gb
          go_wp2_with fail
          go_ret
          exact ret_eq rfl (by rw [HBW.out]; exact HB.out)
        · have hxI : ((xs.length : Int) == 0) = false := by simp; exact fun e => hx (by rw [e]; rfl)
          have hR := HRES.out (fun e => hx (by rw [e]; rfl))
          have hbs := bString (b + 1) (b + 1) _ wr gb (by have := gb.lt; omega)
          have HBS2 := Lib.hid hbs; have HB := Lib.hid hbw; have HBL := Lib.hid hbel; have HR := Lib.hid hR; clear hbs hbw hbel gb hR
          go_wp2_with fail
          refine HBS2.out.mono ?_; rintro e w2 ⟨rfl, hb2⟩
          have hbw2 := HB0.out.trans ((HBL.out.trans hb2).mono (show b ≤ b + 1 by omega))
          go_wp2_with fail
          go_ret
          exact ret_eq (by rw [HR.out]; rfl) (by rw [HBW.out]; exact hbw2)
      · obtain ⟨q, rfl⟩ : ∃ q, k = q + 1 := ⟨k - 1, by omega⟩
        have hi : q < xs.length := by omega
        obtain ⟨g, off, rfl, hlt, hcell⟩ := HCS.out (by omega)
        have hck := (hbw.cell (p := ⟨g, off + q, none⟩) (by rw [← HBW.out]; exact hlt)).trans (hcell q hi)
        have hd := HDD.out.at hi
        have hst := HST.out q hi
        have hln := HLN.out (q + 1)
        have eq1 : ((q + 1 : Nat) : Int) - 1 = (q : Int) := by omega
        rw [eq1]
        obtain ⟨s1, s2⟩ := numS_decL hd.1 hd.2
        have hitoa := fun w' (hw : PowT w') => itoaT (xs.getD q 0).toNat (by omega) w' hw
        rw [Int.toNat_of_nonneg hd.1] at hitoa
        have hpt := HT.out.keep (by rw [HBW.out]; exact hbw)
        generalize xs.getD q 0 = x at *
        generalize numS x.toNat = s at *
        rw [← s1] at hst
        have HIT := Lib.hid (hitoa wr hpt); have HST2 := Lib.hid hst; have HLN2 := Lib.hid hln
        obtain ⟨sz, hsz⟩ : ∃ sz, s.size = sz := ⟨_, rfl⟩
        have hsl : s.data.toList.length = sz := by rw [← hsz]; simp
        have hw1 : IntKind.i64.wrap (4 - (sz : Int)) = ((4 - sz : Nat) : Int) := by rw [hsz] at s2; rw [wrapi (by omega) (by omega)]; omega
        have HSL := Lib.hid hsl
        clear hitoa hpt hst hln hsl hcell s1 hd
        rw [hsz] at s2
        have hi0 : (0 : Int) ≤ (q : Int) := Int.natCast_nonneg _
        have hiL : (q : Int) < (xs.length : Int) := by omega
        have hl4 : xs.length ≤ 400 := hl
        have HB := Lib.hid hbel; have GB := Lib.hid gb; have X1 := Lib.hid x1
        clear hbel gb eq1 hk hk0 x0 hbw
        go_wp2_with fail
        refine HIT.out.mono ?_; rintro e w2 ⟨rfl, hb2⟩
        have gb2 := GB.out.keep hb2
        have hlt2 := GB.out.lt
        have hB2 := HB.out.trans (hb2.mono (show b + 1 ≤ wr.heap.size by omega))
        have x1' : w2.cell? ⟨b, 1, none⟩ = some (.slice (some ⟨g, off, none⟩) xs.length cap) := (hb2.cell (p := ⟨b, 1, none⟩) (by dsimp only; omega)).trans X1.out
        have hz2 : b + 1 ≤ w2.heap.size := by have := gb2.lt; omega
        clear hb2 HB GB X1 x1 hck HIT
        by_cases hq : q + 1 < xs.length
        · have hqI : (q : Int) < (xs.length : Int) - 1 := by omega
          have hrep := fun w' => Tryz.strings_Repeat (ByteArray.mk #[48]) (4 - sz) w' (by omega) (by have : (ByteArray.mk #[48]).size = 1 := rfl; rw [this]; omega)
          rw [repeat_zero] at hrep
          have HREP := Lib.hid hrep; have GB := Lib.hid gb2; have HB := Lib.hid hB2
          clear hrep gb2 hB2
          have HSZ := Lib.hid hsz
          go_wp2_with fail
          try rw [hsz]
          try go_wp2_with fail
          try rw [hw1]
          refine (HREP.out _).mono ?_; rintro e w3 ⟨rfl, hb3⟩
          have gb3 := GB.out.keep hb3
          have hB3 := HB.out.trans (hb3.mono hz2)
          have hz3 : b + 1 ≤ w3.heap.size := by have := gb3.lt; omega
          have hw3 := bWrite (b + 1) (b + 1) _ ⟨(List.replicate (4 - sz) 48).toArray⟩ w3 gb3 (by
            have h1 := HLN2.out
            simp [ByteArray.size] at h1 ⊢; omega) hz3
          have HW3 := Lib.hid hw3
          clear hw3 gb3 GB HB hb3 x1'
          go_wp2_with fail
          refine HW3.out.mono ?_; rintro e w4 ⟨rfl, gb4, hb4, _⟩
          have hB4 := hB3.trans hb4
          have hw4 := bWrite (b + 1) (b + 1) _ s w4 gb4 (by
            have h1 := HLN2.out
            have h2 := HSZ.out
            simp at h1 ⊢; omega) (by have := gb4.lt; omega)
          have HW4 := Lib.hid hw4; have HB4 := Lib.hid hB4
          clear hw4 gb4 hB4 hb4 hB3 HW3
          go_wp2_with fail
          refine HW4.out.mono ?_; rintro e w5 ⟨rfl, gb5, hb5, _⟩
          have hB5 := HB4.out.trans hb5
          have e5 : ([] : List UInt8) ++ ltxt (xs.drop (q + 1)) ++ (⟨(List.replicate (4 - sz) 48).toArray⟩ : ByteArray).data.toList ++ s.data.toList = ([] : List UInt8) ++ ltxt (xs.drop q) := by
            rw [HST2.out, if_pos hq, pad4, HSL.out]
            simp
          rw [e5] at gb5
          have GB5 := Lib.hid gb5; have HB5 := Lib.hid hB5
          clear gb5 hB5 hb5 HB4 HW4 e5
          go_wp2_with fail
          go_roundw
          case rel => exact ⟨q, by first | rfl | go_num, by omega, GB5.out, HB5.out⟩
          case measure => first | (simp [intOf]; done) | (simp [intOf]; omega)
        · have hqI : ¬ (q : Int) < (xs.length : Int) - 1 := by omega
          have hw4 := bWrite (b + 1) (b + 1) _ s w2 gb2 (by
            have h1 := HLN2.out
            have h2 := hsz
            simp at h1 ⊢; omega) hz2
          have HW4 := Lib.hid hw4; have HB4 := Lib.hid hB2
          clear hw4 gb2 hB2
          go_wp2_with fail
          refine HW4.out.mono ?_; rintro e w5 ⟨rfl, gb5, hb5, _⟩
          have hB5 := HB4.out.trans hb5
          have e5 : ([] : List UInt8) ++ ltxt (xs.drop (q + 1)) ++ s.data.toList = ([] : List UInt8) ++ ltxt (xs.drop q) := by
            rw [HST2.out, if_neg hq]
            simp
          rw [e5] at gb5
          have GB5 := Lib.hid gb5; have HB5 := Lib.hid hB5
          clear gb5 hB5 hb5 HB4 HW4 e5
          go_wp2_with fail
          go_roundw
          case rel => exact ⟨q, by first | rfl | go_num, by omega, GB5.out, HB5.out⟩
          case measure => first | (simp [intOf]; done) | (simp [intOf]; omega)
  · go_enter Tryz.func60, Tryz.ntmps60
    go_wp2_with fail
    have g0 := (Bx.new (.bool true) (.slice ad xs.length cap) w 26).keep (below_allocC _ (.cells #[.pointer none, .slice none 0 0] 113))
    have gb := Bl.new (w.alloc (.cells #[.bool true, .slice ad xs.length cap] 26))
    rw [show (w.alloc (.cells #[.bool true, .slice ad xs.length cap] 26)).heap.size = w.heap.size + 1 by simp] at gb
    have hb0 : Below w.heap.size w ((w.alloc (.cells #[.bool true, .slice ad xs.length cap] 26)).alloc (.cells #[.pointer none, .slice none 0 0] 113)) := bel_alloc (below_allocC _ _) _
    generalize (w.alloc (.cells #[.bool true, .slice ad xs.length cap] 26)).alloc (.cells #[.pointer none, .slice none 0 0] 113) = W0 at g0 gb hb0 ⊢
    obtain ⟨b, hb⟩ : ∃ b, w.heap.size = b := ⟨_, rfl⟩
    rw [hb] at g0 gb hb0 ⊢
    have HBW := Lib.hid hb; clear hb
    have hw0 := bWrite (b + 1) (b + 1) [] ⟨#[45]⟩ W0 gb (by decide) (by have := gb.lt; omega)
    have hW0 := HBW.out
    have HW0 := Lib.hid hw0
    have HG9 := Lib.hid g0
    obtain ⟨y0, y1, y2, y3, y4⟩ := g0
    clear hw0 gb
    go_wp2_with fail
    refine HW0.out.mono ?_; rintro e w1 ⟨rfl, gb, hb1, _⟩
    replace gb : Bl w1 (b + 1) (b + 1) ([45] ++ ltxt []) := gb
    have HBS := Lib.hid hb1
    have q1 : w1.cell? ⟨b, 1, none⟩ = some (.slice ad xs.length cap) := (hb1.cell (p := ⟨b, 1, none⟩) (by dsimp only; omega)).trans y2
    clear y0 y1 y2 y3 y4 hb1 HW0 hW0
    have g0 := HG9.out; clear HG9
    go_wp2_with fail
    have HG0 := Lib.hid g0; have HB0 := Lib.hid hb0; clear g0 hb0
    go_loopw [4] (fun i wr => ∃ k : Nat, i = .int .i64 ((k : Int) - 1) ∧ k ≤ xs.length ∧ Bl wr (b + 1) (b + 1) (([45] : List UInt8) ++ ltxt (xs.drop k)) ∧ Below (b + 1) W0 wr) (fun i _ => (intOf i + 1).toNat)
    case atStart => exact ⟨xs.length, rfl, Nat.le_refl _, by rw [List.drop_length]; exact gb, HBS.out⟩
    case round =>
      obtain ⟨k, rfl, hk, gb, hbel⟩ := hrel
      have hbw : Below b w wr := HB0.out.trans (hbel.mono (by omega))
      have x0 : wr.cell? ⟨b, 0, none⟩ = some (.bool true) := (hbel.cell (p := ⟨b, 0, none⟩) (by dsimp only; omega)).trans HG0.out.2.1
      have x1 : wr.cell? ⟨b, 1, none⟩ = some (.slice ad xs.length cap) := (hbel.cell (p := ⟨b, 1, none⟩) (by dsimp only; omega)).trans HG0.out.2.2.1
      by_cases hk0 : k = 0
      · subst hk0
        rw [List.drop_zero] at gb
        by_cases hx : xs.length = 0
        · have hz : (xs.length == 0) = true := by simp [hx]
          have hxI : ((xs.length : Int) == 0) = true := by simp [hx]
          have hR := HNIL.out (List.length_eq_zero_iff.1 hx)
          subst hR
          have HB := Lib.hid hbw; clear hbw hbel gb
          go_wp2_with fail
          go_ret
          exact ret_eq rfl (by rw [HBW.out]; exact HB.out)
        · have hxI : ((xs.length : Int) == 0) = false := by simp; exact fun e => hx (by rw [e]; rfl)
          have hR := HRES.out (fun e => hx (by rw [e]; rfl))
          have hbs := bString (b + 1) (b + 1) _ wr gb (by have := gb.lt; omega)
          have HBS2 := Lib.hid hbs; have HB := Lib.hid hbw; have HBL := Lib.hid hbel; have HR := Lib.hid hR; clear hbs hbw hbel gb hR
          go_wp2_with fail
          refine HBS2.out.mono ?_; rintro e w2 ⟨rfl, hb2⟩
          have hbw2 := HB0.out.trans ((HBL.out.trans hb2).mono (show b ≤ b + 1 by omega))
          go_wp2_with fail
          go_ret
          exact ret_eq (by rw [HR.out]; rfl) (by rw [HBW.out]; exact hbw2)
      · obtain ⟨q, rfl⟩ : ∃ q, k = q + 1 := ⟨k - 1, by omega⟩
        have hi : q < xs.length := by omega
        obtain ⟨g, off, rfl, hlt, hcell⟩ := HCS.out (by omega)
        have hck := (hbw.cell (p := ⟨g, off + q, none⟩) (by rw [← HBW.out]; exact hlt)).trans (hcell q hi)
        have hd := HDD.out.at hi
        have hst := HST.out q hi
        have hln := HLN.out (q + 1)
        have eq1 : ((q + 1 : Nat) : Int) - 1 = (q : Int) := by omega
        rw [eq1]
        obtain ⟨s1, s2⟩ := numS_decL hd.1 hd.2
        have hitoa := fun w' (hw : PowT w') => itoaT (xs.getD q 0).toNat (by omega) w' hw
        rw [Int.toNat_of_nonneg hd.1] at hitoa
        have hpt := HT.out.keep (by rw [HBW.out]; exact hbw)
        generalize xs.getD q 0 = x at *
        generalize numS x.toNat = s at *
        rw [← s1] at hst
        have HIT := Lib.hid (hitoa wr hpt); have HST2 := Lib.hid hst; have HLN2 := Lib.hid hln
        obtain ⟨sz, hsz⟩ : ∃ sz, s.size = sz := ⟨_, rfl⟩
        have hsl : s.data.toList.length = sz := by rw [← hsz]; simp
        have hw1 : IntKind.i64.wrap (4 - (sz : Int)) = ((4 - sz : Nat) : Int) := by rw [hsz] at s2; rw [wrapi (by omega) (by omega)]; omega
        have HSL := Lib.hid hsl
        clear hitoa hpt hst hln hsl hcell s1 hd
        rw [hsz] at s2
        have hi0 : (0 : Int) ≤ (q : Int) := Int.natCast_nonneg _
        have hiL : (q : Int) < (xs.length : Int) := by omega
        have hl4 : xs.length ≤ 400 := hl
        have HB := Lib.hid hbel; have GB := Lib.hid gb; have X1 := Lib.hid x1
        clear hbel gb eq1 hk hk0 x0 hbw
        go_wp2_with fail
        refine HIT.out.mono ?_; rintro e w2 ⟨rfl, hb2⟩
        have gb2 := GB.out.keep hb2
        have hlt2 := GB.out.lt
        have hB2 := HB.out.trans (hb2.mono (show b + 1 ≤ wr.heap.size by omega))
        have x1' : w2.cell? ⟨b, 1, none⟩ = some (.slice (some ⟨g, off, none⟩) xs.length cap) := (hb2.cell (p := ⟨b, 1, none⟩) (by dsimp only; omega)).trans X1.out
        have hz2 : b + 1 ≤ w2.heap.size := by have := gb2.lt; omega
        clear hb2 HB GB X1 x1 hck HIT
        by_cases hq : q + 1 < xs.length
        · have hqI : (q : Int) < (xs.length : Int) - 1 := by omega
          have hrep := fun w' => Tryz.strings_Repeat (ByteArray.mk #[48]) (4 - sz) w' (by omega) (by have : (ByteArray.mk #[48]).size = 1 := rfl; rw [this]; omega)
          rw [repeat_zero] at hrep
          have HREP := Lib.hid hrep; have GB := Lib.hid gb2; have HB := Lib.hid hB2
          clear hrep gb2 hB2
          have HSZ := Lib.hid hsz
          go_wp2_with fail
          try rw [hsz]
          try go_wp2_with fail
          try rw [hw1]
          refine (HREP.out _).mono ?_; rintro e w3 ⟨rfl, hb3⟩
          have gb3 := GB.out.keep hb3
          have hB3 := HB.out.trans (hb3.mono hz2)
          have hz3 : b + 1 ≤ w3.heap.size := by have := gb3.lt; omega
          have hw3 := bWrite (b + 1) (b + 1) _ ⟨(List.replicate (4 - sz) 48).toArray⟩ w3 gb3 (by
            have h1 := HLN2.out
            simp [ByteArray.size] at h1 ⊢; omega) hz3
          have HW3 := Lib.hid hw3
          clear hw3 gb3 GB HB hb3 x1'
          go_wp2_with fail
          refine HW3.out.mono ?_; rintro e w4 ⟨rfl, gb4, hb4, _⟩
          have hB4 := hB3.trans hb4
          have hw4 := bWrite (b + 1) (b + 1) _ s w4 gb4 (by
            have h1 := HLN2.out
            have h2 := HSZ.out
            simp at h1 ⊢; omega) (by have := gb4.lt; omega)
          have HW4 := Lib.hid hw4; have HB4 := Lib.hid hB4
          clear hw4 gb4 hB4 hb4 hB3 HW3
          go_wp2_with fail
          refine HW4.out.mono ?_; rintro e w5 ⟨rfl, gb5, hb5, _⟩
          have hB5 := HB4.out.trans hb5
          have e5 : ([45] : List UInt8) ++ ltxt (xs.drop (q + 1)) ++ (⟨(List.replicate (4 - sz) 48).toArray⟩ : ByteArray).data.toList ++ s.data.toList = ([45] : List UInt8) ++ ltxt (xs.drop q) := by
            rw [HST2.out, if_pos hq, pad4, HSL.out]
            simp
          rw [e5] at gb5
          have GB5 := Lib.hid gb5; have HB5 := Lib.hid hB5
          clear gb5 hB5 hb5 HB4 HW4 e5
          go_wp2_with fail
          go_roundw
          case rel => exact ⟨q, by first | rfl | go_num, by omega, GB5.out, HB5.out⟩
          case measure => first | (simp [intOf]; done) | (simp [intOf]; omega)
        · have hqI : ¬ (q : Int) < (xs.length : Int) - 1 := by omega
          have hw4 := bWrite (b + 1) (b + 1) _ s w2 gb2 (by
            have h1 := HLN2.out
            have h2 := hsz
            simp at h1 ⊢; omega) hz2
          have HW4 := Lib.hid hw4; have HB4 := Lib.hid hB2
          clear hw4 gb2 hB2
          go_wp2_with fail
          refine HW4.out.mono ?_; rintro e w5 ⟨rfl, gb5, hb5, _⟩
          have hB5 := HB4.out.trans hb5
          have e5 : ([45] : List UInt8) ++ ltxt (xs.drop (q + 1)) ++ s.data.toList = ([45] : List UInt8) ++ ltxt (xs.drop q) := by
            rw [HST2.out, if_neg hq]
            simp
          rw [e5] at gb5
          have GB5 := Lib.hid gb5; have HB5 := Lib.hid hB5
          clear gb5 hB5 hb5 HB4 HW4 e5
          go_wp2_with fail
          go_roundw
          case rel => exact ⟨q, by first | rfl | go_num, by omega, GB5.out, HB5.out⟩
          case measure => first | (simp [intOf]; done) | (simp [intOf]; omega)
theorem bytes_app (A B : List UInt8) : (⟨A.toArray⟩ : ByteArray) ++ ⟨B.toArray⟩ = ⟨(A ++ B).toArray⟩ := by
  apply ByteArray.ext
  simp
theorem bytes_size (A : List UInt8) : (⟨A.toArray⟩ : ByteArray).size = A.length := by
  show A.toArray.size = A.length
  simp
set_option maxHeartbeats 8000000 in
theorem bgText_any (v : Value) (z : Int) (w : World) (hv : WV w v z) (hl : (digs z.natAbs).length ≤ 400) :
    Calls Tryz.prog 61 #[v] w (Ret (.string (wtxt z)) w) := by
  have hres : digs z.natAbs ≠ [] → wtxt z = _ := wtxt_cons
  have hnil : digs z.natAbs = [] → wtxt z = _ := wtxt_nil
  have hdd := digs_dig z.natAbs
  have hst := fun k (h : k < (digs z.natAbs).length) => ltxt_step h
  have hln := fun k => (show (ltxt ((digs z.natAbs).drop k)).length ≤ 1600 by
    by_cases h : (digs z.natAbs).drop k = []
    · rw [h]; exact Nat.zero_le _
    · have h2 := (ltxt_len _ (fun t ht => digs_dig _ t (List.mem_of_mem_drop ht)) h).2
      rw [List.length_drop] at h2; omega)
  obtain ⟨ad, cap, rfl, hr, _⟩ := hv
  generalize wtxt z = R at *
  generalize decide (z < 0) = neg at *
  generalize digs z.natAbs = xs at *
  obtain ⟨ad', cap', hv', hlm, hcs⟩ := hr
  cases hv'
  clear hlm
  by_cases hx : xs = []
  · have hR := hnil hx
    subst hx
    subst hR
    clear hres hnil hdd hst hln hcs
    go_enter Tryz.func61, Tryz.ntmps61
    go_wp2_with fail
    go_ret
    exact ret_eq rfl (by repeat (first | exact Below.refl _ _ | (with_reducible assumption) | refine bel_alloc ?_ _ | refine bel_drew ?_ | refine bel_drewN ?_ _ | refine Below.setCell ?_ (by dsimp only; omega) _ | refine bel_trans (by assumption) ?_))
  have hR := hres hx
  have hn0 : 0 < xs.length := by
    have := mt List.length_eq_zero_iff.1 hx
    omega
  obtain ⟨g, off, rfl, hlt, hcell⟩ := hcs hn0
  have HR := Lib.hid hR; have HDD := Lib.hid hdd; have HST := Lib.hid hst; have HLN := Lib.hid hln; have HCS := Lib.hid hcell
  clear hres hnil hdd hst hln hcs hcell hR hx
  obtain ⟨n, hn⟩ : ∃ n, xs.length = n + 1 := ⟨xs.length - 1, by omega⟩
  have hck := HCS.out n (by omega)
  have hd := HDD.out.at (show n < xs.length by omega)
  have hst := HST.out n (by omega)
  rw [if_neg (by omega), List.drop_eq_nil_of_le (show xs.length ≤ n + 1 by omega)] at hst
  have hln1 := HLN.out n
  have hnum := fun w => l1Num_any (xs.getD n 0).toNat w (by omega)
  rw [Int.toNat_of_nonneg hd.1] at hnum
  rw [show numS (xs.getD n 0).toNat = ⟨(decL (xs.getD n 0)).toArray⟩ from rfl, show decL (xs.getD n 0) = ltxt (xs.drop n) from hst.symm] at hnum
  generalize xs.getD n 0 = x at *
  have HNUM := Lib.hid hnum
  clear hnum hst hd
  have hnl : n ≤ 400 := by omega
  have e1 : ((n + 1 : Nat) : Int) - 1 = (n : Int) := by omega
  have e2 : ((n + 1 : Nat) : Int) - 2 = (n : Int) - 1 := by omega
  have HN := Lib.hid hn
  rw [hn] at hl hn0 ⊢
  clear hn
  go_enter Tryz.func61, Tryz.ntmps61
  go_wp2_with fail
  have g0 := Bx.new (.bool neg) (.slice (some ⟨g, off, none⟩) (n + 1) cap) w 26
  have hb0 : Below w.heap.size w (w.alloc (.cells #[.bool neg, .slice (some ⟨g, off, none⟩) (n + 1) cap] 26)) := below_allocC _ _
  refine (HNUM.out _).mono ?_; rintro e w1 ⟨rfl, hb1⟩
  have hB1 := bel_trans hb1 hb0
  have hbx1 := g0.keep hb1
  clear g0 hb0 hb1 hck
  obtain ⟨b, hb⟩ : ∃ b, w.heap.size = b := ⟨_, rfl⟩
  rw [hb] at hbx1 ⊢
  have HBW := Lib.hid hb; clear hb
  have HB1 := Lib.hid hB1; have HX := Lib.hid hbx1; clear hB1 hbx1
  go_wp2_with fail
  go_loopw [4, 5] (fun sv i wr => ∃ k : Nat, i = .int .i64 ((k : Int) - 1) ∧ k ≤ n ∧ sv = .string ⟨(ltxt (xs.drop k)).toArray⟩ ∧ Below w1.heap.size w1 wr) (fun _ i _ => (intOf i + 1).toNat)
  case atStart => exact ⟨n, by first | rfl | go_num, Nat.le_refl _, rfl, Below.refl _ _⟩
  case round =>
    obtain ⟨k, rfl, hk, rfl, hbel⟩ := hrel
    have hbx := HX.out.keep hbel
    have hbw := bel_trans hbel HB1.out
    have hlk := HLN.out k
    by_cases hk0 : k = 0
    · subst hk0
      rw [List.drop_zero] at hlk ⊢
      have hsz : (⟨(ltxt xs).toArray⟩ : ByteArray).size ≤ 1600 := by rw [bytes_size]; exact hlk
      have HB := Lib.hid hbw; clear hbw hbel
      obtain ⟨y0, y1, y2, y3, y4⟩ := hbx
      have hrs : R = (if neg = true then ⟨#[45]⟩ ++ ⟨(ltxt xs).toArray⟩ else ⟨(ltxt xs).toArray⟩) := by
        rw [HR.out]
        cases neg
        · rfl
        · rw [if_pos rfl, if_pos rfl]
          exact (bytes_app [45] (ltxt xs)).symm
      have HRS := Lib.hid hrs; clear hrs
      generalize (⟨(ltxt xs).toArray⟩ : ByteArray) = S at *
      cases neg
      · go_wp2_with fail
        go_ret
        exact ret_eq (by rw [HRS.out]; rfl) HB.out
      · go_wp2_with fail
        go_ret
        exact ret_eq (by rw [HRS.out]; rfl) HB.out
    · obtain ⟨q, rfl⟩ : ∃ q, k = q + 1 := ⟨k - 1, by omega⟩
      have hnn := HN.out
      have hck := (hbw.cell (p := ⟨g, off + q, none⟩) hlt).trans (HCS.out q (by omega))
      have hd := HDD.out.at (show q < xs.length by omega)
      have hst := HST.out q (by omega)
      rw [if_pos (by omega)] at hst
      have eq1 : ((q + 1 : Nat) : Int) - 1 = (q : Int) := by omega
      rw [eq1]
      have hnum := fun w => l1Num_any (xs.getD q 0).toNat w (by omega)
      rw [Int.toNat_of_nonneg hd.1] at hnum
      have hdl := decL_len hd.2
      rw [show numS (xs.getD q 0).toNat = ⟨(decL (xs.getD q 0)).toArray⟩ from rfl] at hnum
      generalize xs.getD q 0 = x at *
      generalize decL x = D at *
      have HNUM2 := Lib.hid hnum; have HST2 := Lib.hid hst
      have hi0 : (0 : Int) ≤ (q : Int) := Int.natCast_nonneg _
      have hiL : (q : Int) < ((n + 1 : Nat) : Int) := by omega
      have hqn : q + 1 ≤ n := hk
      have hsz : (⟨(ltxt (xs.drop (q + 1))).toArray⟩ : ByteArray).size ≤ 1600 := by rw [bytes_size]; exact hlk
      obtain ⟨S, hS⟩ : ∃ S : ByteArray, ⟨(ltxt (xs.drop (q + 1))).toArray⟩ = S := ⟨_, rfl⟩
      rw [hS] at hsz ⊢
      have HS := Lib.hid hS
      clear hnum hst eq1 hk0 hk hd hlk hS hnn
      have HB := Lib.hid hbel; have HBX := Lib.hid hbx; clear hbel hbw
      obtain ⟨y0, y1, y2, y3, y4⟩ := hbx
      go_wp2_with fail
      refine (HNUM2.out _).mono ?_; rintro e w2 ⟨rfl, hb2⟩
      have hB2 := bel_trans hb2 HB.out
      have HB2 := Lib.hid hB2
      clear hB2 hb2 HB y0 y1 y2 y3 y4 hck HBX
      go_wp2_with fail
      go_loop [6] (fun tv => ∃ (c : Nat) (t : ByteArray), tv = .string t ∧ Hid (t = ⟨(List.replicate c 48 ++ D).toArray⟩) ∧ t.size ≤ 4 ∧ t.size = c + D.length) (fun tv => 4 - (strOf tv))
      case atStart => exact ⟨0, _, rfl, rfl, by rw [bytes_size]; exact hdl, by rw [bytes_size]; omega⟩
      case round =>
        obtain ⟨c, t, rfl, HT, ht4, htc⟩ := hrel
        by_cases h4 : t.size < 4
        · have h4I : (t.size : Int) < 4 := by omega
          go_wp2_with fail
          go_round
          case rel => exact ⟨c + 1, _, rfl, by show _ = _; rw [show t = _ from HT.out]; exact (bytes_app [48] _).trans (by rw [List.replicate_succ]; rfl), by rw [ByteArray.size_append]; show 1 + t.size ≤ 4; omega, by rw [ByteArray.size_append]; show 1 + t.size = _; omega⟩
          case measure => show 4 - strOf (.string (⟨#[48]⟩ ++ t)) < 4 - strOf (.string t); show 4 - (⟨#[48]⟩ ++ t : ByteArray).size < 4 - t.size; rw [ByteArray.size_append]; show 4 - (1 + t.size) < _; omega
        · have h4I : ¬ (t.size : Int) < 4 := by omega
          have ht : t = ⟨(pad4 D).toArray⟩ := by rw [show t = _ from HT.out]; unfold pad4; rw [show c = 4 - D.length by omega]
          have HTT := Lib.hid ht; clear ht
          go_wp2_with fail
          go_roundw
          case rel => exact ⟨q, by first | rfl | go_num, by omega, by rw [HTT.out, ← HS.out, bytes_app, HST2.out], HB2.out⟩
          case measure => first | (simp [intOf]; done) | (simp [intOf]; omega)
/-- returned the text, where the whole is valid. -/
def txtV (n : Bool) (xs : List Int) : Value := .tuple #[.string (if goodW n xs = true then wtxt (valW n xs) else ⟨#[]⟩), .bool (goodW n xs)]
set_option maxHeartbeats 4000000 in
theorem iWholeText_any (v : Value) (n : Bool) (xs : List Int) (w : World) (hv : RW w v n xs) (hl : xs.length ≤ 1000) (ht : PowT w) :
    Calls Tryz.prog 13 #[v] w (Ret (txtV n xs) w) := by
  have hg := fun w' (hb : Below w.heap.size w w') => isWhole_any v n xs w' (hv.keep hb) (by omega)
  have hc := fun (h1 : goodW n xs = true) w' (hb : Below w.heap.size w w') => wholeText_any v _ w' ((hv.wv h1).keep hb) (good_val h1).2.2 (ht.keep hb)
  unfold txtV
  generalize wtxt (valW n xs) = r at *
  generalize goodW n xs = g at *
  obtain ⟨ad, cap, rfl, _, _⟩ := hv
  generalize xs.length = la at *
  have HG := Lib.hid hg; have HC := Lib.hid hc; clear hg hc
  cases g
  · go_enter Tryz.func13, Tryz.ntmps13
    go_wp2_with fail
    refine (HG.out _ (by repeat (first | exact Below.refl _ _ | (with_reducible assumption) | refine bel_alloc ?_ _ | refine bel_drew ?_ | refine bel_drewN ?_ _ | refine Below.setCell ?_ (by dsimp only; omega) _ | refine bel_trans (by assumption) ?_))).mono ?_; rintro e w1 ⟨rfl, hb1⟩
    obtain ⟨hc1, hf1⟩ := aft hb1
    go_wp2_with fail
    go_returns
    exact ret_eq rfl (by repeat (first | exact Below.refl _ _ | (with_reducible assumption) | refine bel_alloc ?_ _ | refine bel_drew ?_ | refine bel_drewN ?_ _ | refine Below.setCell ?_ (by dsimp only; omega) _ | refine bel_trans (by assumption) ?_))
  have HC2 := Lib.hid (HC.out rfl); clear HC
  go_enter Tryz.func13, Tryz.ntmps13
  go_wp2_with fail
  refine (HG.out _ (by repeat (first | exact Below.refl _ _ | (with_reducible assumption) | refine bel_alloc ?_ _ | refine bel_drew ?_ | refine bel_drewN ?_ _ | refine Below.setCell ?_ (by dsimp only; omega) _ | refine bel_trans (by assumption) ?_))).mono ?_; rintro e w1 ⟨rfl, hb1⟩
  obtain ⟨hc1, hf1⟩ := aft hb1
  go_wp2_with fail
  refine (HC2.out _ (by repeat (first | exact Below.refl _ _ | (with_reducible assumption) | refine bel_alloc ?_ _ | refine bel_drew ?_ | refine bel_drewN ?_ _ | refine Below.setCell ?_ (by dsimp only; omega) _ | refine bel_trans (by assumption) ?_))).mono ?_; rintro e w3 ⟨rfl, hb3⟩
  replace hb3 := aft2 hb3 hb1; clear hb1 hc1 hf1
  obtain ⟨hc3, hf3⟩ := aft hb3
  go_wp2_with fail
  go_returns
  exact ret_eq rfl (by repeat (first | exact Below.refl _ _ | (with_reducible assumption) | refine bel_alloc ?_ _ | refine bel_drew ?_ | refine bel_drewN ?_ _ | refine Below.setCell ?_ (by dsimp only; omega) _ | refine bel_trans (by assumption) ?_))
set_option maxHeartbeats 4000000 in
theorem sWholeText_any (v : Value) (n : Bool) (xs : List Int) (w : World) (hv : RW w v n xs) (hl : xs.length ≤ 1000) :
    Calls Tryz.prog 14 #[v] w (Ret (txtV n xs) w) := by
  have hg := fun w' (hb : Below w.heap.size w w') => bgGood_any v n xs w' (hv.keep hb) (by omega)
  have hc := fun (h1 : goodW n xs = true) w' (hb : Below w.heap.size w w') => bgText_any v _ w' ((hv.wv h1).keep hb) (good_val h1).2.2
  unfold txtV
  generalize wtxt (valW n xs) = r at *
  generalize goodW n xs = g at *
  obtain ⟨ad, cap, rfl, _, _⟩ := hv
  generalize xs.length = la at *
  have HG := Lib.hid hg; have HC := Lib.hid hc; clear hg hc
  cases g
  · go_enter Tryz.func14, Tryz.ntmps14
    go_wp2_with fail
    refine (HG.out _ (by repeat (first | exact Below.refl _ _ | (with_reducible assumption) | refine bel_alloc ?_ _ | refine bel_drew ?_ | refine bel_drewN ?_ _ | refine Below.setCell ?_ (by dsimp only; omega) _ | refine bel_trans (by assumption) ?_))).mono ?_; rintro e w1 ⟨rfl, hb1⟩
    obtain ⟨hc1, hf1⟩ := aft hb1
    go_wp2_with fail
    go_returns
    exact ret_eq rfl (by repeat (first | exact Below.refl _ _ | (with_reducible assumption) | refine bel_alloc ?_ _ | refine bel_drew ?_ | refine bel_drewN ?_ _ | refine Below.setCell ?_ (by dsimp only; omega) _ | refine bel_trans (by assumption) ?_))
  have HC2 := Lib.hid (HC.out rfl); clear HC
  go_enter Tryz.func14, Tryz.ntmps14
  go_wp2_with fail
  refine (HG.out _ (by repeat (first | exact Below.refl _ _ | (with_reducible assumption) | refine bel_alloc ?_ _ | refine bel_drew ?_ | refine bel_drewN ?_ _ | refine Below.setCell ?_ (by dsimp only; omega) _ | refine bel_trans (by assumption) ?_))).mono ?_; rintro e w1 ⟨rfl, hb1⟩
  obtain ⟨hc1, hf1⟩ := aft hb1
  go_wp2_with fail
  refine (HC2.out _ (by repeat (first | exact Below.refl _ _ | (with_reducible assumption) | refine bel_alloc ?_ _ | refine bel_drew ?_ | refine bel_drewN ?_ _ | refine Below.setCell ?_ (by dsimp only; omega) _ | refine bel_trans (by assumption) ?_))).mono ?_; rintro e w3 ⟨rfl, hb3⟩
  replace hb3 := aft2 hb3 hb1; clear hb1 hc1 hf1
  obtain ⟨hc3, hf3⟩ := aft hb3
  go_wp2_with fail
  go_returns
  exact ret_eq rfl (by repeat (first | exact Below.refl _ _ | (with_reducible assumption) | refine bel_alloc ?_ _ | refine bel_drew ?_ | refine bel_drewN ?_ _ | refine Below.setCell ?_ (by dsimp only; omega) _ | refine bel_trans (by assumption) ?_))
end Go.Proofs.YtakilincclnpdaaGreatDoor
