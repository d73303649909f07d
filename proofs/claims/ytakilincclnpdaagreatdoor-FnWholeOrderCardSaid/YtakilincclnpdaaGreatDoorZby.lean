/- Zb: contracts: lengths in bits of wholes, both sides. No conditions. -/
import Derived.Test.YtakilincclnpdaaGreatDoorZcy
import Derived.Test.YtakilincclnpdaaGreatDoorBdy
namespace Go.Proofs.YtakilincclnpdaaGreatDoor
open Go.RowKit

/-- how many bits. -/
def blen (n : Nat) : Nat := if h : n = 0 then 0 else blen (n / 2) + 1
theorem blen_zero : blen 0 = 0 := by rw [blen, dif_pos rfl]
theorem blen_pos {n : Nat} (h : n ≠ 0) : blen n = blen (n / 2) + 1 := by rw [blen, dif_neg h]
theorem blen_nil {n : Nat} : blen n = 0 ↔ n = 0 := by
  by_cases h : n = 0
  · subst h; simp [blen_zero]
  · rw [blen_pos h]; omega
theorem blen_shift : ∀ (k n : Nat), 2 ^ k ≤ n → blen n = blen (n / 2 ^ k) + k
  | 0, n, _ => by simp
  | k + 1, n, h => by
    have h0 : 0 < 2 ^ k := Nat.two_pow_pos k
    rw [Nat.pow_succ] at h
    have h1 : n ≠ 0 := by omega
    rw [blen_pos h1, blen_shift k (n / 2) ((Nat.le_div_iff_mul_le (by decide)).2 h), Nat.pow_succ, Nat.mul_comm, Nat.div_div_eq_div_mul]
    omega
theorem blen_lt : ∀ (k n : Nat), n < 2 ^ k → blen n ≤ k
  | 0, n, h => by
    have : n = 0 := by simpa using h
    subst this; rw [blen_zero]; omega
  | k + 1, n, h => by
    by_cases h0 : n = 0
    · subst h0; rw [blen_zero]; omega
    · rw [blen_pos h0]
      have := blen_lt k (n / 2) (by rw [Nat.pow_succ] at h; omega)
      omega
theorem blen_aux : ∀ (f n : Nat), n < 2 ^ f → Lib.bitLenAux f n = blen n
  | 0, n, h => by
    have : n = 0 := by simpa using h
    subst this; rw [blen_zero]; rfl
  | f + 1, n, h => by
    unfold Lib.bitLenAux
    by_cases h0 : n = 0
    · subst h0; rw [if_pos rfl, blen_zero]
    · rw [if_neg h0, blen_pos h0, blen_aux f (n / 2) (by rw [Nat.pow_succ] at h; omega)]; omega
theorem blen_lib {n : Nat} (h : n < 100000000) : Lib.bitLen n = blen n := blen_aux 64 n (Nat.lt_trans h (by decide))
theorem pow_le14 (k : Nat) : (10000 : Nat) ^ k ≤ 2 ^ (14 * k) := by
  rw [Nat.pow_mul]
  exact Nat.pow_le_pow_left (by decide) k
theorem blen_digs {n : Nat} (h : (digs n).length ≤ 400) : blen n ≤ 5600 :=
  Nat.le_trans (blen_lt _ n (Nat.lt_of_lt_of_le (lt_digs n) (pow_le14 _))) (by omega)
theorem digs_two {n : Nat} (h : 2 < (digs n).length) : 2 ^ 26 ≤ n := by
  rcases Nat.lt_or_ge n (10000 ^ 2) with h1 | h1
  · have := digs_lt h1; omega
  · exact Nat.le_trans (by decide) h1
theorem digs_one {n : Nat} (h : 1 < (digs n).length) : 2 ^ 12 ≤ n := by
  rcases Nat.lt_or_ge n (10000 ^ 1) with h1 | h1
  · have := digs_lt h1; omega
  · exact Nat.le_trans (by decide) h1
theorem val_drop_succ {xs : List Int} {k : Nat} (h : k < xs.length) : val (xs.drop k) = xs.getD k 0 + 10000 * val (xs.drop (k + 1)) := by
  rw [List.drop_eq_getElem_cons h, List.getD_eq_getElem?_getD, List.getElem?_eq_getElem h]
  rfl
theorem digs_small {n : Nat} (h : (digs n).length ≤ 1) : (digs n).getD 0 0 = (n : Int) := by
  have hv := val_digs n
  revert hv h
  generalize digs n = xs
  match xs with
  | [] => intro _ hv; rw [← hv]; rfl
  | [x] => intro _ hv; rw [← hv]; show x = x + 10000 * 0; omega
  | _ :: _ :: _ => intro h; simp at h
/-- a box of a sign and limbs of one's own. -/
def Bx (w : World) (n : Nat) (u0 u1 : Value) : Prop := n < w.heap.size ∧ w.cell? ⟨n, 0, none⟩ = some u0 ∧ w.cell? ⟨n, 1, none⟩ = some u1 ∧ w.frozen? ⟨n, 0, none⟩ = false ∧ w.frozen? ⟨n, 1, none⟩ = false
theorem Bx.keep {w w' : World} {n : Nat} {u0 u1 : Value} (h : Bx w n u0 u1) (hb : Below w.heap.size w w') : Bx w' n u0 u1 :=
  ⟨Nat.lt_of_lt_of_le h.1 hb.size, (hb.cell (p := ⟨n, 0, none⟩) h.1).trans h.2.1, (hb.cell (p := ⟨n, 1, none⟩) h.1).trans h.2.2.1, (hb.frozen (p := ⟨n, 0, none⟩) h.1).trans h.2.2.2.1, (hb.frozen (p := ⟨n, 1, none⟩) h.1).trans h.2.2.2.2⟩
theorem Bx.put {w : World} {n : Nat} {u0 u1 : Value} (h : Bx w n u0 u1) (v0 v1 : Value) : Bx ((w.setCell ⟨n, 0, none⟩ v0).setCell ⟨n, 1, none⟩ v1) n v0 v1 := by
  obtain ⟨h1, h3, h4, h5, h6⟩ := h
  exact ⟨by simpa using h1, by simp [go_sem, h3], by simp [go_sem, h4], by simp [go_sem, h5], by simp [go_sem, h6]⟩
theorem Bx.new (u0 u1 : Value) (w : World) (t : TypeId) : Bx (w.alloc (.cells #[u0, u1] t)) w.heap.size u0 u1 := ⟨by simp, by simp [go_sem], by simp [go_sem], by simp [go_sem], by simp [go_sem]⟩
/-- a whole that is not negative, its limbs a row of the call's own. -/
theorem WO.pos {w : World} {B : Nat} {v : Value} {m : Nat} (h : WO w B v (m : Int)) : ∃ (ad : Option Addr) (cap : Nat), v = .agg #[.bool false, .slice ad (digs m).length cap] ∧ Own w B (.slice ad (digs m).length cap) (digs m) := by
  obtain ⟨ad, cap, hv, ho⟩ := h
  rw [decide_eq_false (by omega)] at hv
  exact ⟨ad, cap, hv, ho⟩
theorem WO.mk {w : World} {B : Nat} {m : Nat} {ad : Option Addr} {l cap : Nat} (hl : (digs m).length = l) (h : Own w B (.slice ad l cap) (digs m)) : WV w (.agg #[.bool false, .slice ad l cap]) (m : Int) := by
  subst hl
  refine WO.wv (B := B) ⟨ad, cap, ?_, h⟩
  rw [decide_eq_false (by omega)]
  rfl
set_option maxHeartbeats 4000000 in
theorem bitLength_any (v : Value) (z : Int) (w : World) (hv : WV w v z) (hl : (digs z.natAbs).length ≤ 400) :
    Calls Tryz.prog 62 #[v] w (Ret (.int .i64 (blen z.natAbs)) w) := by
  have hab := fun w' (hb : Below w.heap.size w w') => absolute_any v z w' (hv.keep hb) (by omega)
  have hT5 := blen_digs hl
  obtain ⟨ad, cap, rfl, _, _⟩ := hv
  generalize decide (z < 0) = bz at hab ⊢
  generalize hlz : (digs z.natAbs).length = lz at *
  generalize z.natAbs = Z at *
  obtain ⟨T, hT⟩ : ∃ T, blen Z = T := ⟨_, rfl⟩
  rw [hT] at hT5 ⊢
  have HA := Lib.hid hab; have HT := Lib.hid hT; have HLZ := Lib.hid hlz; clear hab hT hlz
  go_enter Tryz.func62, Tryz.ntmps62
  go_wp2_with fail
  have hb0 : Below w.heap.size w (w.alloc (.cells #[.bool bz, .slice ad lz cap] 26)) := below_allocC _ _
  have hbx := Bx.new (.bool bz) (.slice ad lz cap) w 26
  refine (HA.out _ hb0).mono ?_; rintro e w1 ⟨v1, rfl, hb1, ho1⟩
  have hbx1 := hbx.keep hb1
  have hB1 := bel_trans hb1 hb0
  have hsz : w.heap.size + 1 ≤ (w.alloc (.cells #[.bool bz, .slice ad lz cap] 26)).heap.size := by simp
  have ho1' := ho1.le hsz
  clear hb0 hbx hb1 ho1 hsz HA
  obtain ⟨ad1, cap1, rfl, hown1⟩ := ho1'.pos
  clear ho1'
  generalize hb : w.heap.size = b at *
  obtain ⟨x0, x1, x2, x3, x4⟩ := hbx1
  go_wp2_with fail
  have hbx2 := Bx.put ⟨x0, x1, x2, x3, x4⟩ (.bool false) (.slice ad1 (digs Z).length cap1)
  have hown2 := own_setFar (own_setFar hown1 (Nat.lt_succ_self b) 0 (.bool false)) (Nat.lt_succ_self b) 1 (.slice ad1 (digs Z).length cap1)
  have hB2 := (hB1.setCell (p := ⟨b, 0, none⟩) (Nat.le_refl _) (.bool false)).setCell (p := ⟨b, 1, none⟩) (Nat.le_refl _) (.slice ad1 (digs Z).length cap1)
  generalize (w1.setCell ⟨b, 0, none⟩ (.bool false)).setCell ⟨b, 1, none⟩ (.slice ad1 (digs Z).length cap1) = w2 at hbx2 hown2 hB2 ⊢
  clear x0 x1 x2 x3 x4 hown1 hB1
  go_loopw [3] (fun s wr => ∃ (k m : Nat) (ad : Option Addr) (cap : Nat), s = .int .i64 (k : Int) ∧ k + blen m = T ∧ Bx wr b (.bool false) (.slice ad (digs m).length cap) ∧ Own wr (b + 1) (.slice ad (digs m).length cap) (digs m) ∧ Below b w wr ∧ (digs m).length ≤ 400) (fun s _ => T - (intOf s).toNat)
  case atStart => exact ⟨0, Z, ad1, cap1, rfl, by rw [HT.out]; omega, hbx2, hown2, hB2, by rw [HLZ.out]; omega⟩
  case round =>
    obtain ⟨k, m, ad3, cap3, rfl, hkm, ⟨x0, x1, x2, x3, x4⟩, hown, hbel, hl4⟩ := hrel
    obtain ⟨l, hlm⟩ : ∃ l, (digs m).length = l := ⟨_, rfl⟩
    rw [hlm] at x2 hown hl4
    by_cases h2 : 2 < l
    · have h26 := digs_two (n := m) (by omega)
      have hsh := blen_shift 26 m h26
      have hpos : 0 < blen (m / 2 ^ 26) := by
        have : blen (m / 2 ^ 26) ≠ 0 := fun e => by
          have e2 := blen_nil.1 e
          have := Nat.div_pos h26 (by decide)
          omega
        omega
      have hdv := fun w' (h : WV w' (.agg #[.bool false, .slice ad3 l cap3]) (m : Int)) => divWhole_any _ (m : Int) 67108864 w' h (by rw [Int.natAbs_natCast]; omega) (by omega) (by omega)
      have hwv := WO.mk hlm hown
      rw [show (m : Int) / 67108864 = ((m / 2 ^ 26 : Nat) : Int) by omega] at hdv
      have hml : (digs (m / 2 ^ 26)).length ≤ 400 := Nat.le_trans (digs_mono (Nat.div_le_self _ _)) (by omega)
      generalize m / 2 ^ 26 = q at *
      generalize (m : Int) % 67108864 = r at hdv
      have HDV := Lib.hid (hdv _ hwv); have HKM := Lib.hid hkm; have HSH := Lib.hid hsh; have HPOS := Lib.hid hpos; have HML := Lib.hid hml
      have h2' : (2 : Int) < (l : Int) := by omega
      have hkk : k ≤ 6000 := by omega
      have hw1 : IntKind.i64.wrap ((k : Int) + 26) = (k : Int) + 26 := wrapi (by omega) (by omega)
      clear hdv hwv hkm hsh hpos hml h26 hlm hown
      have HB := Lib.hid hbel; clear hbel
      have HX := Lib.hid (show Bx wr b _ _ from ⟨x0, x1, x2, x3, x4⟩)
      go_wp2_with fail
      refine HDV.out.mono ?_; rintro e w3 ⟨v3, rfl, hb3, ho3⟩
      have hbx3 := HX.out.keep hb3
      have hB3 := bel_trans (w := w) (a := wr) hb3 (by rw [← hb] at *; exact HB.out)
      have ho3' := ho3.le (show b + 1 ≤ wr.heap.size from x0)
      obtain ⟨ad4, cap4, rfl, hown4⟩ := ho3'.pos
      clear hb3 ho3 ho3' HB HX HDV x0 x1 x2 x3 x4
      obtain ⟨x0, x1, x2, x3, x4⟩ := hbx3
      go_wp2_with fail
      have hbx4 := Bx.put ⟨x0, x1, x2, x3, x4⟩ (.bool false) (.slice ad4 (digs q).length cap4)
      have hown5 := own_setFar (own_setFar hown4 (Nat.lt_succ_self b) 0 (.bool false)) (Nat.lt_succ_self b) 1 (.slice ad4 (digs q).length cap4)
      have hB4 := (hB3.setCell (p := ⟨b, 0, none⟩) (by dsimp only; omega) (.bool false)).setCell (p := ⟨b, 1, none⟩) (by dsimp only; omega) (.slice ad4 (digs q).length cap4)
      rw [hb] at hB4
      go_roundw
      case rel => exact ⟨k + 26, q, ad4, cap4, by first | rfl | go_num, by have := HKM.out; have := HSH.out; omega, hbx4, hown5, hB4, HML.out⟩
      case measure => have := HKM.out; have := HSH.out; have := HPOS.out; simp [intOf]; omega
    · have h2' : ¬ (2 : Int) < (l : Int) := by omega
      have hm8 : m < 100000000 := by
        have h1 := lt_digs m
        have h3 : (10000 : Nat) ^ (digs m).length ≤ 10000 ^ 2 := Nat.pow_le_pow_right (by decide) (by omega)
        exact Nat.lt_of_lt_of_le h1 h3
      have hvd := val_digs m
      have hdd := digs_dig m
      have hbl := blen_lib hm8
      have hb0 : m = 0 → blen m = 0 := blen_nil.2
      generalize digs m = xs at *
      generalize blen m = bm at *
      have hcells := hown.rd
      obtain ⟨ad5, cap5, he5, hlm5, hcs⟩ := hcells
      cases he5
      clear hlm5
      have HBL := Lib.hid hbl; have HB0 := Lib.hid hb0; have HVD := Lib.hid hvd; have HDD := Lib.hid hdd; have HCS := Lib.hid hcs; have HKM := Lib.hid hkm
      clear hbl hb0 hvd hdd hcs hkm
      clear hlm
      have hl2 : xs.length ≤ 2 := by omega
      have hkk : k ≤ 6000 := by have := HKM.out; omega
      have HB := Lib.hid hbel; have HO := Lib.hid hown; clear hbel hown
      go_wp2_with fail
      go_loopw [4, 5] (fun p i wx => ∃ (j : Nat) (y : Int), i = .int .i64 ((j : Int) - 1) ∧ p = .int .i64 y ∧ j ≤ xs.length ∧ y = val (xs.drop j) ∧ wx = wr) (fun _ i _ => (intOf i + 1).toNat)
      case atStart => exact ⟨xs.length, 0, rfl, rfl, Nat.le_refl _, by rw [List.drop_length]; rfl, rfl⟩
      case round =>
        obtain ⟨j, y, rfl, rfl, hj, hy, rfl⟩ := hrel
        by_cases hj0 : j = 0
        · subst hj0
          rw [List.drop_zero, HVD.out] at hy
          subst hy
          by_cases hm0 : m = 0
          · subst hm0
            have hT2 : T = k := by have := HB0.out rfl; have := HKM.out; omega
            subst hT2
            go_wp2_with fail
            go_ret
            exact ret_eq rfl (by rw [hb]; exact HB.out)
          · have hne : ((m : Int) == 0) = false := by simp; omega
            have hwu : IntKind.u64.wrap (m : Int) = (m : Int) := by rw [IntKind.wrap]; simp [IntKind.bits, IntKind.signed]; omega
            have hbits := fun w => Tryz.bits_Len (m : Int) w (by omega) (by omega)
            rw [Int.toNat_natCast, HBL.out] at hbits
            have HBI := Lib.hid hbits; clear hbits
            have hT2 : (k : Int) + (bm : Int) = (T : Int) := by have := HKM.out; omega
            have hw2 : IntKind.i64.wrap ((k : Int) + (bm : Int)) = (T : Int) := by rw [hT2]; exact wrapi (by omega) (by omega)
            have hw3 : wrap64 ((k : Int) + (bm : Int)) = (T : Int) := by rw [hT2]; unfold wrap64; omega
            clear hT2
            go_wp2_with fail
            refine (HBI.out _).mono ?_; rintro e w' ⟨rfl, rfl⟩
            go_wp2_with fail
            go_ret
            exact ret_eq rfl (by rw [hb]; exact HB.out)
        · obtain ⟨i, rfl⟩ : ∃ i, j = i + 1 := ⟨j - 1, by omega⟩
          have hi : i < xs.length := by omega
          obtain ⟨bb, off, rfl, hlt, hcell⟩ := HCS.out (by omega)
          have hci := hcell i hi
          have hd := HDD.out.at hi
          have hvs := val_drop_succ hi
          rw [← hy] at hvs
          have hy0 : 0 ≤ y ∧ y ≤ 9999 := by
            rw [hy]
            have h1 : Dig (xs.drop (i + 1)) := fun t ht => HDD.out t (List.mem_of_mem_drop ht)
            have h2 := val_nonneg h1
            have h3 := val_lt h1
            rw [List.length_drop] at h3
            have h4 : (10000 : Int) ^ (xs.length - (i + 1)) ≤ 10000 := by
              rcases (by omega : xs.length - (i + 1) = 0 ∨ xs.length - (i + 1) = 1) with e | e <;> rw [e] <;> decide
            omega
          have eq1 : ((i + 1 : Nat) : Int) - 1 = (i : Int) := by omega
          rw [eq1]
          generalize xs.getD i 0 = x at *
          have hi0 : (0 : Int) ≤ (i : Int) := Int.natCast_nonneg _
          have hiL : (i : Int) < (xs.length : Int) := by omega
          have hw2 : IntKind.i64.wrap (y * 10000) = y * 10000 := wrapi (by omega) (by omega)
          have hw3 : IntKind.i64.wrap (y * 10000 + x) = y * 10000 + x := wrapi (by omega) (by omega)
          have HVS := Lib.hid hvs; clear hvs hcell hy eq1 hj0 hj
          go_wp2_with fail
          go_roundw
          case rel => exact ⟨i, _, by first | rfl | go_num, rfl, by omega, by rw [HVS.out]; omega, by first | rfl | trivial⟩
          case measure => first | (simp [intOf]; done) | (simp [intOf]; omega)
set_option maxHeartbeats 4000000 in
theorem bgBits_any (v : Value) (z : Int) (w : World) (hv : WV w v z) (hl : (digs z.natAbs).length ≤ 400) :
    Calls Tryz.prog 63 #[v] w (Ret (.int .i64 (blen z.natAbs)) w) := by
  have hT5 := blen_digs hl
  obtain ⟨ad, cap, rfl, hr, hso⟩ := hv
  have hmk := fun w' (hb : Below w.heap.size w w') => bgMake_any false _ _ w' (hr.keep hb) hso (digs_dig _) (by omega)
  rw [if_neg (by decide), val_digs] at hmk
  generalize decide (z < 0) = bz
  generalize hlz : (digs z.natAbs).length = lz at *
  generalize z.natAbs = Z at *
  obtain ⟨T, hT⟩ : ∃ T, blen Z = T := ⟨_, rfl⟩
  rw [hT] at hT5 ⊢
  have HA := Lib.hid hmk; have HT := Lib.hid hT; have HLZ := Lib.hid hlz; clear hmk hT hlz hr hso
  go_enter Tryz.func63, Tryz.ntmps63
  go_wp2_with fail
  have hb0 : Below w.heap.size w (w.alloc (.cells #[.bool bz, .slice ad lz cap] 26)) := below_allocC _ _
  refine (HA.out _ hb0).mono ?_; rintro e w1 ⟨v1, rfl, hb1, ho1⟩
  have hB1 := bel_trans hb1 hb0
  obtain ⟨ad1, cap1, rfl, hown1⟩ := ho1.pos
  clear hb0 hb1 ho1 HA
  go_wp2_with fail
  have hbx2 := Bx.new (.bool false) (.slice ad1 (digs Z).length cap1) w1 26
  have hown2 := hown1.keep (below_allocC w1 (.cells #[.bool false, .slice ad1 (digs Z).length cap1] 26))
  have hB2 := bel_alloc hB1 (.cells #[.bool false, .slice ad1 (digs Z).length cap1] 26)
  have hwb := hB1.size
  generalize w1.alloc (.cells #[.bool false, .slice ad1 (digs Z).length cap1] 26) = w2 at hbx2 hown2 hB2 ⊢
  generalize w1.heap.size = b at hbx2 hwb ⊢
  have hrd2 := (show WV w2 (.agg #[.bool false, .slice ad1 (digs Z).length cap1]) (Z : Int) from WO.mk rfl hown2)
  clear hown1 hown2 hB1
  go_loopw [3] (fun s wr => ∃ (k m : Nat) (ad : Option Addr) (cap : Nat), s = .int .i64 (k : Int) ∧ k + blen m = T ∧ Bx wr b (.bool false) (.slice ad (digs m).length cap) ∧ WV wr (.agg #[.bool false, .slice ad (digs m).length cap]) (m : Int) ∧ Below w.heap.size w wr ∧ (digs m).length ≤ 400) (fun s _ => T - (intOf s).toNat)
  case atStart => exact ⟨0, Z, ad1, cap1, rfl, by rw [HT.out]; omega, hbx2, hrd2, hB2, by rw [HLZ.out]; omega⟩
  case round =>
    obtain ⟨k, m, ad3, cap3, rfl, hkm, ⟨x0, x1, x2, x3, x4⟩, hwv, hbel, hl4⟩ := hrel
    obtain ⟨l, hlm⟩ : ∃ l, (digs m).length = l := ⟨_, rfl⟩
    rw [hlm] at x2 hwv hl4
    by_cases h2 : 1 < l
    · have h26 := digs_one (n := m) (by omega)
      have hsh := blen_shift 12 m h26
      have hpos : 0 < blen (m / 2 ^ 12) := by
        have : blen (m / 2 ^ 12) ≠ 0 := fun e => by
          have e2 := blen_nil.1 e
          have := Nat.div_pos h26 (by decide)
          omega
        omega
      have hdv := fun w' (h : WV w' (.agg #[.bool false, .slice ad3 l cap3]) (m : Int)) => bgOver_any _ (m : Int) 4096 w' h (by rw [Int.natAbs_natCast]; omega) (by omega) (by omega)
      rw [show (m : Int) / 4096 = ((m / 2 ^ 12 : Nat) : Int) by omega] at hdv
      have hml : (digs (m / 2 ^ 12)).length ≤ 400 := Nat.le_trans (digs_mono (Nat.div_le_self _ _)) (by omega)
      generalize m / 2 ^ 12 = q at *
      generalize (m : Int) % 4096 = r at hdv
      have HDV := Lib.hid (hdv _ hwv); have HKM := Lib.hid hkm; have HSH := Lib.hid hsh; have HPOS := Lib.hid hpos; have HML := Lib.hid hml
      have h2' : (1 : Int) < (l : Int) := by omega
      have hkk : k ≤ 6000 := by omega
      have hw1 : IntKind.i64.wrap ((k : Int) + 12) = (k : Int) + 12 := wrapi (by omega) (by omega)
      clear hdv hwv hkm hsh hpos hml h26 hlm
      have HB := Lib.hid hbel; clear hbel
      have HX := Lib.hid (show Bx wr b _ _ from ⟨x0, x1, x2, x3, x4⟩)
      go_wp2_with fail
      refine HDV.out.mono ?_; rintro e w3 ⟨v3, rfl, hb3, ho3⟩
      have hbx3 := HX.out.keep hb3
      have hB3 := bel_trans hb3 HB.out
      have ho3' := ho3.le (show b + 1 ≤ wr.heap.size from x0)
      obtain ⟨ad4, cap4, rfl, hown4⟩ := ho3'.pos
      clear hb3 ho3 ho3' HB HX HDV x0 x1 x2 x3 x4
      obtain ⟨x0, x1, x2, x3, x4⟩ := hbx3
      go_wp2_with fail
      have hbx4 := Bx.put ⟨x0, x1, x2, x3, x4⟩ (.bool false) (.slice ad4 (digs q).length cap4)
      have hown5 := own_setFar (own_setFar hown4 (Nat.lt_succ_self b) 0 (.bool false)) (Nat.lt_succ_self b) 1 (.slice ad4 (digs q).length cap4)
      have hB4 := (hB3.setCell (p := ⟨b, 0, none⟩) (by dsimp only; omega) (.bool false)).setCell (p := ⟨b, 1, none⟩) (by dsimp only; omega) (.slice ad4 (digs q).length cap4)
      go_roundw
      case rel => exact ⟨k + 12, q, ad4, cap4, by first | rfl | go_num, by have := HKM.out; have := HSH.out; omega, hbx4, WO.mk rfl hown5, hB4, HML.out⟩
      case measure => have := HKM.out; have := HSH.out; have := HPOS.out; simp [intOf]; omega
    · have h2' : ¬ (1 : Int) < (l : Int) := by omega
      obtain ⟨ad5, cap5, he5, hrd, _⟩ := hwv
      have hlb := bgLimb_any _ _ 0 wr hrd (by omega) (by omega) (by rw [Int.natAbs_natCast]; omega)
      rw [Int.natAbs_natCast] at he5 hlb
      cases he5
      have e9 : (digs m).getD (Int.toNat 0) 0 = (m : Int) := digs_small (by omega)
      rw [e9, hlm] at hlb
      have hm8 : m < 10000 := by
        have h1 := lt_digs m
        have h3 : (10000 : Nat) ^ (digs m).length ≤ 10000 ^ 1 := Nat.pow_le_pow_right (by decide) (by omega)
        exact Nat.lt_of_lt_of_le h1 h3
      have HLB := Lib.hid hlb; have HKM := Lib.hid hkm; have HB := Lib.hid hbel; clear hlb hkm hrd e9 hbel hlm
      go_wp2_with fail
      refine HLB.out.mono ?_; rintro e w' ⟨rfl, rfl⟩
      go_wp2_with fail
      go_loop [3, 5] (fun s i => ∃ (k n : Nat), s = .int .i64 (k : Int) ∧ i = .int .i64 (n : Int) ∧ Hid (k + blen n = T) ∧ n < 10000 ∧ k ≤ 6000) (fun _ i => (intOf i).toNat)
      case atStart => exact ⟨k, m, rfl, rfl, HKM.out, hm8, by have := HKM.out; omega⟩
      case round =>
        obtain ⟨k, n, rfl, rfl, HK, hn, hk⟩ := hrel
        by_cases hn0 : n = 0
        · subst hn0
          have hT2 : T = k := by have := HK.out; rw [blen_zero] at this; omega
          subst hT2
          go_wp2_with fail
          go_ret
          exact ret_eq rfl HB.out
        · have hn1 : (0 : Int) < (n : Int) := by omega
          have hw1 : IntKind.i64.wrap ((k : Int) + 1) = (k : Int) + 1 := wrapi (by omega) (by omega)
          have hbp := blen_pos hn0
          have hk2 : k + 1 ≤ 6000 := by have := HK.out; omega
          have HBP := Lib.hid hbp; clear hbp
          obtain ⟨q, hq⟩ : ∃ q, n / 2 = q := ⟨_, rfl⟩
          have hq1 : (n : Int).tdiv 2 = (q : Int) := by rw [← hq]; exact (Int.ofNat_tdiv n 2).symm
          have hq2 : (n : Int) / 2 = (q : Int) := by omega
          have hqn : q < n := by omega
          rw [hq] at HBP
          clear hq
          have hw3 : IntKind.i64.wrap (q : Int) = (q : Int) := wrapi (by omega) (by omega)
          go_wp2_with fail
          go_round
          case rel => exact ⟨k + 1, q, by first | rfl | go_num, by first | rfl | (simp only [hq1, hq2, hw3]) | go_num, by show k + 1 + blen q = T; have h1 : k + blen n = T := HK.out; have h2 : blen n = blen q + 1 := HBP.out; omega, by omega, hk2⟩
          case measure => first | (simp [intOf]; done) | (simp [intOf]; omega)
/-- returned how many bits, where the whole is valid. -/
def bitV (n : Bool) (xs : List Int) : Value := .tuple #[.int .i64 (if goodW n xs = true then (blen (valW n xs).natAbs : Int) else 0), .bool (goodW n xs)]
set_option maxHeartbeats 4000000 in
theorem iBitLength_any (v : Value) (n : Bool) (xs : List Int) (w : World) (hv : RW w v n xs) (hl : xs.length ≤ 1000) :
    Calls Tryz.prog 15 #[v] w (Ret (bitV n xs) w) := by
  have hg := fun w' (hb : Below w.heap.size w w') => isWhole_any v n xs w' (hv.keep hb) (by omega)
  have hc := fun (h1 : goodW n xs = true) w' (hb : Below w.heap.size w w') => bitLength_any v _ w' ((hv.wv h1).keep hb) (good_val h1).2.2
  unfold bitV
  generalize blen (valW n xs).natAbs = r at *
  generalize goodW n xs = g at *
  obtain ⟨ad, cap, rfl, _, _⟩ := hv
  generalize xs.length = la at *
  have HG := Lib.hid hg; have HC := Lib.hid hc; clear hg hc
  cases g
  · go_enter Tryz.func15, Tryz.ntmps15
    go_wp2_with fail
    refine (HG.out _ (by repeat (first | exact Below.refl _ _ | (with_reducible assumption) | refine bel_alloc ?_ _ | refine bel_drew ?_ | refine bel_drewN ?_ _ | refine Below.setCell ?_ (by dsimp only; omega) _ | refine bel_trans (by assumption) ?_))).mono ?_; rintro e w1 ⟨rfl, hb1⟩
    obtain ⟨hc1, hf1⟩ := aft hb1
    go_wp2_with fail
    go_returns
    exact ret_eq rfl (by repeat (first | exact Below.refl _ _ | (with_reducible assumption) | refine bel_alloc ?_ _ | refine bel_drew ?_ | refine bel_drewN ?_ _ | refine Below.setCell ?_ (by dsimp only; omega) _ | refine bel_trans (by assumption) ?_))
  have HC2 := Lib.hid (HC.out rfl); clear HC
  go_enter Tryz.func15, Tryz.ntmps15
  go_wp2_with fail
  refine (HG.out _ (by repeat (first | exact Below.refl _ _ | (with_reducible assumption) | refine bel_alloc ?_ _ | refine bel_drew ?_ | refine bel_drewN ?_ _ | refine Below.setCell ?_ (by dsimp only; omega) _ | refine bel_trans (by assumption) ?_))).mono ?_; rintro e w1 ⟨rfl, hb1⟩
  obtain ⟨hc1, hf1⟩ := aft hb1
  go_wp2_with fail
  refine (HC2.out _ (by repeat (first | exact Below.refl _ _ | (with_reducible assumption) | refine bel_alloc ?_ _ | refine bel_drew ?_ | refine bel_drewN ?_ _ | refine Below.setCell ?_ (by dsimp only; omega) _ | refine bel_trans (by assumption) ?_))).mono ?_; rintro e w3 ⟨rfl, hb3⟩
  replace hb3 := aft2 hb3 hb1; clear hb1 hc1 hf1
  obtain ⟨hc3, hf3⟩ := aft hb3
  go_wp2_with fail
  go_returns
  exact ret_eq rfl (by repeat (first | exact Below.refl _ _ | (with_reducible assumption) | refine bel_alloc ?_ _ | refine bel_drew ?_ | refine bel_drewN ?_ _ | refine Below.setCell ?_ (by dsimp only; omega) _ | refine bel_trans (by assumption) ?_))
set_option maxHeartbeats 4000000 in
theorem sBitLength_any (v : Value) (n : Bool) (xs : List Int) (w : World) (hv : RW w v n xs) (hl : xs.length ≤ 1000) :
    Calls Tryz.prog 16 #[v] w (Ret (bitV n xs) w) := by
  have hg := fun w' (hb : Below w.heap.size w w') => bgGood_any v n xs w' (hv.keep hb) (by omega)
  have hc := fun (h1 : goodW n xs = true) w' (hb : Below w.heap.size w w') => bgBits_any v _ w' ((hv.wv h1).keep hb) (good_val h1).2.2
  unfold bitV
  generalize blen (valW n xs).natAbs = r at *
  generalize goodW n xs = g at *
  obtain ⟨ad, cap, rfl, _, _⟩ := hv
  generalize xs.length = la at *
  have HG := Lib.hid hg; have HC := Lib.hid hc; clear hg hc
  cases g
  · go_enter Tryz.func16, Tryz.ntmps16
    go_wp2_with fail
    refine (HG.out _ (by repeat (first | exact Below.refl _ _ | (with_reducible assumption) | refine bel_alloc ?_ _ | refine bel_drew ?_ | refine bel_drewN ?_ _ | refine Below.setCell ?_ (by dsimp only; omega) _ | refine bel_trans (by assumption) ?_))).mono ?_; rintro e w1 ⟨rfl, hb1⟩
    obtain ⟨hc1, hf1⟩ := aft hb1
    go_wp2_with fail
    go_returns
    exact ret_eq rfl (by repeat (first | exact Below.refl _ _ | (with_reducible assumption) | refine bel_alloc ?_ _ | refine bel_drew ?_ | refine bel_drewN ?_ _ | refine Below.setCell ?_ (by dsimp only; omega) _ | refine bel_trans (by assumption) ?_))
  have HC2 := Lib.hid (HC.out rfl); clear HC
  go_enter Tryz.func16, Tryz.ntmps16
  go_wp2_with fail
  refine (HG.out _ (by repeat (first | exact Below.refl _ _ | (with_reducible assumption) | refine bel_alloc ?_ _ | refine bel_drew ?_ | refine bel_drewN ?_ _ | refine Below.setCell ?_ (by dsimp only; omega) _ | refine bel_trans (by assumption) ?_))).mono ?_; rintro e w1 ⟨rfl, hb1⟩
  obtain ⟨hc1, hf1⟩ := aft hb1
  go_wp2_with fail
  refine (HC2.out _ (by repeat (first | exact Below.refl _ _ | (with_reducible assumption) | refine bel_alloc ?_ _ | refine bel_drew ?_ | refine bel_drewN ?_ _ | refine Below.setCell ?_ (by dsimp only; omega) _ | refine bel_trans (by assumption) ?_))).mono ?_; rintro e w3 ⟨rfl, hb3⟩
  replace hb3 := aft2 hb3 hb1; clear hb1 hc1 hf1
  obtain ⟨hc3, hf3⟩ := aft hb3
  go_wp2_with fail
  go_returns
  exact ret_eq rfl (by repeat (first | exact Below.refl _ _ | (with_reducible assumption) | refine bel_alloc ?_ _ | refine bel_drew ?_ | refine bel_drewN ?_ _ | refine Below.setCell ?_ (by dsimp only; omega) _ | refine bel_trans (by assumption) ?_))
end Go.Proofs.YtakilincclnpdaaGreatDoor
