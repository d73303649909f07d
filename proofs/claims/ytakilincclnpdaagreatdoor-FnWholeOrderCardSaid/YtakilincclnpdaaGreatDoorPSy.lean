/- Zg: contract: wholes read from texts by the reference. No conditions. -/
import Derived.Test.YtakilincclnpdaaGreatDoorZey
import Derived.Lib.ConvBytes
import Derived.Lib.AtoiErrMem
import Derived.Deep.Cut
import Derived.Deep.CutRange
/- Zf: contracts: wholes read from texts, both sides. No conditions. -/
namespace Go.Proofs.YtakilincclnpdaaGreatDoor
open Go.RowKit

theorem ext_listZ (s : ByteArray) (i j : Nat) : (s.extract i j).data.toList = (s.data.toList.take j).drop i := by
  rw [ByteArray.data_extract, Array.toList_extract, List.extract_eq_take_drop, List.drop_take]
theorem idx_runZ {s : ByteArray} {k : Nat} (hk : k < s.size) (w : World) : (Instr.index 9 (.string s) (.int .i64 (k : Int))).run Tryz.prog w = .ok (.int .u8 ((s.data.toList.getD k 0).toNat : Int)) w := by
  rw [run_index_string _ _ _ _ _ Tryz.underlying9, dif_pos ⟨Int.natCast_nonneg _, by omega⟩]
  congr 3
  have h2 : k < s.data.toList.length := by simpa using hk
  rw [List.getD_eq_getElem?_getD, List.getElem?_eq_getElem h2]
  rfl
theorem str_ne {a b : ByteArray} (h : ¬ a = b) : (a.toList == b.toList) = false ∧ ¬ a.toList = b.toList := by
  have h2 : ¬ a.toList = b.toList := by
    rw [ByteArray.toList_eq, ByteArray.toList_eq]
    intro e
    exact h (ByteArray.ext (Array.toList_inj.1 e))
  exact ⟨beq_eq_false_iff_ne.2 h2, h2⟩
theorem rd_short {s : List UInt8} (h : (bodyL s).length = 0 ∨ 1600 < (bodyL s).length) : readOk s = false := by
  refine Bool.eq_false_iff.2 fun k => ?_
  unfold readOk at k
  simp only [Bool.and_eq_true, decide_eq_true_eq] at k
  omega
theorem rd_nodig {s : List UInt8} {k : Nat} (h : allD (bodyL s) k = false) (hk : k ≤ cnL (bodyL s)) : readOk s = false := by
  have h2 := allD_mono h hk
  unfold readOk
  rw [h2]
  simp
theorem rd_bad {s : List UInt8} (h : goodW (negL s) (limZ (plim (bodyL s) (cnL (bodyL s)))) = false) : readOk s = false := by
  unfold readOk
  rw [h]
  simp
theorem rd_txtZ {s : List UInt8} (h : goodW (negL s) (limZ (plim (bodyL s) (cnL (bodyL s)))) = true) : wtxt (readZ s) = ⟨(wtxtL (negL s) (limZ (plim (bodyL s) (cnL (bodyL s))))).toArray⟩ := wtxt_good h
theorem rd_no {s : List UInt8} (h : goodW (negL s) (limZ (plim (bodyL s) (cnL (bodyL s)))) = true) (hne : wtxt (readZ s) ≠ ⟨s.toArray⟩) : readOk s = false := by
  refine Bool.eq_false_iff.2 fun k => hne ?_
  rw [rd_txtZ h]
  unfold readOk at k
  simp only [Bool.and_eq_true, decide_eq_true_eq] at k
  rw [k.2]
theorem rd_yes {s : List UInt8} (h1 : 1 ≤ (bodyL s).length) (h2 : (bodyL s).length ≤ 1600) (h3 : allD (bodyL s) (cnL (bodyL s)) = true) (h : goodW (negL s) (limZ (plim (bodyL s) (cnL (bodyL s)))) = true) (he : wtxt (readZ s) = ⟨s.toArray⟩) : readOk s = true := by
  rw [rd_txtZ h] at he
  have e : wtxtL (negL s) (limZ (plim (bodyL s) (cnL (bodyL s)))) = s := by
    have := congrArg (fun x => x.data.toList) he
    simpa using this
  unfold readOk
  rw [h3, h, e, decide_eq_true h1, decide_eq_true h2, decide_eq_true rfl]
  rfl
theorem take_num {l : List UInt8} {j : Nat} (h : j < l.length) : numL (l.take (j + 1)) = 10 * numL (l.take j) + (((l.getD j 0).toNat : Int) - 48) := by
  rw [List.take_add_one, List.getD_eq_getElem?_getD, List.getElem?_eq_getElem h, Option.toList_some, numL_snoc]; rfl
theorem take_all {l : List UInt8} {j : Nat} (h : j < l.length) : (l.take (j + 1)).all isDg = ((l.take j).all isDg && isDg (l.getD j 0)) := by
  rw [List.take_add_one, List.getD_eq_getElem?_getD, List.getElem?_eq_getElem h, Option.toList_some, List.all_append]; simp
theorem numL_bdT (l : List UInt8) : ∀ j, j ≤ l.length → (l.take j).all isDg = true → 0 ≤ numL (l.take j) ∧ numL (l.take j) < 10 ^ j
  | 0, _, _ => by rw [List.take_zero]; exact ⟨by decide, by decide⟩
  | j + 1, hj, h => by
    rw [take_all (by omega), Bool.and_eq_true] at h
    obtain ⟨i0, i1⟩ := numL_bdT l j (by omega) h.1
    have hb := h.2
    unfold isDg at hb
    rw [Bool.and_eq_true, decide_eq_true_eq, decide_eq_true_eq] at hb
    rw [take_num (by omega), Int.pow_succ]
    omega
theorem numL_bd (l : List UInt8) (h : l.all isDg = true) : 0 ≤ numL l ∧ numL l < 10 ^ l.length := by
  have := numL_bdT l l.length (Nat.le_refl _) (by rw [List.take_length]; exact h)
  rwa [List.take_length] at this
theorem numL_four {l : List UInt8} (h : l.all isDg = true) (hl : l.length ≤ 4) : 0 ≤ numL l ∧ numL l ≤ 9999 := by
  obtain ⟨h0, h1⟩ := numL_bd l h
  have h2 : (10 : Int) ^ l.length ≤ 10 ^ 4 := by
    have : (10 : Nat) ^ l.length ≤ 10 ^ 4 := Nat.pow_le_pow_right (by decide) hl
    exact_mod_cast this
  exact ⟨h0, by have : (10 : Int) ^ 4 = 10000 := by decide
                omega⟩
theorem all_takeZ {l : List UInt8} {j : Nat} (h : (l.take j).all isDg = false) : l.all isDg = false := by
  rw [← List.take_append_drop j l, List.all_append, h]; rfl
theorem plim_dig {D : List UInt8} {k : Nat} (h : allD D k = true) : Dig (plim D k) := by
  intro x hx
  unfold plim at hx
  rw [List.mem_map] at hx
  obtain ⟨i, hi, rfl⟩ := hx
  unfold allD at h
  have h2 := List.all_eq_true.1 h i hi
  refine numL_four h2 ?_
  unfold chunk
  rw [List.length_drop, List.length_take]; omega
theorem limZ_dig {L : List Int} (h : Dig L) : Dig (limZ L) := by
  unfold limZ
  split
  · intro x hx; cases hx
  · exact h
theorem Bx.app {w w1 : World} {r : Nat} {u0 u1 v : Value} {o : Obj} (hr : Bx w r u0 u1) (hne : ∀ k, v.ownBlock = some k → k ≠ r) (hg : (w.alloc o).grownBy w1 v.ownBlock) : Bx w1 r u0 u1 := by
  have h2 := hr.keep (below_allocC w o)
  have hb := hg.block r h2.1 (fun e => hne r e.symm rfl)
  exact ⟨Nat.lt_of_lt_of_le h2.1 hg.size, (World.cell?_of_block hb).trans h2.2.1, (World.cell?_of_block hb).trans h2.2.2.1, (World.frozen?_of_block hb).trans h2.2.2.2.1, (World.frozen?_of_block hb).trans h2.2.2.2.2⟩
theorem own_app {w w1 : World} {B base : Nat} {w0 : World} {v v' : Value} {l : List Int} {p : Int} {o : Obj} (hbel : Below B w0 w) (hB : B ≤ w.heap.size) (hbase : B ≤ base) (hown : Own w base v l)
    (hown1 : w1.ownsRow base 3 1 v' (l.length + 1) (l.map (Value.int .i64) ++ [.int .i64 p])) (hg : (w.alloc o).grownBy w1 v.ownBlock) : Below B w0 w1 ∧ Own w1 base v' (l ++ [p]) := by
  have ha : Below B w0 (w.alloc o) := hbel.alloc hB o
  refine ⟨ha.grown hg (by simp; omega) (fun k hk => Nat.le_trans hbase ((hown : World.ownsRow _ _ _ _ _ _ _).lt k hk).1), ?_⟩
  unfold Own
  rw [List.map_append, List.length_append]
  exact hown1
theorem Bx.put1 {w : World} {n : Nat} {u0 u1 : Value} (h : Bx w n u0 u1) (v1 : Value) : Bx (w.setCell ⟨n, 1, none⟩ v1) n u0 v1 := by
  obtain ⟨h1, h3, h4, h5, h6⟩ := h
  exact ⟨by simpa using h1, by simp [go_sem, h3], by simp [go_sem, h4], by simp [go_sem, h5], by simp [go_sem, h6]⟩
set_option maxRecDepth 4000 in
set_option maxHeartbeats 8000000 in
theorem iParseWhole_any (s : ByteArray) (w : World) (ht : PowT w) :
    Calls Tryz.prog 18 #[.string s] w (RetOk (readOk s.data.toList) (readZ s.data.toList) w) := by
  obtain ⟨i0, hi, hz0, hz1, hz2⟩ := info_parts Tryz.info_int
  have hcp : ∀ w, Calls Tryz.prog 64 #[.string s, .string ⟨#[45]⟩] w fun e w' => e = .returned (.tuple #[.string ⟨(bodyL s.data.toList).toArray⟩, .bool (negL s.data.toList)]) ∧ w' = w := fun w => Tryz.strings_CutPrefix s ⟨#[45]⟩ w
  have hss : (⟨s.data.toList.toArray⟩ : ByteArray) = s := by apply ByteArray.ext; simp
  generalize hsl : s.data.toList = sl at *
  have HSH := Lib.hid (fun h => rd_short (s := sl) h); have HND := Lib.hid (fun k h1 h2 => rd_nodig (s := sl) (k := k) h1 h2); have HBAD := Lib.hid (fun h => rd_bad (s := sl) h); have HNO := Lib.hid (fun h1 h2 => rd_no (s := sl) h1 h2); have HYES := Lib.hid (fun h1 h2 h3 h4 h5 => rd_yes (s := sl) h1 h2 h3 h4 h5)
  have hzv : readZ sl = valW (negL sl) (limZ (plim (bodyL sl) (cnL (bodyL sl)))) := rfl
  rw [hss] at HNO HYES
  generalize readOk sl = ok at *
  generalize readZ sl = Z at *
  generalize negL sl = neg at *
  obtain ⟨D, hD⟩ : ∃ D : ByteArray, ⟨(bodyL sl).toArray⟩ = D := ⟨_, rfl⟩
  have hDL : D.data.toList = bodyL sl := by rw [← hD]
  rw [hD] at hcp
  generalize bodyL sl = DL at *
  have hDn : DL.length = D.size := by rw [← hDL]; simp
  obtain ⟨n, hn⟩ : ∃ n, D.size = n := ⟨_, rfl⟩
  rw [hn] at hDn
  have HCP := Lib.hid hcp; have HZV := Lib.hid hzv; have HDN := Lib.hid hDn; have HDL := Lib.hid hDL; have HT := Lib.hid ht; have HN := Lib.hid hn
  have hcn : cnL DL = (n + 3) / 4 := by unfold cnL; rw [hDn]
  obtain ⟨cn, hcn2⟩ : ∃ cn, cnL DL = cn := ⟨_, rfl⟩
  rw [hcn2] at HND HBAD HNO HYES HZV hcn
  have HCN := Lib.hid hcn2
  clear hcp hzv hDn hDL ht hD hcn2 hsl hss
  by_cases h0 : n = 0
  · have hok := HSH.out (.inl (by rw [HDN.out]; exact h0))
    subst hok
    have hz : ((n : Int) == 0) = true := by simp [h0]
    clear hcn HN
    go_enter Tryz.func18, Tryz.ntmps18
    go_wp2_with fail
    refine (HCP.out _).mono ?_; rintro e w' ⟨rfl, rfl⟩
    go_wp2_with fail
    refine bodyPost_ret (by simp (maxDischargeDepth := 3) [results, Tryz.results18, go_sem, *]; try rfl) rfl ?_
    exact ⟨_, rfl, (by repeat (first | exact Below.refl _ _ | (with_reducible assumption) | refine bel_alloc ?_ _ | refine bel_drew ?_ | refine bel_drewN ?_ _ | refine Below.setCell ?_ (by dsimp only; omega) _ | refine bel_trans (by assumption) ?_)), (zero_wo _ 0).wv⟩
  by_cases h16 : 1600 < n
  · have hok := HSH.out (.inr (by rw [HDN.out]; exact h16))
    subst hok
    have hz : ((n : Int) == 0) = false := by simp; omega
    have hz2 : (1600 : Int) < (n : Int) := by omega
    clear hcn HN
    go_enter Tryz.func18, Tryz.ntmps18
    go_wp2_with fail
    refine (HCP.out _).mono ?_; rintro e w' ⟨rfl, rfl⟩
    go_wp2_with fail
    refine bodyPost_ret (by simp (maxDischargeDepth := 3) [results, Tryz.results18, go_sem, *]; try rfl) rfl ?_
    exact ⟨_, rfl, (by repeat (first | exact Below.refl _ _ | (with_reducible assumption) | refine bel_alloc ?_ _ | refine bel_drew ?_ | refine bel_drewN ?_ _ | refine Below.setCell ?_ (by dsimp only; omega) _ | refine bel_trans (by assumption) ?_)), (zero_wo _ 0).wv⟩
  have hz : ((n : Int) == 0) = false := by simp; omega
  have hz2' : ¬ (1600 : Int) < (n : Int) := by omega
  have hconv : ∀ (x : World) (C : ByteArray), (convert 9 22 (.string C)).run Tryz.prog x = .ok (.slice (some ⟨x.heap.size, 0, none⟩) C.size (grownCap x C.size 0 5)) (Lib.bytesWorld x 5 C) := fun x C => Lib.run_convert_string_bytes x _ _ _ C Tryz.underlying9 Tryz.underlying22 Tryz.underlying5
  have HCONV := Lib.hid hconv; clear hconv
  go_enter Tryz.func18, Tryz.ntmps18
  go_wp2_with fail
  refine (HCP.out _).mono ?_; rintro e w' ⟨rfl, rfl⟩
  go_wp2_with fail
  have g2 := (Bx.new (.bool false) (.slice none 0 0) w 26).keep (below_allocC _ (.cells #[.bool neg, .slice none 0 0] 26))
  have g6 := Bx.new (.bool neg) (.slice none 0 0) (w.alloc (.cells #[.bool false, .slice none 0 0] 26)) 26
  rw [show (w.alloc (.cells #[.bool false, .slice none 0 0] 26)).heap.size = w.heap.size + 1 by simp] at g6
  have hb0 : Below w.heap.size w ((w.alloc (.cells #[.bool false, .slice none 0 0] 26)).alloc (.cells #[.bool neg, .slice none 0 0] 26)) := bel_alloc (below_allocC _ _) _
  generalize (w.alloc (.cells #[.bool false, .slice none 0 0] 26)).alloc (.cells #[.bool neg, .slice none 0 0] 26) = W0 at g2 g6 hb0 ⊢
  obtain ⟨b, hb⟩ : ∃ b, w.heap.size = b := ⟨_, rfl⟩
  rw [hb] at g2 g6 hb0 ⊢
  have HBW := Lib.hid hb; clear hb hz hz2'
  go_loopw [7] (fun ev wr => ∃ (k : Nat) (ad : Option Addr) (cap : Nat), ev = .int .i64 ((n : Int) - 4 * (k : Int)) ∧ k ≤ cn ∧ Hid (allD DL k = true) ∧ Bx wr b (.bool false) (.slice none 0 0) ∧ Bx wr (b + 1) (.bool neg) (.slice ad k cap) ∧ Own wr (b + 2) (.slice ad k cap) (plim DL k) ∧ Below b w wr) (fun ev _ => (intOf ev + 4).toNat)
  case atStart => exact ⟨0, none, 0, by first | rfl | go_num, Nat.zero_le _, rfl, g2, g6, Own.nil _ _, hb0⟩
  case round =>
    obtain ⟨k, ad, cap, rfl, hk, HAL, g2, g6, hown, hbel⟩ := hrel
    by_cases hkc : k < cn
    · have hE : (n : Int) - 4 * (k : Int) = ((n - 4 * k : Nat) : Int) := by omega
      obtain ⟨E, hE2⟩ : ∃ E, n - 4 * k = E := ⟨_, rfl⟩
      have hE0 : 0 < E := by omega
      have hEn : E ≤ n := by omega
      rw [hE2] at hE
      rw [hE]
      have hE0' : (0 : Int) < (E : Int) := by omega
      obtain ⟨lo, hlo⟩ : ∃ lo, E - 4 = lo := ⟨_, rfl⟩
      have hw1 : IntKind.i64.wrap ((E : Int) - 4) = (E : Int) - 4 := wrapi (by omega) (by omega)
      have hmx : max ((E : Int) - 4) 0 = (lo : Int) := by omega
      have hlo1 : lo ≤ E := by omega
      have hl0 : (0 : Int) ≤ (lo : Int) := Int.natCast_nonneg _
      have hl1 : (lo : Int) ≤ (E : Int) := by omega
      have hl2 : (E : Int) ≤ (n : Int) := by omega
      obtain ⟨C, hC⟩ : ∃ C, D.extract lo E = C := ⟨_, rfl⟩
      have hCL : C.data.toList = chunk DL k := by
        rw [← hC, ext_listZ, HDL.out]
        unfold chunk
        rw [HDN.out, hE2, show n - 4 * (k + 1) = lo by omega]
      have hCs : C.data.toList.length = C.size := by simp
      have hC4 : C.size ≤ 4 := by rw [← hC, ByteArray.size_extract]; omega
      have hcv := fun x => HCONV.out x C
      have hct := HND.out (k + 1)
      rw [allD_succ, HAL.out, ← hCL, Bool.true_and] at hct
      have HCT := Lib.hid hct; have HCL := Lib.hid hCL; have HCS := Lib.hid hCs; have HC := Lib.hid hC
      have G2 := Lib.hid g2; have G6 := Lib.hid g6; have HOWN0 := Lib.hid hown; have HB := Lib.hid hbel
      clear g2 g6 hown hbel hct hCL hCs
      have hkc1 : k + 1 ≤ cn := hkc
      have hk399 : k ≤ 399 := by omega
      have hE4 : (E : Int) - 4 = (n : Int) - 4 * ((k + 1 : Nat) : Int) := by omega
      have HE4 := Lib.hid hE4
      have HCN3 := Lib.hid hcn; clear hcn hE4
      go_wp2_with fail
      have hbw := Lib.bytesWorld_below wr 5 C
      have hcell := Lib.bytesWorld_cell wr 5 C
      have hsz := Lib.bytesWorld_size wr 5 C
      generalize grownCap wr C.size 0 5 = cc
      generalize Lib.bytesWorld wr 5 C = W1 at hbw hcell hsz ⊢
      have hbb : wr.heap.size < W1.heap.size := by omega
      generalize wr.heap.size = bb at hcell hbb ⊢
      have g2 := G2.out.keep hbw; have g6 := G6.out.keep hbw; have hown := HOWN0.out.keep hbw
      have hB1 := (HB.out).trans (hbw.mono (show b ≤ wr.heap.size by have := G2.out.1; omega))
      have G2 := Lib.hid g2; have G6 := Lib.hid g6; have HOWN := Lib.hid hown; have HB1 := Lib.hid hB1; have HCELL := Lib.hid hcell
      clear g2 g6 hown hB1 hbw hcell hsz HOWN0 HB hcv hC
      go_loopw [8, 41] (fun p i wx => ∃ j : Nat, i = .int .i64 (j : Int) ∧ j ≤ C.size ∧ p = .int .i64 (numL (C.data.toList.take j)) ∧ Hid ((C.data.toList.take j).all isDg = true) ∧ wx = W1) (fun _ i _ => C.size - (intOf i).toNat)
      case atStart => exact ⟨0, rfl, Nat.zero_le _, rfl, rfl, rfl⟩
      case round =>
        obtain ⟨j, rfl, hj, rfl, HTD, rfl⟩ := hrel
        have hpb := numL_bdT C.data.toList j (by rw [HCS.out]; exact hj) HTD.out
        have hp4 := numL_four HTD.out (by rw [List.length_take]; omega)
        by_cases hjc : j < C.size
        · have hc := HCELL.out j hjc
          have hjI : (j : Int) < (C.size : Int) := by omega
          have hj0 : (0 : Int) ≤ (j : Int) := Int.natCast_nonneg _
          have htn := take_num (l := C.data.toList) (j := j) (by rw [HCS.out]; exact hjc)
          have hta := take_all (l := C.data.toList) (j := j) (by rw [HCS.out]; exact hjc)
          have hta2 := fun h => all_takeZ (l := C.data.toList) (j := j + 1) h
          rw [hta] at hta2
          have hp9 : j < 4 := by omega
          have hp999 : numL (C.data.toList.take j) ≤ 999 := by
            have h1 : (10 : Int) ^ j ≤ 1000 := by
              rcases (by omega : j = 0 ∨ j = 1 ∨ j = 2 ∨ j = 3) with rfl | rfl | rfl | rfl <;> decide
            omega
          have hp00 := hp4.1
          generalize C.data.toList.getD j 0 = c at *
          generalize numL (C.data.toList.take j) = p at *
          have hc255 : c.toNat < 256 := c.toNat_lt
          have HTN := Lib.hid htn; have HTA := Lib.hid hta; have HTA2 := Lib.hid hta2
          clear htn hta hta2 hpb hp4
          by_cases hlo2 : c.toNat < 48
          · have hnd : isDg c = false := by unfold isDg; rw [decide_eq_false (by omega)]; rfl
            have hok := HCT.out (HTA2.out (by rw [hnd, Bool.and_false])) hkc1
            have hc1 : (c.toNat : Int) < 48 := by omega
            have HOK := Lib.hid hok
            obtain ⟨y0, y1, y2, y3, y4⟩ := G2.out
            clear hok hnd
            go_wp2_with fail
            refine bodyPost_ret (by simp (maxDischargeDepth := 3) [results, Tryz.results18, go_sem, *]; try rfl) rfl ?_
            have hok := HOK.out
            have hbx := HBW.out
            rw [hok]
            exact ⟨_, rfl, by rw [hbx]; exact (HB1.out.setCell (p := ⟨b, 0, none⟩) (by dsimp only; omega) _).setCell (p := ⟨b, 1, none⟩) (by dsimp only; omega) _, (zero_wo _ 0).wv⟩
          · have hc1 : ¬ (c.toNat : Int) < 48 := by omega
            by_cases hhi : 57 < c.toNat
            · have hnd : isDg c = false := by unfold isDg; rw [decide_eq_false (show ¬ c.toNat ≤ 57 by omega), Bool.and_false]
              have hok := HCT.out (HTA2.out (by rw [hnd, Bool.and_false])) hkc1
              have hc2 : (57 : Int) < (c.toNat : Int) := by omega
              have HOK := Lib.hid hok
              obtain ⟨y0, y1, y2, y3, y4⟩ := G2.out
              clear hok hnd
              go_wp2_with fail
              refine bodyPost_ret (by simp (maxDischargeDepth := 3) [results, Tryz.results18, go_sem, *]; try rfl) rfl ?_
              have hok := HOK.out
              have hbx := HBW.out
              rw [hok]
              exact ⟨_, rfl, by rw [hbx]; exact (HB1.out.setCell (p := ⟨b, 0, none⟩) (by dsimp only; omega) _).setCell (p := ⟨b, 1, none⟩) (by dsimp only; omega) _, (zero_wo _ 0).wv⟩
            · have hc2 : ¬ (57 : Int) < (c.toNat : Int) := by omega
              have hnd : isDg c = true := by unfold isDg; rw [decide_eq_true (by omega), decide_eq_true (by omega)]; rfl
              have hu : IntKind.u8.wrap ((c.toNat : Int) - 48) = (c.toNat : Int) - 48 := by rw [IntKind.wrap]; simp [IntKind.bits, IntKind.signed]; omega
              have hm : IntKind.i64.wrap (10 * p) = 10 * p := wrapi (by omega) (by omega)
              have hu2 : IntKind.i64.wrap ((c.toNat : Int) - 48) = (c.toNat : Int) - 48 := wrapi (by omega) (by omega)
              have ha : IntKind.i64.wrap (10 * p + ((c.toNat : Int) - 48)) = 10 * p + ((c.toNat : Int) - 48) := wrapi (by omega) (by omega)
              have HND2 := Lib.hid hnd; clear hnd
              go_wp2_with fail
              go_roundw
              case rel => exact ⟨j + 1, by first | rfl | go_num, by omega, by rw [HTN.out], by show _ = true; rw [HTA.out, show _ = true from HTD.out, HND2.out]; rfl, by first | rfl | trivial⟩
              case measure => first | (simp [intOf]; done) | (simp [intOf]; omega)
        · have hjC : j = C.data.toList.length := by rw [HCS.out]; omega
          rw [hjC, List.take_length] at HTD
          rw [hjC, List.take_length] at hp4
          have hjI : ¬ (j : Int) < (C.size : Int) := by omega
          have e9 : numL (C.data.toList.take j) = numL (chunk DL k) := by rw [hjC, List.take_length, HCL.out]
          rw [e9]
          have e8 : numL C.data.toList = numL (chunk DL k) := by rw [HCL.out]
          rw [e8] at hp4
          have hall : allD DL (k + 1) = true := by rw [allD_succ, HAL.out, ← HCL.out]; exact HTD.out
          have HALL := Lib.hid hall
          generalize hp : numL (chunk DL k) = p at *
          have HP := Lib.hid hp
          clear hjC e9 e8 hall hpb hp
          obtain ⟨y0, y1, y2, y3, y4⟩ := G6.out
          have hown' : wr.ownsRow (b + 2) 3 1 _ (plim DL k).length ((plim DL k).map (Value.int .i64)) := HOWN.out
          rw [plim_len] at hown'
          have hk4 : k ≤ 400 := by omega
          have HOWN3 := Lib.hid hown'; clear hown'
          have hsz2 : b + 2 ≤ wr.heap.size := by have := G6.out.1; omega
          go_wp2_with (first | (at_builtin; refine wpList_append_own _ rfl _ _ 24 rfl (b + 2) 3 i0 (.int .i64 0) 1 8 Tryz.underlying24 hi hz0 hz1 hz2 rfl (by decide) _ _ _ rfl (HOWN3.out.alloc _) ⟨wr.heap.size, 0, none⟩ 1 1 [.int .i64 _] rfl rfl (cell_one_new _ _ _) ?_ ?_ ?_ ?_ ?_))
          all_goals first
            | (unfold maxLen; omega)
            | omega
            | (simp; omega)
            | rfl
            | (intro u hu; simp at hu; subst hu; rfl)
            | skip
          intro v' w5 hown5 hgrow _
          have hne : ∀ q, (Value.slice ad k cap).ownBlock = some q → q ≠ b + 1 := fun q hq => by have := ((HOWN.out : World.ownsRow _ _ _ _ _ _ _).lt q hq).1; omega
          have hne2 : ∀ q, (Value.slice ad k cap).ownBlock = some q → q ≠ b := fun q hq => by have := ((HOWN.out : World.ownsRow _ _ _ _ _ _ _).lt q hq).1; omega
          have g6 := G6.out.app hne hgrow
          have g2 := G2.out.app hne2 hgrow
          obtain ⟨hB5, ho5⟩ := own_app HB1.out (show b ≤ wr.heap.size by omega) (show b ≤ b + 2 by omega) HOWN.out (by rw [plim_len]; exact hown5) hgrow
          rw [← HP.out, ← plim_succ] at ho5
          obtain ⟨a5, c5, rfl⟩ : ∃ a5 c5, v' = .slice a5 (k + 1) c5 := by
            rcases ho5.shape with ⟨h1, h2⟩ | ⟨g, cap, h1, _⟩
            · exfalso
              have := plim_len DL (k + 1)
              rw [h2] at this; simp at this
            · exact ⟨_, _, by rw [h1, plim_len]⟩
          clear hown5 hgrow G2 G6 HOWN HB1 HOWN3 hne hne2 y0 y1 y2 y3 y4
          have q2 := (g2.far (m := b + 1) (by omega) 1 (.slice a5 (k + 1) c5))
          have qo := own_setFar ho5 (show b + 1 < b + 2 by omega) 1 (.slice a5 (k + 1) c5)
          have qB := hB5.setCell (p := ⟨b + 1, 1, none⟩) (by dsimp only; omega) (.slice a5 (k + 1) c5)
          have q6 := g6.put1 (.slice a5 (k + 1) c5)
          obtain ⟨y0, y1, y2, y3, y4⟩ := g6
          have Q2 := Lib.hid q2; have QO := Lib.hid qo; have QB := Lib.hid qB; have Q6 := Lib.hid q6
          clear q2 qo qB q6 g2 ho5 hB5
          have hw4 : IntKind.i64.wrap ((E : Int) - 4) = (n : Int) - 4 * ((k + 1 : Nat) : Int) := by rw [hw1]; exact HE4.out
          clear hw1
          go_wp2_with fail
          go_roundw
          case rel => exact ⟨k + 1, a5, c5, by first | rfl | go_num, hkc1, HALL.out, Q2.out, Q6.out, QO.out, QB.out⟩
          case measure => first | (simp [intOf]; done) | (simp [intOf]; omega)
    · obtain rfl : k = cn := by omega
      have hE0 : ¬ (0 : Int) < (n : Int) - 4 * (k : Int) := by omega
      have hk1 : 1 ≤ k := by omega
      have hdg := plim_dig HAL.out
      have hpl := plim_len DL k
      have hk4 : k ≤ 400 := by omega
      have hall := HAL.out
      have hlen1 : 1 ≤ DL.length := by rw [HDN.out]; omega
      have hlen2 : DL.length ≤ 1600 := by rw [HDN.out]; omega
      clear hcn
      generalize plim DL k = L at *
      have hrw : ∀ (W : World) (V : Value), (∃ a c, V = .agg #[.bool neg, .slice a (limZ L).length c] ∧ Rd W (.slice a (limZ L).length c) (limZ L) ∧ SlOk (.slice a (limZ L).length c)) → RW W V neg (limZ L) := fun W V h => h
      have hlz : (limZ L).length ≤ 1000000 := by
        unfold limZ
        split
        · simp
        · omega
      have HIW := Lib.hid (fun V W (h : RW W V neg (limZ L)) => isWhole_any V neg (limZ L) W h hlz)
      have hwt := fun V W (hg : goodW neg (limZ L) = true) (h : RW W V neg (limZ L)) (hp : PowT W) => wholeText_any V _ W (h.wv hg) (good_val hg).2.2 hp
      have hwv := fun V W (hg : goodW neg (limZ L) = true) (h : RW W V neg (limZ L)) => h.wv hg
      rw [← HZV.out] at hwt hwv
      have HWT := Lib.hid hwt; have HWV := Lib.hid hwv
      have HY2 := Lib.hid (fun h4 h5 => HYES.out hlen1 hlen2 hall h4 h5)
      have HRW := Lib.hid hrw; have HDG := Lib.hid hdg
      clear hwt hwv hrw hdg hall hlz HYES
      generalize hgw : goodW neg (limZ L) = gd at *
      have G2 := Lib.hid g2; have HOWN := Lib.hid hown; have HB := Lib.hid hbel
      clear g2 hown hbel hgw
      have HG6 := Lib.hid g6
      obtain ⟨y0, y1, y2, y3, y4⟩ := g6
      by_cases hL : L = [0]
      · subst hL
        have hk1' : k = 1 := by rw [← hpl]; rfl
        subst hk1'
        obtain ⟨ad', cap', hv', hlm, hcs⟩ := HOWN.out.rd
        clear hlm
        cases hv'
        obtain ⟨g, off, rfl, hgl, hcell⟩ := hcs (by decide)
        have hc0 : wr.cell? ⟨g, off, none⟩ = some (.int .i64 0) := hcell 0 (by decide)
        clear hcs hcell
        go_wp2_with fail
        have q6 := HG6.out.put1 (.slice none 0 0)
        have q2 := G2.out.far (m := b + 1) (by omega) 1 (.slice none 0 0)
        have qB := HB.out.setCell (p := ⟨b + 1, 1, none⟩) (by dsimp only; omega) (.slice none 0 0)
        have qr : RW (wr.setCell ⟨b + 1, 1, none⟩ (.slice none 0 0)) (.agg #[.bool neg, .slice none 0 0]) neg (limZ [0]) := HRW.out _ _ ⟨none, 0, rfl, (Own.nil _ 0).rd, (Own.nil (wr.setCell ⟨b + 1, 1, none⟩ (.slice none 0 0)) 0).slok⟩
        generalize wr.setCell ⟨b + 1, 1, none⟩ (.slice none 0 0) = wx at q6 q2 qB qr ⊢
        clear y0 y1 y2 y3 y4 hc0 hgl HG6 G2 HB HOWN
        have hpt : PowT wx := HT.out.keep (by rw [HBW.out]; exact qB)
        have hiw := HIW.out _ _ qr
        have QR := Lib.hid qr; have HIW1 := Lib.hid hiw; have Q6 := Lib.hid q6; have Q2 := Lib.hid q2; have QB := Lib.hid qB; have HPT := Lib.hid hpt
        clear hiw hpt qr q2 qB
        obtain ⟨z0, z1, z2, z3, z4⟩ := q6
        go_wp2_with fail
        refine HIW1.out.mono ?_; rintro e w6 ⟨rfl, hb6⟩
        have q6 := Q6.out.keep hb6; have q2 := Q2.out.keep hb6; have qr := QR.out.keep hb6; have hpt := HPT.out.keep hb6
        have qB := (QB.out).trans (hb6.mono (show b ≤ wx.heap.size by omega))
        clear z0 z1 z2 z3 z4 QR HIW1 Q6 Q2 QB HPT hb6
        have Q6 := Lib.hid q6; have Q2 := Lib.hid q2; have QB := Lib.hid qB; have QR := Lib.hid qr; have HPT := Lib.hid hpt
        clear q2 qB qr hpt
        obtain ⟨z0, z1, z2, z3, z4⟩ := q6
        cases gd
        · have hok := HBAD.out (by first | rfl | trivial)
          subst hok
          obtain ⟨y0, y1, y2, y3, y4⟩ := Q2.out
          go_wp2_with fail
          refine bodyPost_ret (by simp (maxDischargeDepth := 3) [results, Tryz.results18, go_sem, *]; try rfl) rfl ?_
          have hbx := HBW.out
          exact ⟨_, rfl, by rw [hbx]; exact (QB.out.setCell (p := ⟨b, 0, none⟩) (by dsimp only; omega) _).setCell (p := ⟨b, 1, none⟩) (by dsimp only; omega) _, (zero_wo _ 0).wv⟩
        · have hwt := HWT.out _ _ (by first | rfl | trivial) QR.out HPT.out
          have HWT1 := Lib.hid hwt; clear hwt
          go_wp2_with fail
          refine HWT1.out.mono ?_; rintro e w7 ⟨rfl, hb7⟩
          have q6 := Q6.out.keep hb7; have q2 := Q2.out.keep hb7; have qr := QR.out.keep hb7
          have qB := (QB.out).trans (hb7.mono (show b ≤ w6.heap.size by omega))
          clear z0 z1 z2 z3 z4 QR HWT1 Q6 Q2 QB HPT hb7
          have QR := Lib.hid qr; have QB := Lib.hid qB; have Q2 := Lib.hid q2
          clear qr qB
          obtain ⟨z0, z1, z2, z3, z4⟩ := q6
          obtain ⟨y0, y1, y2, y3, y4⟩ := q2
          by_cases hT : wtxt Z = s
          · have hok := HY2.out (by first | rfl | trivial) hT
            subst hok
            have hwv := HWV.out _ _ (by first | rfl | trivial) QR.out
            have HWV1 := Lib.hid hwv; clear hwv
            rw [hT]
            go_wp2_with fail
            refine bodyPost_ret (by simp (maxDischargeDepth := 3) [results, Tryz.results18, go_sem, *]; try rfl) rfl ?_
            have hbx := HBW.out
            exact ⟨_, rfl, by rw [hbx]; exact (QB.out.setCell (p := ⟨b, 0, none⟩) (by dsimp only; omega) _).setCell (p := ⟨b, 1, none⟩) (by dsimp only; omega) _, by rw [if_pos rfl]; exact HWV1.out.put Q2.out⟩
          · have hok := HNO.out (by first | rfl | trivial) hT
            subst hok
            obtain ⟨hne1, hne2⟩ := str_ne hT
            generalize wtxt Z = TT at *
            go_wp2_with fail
            refine bodyPost_ret (by simp (maxDischargeDepth := 3) [results, Tryz.results18, go_sem, *]; try rfl) rfl ?_
            have hbx := HBW.out
            exact ⟨_, rfl, by rw [hbx]; exact (QB.out.setCell (p := ⟨b, 0, none⟩) (by dsimp only; omega) _).setCell (p := ⟨b, 1, none⟩) (by dsimp only; omega) _, (zero_wo _ 0).wv⟩
      · have hLz : limZ L = L := by unfold limZ; rw [if_neg hL]
        have qr : RW wr (.agg #[.bool neg, .slice ad k cap]) neg (limZ L) := HRW.out _ _ (by rw [hLz, hpl]; have h1 := HOWN.out.rd; exact ⟨ad, cap, rfl, h1, HOWN.out.slok⟩)
        have q2 := G2.out; have qB := HB.out; have q6 := HG6.out
        by_cases hk1' : k = 1
        · subst hk1'
          obtain ⟨x, hx⟩ : ∃ x, L = [x] := by
            match L, hpl with
            | [x], _ => exact ⟨x, rfl⟩
          obtain ⟨ad', cap', hv', hlm, hcs⟩ := HOWN.out.rd
          clear hlm
          rw [hpl] at hv' hcs
          cases hv'
          obtain ⟨g, off, rfl, hgl, hcell⟩ := hcs (by decide)
          have hc0 := hcell 0 (by decide)
          rw [Nat.add_zero] at hc0
          have hx0 : (L.getD 0 0 == 0) = false := by
            rw [hx] at hL ⊢
            simp at hL ⊢; exact hL
          generalize L.getD 0 0 = x0 at hc0 hx0
          clear hcs hcell hx
          go_wp2_with fail
          clear y0 y1 y2 y3 y4 hc0 hgl HG6 G2 HB HOWN hx0
          have hpt : PowT wr := HT.out.keep (by rw [HBW.out]; exact qB)
          have hiw := HIW.out _ _ qr
          have QR := Lib.hid qr; have HIW1 := Lib.hid hiw; have Q6 := Lib.hid q6; have Q2 := Lib.hid q2; have QB := Lib.hid qB; have HPT := Lib.hid hpt
          clear hiw hpt qr q2 qB
          obtain ⟨z0, z1, z2, z3, z4⟩ := q6
          go_wp2_with fail
          refine HIW1.out.mono ?_; rintro e w6 ⟨rfl, hb6⟩
          have q6 := Q6.out.keep hb6; have q2 := Q2.out.keep hb6; have qr := QR.out.keep hb6; have hpt := HPT.out.keep hb6
          have qB := (QB.out).trans (hb6.mono (show b ≤ wr.heap.size by omega))
          clear z0 z1 z2 z3 z4 QR HIW1 Q6 Q2 QB HPT hb6
          have Q6 := Lib.hid q6; have Q2 := Lib.hid q2; have QB := Lib.hid qB; have QR := Lib.hid qr; have HPT := Lib.hid hpt
          clear q2 qB qr hpt
          obtain ⟨z0, z1, z2, z3, z4⟩ := q6
          cases gd
          · have hok := HBAD.out (by first | rfl | trivial)
            subst hok
            obtain ⟨y0, y1, y2, y3, y4⟩ := Q2.out
            go_wp2_with fail
            refine bodyPost_ret (by simp (maxDischargeDepth := 3) [results, Tryz.results18, go_sem, *]; try rfl) rfl ?_
            have hbx := HBW.out
            exact ⟨_, rfl, by rw [hbx]; exact (QB.out.setCell (p := ⟨b, 0, none⟩) (by dsimp only; omega) _).setCell (p := ⟨b, 1, none⟩) (by dsimp only; omega) _, (zero_wo _ 0).wv⟩
          · have hwt := HWT.out _ _ (by first | rfl | trivial) QR.out HPT.out
            have HWT1 := Lib.hid hwt; clear hwt
            go_wp2_with fail
            refine HWT1.out.mono ?_; rintro e w7 ⟨rfl, hb7⟩
            have q6 := Q6.out.keep hb7; have q2 := Q2.out.keep hb7; have qr := QR.out.keep hb7
            have qB := (QB.out).trans (hb7.mono (show b ≤ w6.heap.size by omega))
            clear z0 z1 z2 z3 z4 QR HWT1 Q6 Q2 QB HPT hb7
            have QR := Lib.hid qr; have QB := Lib.hid qB; have Q2 := Lib.hid q2
            clear qr qB
            obtain ⟨z0, z1, z2, z3, z4⟩ := q6
            obtain ⟨y0, y1, y2, y3, y4⟩ := q2
            by_cases hT : wtxt Z = s
            · have hok := HY2.out (by first | rfl | trivial) hT
              subst hok
              have hwv := HWV.out _ _ (by first | rfl | trivial) QR.out
              have HWV1 := Lib.hid hwv; clear hwv
              rw [hT]
              go_wp2_with fail
              refine bodyPost_ret (by simp (maxDischargeDepth := 3) [results, Tryz.results18, go_sem, *]; try rfl) rfl ?_
              have hbx := HBW.out
              exact ⟨_, rfl, by rw [hbx]; exact (QB.out.setCell (p := ⟨b, 0, none⟩) (by dsimp only; omega) _).setCell (p := ⟨b, 1, none⟩) (by dsimp only; omega) _, by rw [if_pos rfl]; exact HWV1.out.put Q2.out⟩
            · have hok := HNO.out (by first | rfl | trivial) hT
              subst hok
              obtain ⟨hne1, hne2⟩ := str_ne hT
              generalize wtxt Z = TT at *
              go_wp2_with fail
              refine bodyPost_ret (by simp (maxDischargeDepth := 3) [results, Tryz.results18, go_sem, *]; try rfl) rfl ?_
              have hbx := HBW.out
              exact ⟨_, rfl, by rw [hbx]; exact (QB.out.setCell (p := ⟨b, 0, none⟩) (by dsimp only; omega) _).setCell (p := ⟨b, 1, none⟩) (by dsimp only; omega) _, (zero_wo _ 0).wv⟩
        · have hk1I : ((k : Int) == 1) = false := by simp; omega
          go_wp2_with fail
          clear y0 y1 y2 y3 y4 HG6 G2 HB HOWN
          have hpt : PowT wr := HT.out.keep (by rw [HBW.out]; exact qB)
          have hiw := HIW.out _ _ qr
          have QR := Lib.hid qr; have HIW1 := Lib.hid hiw; have Q6 := Lib.hid q6; have Q2 := Lib.hid q2; have QB := Lib.hid qB; have HPT := Lib.hid hpt
          clear hiw hpt qr q2 qB
          obtain ⟨z0, z1, z2, z3, z4⟩ := q6
          go_wp2_with fail
          refine HIW1.out.mono ?_; rintro e w6 ⟨rfl, hb6⟩
          have q6 := Q6.out.keep hb6; have q2 := Q2.out.keep hb6; have qr := QR.out.keep hb6; have hpt := HPT.out.keep hb6
          have qB := (QB.out).trans (hb6.mono (show b ≤ wr.heap.size by omega))
          clear z0 z1 z2 z3 z4 QR HIW1 Q6 Q2 QB HPT hb6
          have Q6 := Lib.hid q6; have Q2 := Lib.hid q2; have QB := Lib.hid qB; have QR := Lib.hid qr; have HPT := Lib.hid hpt
          clear q2 qB qr hpt
          obtain ⟨z0, z1, z2, z3, z4⟩ := q6
          cases gd
          · have hok := HBAD.out (by first | rfl | trivial)
            subst hok
            obtain ⟨y0, y1, y2, y3, y4⟩ := Q2.out
            go_wp2_with fail
            refine bodyPost_ret (by simp (maxDischargeDepth := 3) [results, Tryz.results18, go_sem, *]; try rfl) rfl ?_
            have hbx := HBW.out
            exact ⟨_, rfl, by rw [hbx]; exact (QB.out.setCell (p := ⟨b, 0, none⟩) (by dsimp only; omega) _).setCell (p := ⟨b, 1, none⟩) (by dsimp only; omega) _, (zero_wo _ 0).wv⟩
          · have hwt := HWT.out _ _ (by first | rfl | trivial) QR.out HPT.out
            have HWT1 := Lib.hid hwt; clear hwt
            go_wp2_with fail
            refine HWT1.out.mono ?_; rintro e w7 ⟨rfl, hb7⟩
            have q6 := Q6.out.keep hb7; have q2 := Q2.out.keep hb7; have qr := QR.out.keep hb7
            have qB := (QB.out).trans (hb7.mono (show b ≤ w6.heap.size by omega))
            clear z0 z1 z2 z3 z4 QR HWT1 Q6 Q2 QB HPT hb7
            have QR := Lib.hid qr; have QB := Lib.hid qB; have Q2 := Lib.hid q2
            clear qr qB
            obtain ⟨z0, z1, z2, z3, z4⟩ := q6
            obtain ⟨y0, y1, y2, y3, y4⟩ := q2
            by_cases hT : wtxt Z = s
            · have hok := HY2.out (by first | rfl | trivial) hT
              subst hok
              have hwv := HWV.out _ _ (by first | rfl | trivial) QR.out
              have HWV1 := Lib.hid hwv; clear hwv
              rw [hT]
              go_wp2_with fail
              refine bodyPost_ret (by simp (maxDischargeDepth := 3) [results, Tryz.results18, go_sem, *]; try rfl) rfl ?_
              have hbx := HBW.out
              exact ⟨_, rfl, by rw [hbx]; exact (QB.out.setCell (p := ⟨b, 0, none⟩) (by dsimp only; omega) _).setCell (p := ⟨b, 1, none⟩) (by dsimp only; omega) _, by rw [if_pos rfl]; exact HWV1.out.put Q2.out⟩
            · have hok := HNO.out (by first | rfl | trivial) hT
              subst hok
              obtain ⟨hne1, hne2⟩ := str_ne hT
              generalize wtxt Z = TT at *
              go_wp2_with fail
              refine bodyPost_ret (by simp (maxDischargeDepth := 3) [results, Tryz.results18, go_sem, *]; try rfl) rfl ?_
              have hbx := HBW.out
              exact ⟨_, rfl, by rw [hbx]; exact (QB.out.setCell (p := ⟨b, 0, none⟩) (by dsimp only; omega) _).setCell (p := ⟨b, 1, none⟩) (by dsimp only; omega) _, (zero_wo _ 0).wv⟩
end Go.Proofs.YtakilincclnpdaaGreatDoor
namespace Go.Proofs.YtakilincclnpdaaGreatDoor
open Go.RowKit

theorem digs_valW {neg : Bool} {L : List Int} (hd : Dig L) : (digs (valW neg L).natAbs).length ≤ L.length := by
  refine digs_lt ?_
  have h1 := val_lt hd
  have h0 := val_nonneg hd
  have e : (valW neg L).natAbs = (val L).natAbs := by unfold valW; split <;> omega
  rw [e]
  have h2 : ((val L).natAbs : Int) < ((10000 ^ L.length : Nat) : Int) := by
    rw [Int.natAbs_of_nonneg h0, Int.natCast_pow]
    exact h1
  exact Int.ofNat_lt.1 h2
theorem chunk_len {DL : List UInt8} {n k E lo : Nat} (hn : DL.length = n) (hE : n - 4 * k = E) (hlo : E - 4 = lo) : (chunk DL k).length = E - lo := by
  unfold chunk
  rw [List.length_drop, List.length_take, hn]
  omega
theorem chunk_at {DL : List UInt8} {n k E lo j : Nat} (hn : DL.length = n) (hE : n - 4 * k = E) (hlo : E - 4 = lo) (hj : lo + j < E) : (chunk DL k).getD j 0 = DL.getD (lo + j) 0 := by
  unfold chunk
  rw [hn, hE, show n - 4 * (k + 1) = lo by omega, List.getD_eq_getElem?_getD, List.getD_eq_getElem?_getD, List.getElem?_drop, List.getElem?_take, if_pos hj]
theorem body_true {s : ByteArray} (h : negL s.data.toList = true) : 0 < s.size ∧ s.data.toList.getD 0 0 = 45 ∧ (⟨(bodyL s.data.toList).toArray⟩ : ByteArray) = s.extract 1 s.size ∧ (bodyL s.data.toList).length + 1 = s.size := by
  have hl : s.data.toList.length = s.size := by simp
  have hx : (s.extract 1 s.size).data.toList = s.data.toList.drop 1 := by rw [ext_listZ, ← hl, List.take_length]
  revert h hl hx
  unfold bodyL Lib.trimPrefix
  generalize s.data.toList = l
  intro h hl hx
  have h1 : Lib.hasPrefix l [45] = true := h
  rw [if_pos h1]
  cases l with
  | nil => exact absurd h1 (by decide)
  | cons c r =>
    have hc : c = 45 := by
      simp [Lib.hasPrefix, List.isPrefixOf] at h1
      exact h1.symm
    refine ⟨by rw [← hl]; simp, by rw [hc]; rfl, ?_, by rw [← hl]; simp⟩
    apply ByteArray.ext
    apply Array.toList_inj.1
    rw [hx]; rfl
theorem body_false {s : ByteArray} (h : negL s.data.toList = false) : (⟨(bodyL s.data.toList).toArray⟩ : ByteArray) = s ∧ (0 < s.size → s.data.toList.getD 0 0 ≠ 45) := by
  have hl : s.data.toList.length = s.size := by simp
  refine ⟨?_, ?_⟩
  · unfold bodyL Lib.trimPrefix
    have h1 : Lib.hasPrefix s.data.toList [45] = false := h
    rw [if_neg (by rw [h1]; decide)]
  · intro hs e
    revert h hl e
    generalize s.data.toList = l
    intro h hl e
    cases l with
    | nil => simp at hl; omega
    | cons c r =>
      have hc : c = 45 := e
      subst hc
      exact absurd h (by simp [negL, Lib.hasPrefix, List.isPrefixOf])
set_option maxRecDepth 4000 in
set_option maxHeartbeats 8000000 in
theorem sParseWhole_any (s : ByteArray) (w : World) (hsm : s.size ≤ 1000000000) :
    Calls Tryz.prog 28 #[.string s] w (RetOk (readOk s.data.toList) (readZ s.data.toList) w) := by
  obtain ⟨i0, hi, hz0, hz1, hz2⟩ := info_parts Tryz.info_int
  have hbt := body_true (s := s)
  have hbf := body_false (s := s)
  have hix0 : ∀ w, 0 < s.size → (Instr.index 9 (.string s) (.int .i64 0)).run Tryz.prog w = .ok (.int .u8 ((s.data.toList.getD 0 0).toNat : Int)) w := fun w h => idx_runZ h w
  have hss : (⟨s.data.toList.toArray⟩ : ByteArray) = s := by apply ByteArray.ext; simp
  have hsl9 : s.data.toList.length = s.size := by simp
  generalize hsl : s.data.toList = sl at *
  have HSH := Lib.hid (fun h => rd_short (s := sl) h); have HND := Lib.hid (fun k h1 h2 => rd_nodig (s := sl) (k := k) h1 h2)
  have HSP := Lib.hid (fun z h1 h2 => read_spec (s := sl) (z := z) h1 h2)
  rw [hss] at HSP
  generalize readOk sl = ok at *
  generalize readZ sl = Z at *
  generalize negL sl = neg at *
  obtain ⟨D, hD⟩ : ∃ D : ByteArray, ⟨(bodyL sl).toArray⟩ = D := ⟨_, rfl⟩
  have hDL : D.data.toList = bodyL sl := by rw [← hD]
  rw [hD] at hbt hbf
  generalize bodyL sl = DL at *
  have hDn : DL.length = D.size := by rw [← hDL]; simp
  obtain ⟨n, hn⟩ : ∃ n, D.size = n := ⟨_, rfl⟩
  rw [hn] at hDn
  have hlt : decide (n < s.size) = neg := by
    cases neg
    · have := (hbf rfl).1
      rw [decide_eq_false]
      rw [← this, hn]; omega
    · have := (hbt rfl).2.2.2
      rw [decide_eq_true]; omega
  have HDN := Lib.hid hDn; have HDL := Lib.hid hDL; have HN := Lib.hid hn; have HBT := Lib.hid hbt; have HBF := Lib.hid hbf; have HIX0 := Lib.hid hix0; have HLT := Lib.hid hlt
  have hcn : cnL DL = (n + 3) / 4 := by unfold cnL; rw [hDn]
  obtain ⟨cn, hcn2⟩ : ∃ cn, cnL DL = cn := ⟨_, rfl⟩
  rw [hcn2] at HND HSP hcn
  have HCN := Lib.hid hcn2; have HCN3 := Lib.hid hcn
  have hin : inB (n : Int) 1 1600 = decide (1 ≤ n ∧ n ≤ 1600) := by
    rw [Bool.eq_iff_iff, inB_true, decide_eq_true_eq]; omega
  have HIN := Lib.hid (fun w => l1In_k hin w)
  clear hDn hDL hD hcn2 hsl hss hbt hbf hix0 hlt hcn hsl9 hin
  go_enter Tryz.func28, Tryz.ntmps28
  go_upto_region 2 with fail
  have g2 := Bx.new (.bool false) (.slice none 0 0) w 26
  have hb0 : Below w.heap.size w (w.alloc (.cells #[.bool false, .slice none 0 0] 26)) := below_allocC _ _
  generalize w.alloc (.cells #[.bool false, .slice none 0 0] 26) = W0 at g2 hb0 ⊢
  obtain ⟨b, hb⟩ : ∃ b, w.heap.size = b := ⟨_, rfl⟩
  rw [hb] at g2 hb0 ⊢
  have HBW := Lib.hid hb; clear hb
  have G2 := Lib.hid g2; have HB0 := Lib.hid hb0; clear g2 hb0
  go_cut [18] from 11 to 18 (fun v wx => v = .bool neg ∧ wx = W0)
  case first =>
    cases neg
    · by_cases h0 : 0 < s.size
      · have h1 := (HBF.out rfl).2 h0
        have hix := fun w => HIX0.out w h0
        have h0I : (0 : Int) < (s.size : Int) := by omega
        have hc : (((sl.getD 0 0).toNat : Int) == 45) = false := by
          rw [beq_eq_false_iff_ne]; intro e
          exact h1 (UInt8.toNat_inj.1 (by have : (45 : UInt8).toNat = 45 := rfl
                                          omega))
        generalize sl.getD 0 0 = c at hix hc
        clear h1
        go_wp2_with fail
        go_meet
        exact ⟨rfl, rfl⟩
      · have h0I : ¬ (0 : Int) < (s.size : Int) := by omega
        go_wp2_with fail
        go_meet
        exact ⟨rfl, rfl⟩
    · obtain ⟨h0, h1, _⟩ := HBT.out rfl
      have hix := fun w => HIX0.out w h0
      rw [h1] at hix
      have h0I : (0 : Int) < (s.size : Int) := by omega
      clear h1
      go_wp2_with fail
      go_meet
      exact ⟨rfl, rfl⟩
  case rest =>
  obtain ⟨rfl, rfl⟩ := hcut
  go_upto_if 18 with fail
  go_cut [4] from 19 to 20 (fun v wx => v = .string D ∧ wx = wc)
  case first =>
    cases neg
    · have h1 := (HBF.out rfl).1
      subst h1
      go_wp2_with fail
      go_meet
      exact ⟨rfl, rfl⟩
    · obtain ⟨h0, _, h2, _⟩ := HBT.out rfl
      have h0I : (1 : Int) ≤ (s.size : Int) := by omega
      have h2' := h2.symm
      clear h2
      go_wp2_with fail
      go_meet
      exact ⟨by first | rfl | rw [h2'], rfl⟩
  case rest =>
  obtain ⟨rfl, rfl⟩ := hcut
  by_cases h0 : ¬ (1 ≤ n ∧ n ≤ 1600)
  · have hok := HSH.out (by rw [HDN.out]; omega)
    subst hok
    rw [decide_eq_false h0] at HIN
    obtain ⟨y0, y1, y2, y3, y4⟩ := G2.out
    go_wp2_with fail
    refine (HIN.out _).mono ?_; rintro e w' ⟨rfl, rfl⟩
    go_wp2_with fail
    refine bodyPost_ret (by simp (maxDischargeDepth := 3) [results, Tryz.results28, go_sem, *]; try rfl) rfl ?_
    have hbx := HBW.out
    exact ⟨_, rfl, by rw [hbx]; exact (HB0.out.setCell (p := ⟨b, 0, none⟩) (by dsimp only; omega) _).setCell (p := ⟨b, 1, none⟩) (by dsimp only; omega) _, (zero_wo _ 0).wv⟩
  have h01 : 1 ≤ n ∧ n ≤ 1600 := by omega
  obtain ⟨h1n, h2n⟩ := h01
  rw [decide_eq_true ⟨h1n, h2n⟩] at HIN
  clear h0
  go_wp2_with fail
  refine (HIN.out _).mono ?_; rintro e w' ⟨rfl, rfl⟩
  go_wp2_with fail
  go_loopw [5, 6] (fun sv ev wr => ∃ (k : Nat) (ad : Option Addr) (cap : Nat), sv = .slice ad k cap ∧ ev = .int .i64 ((n : Int) - 4 * (k : Int)) ∧ k ≤ cn ∧ Hid (allD DL k = true) ∧ Bx wr b (.bool false) (.slice none 0 0) ∧ Own wr (b + 1) (.slice ad k cap) (plim DL k) ∧ Below b w wr) (fun _ ev _ => (intOf ev + 4).toNat)
  case atStart => exact ⟨0, none, 0, rfl, by first | rfl | go_num, Nat.zero_le _, rfl, G2.out, Own.nil _ _, HB0.out⟩
  case round =>
    obtain ⟨k, ad, cap, rfl, rfl, hk, HAL, g2, hown, hbel⟩ := hrel
    have hcn : cn = (n + 3) / 4 := HCN3.out
    by_cases hkc : k < cn
    · have hE : (n : Int) - 4 * (k : Int) = ((n - 4 * k : Nat) : Int) := by omega
      obtain ⟨E, hE2⟩ : ∃ E, n - 4 * k = E := ⟨_, rfl⟩
      have hE0 : 0 < E := by omega
      have hEn : E ≤ n := by omega
      rw [hE2] at hE
      rw [hE]
      have hE0' : (0 : Int) < (E : Int) := by omega
      obtain ⟨lo, hlo⟩ : ∃ lo, E - 4 = lo := ⟨_, rfl⟩
      have hw1 : IntKind.i64.wrap ((E : Int) - 4) = (E : Int) - 4 := wrapi (by omega) (by omega)
      have hmx := fun w => l1Most_any 0 ((E : Int) - 4) w
      rw [show max 0 ((E : Int) - 4) = (lo : Int) by omega] at hmx
      have hlo1 : lo ≤ E := by omega
      have hEl : E - lo ≤ 4 := by omega
      have hkc1 : k + 1 ≤ cn := hkc
      have hk399 : k ≤ 399 := by omega
      have hE4 : (E : Int) - 4 = (n : Int) - 4 * ((k + 1 : Nat) : Int) := by omega
      have hcl := chunk_len HDN.out hE2 hlo
      have hca := fun j hj => chunk_at (j := j) HDN.out hE2 hlo hj
      have hct := HND.out (k + 1)
      rw [allD_succ, HAL.out, Bool.true_and] at hct
      have HE4 := Lib.hid hE4; have HCT := Lib.hid hct; have HCL := Lib.hid hcl; have HCA := Lib.hid hca; have HMX := Lib.hid hmx
      have G2 := Lib.hid g2; have HOWN := Lib.hid hown; have HB := Lib.hid hbel
      clear hE4 hcn hct hcl hca hmx g2 hown hbel
      obtain ⟨CL, hCL⟩ : ∃ CL, chunk DL k = CL := ⟨_, rfl⟩
      rw [hCL] at HCT HCL HCA
      have HCLE := Lib.hid hCL; clear hCL
      go_wp2_with fail
      refine (HMX.out _).mono ?_; rintro e w' ⟨rfl, rfl⟩
      go_wp2_with fail
      go_loop [7, 8] (fun p i => ∃ j : Nat, i = .int .i64 ((lo + j : Nat) : Int) ∧ lo + j ≤ E ∧ p = .int .i64 (numL (CL.take j)) ∧ Hid ((CL.take j).all isDg = true)) (fun _ i => E - (intOf i).toNat)
      case atStart => exact ⟨0, rfl, by omega, rfl, rfl⟩
      case round =>
        obtain ⟨j, rfl, hj, rfl, HTD⟩ := hrel
        have hpb := numL_bdT CL j (by rw [HCL.out]; omega) HTD.out
        have hp4 := numL_four HTD.out (by rw [List.length_take]; omega)
        by_cases hjc : lo + j < E
        · have hix := fun w => idx_runZ (s := D) (k := lo + j) (by rw [HN.out]; omega) w
          rw [HDL.out, ← HCA.out j hjc] at hix
          have htn := take_num (l := CL) (j := j) (by rw [HCL.out]; omega)
          have hta := take_all (l := CL) (j := j) (by rw [HCL.out]; omega)
          have hta2 := fun h => all_takeZ (l := CL) (j := j + 1) h
          rw [hta] at hta2
          have hp9 : j < 4 := by omega
          have hp999 : numL (CL.take j) ≤ 999 := by
            have h1 : (10 : Int) ^ j ≤ 1000 := by
              rcases (by omega : j = 0 ∨ j = 1 ∨ j = 2 ∨ j = 3) with rfl | rfl | rfl | rfl <;> decide
            omega
          have hp00 := hp4.1
          generalize CL.getD j 0 = c at *
          generalize numL (CL.take j) = p at *
          have hc255 : c.toNat < 256 := c.toNat_lt
          have HTN := Lib.hid htn; have HTA := Lib.hid hta; have HTA2 := Lib.hid hta2
          obtain ⟨q, hq⟩ : ∃ q, lo + j = q := ⟨_, rfl⟩
          rw [hq] at hix hjc ⊢
          have hq1 : lo + (j + 1) = q + 1 := by omega
          have hjI : (q : Int) < (E : Int) := by omega
          have hwq : IntKind.i64.wrap ((q : Int) + 1) = ((q + 1 : Nat) : Int) := by rw [wrapi (by omega) (by omega)]; omega
          have HQ := Lib.hid hq; have HQ1 := Lib.hid hq1
          clear htn hta hta2 hpb hp4 hq hq1 hj
          by_cases hlo2 : c.toNat < 48
          · have hnd : isDg c = false := by unfold isDg; rw [decide_eq_false (by omega)]; rfl
            have hok := HCT.out (HTA2.out (by rw [hnd, Bool.and_false])) hkc1
            have hc1 : (c.toNat : Int) < 48 := by omega
            have HOK := Lib.hid hok
            obtain ⟨y0, y1, y2, y3, y4⟩ := G2.out
            clear hok hnd
            go_wp2_with fail
            refine bodyPost_ret (by simp (maxDischargeDepth := 3) [results, Tryz.results28, go_sem, *]; try rfl) rfl ?_
            have hok := HOK.out
            have hbx := HBW.out
            rw [hok]
            exact ⟨_, rfl, by rw [hbx]; exact (HB.out.setCell (p := ⟨b, 0, none⟩) (by dsimp only; omega) _).setCell (p := ⟨b, 1, none⟩) (by dsimp only; omega) _, (zero_wo _ 0).wv⟩
          · have hc1 : ¬ (c.toNat : Int) < 48 := by omega
            by_cases hhi : 57 < c.toNat
            · have hnd : isDg c = false := by unfold isDg; rw [decide_eq_false (show ¬ c.toNat ≤ 57 by omega), Bool.and_false]
              have hok := HCT.out (HTA2.out (by rw [hnd, Bool.and_false])) hkc1
              have hc2 : (57 : Int) < (c.toNat : Int) := by omega
              have HOK := Lib.hid hok
              obtain ⟨y0, y1, y2, y3, y4⟩ := G2.out
              clear hok hnd
              go_wp2_with fail
              refine bodyPost_ret (by simp (maxDischargeDepth := 3) [results, Tryz.results28, go_sem, *]; try rfl) rfl ?_
              have hok := HOK.out
              have hbx := HBW.out
              rw [hok]
              exact ⟨_, rfl, by rw [hbx]; exact (HB.out.setCell (p := ⟨b, 0, none⟩) (by dsimp only; omega) _).setCell (p := ⟨b, 1, none⟩) (by dsimp only; omega) _, (zero_wo _ 0).wv⟩
            · have hc2 : ¬ (57 : Int) < (c.toNat : Int) := by omega
              have hnd : isDg c = true := by unfold isDg; rw [decide_eq_true (by omega), decide_eq_true (by omega)]; rfl
              have hu : IntKind.u8.wrap ((c.toNat : Int) - 48) = (c.toNat : Int) - 48 := by rw [IntKind.wrap]; simp [IntKind.bits, IntKind.signed]; omega
              have hm : IntKind.i64.wrap (10 * p) = 10 * p := wrapi (by omega) (by omega)
              have hu2 : IntKind.i64.wrap ((c.toNat : Int) - 48) = (c.toNat : Int) - 48 := wrapi (by omega) (by omega)
              have ha : IntKind.i64.wrap (10 * p + ((c.toNat : Int) - 48)) = 10 * p + ((c.toNat : Int) - 48) := wrapi (by omega) (by omega)
              have HND2 := Lib.hid hnd; clear hnd
              go_wp2_with fail
              go_round
              case rel => exact ⟨j + 1, by rw [HQ1.out]; first | rfl | go_num, by have := HQ1.out; omega, by rw [HTN.out], by show _ = true; rw [HTA.out, show _ = true from HTD.out, HND2.out]; rfl⟩
              case measure => first | (simp [intOf]; done) | (simp [intOf]; omega)
        · have hjC : j = CL.length := by rw [HCL.out]; omega
          rw [hjC, List.take_length] at HTD
          rw [hjC, List.take_length] at hp4
          have hqE : lo + j = E := by omega
          rw [hqE]
          have hjI : ¬ (E : Int) < (E : Int) := by omega
          have e9 : numL (CL.take j) = numL CL := by rw [hjC, List.take_length]
          rw [e9]
          have hall : allD DL (k + 1) = true := by rw [allD_succ, HAL.out, HCLE.out]; exact HTD.out
          have HALL := Lib.hid hall
          have hpl := plim_succ DL k
          rw [HCLE.out] at hpl
          generalize numL CL = p at *
          have HPL := Lib.hid hpl
          clear hjC e9 hall hpb hpl hj
          have hown' : wr.ownsRow (b + 1) 3 1 _ (plim DL k).length ((plim DL k).map (Value.int .i64)) := HOWN.out
          rw [plim_len] at hown'
          have hk4 : k ≤ 400 := by omega
          have HOWN3 := Lib.hid hown'; clear hown'
          have hsz2 : b + 1 ≤ wr.heap.size := by have := G2.out.1; omega
          go_wp2_with (first | (at_builtin; refine wpList_append_own _ rfl _ _ 24 rfl (b + 1) 3 i0 (.int .i64 0) 1 8 Tryz.underlying24 hi hz0 hz1 hz2 rfl (by decide) _ _ _ rfl (HOWN3.out.alloc _) ⟨wr.heap.size, 0, none⟩ 1 1 [.int .i64 _] rfl rfl (cell_one_new _ _ _) ?_ ?_ ?_ ?_ ?_))
          all_goals first
            | (unfold maxLen; omega)
            | omega
            | (simp; omega)
            | rfl
            | (intro u hu; simp at hu; subst hu; rfl)
            | skip
          intro v' w5 hown5 hgrow _
          have hne2 : ∀ q, (Value.slice ad k cap).ownBlock = some q → q ≠ b := fun q hq => by have := ((HOWN.out : World.ownsRow _ _ _ _ _ _ _).lt q hq).1; omega
          have g2 := G2.out.app hne2 hgrow
          obtain ⟨hB5, ho5⟩ := own_app HB.out (show b ≤ wr.heap.size by omega) (show b ≤ b + 1 by omega) HOWN.out (by rw [plim_len]; exact hown5) hgrow
          rw [← HPL.out] at ho5
          obtain ⟨a5, c5, rfl⟩ : ∃ a5 c5, v' = .slice a5 (k + 1) c5 := by
            rcases ho5.shape with ⟨h1, h2⟩ | ⟨g, cap, h1, _⟩
            · exfalso
              have := plim_len DL (k + 1)
              rw [h2] at this; simp at this
            · exact ⟨_, _, by rw [h1, plim_len]⟩
          clear hown5 hgrow G2 HOWN HB HOWN3 hne2
          have Q2 := Lib.hid g2; have QO := Lib.hid ho5; have QB := Lib.hid hB5
          clear g2 ho5 hB5
          have hw4 : IntKind.i64.wrap ((E : Int) - 4) = (n : Int) - 4 * ((k + 1 : Nat) : Int) := by rw [hw1]; exact HE4.out
          clear hw1
          go_wp2_with fail
          go_roundw
          case rel => exact ⟨k + 1, a5, c5, rfl, by first | rfl | go_num, hkc1, HALL.out, Q2.out, QO.out, QB.out⟩
          case measure => first | (simp [intOf]; done) | (simp [intOf]; omega)
    · obtain rfl : k = cn := by omega
      have hE0 : ¬ (0 : Int) < (n : Int) - 4 * (k : Int) := by omega
      have hk4 : k ≤ 400 := by omega
      clear hcn
      have hdg := plim_dig HAL.out
      have hpl := plim_len DL k
      have hsp := HSP.out (valW neg (plim DL k)) rfl (by have := digs_valW (neg := neg) hdg; omega)
      have hzl : (digs (valW neg (plim DL k)).natAbs).length ≤ 400 := by have := digs_valW (neg := neg) hdg; omega
      generalize plim DL k = L at *
      have hmk := bgMake_any neg _ L wr hown.rd hown.slok hdg (by omega)
      rw [show (if neg = true then -(val L) else val L) = valW neg L from rfl] at hmk
      generalize valW neg L = z at *
      have htx := fun v w (h : WV w v z) => bgText_any v z w h hzl
      have hnn := HLT.out
      have HMK := Lib.hid hmk; have HTX := Lib.hid htx; have HSP2 := Lib.hid hsp
      have G2 := Lib.hid g2; have HB := Lib.hid hbel
      clear hmk htx hsp g2 hbel hown HSP HDN HDL HND HSH HAL HCN HCN3
      go_wp2_with fail
      refine (HMK.out).mono ?_; rintro e w6 ⟨v6, rfl, hb6, ho6⟩
      have g2 := G2.out.keep hb6
      have hB6 := (HB.out).trans (hb6.mono (show b ≤ wr.heap.size by have := G2.out.1; omega))
      obtain ⟨n6, a6, l6, c6, rfl⟩ : ∃ n6 a6 l6 c6, v6 = .agg #[.bool n6, .slice a6 l6 c6] := by obtain ⟨a6, c6, hv6, _⟩ := ho6; exact ⟨_, _, _, _, hv6⟩
      have G2 := Lib.hid g2; have HB := Lib.hid hB6; have HW := Lib.hid ho6.wv
      clear g2 hB6 ho6 hb6 HMK
      go_wp2_with fail
      have g9 := Bx.new (.bool n6) (.slice a6 l6 c6) w6 26
      have g2 := G2.out.keep (below_allocC w6 (.cells #[.bool n6, .slice a6 l6 c6] 26))
      have hw9 := HW.out.keep (below_allocC w6 (.cells #[.bool n6, .slice a6 l6 c6] 26))
      have hB9 := HB.out.alloc (show b ≤ w6.heap.size by have := G2.out.1; omega) (.cells #[.bool n6, .slice a6 l6 c6] 26)
      have hs9 : b < w6.heap.size := G2.out.1
      generalize w6.alloc (.cells #[.bool n6, .slice a6 l6 c6] 26) = w7 at g9 g2 hw9 hB9 ⊢
      generalize w6.heap.size = b9 at g9 hs9 ⊢
      have G9 := Lib.hid g9; have G2 := Lib.hid g2; have HW := Lib.hid hw9; have HB := Lib.hid hB9
      clear g2 hw9 hB9
      obtain ⟨z0, z1, z2, z3, z4⟩ := g9
      by_cases hT : wtxt z = s
      · have htx := HTX.out _ _ HW.out
        rw [hT] at htx
        have HTX1 := Lib.hid htx
        refine HTX1.out.mono ?_; rintro e w8 ⟨rfl, hb8⟩
        have g9 := G9.out.keep hb8; have g2 := G2.out.keep hb8; have hw9 := HW.out.keep hb8
        have hB9 := (HB.out).trans (hb8.mono (show b ≤ w7.heap.size by omega))
        clear z0 z1 z2 z3 z4 hb8 htx
        have G2 := Lib.hid g2; have HW := Lib.hid hw9; have HB := Lib.hid hB9
        clear hw9 hB9 G9
        obtain ⟨z0, z1, z2, z3, z4⟩ := g9
        obtain ⟨y0, y1, y2, y3, y4⟩ := g2
        have hok : ok = true := by have := HSP2.out.1; rw [this, hT]; exact decide_eq_true rfl
        have hZ : Z = z := HSP2.out.2 hok
        subst hok
        subst hZ
        go_wp2_with fail
        refine bodyPost_ret (by simp (maxDischargeDepth := 3) [results, Tryz.results28, go_sem, *]; try rfl) rfl ?_
        have hbx := HBW.out
        exact ⟨_, rfl, by rw [hbx]; exact (HB.out.setCell (p := ⟨b, 0, none⟩) (by dsimp only; omega) _).setCell (p := ⟨b, 1, none⟩) (by dsimp only; omega) _, by rw [if_pos rfl]; exact HW.out.put G2.out⟩
      · obtain ⟨TT, hTT⟩ : ∃ TT, wtxt z = TT := ⟨_, rfl⟩
        have htx := HTX.out _ _ HW.out
        rw [hTT] at htx
        have HTX1 := Lib.hid htx
        refine HTX1.out.mono ?_; rintro e w8 ⟨rfl, hb8⟩
        have g9 := G9.out.keep hb8; have g2 := G2.out.keep hb8; have hw9 := HW.out.keep hb8
        have hB9 := (HB.out).trans (hb8.mono (show b ≤ w7.heap.size by omega))
        clear z0 z1 z2 z3 z4 hb8 htx
        have G2 := Lib.hid g2; have HW := Lib.hid hw9; have HB := Lib.hid hB9
        clear hw9 hB9 G9
        obtain ⟨z0, z1, z2, z3, z4⟩ := g9
        obtain ⟨y0, y1, y2, y3, y4⟩ := g2
        have hok : ok = false := by have := HSP2.out.1; rw [this]; exact decide_eq_false hT
        subst hok
        obtain ⟨hne1, hne2⟩ := str_ne hT
        rw [hTT] at hne1 hne2
        go_wp2_with fail
        refine bodyPost_ret (by simp (maxDischargeDepth := 3) [results, Tryz.results28, go_sem, *]; try rfl) rfl ?_
        have hbx := HBW.out
        exact ⟨_, rfl, by rw [hbx]; exact (HB.out.setCell (p := ⟨b, 0, none⟩) (by dsimp only; omega) _).setCell (p := ⟨b, 1, none⟩) (by dsimp only; omega) _, (zero_wo _ 0).wv⟩
end Go.Proofs.YtakilincclnpdaaGreatDoor
