/- Pb: contracts of the reference: a text cut at a byte, numerals read, with a sign. No conditions. -/
import Derived.Test.YtadijbaphfgeiaaDoorPa
import Derived.Test.YtadijbaphfgeiaaDoorCu
import Derived.Test.YtadijbaphfgeiaaDoorFr
namespace Go.Proofs.YtadijbaphfgeiaaDoor
open Go.RowKit

/-- a call's result: its own slice of the pieces of a text. -/
def RetStr (b : UInt8) (s : ByteArray) (w : World) (e : Ending) (w' : World) : Prop :=
  ∃ (v : Value) (outs : List ByteArray), e = .returned v ∧ outs.map (·.data.toList) = pcs b s.data.toList ∧ w'.ownsRow w.heap.size 9 1 v outs.length (outs.map .string) ∧ outs.length ≤ s.size + 1 ∧ Below w.heap.size w w'
theorem ext_list (s : ByteArray) (i j : Nat) : (s.extract i j).data.toList = (s.data.toList.take j).drop i := by
  rw [ByteArray.data_extract, Array.toList_extract, List.extract_eq_take_drop, List.drop_take]
theorem idx_run {s : ByteArray} {k : Nat} (hk : k < s.size) (w : World) : (Instr.index 9 (.string s) (.int .i64 (k : Int))).run Tryd.prog w = .ok (.int .u8 ((s.data.toList.getD k 0).toNat : Int)) w := by
  rw [run_index_string _ _ _ _ _ Tryd.underlying9, dif_pos ⟨Int.natCast_nonneg _, by omega⟩]
  congr 3
  have h2 : k < s.data.toList.length := by simpa using hk
  rw [List.getD_eq_getElem?_getD, List.getElem?_eq_getElem h2]
  rfl
theorem list_at {s : ByteArray} {k : Nat} (hk : k < s.size) : s.data.toList[k]? = some (s.data.toList.getD k 0) := by
  have h2 : k < s.data.toList.length := by simpa using hk
  rw [List.getD_eq_getElem?_getD, List.getElem?_eq_getElem h2]
  rfl
theorem pcs_at {b : UInt8} {l : List UInt8} {fr k : Nat} (hfr : fr ≤ k) (hk : l[k]? = some b) (hno : b ∉ (l.take k).drop fr) :
    pcs b (l.drop fr) = (l.take k).drop fr :: pcs b (l.drop (k + 1)) := by
  have hlt : k < l.length := by
    rcases Nat.lt_or_ge k l.length with h | h
    · exact h
    · rw [List.getElem?_eq_none h] at hk; cases hk
  have e1 : l = l.take k ++ b :: l.drop (k + 1) := by
    have h1 : l[k] = b := by rw [List.getElem?_eq_getElem hlt] at hk; exact Option.some.inj hk
    rw [← h1, List.getElem_cons_drop, List.take_append_drop]
  have e2 : l.drop fr = (l.take k).drop fr ++ b :: l.drop (k + 1) := by
    conv => lhs; rw [e1]
    rw [List.drop_append, List.length_take, show fr - min k l.length = 0 by omega, List.drop_zero]
  rw [e2, pcs_cut _ hno]
theorem take_snoc {b : UInt8} {l : List UInt8} {fr k : Nat} {c : UInt8} (hfr : fr ≤ k) (hk : l[k]? = some c) (hc : c ≠ b) (hno : b ∉ (l.take k).drop fr) : b ∉ (l.take (k + 1)).drop fr := by
  have hlt : k < l.length := by
    rcases Nat.lt_or_ge k l.length with h | h
    · exact h
    · rw [List.getElem?_eq_none h] at hk; cases hk
  rw [List.take_add_one, hk, Option.toList_some, List.drop_append, List.length_take, show fr - min k l.length = 0 by omega, List.drop_zero, List.mem_append, not_or]
  exact ⟨hno, by simpa using fun e => hc e.symm⟩
set_option maxHeartbeats 4000000 in
theorem l1Split_any (s : ByteArray) (b : UInt8) (w : World) (hs : s.size ≤ 1048576) :
    Calls Tryd.prog 18 #[.string s, .int .u8 (b.toNat : Int)] w (RetStr b s w) := by
  obtain ⟨i0, hi, hz0, hz1, hz2⟩ := info_parts Tryd.info_str
  have hlen : s.data.toList.length = s.size := by simp
  go_enter Tryd.func18, Tryd.ntmps18
  go_wp2_with fail
  go_loopw [5, 6, 7] (fun v f i wr => ∃ (outs : List ByteArray) (fr k : Nat), f = .int .i64 fr ∧ i = .int .i64 k ∧ fr ≤ k ∧ k ≤ s.size ∧ outs.length ≤ k ∧ outs.map (·.data.toList) ++ pcs b (s.data.toList.drop fr) = pcs b s.data.toList ∧ b ∉ (s.data.toList.take k).drop fr ∧ Below w.heap.size w wr ∧ wr.ownsRow w.heap.size 9 1 v outs.length (outs.map .string)) (fun _ _ i _ => s.size - (intOf i).toNat)
  case atStart => exact ⟨[], 0, 0, rfl, rfl, Nat.le_refl _, Nat.zero_le _, Nat.le_refl _, by simp, by simp, Below.refl _ _, World.ownsRow_nil _ _ _ _⟩
  case round =>
    obtain ⟨outs, fr, k, rfl, rfl, hfr, hk, hol, hp, hno, hbel, hown⟩ := hrel
    have hw1 := i64_wrap (r := (k : Int) + 1) (by omega) (by omega)
    by_cases hks : k < s.size
    · have hix := fun w => idx_run hks w
      have hat := list_at hks
      generalize hc : s.data.toList.getD k 0 = c at hix hat
      have HP := Lib.hid hp; clear hp
      have HNO := Lib.hid hno; clear hno
      have HAT := Lib.hid hat; clear hat
      have HBEL := Lib.hid hbel; clear hbel
      have HOWN := Lib.hid hown; clear hown
      have HC := Lib.hid hc; clear hc
      have hks' : (k : Int) < (s.size : Int) := by omega
      by_cases hcb : c = b
      · subst hcb
        have hfr' : (0 : Int) ≤ (fr : Int) ∧ (fr : Int) ≤ (k : Int) := ⟨by omega, by omega⟩
        go_wp2_with (first | (at_builtin; refine wpList_append_own _ rfl _ _ 37 rfl w.heap.size 9 i0 (.string ⟨#[]⟩) 1 16 Tryd.underlying37 hi hz0 hz1 hz2 rfl (by decide) _ _ _ rfl (HOWN.out.alloc _) ⟨wr.heap.size, 0, none⟩ 1 1 [.string (s.extract fr k)] rfl rfl (cell_one_new _ _ _) ?_ ?_ ?_ ?_ ?_))
        · intro u hu; simp at hu; subst hu; rfl
        · unfold maxLen; simp; omega
        · first | omega | (simp; omega)
        · have := HBEL.out.size; simp; omega
        intro v' w2 hown2 hgrow _
        have hb2 := ((HBEL.out.alloc HBEL.out.size _).grown hgrow (Nat.le_trans HBEL.out.size (by simp)) (fun k hk => (HOWN.out.lt k hk).1))
        have hrow : w2.ownsRow w.heap.size 9 1 v' (outs ++ [s.extract fr k]).length ((outs ++ [s.extract fr k]).map .string) := by simpa using hown2
        clear hown2 hgrow HBEL HOWN
        go_wp2_with fail
        go_roundw
        case rel => exact ⟨outs ++ [s.extract fr k], k + 1, k + 1, by go_num, by go_num, Nat.le_refl _, by omega, by simp; omega, by
            rw [List.map_append, List.map_cons, List.map_nil, ext_list, List.append_assoc, List.singleton_append, ← pcs_at hfr HAT.out HNO.out]; exact HP.out, by simp, hb2, hrow⟩
        case measure => simp [intOf]; omega
      · have hcb' : ((c.toNat : Int) == (b.toNat : Int)) = false := by
          rw [beq_eq_false_iff_ne]; intro e; exact hcb (UInt8.toNat_inj.1 (by omega))
        go_wp2_with fail
        go_roundw
        case rel => exact ⟨outs, fr, k + 1, rfl, by go_num, by omega, by omega, by omega, HP.out, take_snoc hfr HAT.out hcb HNO.out, HBEL.out, HOWN.out⟩
        case measure => simp [intOf]; omega
    · have hk' : k = s.size := by omega
      subst hk'
      have hfr' : (0 : Int) ≤ (fr : Int) ∧ (fr : Int) ≤ (s.size : Int) := ⟨by omega, by omega⟩
      have e0 : s.data.toList.take s.size = s.data.toList := by rw [← hlen, List.take_length]
      rw [e0] at hno
      rw [pcs_none hno] at hp
      have HP := Lib.hid hp; clear hp hno e0
      have HBEL := Lib.hid hbel; clear hbel
      have HOWN := Lib.hid hown; clear hown
      go_wp2_with (first | (at_builtin; refine wpList_append_own _ rfl _ _ 37 rfl w.heap.size 9 i0 (.string ⟨#[]⟩) 1 16 Tryd.underlying37 hi hz0 hz1 hz2 rfl (by decide) _ _ _ rfl (HOWN.out.alloc _) ⟨wr.heap.size, 0, none⟩ 1 1 [.string (s.extract fr s.size)] rfl rfl (cell_one_new _ _ _) ?_ ?_ ?_ ?_ ?_))
      · intro u hu; simp at hu; subst hu; rfl
      · unfold maxLen; simp; omega
      · first | omega | (simp; omega)
      · have := HBEL.out.size; simp; omega
      intro v' w2 hown2 hgrow _
      have hb2 := ((HBEL.out.alloc HBEL.out.size _).grown hgrow (Nat.le_trans HBEL.out.size (by simp)) (fun k hk => (HOWN.out.lt k hk).1))
      have hrow : w2.ownsRow w.heap.size 9 1 v' (outs ++ [s.extract fr s.size]).length ((outs ++ [s.extract fr s.size]).map .string) := by simpa using hown2
      clear hown2 hgrow HBEL HOWN
      go_wp2_with fail
      go_ret
      exact ⟨v', outs ++ [s.extract fr s.size], rfl, by
        rw [List.map_append, List.map_cons, List.map_nil, ext_list, ← hlen, List.take_length]; exact HP.out, hrow, by simp; omega, hb2⟩
def rdI (l : List UInt8) : Int := match rdL l with | some m => m | none => -1
theorem rdI_bd {l : List UInt8} : -1 ≤ rdI l ∧ rdI l ≤ 10000000 := by
  unfold rdI
  cases h : rdL l with
  | none => exact ⟨by decide, by decide⟩
  | some m =>
    unfold rdL at h
    split at h
    · rename_i hc
      have h1 := Lib.decFrom_lt l 0 m h
      have h2 := Nat.pow_le_pow_right (n := 10) (by decide) hc.2.1
      have e : (10 : Nat) ^ 6 = 1000000 := by decide
      show -1 ≤ (m : Int) ∧ (m : Int) ≤ 10000000
      omega
    · cases h
theorem sgL_rd : ∀ (l : List UInt8), sgL l = if l.head? = some 45 then (if rdI l.tail < 0 then 100000 else -rdI l.tail) else (if rdI l < 0 then 100000 else rdI l)
  | [] => by simp [sgL, rdI, rdL]
  | c :: r => by
    rw [sgL_cons]
    simp only [List.head?_cons, List.tail_cons, Option.some.injEq]
    unfold rdI
    by_cases hc : c = 45
    · rw [if_pos hc, if_pos hc]
      obtain h | ⟨m, h⟩ : rdL r = none ∨ ∃ m, rdL r = some m := by cases rdL r <;> simp
      · simp only [h]; rfl
      · simp only [h]; rw [if_neg (by omega)]
    · rw [if_neg hc, if_neg hc]
      obtain h | ⟨m, h⟩ : rdL (c :: r) = none ∨ ∃ m, rdL (c :: r) = some m := by cases rdL (c :: r) <;> simp
      · simp only [h]; rfl
      · simp only [h]; rw [if_neg (by omega)]
theorem not_digit {l : List UInt8} {k : Nat} {c : UInt8} (h : l[k]? = some c) (hc : c.toNat < 48 ∨ 57 < c.toNat) : Lib.decFrom 0 l = none := by
  cases hd : Lib.decFrom 0 l with
  | none => rfl
  | some m =>
    obtain ⟨d, hd⟩ := Lib.digit_of_decFrom l 0 m hd k c h
    obtain ⟨h1, h2, _⟩ := Lib.digitVal_eq hd
    omega
set_option maxHeartbeats 4000000 in
theorem l1Read_any (s : ByteArray) (w : World) (hs : s.size ≤ 1048576) :
    Calls Tryd.prog 39 #[.string s] w (Ret (.int .i64 (rdI s.data.toList)) w) := by
  have hlen : s.data.toList.length = s.size := by simp
  by_cases hin : 1 ≤ s.size ∧ s.size ≤ 6
  · have hi1 : inB (s.size : Int) 1 6 = true := inB_true.2 ⟨by omega, by omega⟩
    have hix0 := fun w => idx_run (s := s) (k := 0) (by omega) w
    have hat0 := list_at (s := s) (k := 0) (by omega)
    rw [Int.natCast_zero] at hix0
    generalize hc0 : s.data.toList.getD 0 0 = c0 at hix0 hat0
    have hh : s.data.toList.head? = some c0 := by rw [← hat0, List.head?_eq_getElem?]
    by_cases hz : c0 = 48 ∧ 1 < s.size
    · have hr : rdI s.data.toList = -1 := by
        unfold rdI rdL
        rw [if_neg (by rintro ⟨_, _, h3⟩; exact h3 ⟨by rw [hh, hz.1], by omega⟩)]
      rw [hr]
      obtain ⟨rfl, hz2⟩ := hz
      have e48 : ((48 : UInt8).toNat : Int) = 48 := rfl
      rw [e48] at hix0
      have hz2' : (1 : Int) < (s.size : Int) := by omega
      clear hc0 hat0 hh hr hlen
      go_enter Tryd.func39, Tryd.ntmps39
      go_wp2_with (go_at_call 26; refine (l1In_known hi1 _).mono ?_; rintro e w' ⟨rfl, rfl⟩)
      go_ret
      exact ret_eq (by rfl) (by repeat (first | exact Below.refl _ _ | (with_reducible assumption) | refine bel_alloc ?_ _ | refine bel_drew ?_ | refine bel_drewN ?_ _ | refine Below.setCell ?_ (by dsimp only; omega) _ | refine bel_trans (by assumption) ?_))
    · have hr : rdL s.data.toList = Lib.decFrom 0 s.data.toList := by
        unfold rdL
        rw [if_pos ⟨by omega, by omega, fun ⟨h3, h4⟩ => hz ⟨by rw [hh] at h3; exact Option.some.inj h3, by omega⟩⟩]
      have hz' : ((c0.toNat : Int) == 48) = false ∨ ((c0.toNat : Int) = 48 ∧ ¬ (1 : Int) < (s.size : Int)) := by
        by_cases h8 : (c0.toNat : Int) = 48
        · refine .inr ⟨h8, fun h => hz ⟨UInt8.toNat_inj.1 (show c0.toNat = (48 : UInt8).toNat from ?_), by omega⟩⟩
          have e2 : (48 : UInt8).toNat = 48 := rfl
          omega
        · exact .inl (by simpa using h8)
      have hs0 : s.size ≤ 6 := hin.2
      have HR := Lib.hid hr; clear hr hz hh hat0 hc0 hin
      generalize (c0.toNat : Int) = z0 at *
      rcases hz' with hz' | ⟨rfl, hz'⟩
      all_goals
        go_enter Tryd.func39, Tryd.ntmps39
        go_wp2_with (go_at_call 26; refine (l1In_known hi1 _).mono ?_; rintro e w' ⟨rfl, rfl⟩)
        clear hix0 hi1
        go_loopw [3, 4] (fun n i wr => ∃ k m : Nat, n = .int .i64 m ∧ i = .int .i64 k ∧ k ≤ s.size ∧ Lib.decFrom 0 (s.data.toList.take k) = some m ∧ Below w.heap.size w wr) (fun _ i _ => s.size - (intOf i).toNat)
        case atStart => exact ⟨0, 0, rfl, rfl, Nat.zero_le _, rfl, (by repeat (first | exact Below.refl _ _ | (with_reducible assumption) | refine bel_alloc ?_ _ | refine bel_drew ?_ | refine bel_drewN ?_ _ | refine Below.setCell ?_ (by dsimp only; omega) _ | refine bel_trans (by assumption) ?_))⟩
        case round =>
          obtain ⟨k, m, rfl, rfl, hk, hm, hbel⟩ := hrel
          by_cases hks : k < s.size
          · have hix := fun w => idx_run hks w
            have hat := list_at hks
            generalize hc : s.data.toList.getD k 0 = c at hix hat
            have hks' : (k : Int) < (s.size : Int) := by omega
            by_cases hd : 48 ≤ c.toNat ∧ c.toNat ≤ 57
            · have hm2 := Lib.decFrom_take_lt hm (by omega)
              have hm1 := Lib.decFrom_take s.data.toList k 0 m c (c.toNat - 48) hm hat (by unfold Lib.digitVal; rw [if_pos hd])
              have HM1 := Lib.hid hm1; clear hm hm1
              have HBEL := Lib.hid hbel; clear hbel
              have HAT := Lib.hid hat; clear hat
              have hcn : (0 : Int) ≤ (c.toNat : Int) := by omega
              generalize hcz : (c.toNat : Int) = cz at *
              have hd1 : (48 : Int) ≤ cz := by omega
              have hd2 : cz ≤ 57 := by omega
              have w1 : IntKind.u8.wrap (cz - 48) = cz - 48 := by rw [IntKind.wrap]; simp [IntKind.bits, IntKind.signed]; omega
              have w2 := i64_wrap (r := 10 * (m : Int)) (by omega) (by omega)
              have w3 := i64_wrap (r := 10 * (m : Int) + (cz - 48)) (by omega) (by omega)
              have w4 := i64_wrap (r := (k : Int) + 1) (by omega) (by omega)
              have w5 := i64_wrap (r := cz - 48) (by omega) (by omega)
              go_wp2_with fail
              go_roundw
              case rel => exact ⟨k + 1, m * 10 + (c.toNat - 48), by congr 1; omega, by go_num, by omega, HM1.out, HBEL.out⟩
              case measure => simp [intOf]; omega
            · have hno : Lib.decFrom 0 s.data.toList = none := not_digit hat (by omega)
              have hr : rdI s.data.toList = -1 := by unfold rdI; rw [HR.out, hno]
              have HRR := Lib.hid hr; clear hr hno hm
              have HBEL := Lib.hid hbel; clear hbel
              have HAT := Lib.hid hat; clear hat
              generalize hcz : (c.toNat : Int) = cz at *
              rcases (show cz < 48 ∨ (¬ cz < 48 ∧ 57 < cz) by omega) with h1 | ⟨h1, h2⟩
              · go_wp2_with fail
                go_ret
                exact ret_eq (by rw [HRR.out]; rfl) HBEL.out
              · go_wp2_with fail
                go_ret
                exact ret_eq (by rw [HRR.out]; rfl) HBEL.out
          · have hk' : k = s.size := by omega
            subst hk'
            have e0 : s.data.toList.take s.size = s.data.toList := by rw [← hlen, List.take_length]
            rw [e0] at hm
            have hr : rdI s.data.toList = m := by unfold rdI; rw [HR.out, hm]
            have HRR := Lib.hid hr; clear hr hm e0
            have HBEL := Lib.hid hbel; clear hbel
            go_wp2_with fail
            go_ret
            exact ret_eq (by rw [HRR.out]; rfl) HBEL.out
  · have hi0 : inB (s.size : Int) 1 6 = false := by
      cases h : inB (s.size : Int) 1 6
      · rfl
      · have := inB_true.1 h; omega
    have hr : rdI s.data.toList = -1 := by
      unfold rdI rdL
      rw [if_neg (by rintro ⟨h1, h2, _⟩; omega)]
    rw [hr]
    clear hr hlen
    go_enter Tryd.func39, Tryd.ntmps39
    go_wp2_with (go_at_call 26; refine (l1In_known hi0 _).mono ?_; rintro e w' ⟨rfl, rfl⟩)
    go_ret
    exact ret_eq (by rfl) (by repeat (first | exact Below.refl _ _ | (with_reducible assumption) | refine bel_alloc ?_ _ | refine bel_drew ?_ | refine bel_drewN ?_ _ | refine Below.setCell ?_ (by dsimp only; omega) _ | refine bel_trans (by assumption) ?_))
theorem head_at {s : ByteArray} (h : 0 < s.size) : s.data.toList.head? = some (s.data.toList.getD 0 0) := by
  rw [← list_at h, List.head?_eq_getElem?]
theorem tail_at (s : ByteArray) : (s.extract 1 s.size).data.toList = s.data.toList.tail := by
  rw [ext_list]
  have hlen : s.data.toList.length = s.size := by simp
  rw [← hlen, List.take_length, List.drop_one]
set_option maxHeartbeats 4000000 in
theorem ecSigned_any (s : ByteArray) (w : World) (hs : s.size ≤ 1048576) :
    Calls Tryd.prog 19 #[.string s] w (Ret (.int .i64 (sgL s.data.toList)) w) := by
  have hr := sgL_rd s.data.toList
  have e45 : ((45 : UInt8).toNat : Int) = 45 := rfl
  by_cases h0 : 0 < s.size
  · have h0' : (0 : Int) < (s.size : Int) := by omega
    have hix0 := fun w => idx_run (s := s) (k := 0) h0 w
    rw [Int.natCast_zero] at hix0
    rw [head_at h0] at hr
    generalize s.data.toList.getD 0 0 = c at *
    by_cases hc : c = 45
    · subst hc
      rw [e45] at hix0
      rw [if_pos rfl] at hr
      have hrd := fun w => l1Read_any (s.extract 1 s.size) w (by rw [ByteArray.size_extract]; omega)
      rw [tail_at] at hrd
      obtain ⟨b1, b2⟩ := rdI_bd (l := s.data.toList.tail)
      generalize rdI s.data.toList.tail = r at *
      rw [hr]; clear hr
      have wn := i64_wrap (r := -r) (by omega) (by omega)
      by_cases hn : r < 0
      · rw [if_pos hn]
        go_enter Tryd.func19, Tryd.ntmps19
        go_wp2_with fail
        refine (hrd _).mono ?_; rintro e w1 ⟨rfl, hb1⟩
        go_wp2_with fail
        go_ret
        exact ret_eq (by rfl) (by repeat (first | exact Below.refl _ _ | (with_reducible assumption) | refine bel_alloc ?_ _ | refine bel_drew ?_ | refine bel_drewN ?_ _ | refine Below.setCell ?_ (by dsimp only; omega) _ | refine bel_trans (by assumption) ?_))
      · rw [if_neg hn]
        go_enter Tryd.func19, Tryd.ntmps19
        go_wp2_with fail
        refine (hrd _).mono ?_; rintro e w1 ⟨rfl, hb1⟩
        go_wp2_with fail
        go_ret
        exact ret_eq (by rfl) (by repeat (first | exact Below.refl _ _ | (with_reducible assumption) | refine bel_alloc ?_ _ | refine bel_drew ?_ | refine bel_drewN ?_ _ | refine Below.setCell ?_ (by dsimp only; omega) _ | refine bel_trans (by assumption) ?_))
    · have hc' : ((c.toNat : Int) == 45) = false := by
        rw [beq_eq_false_iff_ne]; intro e
        exact hc (UInt8.toNat_inj.1 (show c.toNat = (45 : UInt8).toNat by omega))
      rw [if_neg (by simpa using hc)] at hr
      have hrd := fun w => l1Read_any s w hs
      obtain ⟨b1, b2⟩ := rdI_bd (l := s.data.toList)
      generalize rdI s.data.toList = r at *
      generalize (c.toNat : Int) = cz at *
      rw [hr]; clear hr
      by_cases hn : r < 0
      · rw [if_pos hn]
        go_enter Tryd.func19, Tryd.ntmps19
        go_wp2_with fail
        refine (hrd _).mono ?_; rintro e w1 ⟨rfl, hb1⟩
        go_wp2_with fail
        go_ret
        exact ret_eq (by rfl) (by repeat (first | exact Below.refl _ _ | (with_reducible assumption) | refine bel_alloc ?_ _ | refine bel_drew ?_ | refine bel_drewN ?_ _ | refine Below.setCell ?_ (by dsimp only; omega) _ | refine bel_trans (by assumption) ?_))
      · rw [if_neg hn]
        go_enter Tryd.func19, Tryd.ntmps19
        go_wp2_with fail
        refine (hrd _).mono ?_; rintro e w1 ⟨rfl, hb1⟩
        go_wp2_with fail
        go_ret
        exact ret_eq (by rfl) (by repeat (first | exact Below.refl _ _ | (with_reducible assumption) | refine bel_alloc ?_ _ | refine bel_drew ?_ | refine bel_drewN ?_ _ | refine Below.setCell ?_ (by dsimp only; omega) _ | refine bel_trans (by assumption) ?_))
  · have h0' : ¬ (0 : Int) < (s.size : Int) := by omega
    have hl : s.data.toList = [] := List.length_eq_zero_iff.1 (by have h9 : s.data.toList.length = s.size := by simp
                                                                  omega)
    have hrd := fun w => l1Read_any s w hs
    rw [hl] at hrd
    rw [hl]
    rw [show rdI [] = -1 from rfl] at hrd
    clear hr
    go_enter Tryd.func19, Tryd.ntmps19
    go_wp2_with fail
    refine (hrd _).mono ?_; rintro e w1 ⟨rfl, hb1⟩
    go_wp2_with fail
    go_ret
    exact ret_eq (by rfl) (by repeat (first | exact Below.refl _ _ | (with_reducible assumption) | refine bel_alloc ?_ _ | refine bel_drew ?_ | refine bel_drewN ?_ _ | refine Below.setCell ?_ (by dsimp only; omega) _ | refine bel_trans (by assumption) ?_))
end Go.Proofs.YtadijbaphfgeiaaDoor
