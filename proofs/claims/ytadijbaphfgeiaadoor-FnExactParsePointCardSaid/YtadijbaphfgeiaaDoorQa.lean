/- Qa: contracts: both readers of a fraction's text. No conditions. -/
import Derived.Test.YtadijbaphfgeiaaDoorPc
import Derived.Test.YtadijbaphfgeiaaDoorPq
import Derived.Test.YtadijbaphfgeiaaDoorTrm
namespace Go.Proofs.YtadijbaphfgeiaaDoor
open Go.RowKit

/-- the reference's reading of a fraction's part. -/
def rdG (l : List UInt8) : Option Nat := if 1 ≤ l.length ∧ l.length ≤ 10 ∧ ¬ (l.head? = some 48 ∧ 1 < l.length) then Lib.decFrom 0 l else none
def rdF (l : List UInt8) : Int := match rdG l with | some m => m | none => -1
theorem rdG_dec {u : Nat} (h : u < 10000000000) : rdG (Lib.decDigits u) = some u := by
  have h1 := dec_length 9 u h
  have h2 : 1 ≤ (Lib.decDigits u).length := by
    rcases Nat.eq_zero_or_pos (Lib.decDigits u).length with h' | h'
    · exact absurd (List.length_eq_zero_iff.1 h') (dec_ne u)
    · exact h'
  have h6 : ¬ ((Lib.decDigits u).head? = some 48 ∧ 1 < (Lib.decDigits u).length) := by
    rintro ⟨h3, h4⟩
    obtain rfl := dec_head u h3
    have h5 := dec_length 0 0 (by decide)
    omega
  unfold rdG
  rw [if_pos ⟨h2, h1, h6⟩, decFrom_dec]
theorem rdF_dec {u : Nat} (h : u < 10000000000) : rdF (Lib.decDigits u) = u := by unfold rdF; rw [rdG_dec h]
theorem rdF_bd {l : List UInt8} : -1 ≤ rdF l ∧ rdF l ≤ 100000000000 := by
  unfold rdF
  cases h : rdG l with
  | none => exact ⟨by decide, by decide⟩
  | some m =>
    unfold rdG at h
    split at h
    · rename_i hc
      have h1 := Lib.decFrom_lt l 0 m h
      have h2 := Nat.pow_le_pow_right (n := 10) (by decide) hc.2.1
      have e : (10 : Nat) ^ 10 = 10000000000 := by decide
      show -1 ≤ (m : Int) ∧ (m : Int) ≤ 100000000000
      omega
    · cases h
/-- the reference's reading of a numerator. -/
def sgF (l : List UInt8) : Int := if l.head? = some 45 then -rdF l.tail else rdF l
theorem sgF_int {n : Int} (h0 : -10000000000 < n) (h1 : n < 10000000000) : sgF (intS n).data.toList = n := by
  rw [intS_list]
  unfold Lib.itoa sgF
  by_cases h : n < 0
  · rw [if_pos h, List.head?_cons, if_pos rfl, List.tail_cons, rdF_dec (by omega)]
    omega
  · rw [if_neg h]
    obtain ⟨c, r, e, hc, _⟩ := dec_head_ne n.toNat
    have hr := rdF_dec (u := n.toNat) (by omega)
    rw [e] at hr ⊢
    rw [List.head?_cons, if_neg (by simpa using hc), hr]
    omega
theorem rdF_int {n : Int} (h0 : 0 ≤ n) (h1 : n < 10000000000) : rdF (intS n).data.toList = n := by
  rw [intS_list]
  unfold Lib.itoa
  rw [if_neg (by omega), rdF_dec (by omega)]
  omega
theorem atoi_int10 {n : Int} (h0 : -10000000000 < n) (h1 : n < 10000000000) : Lib.atoiAll (intS n).data.toList = .ok n := by
  have hl := int_size (n := n) (k := 9) (by omega)
  rw [Lib.atoiAll_short _ (by omega), intS_list]
  have hne : ∀ u, (Lib.decDigits u).isEmpty = false := fun u => by
    cases h : Lib.decDigits u with
    | nil => exact absurd h (dec_ne u)
    | cons _ _ => rfl
  unfold Lib.itoa
  by_cases h : n < 0
  · rw [if_pos h, atoi_cons, if_pos (by rfl)]
    unfold Lib.decNat
    rw [hne, if_neg (by decide), decFrom_dec]
    show Lib.NumEnd.ok (-(n.natAbs : Int)) = _
    congr 1; omega
  · rw [if_neg h]
    obtain ⟨c, r, e, hc, hc', _⟩ := dec_head_ne n.toNat
    have hd : Lib.decNat (c :: r) = some n.toNat := by
      rw [← e]; unfold Lib.decNat
      rw [hne, if_neg (by decide), decFrom_dec]
    rw [e, atoi_cons, if_neg (by simpa using hc), if_neg (by simpa using hc'), hd]
    show Lib.NumEnd.ok (n.toNat : Int) = _
    congr 1; omega
theorem atoi_yes10 {n : Int} (h0 : -10000000000 < n) (h1 : n < 10000000000) (w : World) (ht : LibT w) : Calls Tryd.prog 22 #[.string (intS n)] w (Ret (.tuple #[.int .i64 n, .nilIface]) w) := by
  have hs := int_size (n := n) (k := 9) (by omega)
  have e : (intS n).data.toList.length = (intS n).size := by simp
  refine (atoi_any (intS n) w (by omega) ht).mono ?_
  rintro e w' ⟨v, ev, rfl, hv, _, hb⟩
  rw [atoi_int10 h0 h1] at hv
  rcases hv with ⟨rfl, h⟩ | ⟨_, h⟩
  · injection h with h
    subst h
    exact ⟨rfl, hb⟩
  · exact absurd rfl (h n)
theorem frT_list (n d : Int) : (frT n d).data.toList = if d = 1 then (intS n).data.toList else (intS n).data.toList ++ 47 :: (intS d).data.toList := by
  unfold frT
  split
  · rfl
  · simp
theorem frT_len {n d : Int} (h : fracB n d = true) : (frT n d).size ≤ 22 := by
  obtain ⟨h1, h2, h3, h4⟩ := frac_bd h
  have e : (frT n d).data.toList.length = (frT n d).size := by simp
  have k1 : (intS n).data.toList.length ≤ 11 := by
    have := int_size (n := n) (k := 9) (by omega)
    omega
  have k2 : (intS d).data.toList.length ≤ 10 := by
    rw [intS_list]; unfold Lib.itoa
    rw [if_neg (by omega)]
    have := dec_length 9 d.toNat (by omega)
    omega
  rw [← e, frT_list]
  split
  · omega
  · rw [List.length_append, List.length_cons]; omega
/-- the fraction whose text it is, or none. -/
noncomputable def fpV (s : ByteArray) : Value := match pcs 47 s.data.toList with
  | [x] => if fracB (sgF x) 1 = true ∧ frT (sgF x) 1 = s then .tuple #[.agg #[.int .i64 (sgF x), .int .i64 1], .bool true] else .tuple #[.agg #[.int .i64 0, .int .i64 0], .bool false]
  | [x, y] => if fracB (sgF x) (rdF y) = true ∧ frT (sgF x) (rdF y) = s then .tuple #[.agg #[.int .i64 (sgF x), .int .i64 (rdF y)], .bool true] else .tuple #[.agg #[.int .i64 0, .int .i64 0], .bool false]
  | _ => .tuple #[.agg #[.int .i64 0, .int .i64 0], .bool false]
theorem no47 (n : Int) : (47 : UInt8) ∉ (intS n).data.toList := int_none (.inr (.inr (.inr (by decide)))) n
theorem fpV_yes {n d : Int} (hc : fracB n d = true) : fpV (frT n d) = .tuple #[.agg #[.int .i64 n, .int .i64 d], .bool true] := by
  obtain ⟨h1, h2, h3, h4⟩ := frac_bd hc
  unfold fpV
  by_cases hd : d = 1
  · subst hd
    rw [frT_list, if_pos rfl, pcs_none (no47 n)]
    simp only
    rw [sgF_int (by omega) (by omega), if_pos ⟨hc, rfl⟩]
  · rw [frT_list, if_neg hd, pcs_two (no47 n) (no47 d)]
    simp only
    rw [sgF_int (by omega) (by omega), rdF_int (by omega) (by omega), if_pos ⟨hc, rfl⟩]
theorem fpV_no {s : ByteArray} (h : ∀ n d, fracB n d = true → frT n d ≠ s) : fpV s = .tuple #[.agg #[.int .i64 0, .int .i64 0], .bool false] := by
  unfold fpV
  split
  · rw [if_neg (fun ⟨h1, h2⟩ => h _ _ h1 h2)]
  · rw [if_neg (fun ⟨h1, h2⟩ => h _ _ h1 h2)]
  · rfl
theorem fpV_parts (s : ByteArray) : ∃ n d ok, fpV s = .tuple #[.agg #[.int .i64 n, .int .i64 d], .bool ok] ∧ ((ok = true ∧ fracB n d = true ∧ frT n d = s) ∨ (ok = false ∧ n = 0 ∧ d = 0)) := by
  by_cases h : ∃ n d, fracB n d = true ∧ frT n d = s
  · obtain ⟨n, d, hc, rfl⟩ := h
    exact ⟨n, d, true, fpV_yes hc, .inl ⟨rfl, hc, rfl⟩⟩
  · exact ⟨0, 0, false, fpV_no (fun n d h1 h2 => h ⟨n, d, h1, h2⟩), .inr ⟨rfl, rfl, rfl⟩⟩
set_option maxHeartbeats 4000000 in
theorem frRead_any (s : ByteArray) (w : World) (hs : s.size ≤ 1048576) :
    Calls Tryd.prog 46 #[.string s] w (Ret (.int .i64 (rdF s.data.toList)) w) := by
  have hlen : s.data.toList.length = s.size := by simp
  by_cases hin : 1 ≤ s.size ∧ s.size ≤ 10
  · have hi1 : inB (s.size : Int) 1 10 = true := inB_true.2 ⟨by omega, by omega⟩
    have hix0 := fun w => idx_run (s := s) (k := 0) (by omega) w
    have hat0 := list_at (s := s) (k := 0) (by omega)
    rw [Int.natCast_zero] at hix0
    generalize hc0 : s.data.toList.getD 0 0 = c0 at hix0 hat0
    have hh : s.data.toList.head? = some c0 := by rw [← hat0, List.head?_eq_getElem?]
    by_cases hz : c0 = 48 ∧ 1 < s.size
    · have hr : rdF s.data.toList = -1 := by
        unfold rdF rdG
        rw [if_neg (by rintro ⟨_, _, h3⟩; exact h3 ⟨by rw [hh, hz.1], by omega⟩)]
      rw [hr]
      obtain ⟨rfl, hz2⟩ := hz
      have e48 : ((48 : UInt8).toNat : Int) = 48 := rfl
      rw [e48] at hix0
      have hz2' : (1 : Int) < (s.size : Int) := by omega
      clear hc0 hat0 hh hr hlen
      go_enter Tryd.func46, Tryd.ntmps46
      go_wp2_with (go_at_call 26; refine (l1In_known hi1 _).mono ?_; rintro e w' ⟨rfl, rfl⟩)
      go_ret
      exact ret_eq (by rfl) (by repeat (first | exact Below.refl _ _ | (with_reducible assumption) | refine bel_alloc ?_ _ | refine bel_drew ?_ | refine bel_drewN ?_ _ | refine Below.setCell ?_ (by dsimp only; omega) _ | refine bel_trans (by assumption) ?_))
    · have hr : rdG s.data.toList = Lib.decFrom 0 s.data.toList := by
        unfold rdG
        rw [if_pos ⟨by omega, by omega, fun ⟨h3, h4⟩ => hz ⟨by rw [hh] at h3; exact Option.some.inj h3, by omega⟩⟩]
      have hz' : ((c0.toNat : Int) == 48) = false ∨ ((c0.toNat : Int) = 48 ∧ ¬ (1 : Int) < (s.size : Int)) := by
        by_cases h8 : (c0.toNat : Int) = 48
        · refine .inr ⟨h8, fun h => hz ⟨UInt8.toNat_inj.1 (show c0.toNat = (48 : UInt8).toNat from ?_), by omega⟩⟩
          have e2 : (48 : UInt8).toNat = 48 := rfl
          omega
        · exact .inl (by simpa using h8)
      have hs0 : s.size ≤ 10 := hin.2
      have HR := Lib.hid hr; clear hr hz hh hat0 hc0 hin
      generalize (c0.toNat : Int) = z0 at *
      rcases hz' with hz' | ⟨rfl, hz'⟩
      all_goals
        go_enter Tryd.func46, Tryd.ntmps46
        go_wp2_with (go_at_call 26; refine (l1In_known hi1 _).mono ?_; rintro e w' ⟨rfl, rfl⟩)
        clear hix0 hi1
        go_loopw [3, 4] (fun n i wr => ∃ k m : Nat, n = .int .i64 m ∧ i = .int .i64 k ∧ k ≤ s.size ∧ Lib.decFrom 0 (s.data.toList.take k) = some m ∧ Below w.heap.size w wr) (fun _ i _ => s.size - (intOf i).toNat)
        case atStart => exact ⟨0, 0, rfl, rfl, Nat.zero_le _, rfl, (by repeat (first | exact Below.refl _ _ | (with_reducible assumption) | refine bel_alloc ?_ _ | refine bel_drew ?_ | refine bel_drewN ?_ _ | refine Below.setCell ?_ (by dsimp only; omega) _ | refine bel_trans (by assumption) ?_))⟩
        case round =>
          obtain ⟨k, m, rfl, rfl, hk, hm, hbel⟩ := hrel
          by_cases hks : k < s.size
          · have hix := fun w => idx_run hks w
            have hat := list_at hks
            generalize hc : s.data.toList.getD k 0 = c at hix hat
            have hks' : (k : Int) < (s.size : Int) := by omega
            by_cases hd : 48 ≤ c.toNat ∧ c.toNat ≤ 57
            · have hm2 := Lib.decFrom_take_lt hm (by omega)
              have hm1 := Lib.decFrom_take s.data.toList k 0 m c (c.toNat - 48) hm hat (by unfold Lib.digitVal; rw [if_pos hd])
              have HM1 := Lib.hid hm1; clear hm hm1
              have HBEL := Lib.hid hbel; clear hbel
              have HAT := Lib.hid hat; clear hat
              have hcn : (0 : Int) ≤ (c.toNat : Int) := by omega
              generalize hcz : (c.toNat : Int) = cz at *
              have hd1 : (48 : Int) ≤ cz := by omega
              have hd2 : cz ≤ 57 := by omega
              have w1 : IntKind.u8.wrap (cz - 48) = cz - 48 := by rw [IntKind.wrap]; simp [IntKind.bits, IntKind.signed]; omega
              have w2 := i64_wrap (r := 10 * (m : Int)) (by omega) (by omega)
              have w3 := i64_wrap (r := 10 * (m : Int) + (cz - 48)) (by omega) (by omega)
              have w4 := i64_wrap (r := (k : Int) + 1) (by omega) (by omega)
              have w5 := i64_wrap (r := cz - 48) (by omega) (by omega)
              go_wp2_with fail
              go_roundw
              case rel => exact ⟨k + 1, m * 10 + (c.toNat - 48), by congr 1; omega, by go_num, by omega, HM1.out, HBEL.out⟩
              case measure => simp [intOf]; omega
            · have hno : Lib.decFrom 0 s.data.toList = none := not_digit hat (by omega)
              have hr : rdF s.data.toList = -1 := by unfold rdF; rw [HR.out, hno]
              have HRR := Lib.hid hr; clear hr hno hm
              have HBEL := Lib.hid hbel; clear hbel
              have HAT := Lib.hid hat; clear hat
              generalize hcz : (c.toNat : Int) = cz at *
              rcases (show cz < 48 ∨ (¬ cz < 48 ∧ 57 < cz) by omega) with h1 | ⟨h1, h2⟩
              · go_wp2_with fail
                go_ret
                exact ret_eq (by rw [HRR.out]; rfl) HBEL.out
              · go_wp2_with fail
                go_ret
                exact ret_eq (by rw [HRR.out]; rfl) HBEL.out
          · have hk' : k = s.size := by omega
            subst hk'
            have e0 : s.data.toList.take s.size = s.data.toList := by rw [← hlen, List.take_length]
            rw [e0] at hm
            have hr : rdF s.data.toList = m := by unfold rdF; rw [HR.out, hm]
            have HRR := Lib.hid hr; clear hr hm e0
            have HBEL := Lib.hid hbel; clear hbel
            go_wp2_with fail
            go_ret
            exact ret_eq (by rw [HRR.out]; rfl) HBEL.out
  · have hi0 : inB (s.size : Int) 1 10 = false := by
      cases h : inB (s.size : Int) 1 10
      · rfl
      · have := inB_true.1 h; omega
    have hr : rdF s.data.toList = -1 := by
      unfold rdF rdG
      rw [if_neg (by rintro ⟨h1, h2, _⟩; omega)]
    rw [hr]
    clear hr hlen
    go_enter Tryd.func46, Tryd.ntmps46
    go_wp2_with (go_at_call 26; refine (l1In_known hi0 _).mono ?_; rintro e w' ⟨rfl, rfl⟩)
    go_ret
    exact ret_eq (by rfl) (by repeat (first | exact Below.refl _ _ | (with_reducible assumption) | refine bel_alloc ?_ _ | refine bel_drew ?_ | refine bel_drewN ?_ _ | refine Below.setCell ?_ (by dsimp only; omega) _ | refine bel_trans (by assumption) ?_))
/-- a box of two values that may be written. -/
def RV (B : Nat) (x y : Value) (w : World) : Prop := B < w.heap.size ∧ w.cell? ⟨B, 0, none⟩ = some x ∧ w.cell? ⟨B, 1, none⟩ = some y ∧ w.frozen? ⟨B, 0, none⟩ = false ∧ w.frozen? ⟨B, 1, none⟩ = false
theorem RV.keep {B : Nat} {x y : Value} {w w' : World} (h : RV B x y w) (hb : Below w.heap.size w w') : RV B x y w' := by
  obtain ⟨h0, h1, h2, h3, h4⟩ := h
  exact ⟨Nat.lt_of_lt_of_le h0 hb.size, (hb.cell (p := ⟨B, 0, none⟩) h0).trans h1, (hb.cell (p := ⟨B, 1, none⟩) h0).trans h2, (hb.frozen (p := ⟨B, 0, none⟩) h0).trans h3, (hb.frozen (p := ⟨B, 1, none⟩) h0).trans h4⟩
theorem RV.mk (w : World) (x y : Value) (t : TypeId) : RV w.heap.size x y (w.alloc (.cells #[x, y] t)) := ⟨by simp, by simp [go_sem], by simp [go_sem], by simp [go_sem], by simp [go_sem]⟩
theorem RV.set0 {B : Nat} {x y : Value} {w : World} (h : RV B x y w) (v : Value) : RV B v y (w.setCell ⟨B, 0, none⟩ v) := by
  obtain ⟨h0, h1, h2, h3, h4⟩ := h
  exact ⟨by simp [h0], by simp [go_sem, *], by simp [go_sem, *], by simp [go_sem, *], by simp [go_sem, *]⟩
theorem RV.set1 {B : Nat} {x y : Value} {w : World} (h : RV B x y w) (v : Value) : RV B x v (w.setCell ⟨B, 1, none⟩ v) := by
  obtain ⟨h0, h1, h2, h3, h4⟩ := h
  exact ⟨by simp [h0], by simp [go_sem, *], by simp [go_sem, *], by simp [go_sem, *], by simp [go_sem, *]⟩
theorem RV.other {B C k : Nat} {x y : Value} {w : World} (h : RV B x y w) (hne : B ≠ C) (v : Value) : RV B x y (w.setCell ⟨C, k, none⟩ v) := by
  obtain ⟨h0, h1, h2, h3, h4⟩ := h
  exact ⟨by simp [h0], by simp [go_sem, *], by simp [go_sem, *], by simp [go_sem, *], by simp [go_sem, *]⟩
theorem bel_set {w a : World} {B o : Nat} (h : Below w.heap.size w a) (hle : w.heap.size ≤ B) (v : Value) : Below w.heap.size w (a.setCell ⟨B, o, none⟩ v) := Below.setCell h hle v
theorem cell_other {w : World} {g k B o : Nat} {x v : Value} (h : w.cell? ⟨g, o, none⟩ = some x) (hne : g ≠ B) : (w.setCell ⟨B, k, none⟩ v).cell? ⟨g, o, none⟩ = some x := by simp [go_sem, *]
set_option maxHeartbeats 8000000 in
theorem frParse_any (s : ByteArray) (w : World) (hs : s.size ≤ 1048576) :
    Calls Tryd.prog 28 #[.string s] w (Ret (fpV s) w) := by
  have hsp := fun w => l1Split_any s 47 w hs
  have HS := Lib.hid hsp; clear hsp
  go_enter Tryd.func28, Tryd.ntmps28
  go_wp2_with fail
  have hbW : Below w.heap.size w (w.alloc (.cells #[.int .i64 0, .int .i64 0] 52)) := bel_alloc (Below.refl _ _) _
  have RB0 := Lib.hid (RV.mk w (.int .i64 0) (.int .i64 0) 52)
  generalize w.alloc (.cells #[.int .i64 0, .int .i64 0] 52) = W at *
  obtain ⟨B0, hB0⟩ : ∃ B0, w.heap.size = B0 := ⟨_, rfl⟩
  rw [hB0] at RB0 ⊢
  have hle : w.heap.size ≤ B0 := by rw [hB0]; exact Nat.le_refl _
  have HLE := Lib.hid hle; clear hB0 hle
  have HW := Lib.hid hbW; clear hbW
  refine (HS.out _).mono ?_; rintro e w1 ⟨v, outs, rfl, ho, hown, hol, hb1⟩
  have RB1 := Lib.hid (RB0.out.keep hb1)
  have hbw : B0 < W.heap.size := RB0.out.1
  have H1 := Lib.hid (bel_trans hb1 HW.out); clear hb1 HW RB0 HS
  have hpos : outs.length ≠ 0 := by
    intro h0
    have : outs = [] := List.length_eq_zero_iff.1 h0
    subst this
    cases hl : s.data.toList with
    | nil => rw [hl] at ho; cases ho
    | cons c l =>
      rw [hl, pcs_cons] at ho
      split at ho
      · cases ho
      · split at ho <;> cases ho
  obtain ⟨n, hn⟩ : ∃ n, outs.length = n := ⟨_, rfl⟩
  rcases hown.2 with ⟨_, h⟩ | ⟨g, cap, cur, rfl, hg, hh, hcap, _⟩
  · exact absurd h hpos
  rw [hn]
  by_cases h12 : 22 < s.size
  · have hv : fpV s = .tuple #[.agg #[.int .i64 0, .int .i64 0], .bool false] := fpV_no fun a b hc e => by
      have := frT_len hc
      rw [e] at this; omega
    have h12' : (22 : Int) < (s.size : Int) := by omega
    obtain ⟨q0, q1, q2, q3, q4⟩ := RB1.out
    have HV := Lib.hid hv
    clear hv hown hh ho hol hpos
    go_wp2_with fail
    refine bodyPost_ret (by simp (maxDischargeDepth := 3) [results, Tryd.results28, go_sem, *]; try rfl) rfl ?_
    exact ret_eq (by rw [HV.out]) (Below.setCell (Below.setCell H1.out HLE.out _) HLE.out _)
  have h12' : ¬ (22 : Int) < (s.size : Int) := by omega
  have hng : g ≠ B0 := by omega
  by_cases hn2 : 2 < n
  · have hv : fpV s = .tuple #[.agg #[.int .i64 0, .int .i64 0], .bool false] := by
      unfold fpV
      rw [← ho]
      match outs, hn with
      | [], h => exact absurd rfl hpos
      | [_], h => simp at h; omega
      | [_, _], h => simp at h; omega
      | _ :: _ :: _ :: _, _ => rfl
    have hn2' : (2 : Int) < (n : Int) := by omega
    obtain ⟨q0, q1, q2, q3, q4⟩ := RB1.out
    have HV := Lib.hid hv
    clear hv hown hh ho hol hpos
    go_wp2_with fail
    refine bodyPost_ret (by simp (maxDischargeDepth := 3) [results, Tryd.results28, go_sem, *]; try rfl) rfl ?_
    exact ret_eq (by rw [HV.out]) (Below.setCell (Below.setCell H1.out HLE.out _) HLE.out _)
  have hlt : g < w1.heap.size := by
    rcases Nat.lt_or_ge g w1.heap.size with h' | h'
    · exact h'
    · rw [Array.getElem?_eq_none h'] at hh; cases hh
  have z0 := hown.cellAt 0 (by omega)
  have z1' := hown.cellAt 1
  obtain ⟨X, rest, rfl⟩ : ∃ X rest, outs = X :: rest := by
    match outs, hpos with
    | X :: rest, _ => exact ⟨X, rest, rfl⟩
  replace z0 : w1.cell? ⟨g, 0, none⟩ = some (.string X) := z0
  have hl : s.data.toList.length = s.size := by simp
  have hXs : X.size ≤ 1048576 := by
    have hl1 : X.data.toList.length = X.size := by simp
    have k1 := pcs_len 47 s.data.toList X.data.toList (by rw [← ho]; simp)
    omega
  have HBW := Lib.hid hbw
  have HLT := Lib.hid hlt
  clear hbw hcap hpos hh hg
  have key : n = 1 ∨ n = 2 := by simp at hn; omega
  by_cases hneg : X.data.toList.head? = some 45
  · rcases key with rfl | rfl
    · obtain rfl : rest = [] := List.length_eq_zero_iff.1 (by simpa using hn)
      have hv : fpV s = if fracB (sgF X.data.toList) 1 = true ∧ frT (sgF X.data.toList) 1 = s then .tuple #[.agg #[.int .i64 (sgF X.data.toList), .int .i64 1], .bool true] else .tuple #[.agg #[.int .i64 0, .int .i64 0], .bool false] := by
        unfold fpV
        rw [← ho]
        rfl
      clear hown ho hol z1' hn hl
      have hB := @rdF_bd X.data.toList
      have hX0 : 0 < X.size := by
        rcases Nat.eq_zero_or_pos X.size with h' | h'
        · have hl1 : X.data.toList.length = X.size := by simp
          have : X.data.toList = [] := List.length_eq_zero_iff.1 (by omega)
          rw [this] at hneg; cases hneg
        · exact h'
      have hX0' : (0 : Int) < (X.size : Int) := by omega
      have hix := fun w => idx_run (s := X) (k := 0) hX0 w
      rw [Int.natCast_zero, show X.data.toList.getD 0 0 = 45 from by have := head_at hX0; rw [hneg] at this; exact (Option.some.inj this).symm] at hix
      rw [show ((45 : UInt8).toNat : Int) = 45 from rfl] at hix
      have hrd := fun w => frRead_any (X.extract 1 X.size) w (by rw [ByteArray.size_extract]; omega)
      rw [tail_at] at hrd
      have hsg : sgF X.data.toList = -rdF X.data.toList.tail := by unfold sgF; rw [if_pos hneg]
      have hT := @rdF_bd X.data.toList.tail
      rw [hsg] at hv
      have wn := i64_wrap (r := -rdF X.data.toList.tail) (by omega) (by omega)
      generalize rdF X.data.toList.tail = r at *
      have HRD := Lib.hid hrd; clear hrd hsg hneg hT
      have HV := Lib.hid hv; clear hv
      have HX := Lib.hid (fun w => frRead_any X w hXs)
      generalize hN0 : rdF X.data.toList = r0 at *
      go_wp2_with fail
      refine (HX.out _).mono ?_; rintro e w2 ⟨rfl, hb2⟩
      have hlt2 : w1.heap.size ≤ w2.heap.size := hb2.size
      have c2 := (hb2.cell (p := ⟨g, 0, none⟩) HLT.out).trans z0
      have RB2 := Lib.hid (RB1.out.keep hb2)
      have H2 := Lib.hid (bel_trans hb2 H1.out)
      have hg2 : g < w2.heap.size := Nat.lt_of_lt_of_le HLT.out hb2.size
      have hg3 : ¬ g = w2.heap.size := by omega
      have hg4 : ¬ w2.heap.size = g := by omega
      clear hb2 z0 RB1 H1 HX
      go_wp2_with fail
      have RV3 := Lib.hid (RV.mk w2 (.int .i64 r0) (.int .i64 1) 52)
      have RB3 := Lib.hid (RB2.out.keep (bel_alloc (Below.refl _ _) (.cells #[.int .i64 r0, .int .i64 1] 52)))
      have H3 := Lib.hid (bel_alloc H2.out (.cells #[.int .i64 r0, .int .i64 1] 52))
      have HBN : Hid (B0 ≠ w2.heap.size) := Lib.hid (by have h8 := RB2.out.1; omega)
      have HLB := Lib.hid H2.out.size
      have HGB := Lib.hid hg3
      clear c2 hg2 hg3 hg4 RB2 H2 hlt2
      generalize w2.alloc (.cells #[.int .i64 r0, .int .i64 1] 52) = w3 at *
      generalize w2.heap.size = B at *
      refine (HRD.out _).mono ?_; rintro e w4 ⟨rfl, hb4⟩
      have RV4 := Lib.hid (RV3.out.keep hb4)
      have RB4 := Lib.hid (RB3.out.keep hb4)
      have H4 := Lib.hid (bel_trans hb4 H3.out)
      clear hb4 RV3 RB3 H3 HRD
      obtain ⟨q0, q1, q2, q3, q4⟩ := RV4.out
      go_wp2_with fail
      clear q0 q1 q2 q3 q4 hix
      have RVP := Lib.hid (RV4.out.set0 (.int .i64 (-r)))
      have RBP := Lib.hid (RB4.out.other (k := 0) HBN.out (.int .i64 (-r)))
      have HP := Lib.hid (bel_set (o := 0) H4.out HLB.out (.int .i64 (-r)))
      clear RV4 RB4 H4
      generalize w4.setCell ⟨B, 0, none⟩ (.int .i64 (-r)) = wp at *
      have RVF := RVP
      have RBF := RBP
      have HF := HP
      clear RVP RBP HP
      cases hfr : fracB (-r) 1
      · rw [hfr] at HV
        refine (frGood_any _ _ _).mono ?_; rintro e w7 ⟨rfl, hb7⟩
        rw [hfr]
        have H7 := Lib.hid (bel_trans hb7 HF.out)
        obtain ⟨t0, t1, t2, t3, t4⟩ := RBF.out.keep hb7
        clear hb7 RVF
        go_wp2_with fail
        refine bodyPost_ret (by simp (maxDischargeDepth := 3) [results, Tryd.results28, go_sem, *]; try rfl) rfl ?_
        exact ret_eq (by rw [HV.out]; rfl) (Below.setCell (Below.setCell H7.out HLE.out _) HLE.out _)
      · obtain ⟨k1, k2, k3, k4⟩ := frac_bd hfr
        rw [hfr] at HV
        have ht := fun w => frText_any (-r) 1 w k3 k4 k1 k2
        generalize frT (-r) 1 = T at *
        have HTX := Lib.hid ht; clear ht k1 k2 k3 k4
        refine (frGood_any _ _ _).mono ?_; rintro e w7 ⟨rfl, hb7⟩
        rw [hfr]
        clear hfr
        have H7 := Lib.hid (bel_trans hb7 HF.out)
        have RB7 := Lib.hid (RBF.out.keep hb7)
        have RV7 := Lib.hid (RVF.out.keep hb7)
        clear hb7 RVF RBF HF
        obtain ⟨q0, q1, q2, q3, q4⟩ := RV7.out
        go_wp2_with fail
        refine (HTX.out _).mono ?_; rintro e w8 ⟨rfl, hb8⟩
        have H8 := Lib.hid (bel_trans hb8 H7.out)
        clear q0 q1 q2 q3 q4
        obtain ⟨q0, q1, q2, q3, q4⟩ := RV7.out.keep hb8
        obtain ⟨t0, t1, t2, t3, t4⟩ := RB7.out.keep hb8
        clear hb8 RV7 RB7 H7
        by_cases hT : T = s
        · subst hT
          go_wp2_with fail
          refine bodyPost_ret (by simp (maxDischargeDepth := 3) [results, Tryd.results28, go_sem, *]; try rfl) rfl ?_
          exact ret_eq (by rw [HV.out, if_pos (by simp)]) (Below.setCell (Below.setCell H8.out HLE.out _) HLE.out _)
        · have hTs := str_ne hT
          go_wp2_with fail
          refine bodyPost_ret (by simp (maxDischargeDepth := 3) [results, Tryd.results28, go_sem, *]; try rfl) rfl ?_
          exact ret_eq (by rw [HV.out, if_neg (fun h => hT h.2)]) (Below.setCell (Below.setCell H8.out HLE.out _) HLE.out _)
    · obtain ⟨Y, rfl⟩ : ∃ Y, rest = [Y] := by
        match rest, hn with
        | [Y], _ => exact ⟨Y, rfl⟩
      have hv : fpV s = if fracB (sgF X.data.toList) (rdF Y.data.toList) = true ∧ frT (sgF X.data.toList) (rdF Y.data.toList) = s then .tuple #[.agg #[.int .i64 (sgF X.data.toList), .int .i64 (rdF Y.data.toList)], .bool true] else .tuple #[.agg #[.int .i64 0, .int .i64 0], .bool false] := by
        unfold fpV
        rw [← ho]
        rfl
      have z1 : w1.cell? ⟨g, 1, none⟩ = some (.string Y) := z1' (by simp)
      have hYs : Y.size ≤ 1048576 := by
        have hl1 : Y.data.toList.length = Y.size := by simp
        have k1 := pcs_len 47 s.data.toList Y.data.toList (by rw [← ho]; simp)
        omega
      clear hown ho hol z1' hn hl
      have hB := @rdF_bd X.data.toList
      have hX0 : 0 < X.size := by
        rcases Nat.eq_zero_or_pos X.size with h' | h'
        · have hl1 : X.data.toList.length = X.size := by simp
          have : X.data.toList = [] := List.length_eq_zero_iff.1 (by omega)
          rw [this] at hneg; cases hneg
        · exact h'
      have hX0' : (0 : Int) < (X.size : Int) := by omega
      have hix := fun w => idx_run (s := X) (k := 0) hX0 w
      rw [Int.natCast_zero, show X.data.toList.getD 0 0 = 45 from by have := head_at hX0; rw [hneg] at this; exact (Option.some.inj this).symm] at hix
      rw [show ((45 : UInt8).toNat : Int) = 45 from rfl] at hix
      have hrd := fun w => frRead_any (X.extract 1 X.size) w (by rw [ByteArray.size_extract]; omega)
      rw [tail_at] at hrd
      have hsg : sgF X.data.toList = -rdF X.data.toList.tail := by unfold sgF; rw [if_pos hneg]
      have hT := @rdF_bd X.data.toList.tail
      rw [hsg] at hv
      have wn := i64_wrap (r := -rdF X.data.toList.tail) (by omega) (by omega)
      generalize rdF X.data.toList.tail = r at *
      have HRD := Lib.hid hrd; clear hrd hsg hneg hT
      have HV := Lib.hid hv; clear hv
      have HX := Lib.hid (fun w => frRead_any X w hXs)
      generalize hN0 : rdF X.data.toList = r0 at *
      go_wp2_with fail
      refine (HX.out _).mono ?_; rintro e w2 ⟨rfl, hb2⟩
      have hlt2 : w1.heap.size ≤ w2.heap.size := hb2.size
      have c2 := (hb2.cell (p := ⟨g, 0, none⟩) HLT.out).trans z0
      have d2 := (hb2.cell (p := ⟨g, 1, none⟩) HLT.out).trans z1
      have RB2 := Lib.hid (RB1.out.keep hb2)
      have H2 := Lib.hid (bel_trans hb2 H1.out)
      have hg2 : g < w2.heap.size := Nat.lt_of_lt_of_le HLT.out hb2.size
      have hg3 : ¬ g = w2.heap.size := by omega
      have hg4 : ¬ w2.heap.size = g := by omega
      clear hb2 z0 z1 RB1 H1 HX
      go_wp2_with fail
      have RV3 := Lib.hid (RV.mk w2 (.int .i64 r0) (.int .i64 1) 52)
      have RB3 := Lib.hid (RB2.out.keep (bel_alloc (Below.refl _ _) (.cells #[.int .i64 r0, .int .i64 1] 52)))
      have H3 := Lib.hid (bel_alloc H2.out (.cells #[.int .i64 r0, .int .i64 1] 52))
      have HBN : Hid (B0 ≠ w2.heap.size) := Lib.hid (by have h8 := RB2.out.1; omega)
      have HLB := Lib.hid H2.out.size
      have d3 : (w2.alloc (.cells #[.int .i64 r0, .int .i64 1] 52)).cell? ⟨g, 1, none⟩ = some (.string Y) := by simp [go_sem, *]
      have hg5 : g < (w2.alloc (.cells #[.int .i64 r0, .int .i64 1] 52)).heap.size := by simp; omega
      clear d2
      have HGB := Lib.hid hg3
      clear c2 hg2 hg3 hg4 RB2 H2 hlt2
      generalize w2.alloc (.cells #[.int .i64 r0, .int .i64 1] 52) = w3 at *
      generalize w2.heap.size = B at *
      refine (HRD.out _).mono ?_; rintro e w4 ⟨rfl, hb4⟩
      have RV4 := Lib.hid (RV3.out.keep hb4)
      have RB4 := Lib.hid (RB3.out.keep hb4)
      have H4 := Lib.hid (bel_trans hb4 H3.out)
      have d4 := (hb4.cell (p := ⟨g, 1, none⟩) hg5).trans d3
      have hg6 := Nat.lt_of_lt_of_le hg5 hb4.size
      clear d3 hg5
      have hgb := HGB.out
      have hgb' : ¬ B = g := fun h => hgb h.symm
      clear hb4 RV3 RB3 H3 HRD
      obtain ⟨q0, q1, q2, q3, q4⟩ := RV4.out
      go_wp2_with fail
      clear q0 q1 q2 q3 q4 hix
      have RVP := Lib.hid (RV4.out.set0 (.int .i64 (-r)))
      have RBP := Lib.hid (RB4.out.other (k := 0) HBN.out (.int .i64 (-r)))
      have HP := Lib.hid (bel_set (o := 0) H4.out HLB.out (.int .i64 (-r)))
      clear RV4 RB4 H4
      generalize w4.setCell ⟨B, 0, none⟩ (.int .i64 (-r)) = wp at *
      refine (frRead_any Y _ hYs).mono ?_; rintro e w5 ⟨rfl, hb5⟩
      have RV5 := Lib.hid (RVP.out.keep hb5)
      have RB5 := Lib.hid (RBP.out.keep hb5)
      have H5 := Lib.hid (bel_trans hb5 HP.out)
      clear hb5 RVP RBP HP
      generalize rdF Y.data.toList = D at *
      obtain ⟨q0, q1, q2, q3, q4⟩ := RV5.out
      go_wp2_with fail
      clear q0 q1 q2 q3 q4
      have RVF := Lib.hid (RV5.out.set1 (.int .i64 D))
      have RBF := Lib.hid (RB5.out.other (k := 1) HBN.out (.int .i64 D))
      have HF := Lib.hid (bel_set (o := 1) H5.out HLB.out (.int .i64 D))
      clear RV5 RB5 H5
      generalize w5.setCell ⟨B, 1, none⟩ (.int .i64 D) = wf at *
      cases hfr : fracB (-r) D
      · rw [hfr] at HV
        refine (frGood_any _ _ _).mono ?_; rintro e w7 ⟨rfl, hb7⟩
        rw [hfr]
        have H7 := Lib.hid (bel_trans hb7 HF.out)
        obtain ⟨t0, t1, t2, t3, t4⟩ := RBF.out.keep hb7
        clear hb7 RVF
        go_wp2_with fail
        refine bodyPost_ret (by simp (maxDischargeDepth := 3) [results, Tryd.results28, go_sem, *]; try rfl) rfl ?_
        exact ret_eq (by rw [HV.out]; rfl) (Below.setCell (Below.setCell H7.out HLE.out _) HLE.out _)
      · obtain ⟨k1, k2, k3, k4⟩ := frac_bd hfr
        rw [hfr] at HV
        have ht := fun w => frText_any (-r) D w k3 k4 k1 k2
        generalize frT (-r) D = T at *
        have HTX := Lib.hid ht; clear ht k1 k2 k3 k4
        refine (frGood_any _ _ _).mono ?_; rintro e w7 ⟨rfl, hb7⟩
        rw [hfr]
        clear hfr
        have H7 := Lib.hid (bel_trans hb7 HF.out)
        have RB7 := Lib.hid (RBF.out.keep hb7)
        have RV7 := Lib.hid (RVF.out.keep hb7)
        clear hb7 RVF RBF HF
        obtain ⟨q0, q1, q2, q3, q4⟩ := RV7.out
        go_wp2_with fail
        refine (HTX.out _).mono ?_; rintro e w8 ⟨rfl, hb8⟩
        have H8 := Lib.hid (bel_trans hb8 H7.out)
        clear q0 q1 q2 q3 q4
        obtain ⟨q0, q1, q2, q3, q4⟩ := RV7.out.keep hb8
        obtain ⟨t0, t1, t2, t3, t4⟩ := RB7.out.keep hb8
        clear hb8 RV7 RB7 H7
        by_cases hT : T = s
        · subst hT
          go_wp2_with fail
          refine bodyPost_ret (by simp (maxDischargeDepth := 3) [results, Tryd.results28, go_sem, *]; try rfl) rfl ?_
          exact ret_eq (by rw [HV.out, if_pos (by simp)]) (Below.setCell (Below.setCell H8.out HLE.out _) HLE.out _)
        · have hTs := str_ne hT
          go_wp2_with fail
          refine bodyPost_ret (by simp (maxDischargeDepth := 3) [results, Tryd.results28, go_sem, *]; try rfl) rfl ?_
          exact ret_eq (by rw [HV.out, if_neg (fun h => hT h.2)]) (Below.setCell (Below.setCell H8.out HLE.out _) HLE.out _)
  · rcases key with rfl | rfl
    · obtain rfl : rest = [] := List.length_eq_zero_iff.1 (by simpa using hn)
      have hv : fpV s = if fracB (sgF X.data.toList) 1 = true ∧ frT (sgF X.data.toList) 1 = s then .tuple #[.agg #[.int .i64 (sgF X.data.toList), .int .i64 1], .bool true] else .tuple #[.agg #[.int .i64 0, .int .i64 0], .bool false] := by
        unfold fpV
        rw [← ho]
        rfl
      clear hown ho hol z1' hn hl
      have hB := @rdF_bd X.data.toList
      have hsg : sgF X.data.toList = rdF X.data.toList := by unfold sgF; rw [if_neg hneg]
      rw [hsg] at hv
      have HV := Lib.hid hv; clear hv
      have HX := Lib.hid (fun w => frRead_any X w hXs)
      generalize hN0 : rdF X.data.toList = r0 at *
      go_wp2_with fail
      refine (HX.out _).mono ?_; rintro e w2 ⟨rfl, hb2⟩
      have hlt2 : w1.heap.size ≤ w2.heap.size := hb2.size
      have c2 := (hb2.cell (p := ⟨g, 0, none⟩) HLT.out).trans z0
      have RB2 := Lib.hid (RB1.out.keep hb2)
      have H2 := Lib.hid (bel_trans hb2 H1.out)
      have hg2 : g < w2.heap.size := Nat.lt_of_lt_of_le HLT.out hb2.size
      have hg3 : ¬ g = w2.heap.size := by omega
      have hg4 : ¬ w2.heap.size = g := by omega
      clear hb2 z0 RB1 H1 HX
      have hcase : (¬ (0 : Int) < (X.size : Int)) ∨ ((0 : Int) < (X.size : Int) ∧ ∃ c : Int, (c == 45) = false ∧ ∀ w, (Instr.index 9 (.string X) (.int .i64 0)).run Tryd.prog w = .ok (.int .u8 c) w) := by
        rcases Nat.eq_zero_or_pos X.size with h' | h'
        · exact .inl (by omega)
        · have hix := fun w => idx_run (s := X) (k := 0) h' w
          rw [Int.natCast_zero] at hix
          refine .inr ⟨by omega, _, ?_, hix⟩
          rw [beq_eq_false_iff_ne]
          intro e
          apply hneg
          rw [head_at h', Option.some.injEq]
          exact UInt8.toNat_inj.1 (show _ = (45 : UInt8).toNat from by have e2 : (45 : UInt8).toNat = 45 := rfl; omega)
      clear hneg hsg
      rcases hcase with h0 | ⟨h0, c, hc, hix⟩
      all_goals
        go_wp2_with fail
        have RV3 := Lib.hid (RV.mk w2 (.int .i64 r0) (.int .i64 1) 52)
        have RB3 := Lib.hid (RB2.out.keep (bel_alloc (Below.refl _ _) (.cells #[.int .i64 r0, .int .i64 1] 52)))
        have H3 := Lib.hid (bel_alloc H2.out (.cells #[.int .i64 r0, .int .i64 1] 52))
        have HBN : Hid (B0 ≠ w2.heap.size) := Lib.hid (by have h8 := RB2.out.1; omega)
        have HLB := Lib.hid H2.out.size
        have HGB := Lib.hid hg3
        clear c2 hg2 hg3 hg4 RB2 H2 hlt2
        generalize w2.alloc (.cells #[.int .i64 r0, .int .i64 1] 52) = w3 at *
        generalize w2.heap.size = B at *
        have RVP := RV3
        have RBP := RB3
        have HP := H3
        clear RV3 RB3 H3
        have RVF := RVP
        have RBF := RBP
        have HF := HP
        clear RVP RBP HP
        cases hfr : fracB r0 1
        · rw [hfr] at HV
          refine (frGood_any _ _ _).mono ?_; rintro e w7 ⟨rfl, hb7⟩
          rw [hfr]
          have H7 := Lib.hid (bel_trans hb7 HF.out)
          obtain ⟨t0, t1, t2, t3, t4⟩ := RBF.out.keep hb7
          clear hb7 RVF
          go_wp2_with fail
          refine bodyPost_ret (by simp (maxDischargeDepth := 3) [results, Tryd.results28, go_sem, *]; try rfl) rfl ?_
          exact ret_eq (by rw [HV.out]; rfl) (Below.setCell (Below.setCell H7.out HLE.out _) HLE.out _)
        · obtain ⟨k1, k2, k3, k4⟩ := frac_bd hfr
          rw [hfr] at HV
          have ht := fun w => frText_any r0 1 w k3 k4 k1 k2
          generalize frT r0 1 = T at *
          have HTX := Lib.hid ht; clear ht k1 k2 k3 k4
          refine (frGood_any _ _ _).mono ?_; rintro e w7 ⟨rfl, hb7⟩
          rw [hfr]
          clear hfr
          have H7 := Lib.hid (bel_trans hb7 HF.out)
          have RB7 := Lib.hid (RBF.out.keep hb7)
          have RV7 := Lib.hid (RVF.out.keep hb7)
          clear hb7 RVF RBF HF
          obtain ⟨q0, q1, q2, q3, q4⟩ := RV7.out
          go_wp2_with fail
          refine (HTX.out _).mono ?_; rintro e w8 ⟨rfl, hb8⟩
          have H8 := Lib.hid (bel_trans hb8 H7.out)
          clear q0 q1 q2 q3 q4
          obtain ⟨q0, q1, q2, q3, q4⟩ := RV7.out.keep hb8
          obtain ⟨t0, t1, t2, t3, t4⟩ := RB7.out.keep hb8
          clear hb8 RV7 RB7 H7
          by_cases hT : T = s
          · subst hT
            go_wp2_with fail
            refine bodyPost_ret (by simp (maxDischargeDepth := 3) [results, Tryd.results28, go_sem, *]; try rfl) rfl ?_
            exact ret_eq (by rw [HV.out, if_pos (by simp)]) (Below.setCell (Below.setCell H8.out HLE.out _) HLE.out _)
          · have hTs := str_ne hT
            go_wp2_with fail
            refine bodyPost_ret (by simp (maxDischargeDepth := 3) [results, Tryd.results28, go_sem, *]; try rfl) rfl ?_
            exact ret_eq (by rw [HV.out, if_neg (fun h => hT h.2)]) (Below.setCell (Below.setCell H8.out HLE.out _) HLE.out _)
    · obtain ⟨Y, rfl⟩ : ∃ Y, rest = [Y] := by
        match rest, hn with
        | [Y], _ => exact ⟨Y, rfl⟩
      have hv : fpV s = if fracB (sgF X.data.toList) (rdF Y.data.toList) = true ∧ frT (sgF X.data.toList) (rdF Y.data.toList) = s then .tuple #[.agg #[.int .i64 (sgF X.data.toList), .int .i64 (rdF Y.data.toList)], .bool true] else .tuple #[.agg #[.int .i64 0, .int .i64 0], .bool false] := by
        unfold fpV
        rw [← ho]
        rfl
      have z1 : w1.cell? ⟨g, 1, none⟩ = some (.string Y) := z1' (by simp)
      have hYs : Y.size ≤ 1048576 := by
        have hl1 : Y.data.toList.length = Y.size := by simp
        have k1 := pcs_len 47 s.data.toList Y.data.toList (by rw [← ho]; simp)
        omega
      clear hown ho hol z1' hn hl
      have hB := @rdF_bd X.data.toList
      have hsg : sgF X.data.toList = rdF X.data.toList := by unfold sgF; rw [if_neg hneg]
      rw [hsg] at hv
      have HV := Lib.hid hv; clear hv
      have HX := Lib.hid (fun w => frRead_any X w hXs)
      generalize hN0 : rdF X.data.toList = r0 at *
      go_wp2_with fail
      refine (HX.out _).mono ?_; rintro e w2 ⟨rfl, hb2⟩
      have hlt2 : w1.heap.size ≤ w2.heap.size := hb2.size
      have c2 := (hb2.cell (p := ⟨g, 0, none⟩) HLT.out).trans z0
      have d2 := (hb2.cell (p := ⟨g, 1, none⟩) HLT.out).trans z1
      have RB2 := Lib.hid (RB1.out.keep hb2)
      have H2 := Lib.hid (bel_trans hb2 H1.out)
      have hg2 : g < w2.heap.size := Nat.lt_of_lt_of_le HLT.out hb2.size
      have hg3 : ¬ g = w2.heap.size := by omega
      have hg4 : ¬ w2.heap.size = g := by omega
      clear hb2 z0 z1 RB1 H1 HX
      have hcase : (¬ (0 : Int) < (X.size : Int)) ∨ ((0 : Int) < (X.size : Int) ∧ ∃ c : Int, (c == 45) = false ∧ ∀ w, (Instr.index 9 (.string X) (.int .i64 0)).run Tryd.prog w = .ok (.int .u8 c) w) := by
        rcases Nat.eq_zero_or_pos X.size with h' | h'
        · exact .inl (by omega)
        · have hix := fun w => idx_run (s := X) (k := 0) h' w
          rw [Int.natCast_zero] at hix
          refine .inr ⟨by omega, _, ?_, hix⟩
          rw [beq_eq_false_iff_ne]
          intro e
          apply hneg
          rw [head_at h', Option.some.injEq]
          exact UInt8.toNat_inj.1 (show _ = (45 : UInt8).toNat from by have e2 : (45 : UInt8).toNat = 45 := rfl; omega)
      clear hneg hsg
      rcases hcase with h0 | ⟨h0, c, hc, hix⟩
      all_goals
        go_wp2_with fail
        have RV3 := Lib.hid (RV.mk w2 (.int .i64 r0) (.int .i64 1) 52)
        have RB3 := Lib.hid (RB2.out.keep (bel_alloc (Below.refl _ _) (.cells #[.int .i64 r0, .int .i64 1] 52)))
        have H3 := Lib.hid (bel_alloc H2.out (.cells #[.int .i64 r0, .int .i64 1] 52))
        have HBN : Hid (B0 ≠ w2.heap.size) := Lib.hid (by have h8 := RB2.out.1; omega)
        have HLB := Lib.hid H2.out.size
        have d3 : (w2.alloc (.cells #[.int .i64 r0, .int .i64 1] 52)).cell? ⟨g, 1, none⟩ = some (.string Y) := by simp [go_sem, *]
        have hg5 : g < (w2.alloc (.cells #[.int .i64 r0, .int .i64 1] 52)).heap.size := by simp; omega
        clear d2
        have HGB := Lib.hid hg3
        clear c2 hg2 hg3 hg4 RB2 H2 hlt2
        generalize w2.alloc (.cells #[.int .i64 r0, .int .i64 1] 52) = w3 at *
        generalize w2.heap.size = B at *
        have RVP := RV3
        have RBP := RB3
        have HP := H3
        clear RV3 RB3 H3
        refine (frRead_any Y _ hYs).mono ?_; rintro e w5 ⟨rfl, hb5⟩
        have RV5 := Lib.hid (RVP.out.keep hb5)
        have RB5 := Lib.hid (RBP.out.keep hb5)
        have H5 := Lib.hid (bel_trans hb5 HP.out)
        clear hb5 RVP RBP HP
        generalize rdF Y.data.toList = D at *
        obtain ⟨q0, q1, q2, q3, q4⟩ := RV5.out
        go_wp2_with fail
        clear q0 q1 q2 q3 q4
        have RVF := Lib.hid (RV5.out.set1 (.int .i64 D))
        have RBF := Lib.hid (RB5.out.other (k := 1) HBN.out (.int .i64 D))
        have HF := Lib.hid (bel_set (o := 1) H5.out HLB.out (.int .i64 D))
        clear RV5 RB5 H5
        generalize w5.setCell ⟨B, 1, none⟩ (.int .i64 D) = wf at *
        cases hfr : fracB r0 D
        · rw [hfr] at HV
          refine (frGood_any _ _ _).mono ?_; rintro e w7 ⟨rfl, hb7⟩
          rw [hfr]
          have H7 := Lib.hid (bel_trans hb7 HF.out)
          obtain ⟨t0, t1, t2, t3, t4⟩ := RBF.out.keep hb7
          clear hb7 RVF
          go_wp2_with fail
          refine bodyPost_ret (by simp (maxDischargeDepth := 3) [results, Tryd.results28, go_sem, *]; try rfl) rfl ?_
          exact ret_eq (by rw [HV.out]; rfl) (Below.setCell (Below.setCell H7.out HLE.out _) HLE.out _)
        · obtain ⟨k1, k2, k3, k4⟩ := frac_bd hfr
          rw [hfr] at HV
          have ht := fun w => frText_any r0 D w k3 k4 k1 k2
          generalize frT r0 D = T at *
          have HTX := Lib.hid ht; clear ht k1 k2 k3 k4
          refine (frGood_any _ _ _).mono ?_; rintro e w7 ⟨rfl, hb7⟩
          rw [hfr]
          clear hfr
          have H7 := Lib.hid (bel_trans hb7 HF.out)
          have RB7 := Lib.hid (RBF.out.keep hb7)
          have RV7 := Lib.hid (RVF.out.keep hb7)
          clear hb7 RVF RBF HF
          obtain ⟨q0, q1, q2, q3, q4⟩ := RV7.out
          go_wp2_with fail
          refine (HTX.out _).mono ?_; rintro e w8 ⟨rfl, hb8⟩
          have H8 := Lib.hid (bel_trans hb8 H7.out)
          clear q0 q1 q2 q3 q4
          obtain ⟨q0, q1, q2, q3, q4⟩ := RV7.out.keep hb8
          obtain ⟨t0, t1, t2, t3, t4⟩ := RB7.out.keep hb8
          clear hb8 RV7 RB7 H7
          by_cases hT : T = s
          · subst hT
            go_wp2_with fail
            refine bodyPost_ret (by simp (maxDischargeDepth := 3) [results, Tryd.results28, go_sem, *]; try rfl) rfl ?_
            exact ret_eq (by rw [HV.out, if_pos (by simp)]) (Below.setCell (Below.setCell H8.out HLE.out _) HLE.out _)
          · have hTs := str_ne hT
            go_wp2_with fail
            refine bodyPost_ret (by simp (maxDischargeDepth := 3) [results, Tryd.results28, go_sem, *]; try rfl) rfl ?_
            exact ret_eq (by rw [HV.out, if_neg (fun h => hT h.2)]) (Below.setCell (Below.setCell H8.out HLE.out _) HLE.out _)
end Go.Proofs.YtadijbaphfgeiaaDoor
