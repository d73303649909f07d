/- Lq: contracts: qInts, qHas. No conditions. -/
import Derived.Test.YtpjcfnjagknocaaDoorAd
namespace Go.Proofs.YtpjcfnjagknocaaDoor
open Go.RowKit

theorem wrapLenQ {n j : Nat} (h : n ≤ maxLen) (hj : j < n) : wrap64 ((j : Int) + 1) = ((j + 1 : Nat) : Int) := by
  have h1 : n ≤ 9223372036854775807 := h
  clear h
  unfold wrap64
  omega
set_option maxHeartbeats 2000000 in
theorem qInts_any (v u : Value) (xs ys : List Int) (w : World) (h : Rd w v xs) (h' : Rd w u ys) :
    Calls Tryd.prog 16 #[v, u] w (Ret (.bool (decide (xs = ys))) w) := by
  have H := Lib.hid h; have H' := Lib.hid h'
  obtain ⟨ad, c, rfl, hl, hc⟩ := h
  obtain ⟨ad', c', rfl, hl', hc'⟩ := h'
  have HC := Lib.hid hc; have HC' := Lib.hid hc'; have HL := Lib.hid hl; clear hc hc' hl hl'
  by_cases hne : xs.length = ys.length
  · have hL : (ys.length : Int) = xs.length := by omega
    rw [show ys.length = xs.length from hne.symm]
    by_cases hz : xs.length = 0
    · have e1 := List.eq_nil_of_length_eq_zero hz
      have e2 := List.eq_nil_of_length_eq_zero (hne ▸ hz)
      subst e1; subst e2
      go_enter Tryd.func16, Tryd.ntmps16
      go_wp2_with fail
      refine wp_loop_rounds 1 ?_; rw [rounds_succ]
      go_wp2_with fail
      go_ret
      exact ret_eq rfl (by repeat (first | exact Below.refl _ _ | (with_reducible assumption) | refine bel_alloc ?_ _ | refine bel_drew ?_ | refine bel_drewN ?_ _ | refine Below.setCell ?_ (by dsimp only; omega) _ | refine bel_trans (by assumption) ?_))
    · obtain ⟨b, off, rfl, hlt, hcell⟩ := HC.out (by omega)
      obtain ⟨b', off', rfl, hlt', hcell'⟩ := HC'.out (by omega)
      have K := Lib.hid hcell; have K' := Lib.hid hcell'; clear hcell hcell' HC HC'
      go_enter Tryd.func16, Tryd.ntmps16
      go_wp2_with fail
      go_loopw [13] (fun x wr => ∃ j : Nat, x = .int .i64 j ∧ j ≤ xs.length ∧ Below w.heap.size w wr ∧ ∀ i, i < j → xs.getD i 0 = ys.getD i 0) (fun x _ => xs.length - (intOf x).toNat)
      case atStart => exact ⟨0, rfl, Nat.zero_le _, Below.refl _ _, fun i h => absurd h (Nat.not_lt_zero _)⟩
      case round =>
        obtain ⟨j, rfl, hj, hbel, heq⟩ := hrel
        have HE := Lib.hid heq; clear heq
        by_cases hlt2 : j < xs.length
        · have c0 := (hbel.cell (p := ⟨b, off + j, none⟩) hlt).trans (K.out j hlt2)
          have c1 := (hbel.cell (p := ⟨b', off' + j, none⟩) hlt').trans (K'.out j (by omega))
          have hj1 : (j : Int) < (xs.length : Int) := by omega
          have hj0 : (0 : Int) ≤ (j : Int) := Int.natCast_nonneg _
          obtain ⟨p, hp⟩ : ∃ p, xs.getD j 0 = p := ⟨_, rfl⟩
          obtain ⟨q, hq⟩ : ∃ q, ys.getD j 0 = q := ⟨_, rfl⟩
          rw [hp] at c0; rw [hq] at c1
          by_cases hpq : p = q
          · have hpb : (p != q) = false := by simp [hpq]
            go_wp2_with fail
            go_quiet (fail)
            go_wp2_with fail
            have hw : wrap64 ((j : Int) + 1) = ((j + 1 : Nat) : Int) := wrapLenQ HL.out hlt2
            rw [hw]
            refine ⟨⟨j + 1, rfl, hlt2, bel_drewN hbel _, fun i hi => ?_⟩, by simp only [intOf, Int.toNat_natCast]; exact Nat.sub_lt_sub_left hlt2 (Nat.lt_succ_self j)⟩
            by_cases hij : i = j
            · subst hij; rw [hp, hq, hpq]
            · exact HE.out i (Nat.lt_of_le_of_ne (Nat.le_of_lt_succ hi) hij)
          · have hpb : (p != q) = true := by simp [hpq]
            go_wp2_with fail
            go_quiet (fail)
            go_wp2_with fail
            go_ret
            have hxy : decide (xs = ys) = false := decide_eq_false fun e => hpq (by rw [← hp, ← hq, e])
            exact ret_eq (by rw [hxy]; rfl) (bel_drewN hbel _)
        · go_wp2_with fail
          go_ret
          have hjl : j = xs.length := by omega
          subst hjl
          have e : xs = ys := List.ext_getElem hne fun i h1 h2 => by
            have := HE.out i h1
            simpa [List.getD_eq_getElem?_getD, h1, h2] using this
          exact ret_eq (by rw [decide_eq_true e]; rfl) hbel
  · have hb : decide (xs = ys) = false := by simp; intro e; exact hne (by rw [e])
    have hni : ¬ (xs.length : Int) = ys.length := by omega
    rw [hb]
    go_enter Tryd.func16, Tryd.ntmps16
    go_wp2_with fail
    go_ret
    exact ret_eq rfl (by repeat (first | exact Below.refl _ _ | (with_reducible assumption) | refine bel_alloc ?_ _ | refine bel_drew ?_ | refine bel_drewN ?_ _ | refine Below.setCell ?_ (by dsimp only; omega) _ | refine bel_trans (by assumption) ?_))
set_option maxHeartbeats 2000000 in
theorem qHas_any (v : Value) (xs : List Int) (n : Int) (w : World) (h : Rd w v xs) (hm : n ∈ xs) :
    Calls Tryd.prog 21 #[v, .int .i64 n] w (Ret (.bool true) w) := by
  have hpos : 0 < xs.length := List.length_pos_of_mem hm
  obtain ⟨ad, c, rfl, hl, hc⟩ := h
  obtain ⟨b, off, rfl, hlt, hcell⟩ := hc hpos
  have K := Lib.hid hcell; have HL := Lib.hid hl; clear hcell hc hl
  obtain ⟨k, hk, hkn⟩ : ∃ k, k < xs.length ∧ xs.getD k 0 = n := by
    obtain ⟨k, hk, e⟩ := List.getElem_of_mem hm
    exact ⟨k, hk, by rw [List.getD_eq_getElem?_getD, List.getElem?_eq_getElem hk, e]; rfl⟩
  clear hm
  go_enter Tryd.func21, Tryd.ntmps21
  go_wp2_with fail
  go_loopw [9] (fun x wr => ∃ j : Nat, x = .int .i64 j ∧ j ≤ k ∧ Below w.heap.size w wr) (fun x _ => xs.length - (intOf x).toNat)
  case atStart => exact ⟨0, rfl, Nat.zero_le _, Below.refl _ _⟩
  case round =>
    obtain ⟨j, rfl, hj, hbel⟩ := hrel
    have hjl : j < xs.length := Nat.lt_of_le_of_lt hj hk
    have c0 := (hbel.cell (p := ⟨b, off + j, none⟩) hlt).trans (K.out j hjl)
    have hj1 : (j : Int) < (xs.length : Int) := by omega
    have hj0 : (0 : Int) ≤ (j : Int) := Int.natCast_nonneg _
    obtain ⟨p, hp⟩ : ∃ p, xs.getD j 0 = p := ⟨_, rfl⟩
    rw [hp] at c0
    by_cases hpn : p = n
    · have hpb : (p == n) = true := by simp [hpn]
      go_wp2_with fail
      go_ret
      exact ret_eq (by rfl) hbel
    · have hpb : (p == n) = false := by simp [hpn]
      have hjk : j ≠ k := by rintro rfl; exact hpn (by rw [← hp, hkn])
      go_wp2_with fail
      have hw : wrap64 ((j : Int) + 1) = ((j + 1 : Nat) : Int) := wrapLenQ HL.out hjl
      rw [hw]
      exact ⟨⟨j + 1, rfl, Nat.lt_of_le_of_ne hj hjk, hbel⟩, by simp only [intOf, Int.toNat_natCast]; exact Nat.sub_lt_sub_left hjl (Nat.lt_succ_self j)⟩
end Go.Proofs.YtpjcfnjagknocaaDoor
