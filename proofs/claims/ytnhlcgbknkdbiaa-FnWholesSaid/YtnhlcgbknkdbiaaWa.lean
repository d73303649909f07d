/- Wa: contracts: whole numbers with many limbs: laying one, its sign, the order. No conditions. -/
import Derived.Test.YtnhlcgbknkdbiaaCl
import Derived.Test.YtnhlcgbknkdbiaaWh
namespace Go.Proofs.Ytnhlcgbknkdbiaa
open Go.RowKit

/-- a row's length is within its room; no row without cells claims room. -/
def SlOk (v : Value) : Prop := NilZ v ∧ ∀ ad n c, v = .slice ad n c → n ≤ c
theorem Own.slok {w : World} {B : Nat} {v : Value} {xs : List Int} (h : Own w B v xs) : SlOk v := by
  refine ⟨h.nilz, fun ad n c hv => ?_⟩
  rcases h.shape with ⟨rfl, _⟩ | ⟨g, cap, rfl, _, _, hn, _⟩
  · cases hv; exact Nat.le_refl _
  · cases hv; exact hn
theorem own_setFar {w : World} {B : Nat} {v : Value} {xs : List Int} (h : Own w B v xs) {k : Nat} (hk : k < B) (o : Nat) (u : Value) : Own (w.setCell ⟨k, o, none⟩ u) B v xs := by
  obtain ⟨h1, h2⟩ := h
  refine ⟨h1, ?_⟩
  rcases h2 with h2 | ⟨g, cap, cur, hv, hg, hh, r⟩
  · exact .inl h2
  · exact .inr ⟨g, cap, cur, hv, hg, (Below.heap_setCell _ ⟨k, o, none⟩ _ _ (by dsimp only; omega)).trans hh, r⟩
/-- v is the whole number z. -/
def WV (w : World) (v : Value) (z : Int) : Prop := ∃ (ad : Option Addr) (cap : Nat), v = .agg #[.bool (decide (z < 0)), .slice ad (digs z.natAbs).length cap] ∧ Rd w (.slice ad (digs z.natAbs).length cap) (digs z.natAbs) ∧ SlOk (.slice ad (digs z.natAbs).length cap)
theorem WV.keep {w w' : World} {v : Value} {z : Int} (h : WV w v z) (hb : Below w.heap.size w w') : WV w' v z := by
  obtain ⟨ad, cap, hv, hr, hz⟩ := h
  exact ⟨ad, cap, hv, hr.keep hb, hz⟩
def slLen : Value → Nat
  | .slice _ n _ => n
  | _ => 0
/-- v is the whole number z, its limbs a row of the call's own. -/
def WO (w : World) (B : Nat) (v : Value) (z : Int) : Prop := ∃ (ad : Option Addr) (cap : Nat), v = .agg #[.bool (decide (z < 0)), .slice ad (digs z.natAbs).length cap] ∧ Own w B (.slice ad (digs z.natAbs).length cap) (digs z.natAbs)
def RetW (z : Int) (w : World) (e : Ending) (w' : World) : Prop := ∃ v, e = .returned v ∧ Below w.heap.size w w' ∧ WO w' w.heap.size v z
theorem WO.wv {w : World} {B : Nat} {v : Value} {z : Int} (h : WO w B v z) : WV w v z := by
  obtain ⟨ad, cap, hv, ho⟩ := h
  exact ⟨ad, cap, hv, ho.rd, ho.slok⟩
theorem WO.keep {w w' : World} {B : Nat} {v : Value} {z : Int} (h : WO w B v z) (hb : Below w.heap.size w w') : WO w' B v z := by
  obtain ⟨ad, cap, hv, ho⟩ := h
  exact ⟨ad, cap, hv, ho.keep hb⟩
theorem WO.le {w : World} {B B' : Nat} {v : Value} {z : Int} (h : WO w B v z) (hb : B' ≤ B) : WO w B' v z := by
  obtain ⟨ad, cap, hv, ho⟩ := h
  exact ⟨ad, cap, hv, ho.le hb⟩
theorem NilZ.take {ad : Option Addr} {n m cap : Nat} (h : NilZ (.slice ad n cap)) : NilZ (.slice ad m cap) := by
  intro n' c hc
  injection hc with h1 h2 h3
  subst h1; subst h3
  exact h n cap rfl
/-- the number that trimmed limbs and a sign make. -/
theorem wv_of {w : World} {B : Nat} {u : Value} {xs : List Int} {z : Int} {b : Bool} (ho : Own w B u xs) (hx : xs = digs z.natAbs) (hb : b = decide (z < 0)) : WO w B (.agg #[.bool b, u]) z := by
  subst hx; subst hb
  obtain ⟨ad, cap, rfl⟩ := ho.len
  exact ⟨ad, cap, rfl, ho⟩
theorem WO.setFar {w : World} {B : Nat} {v : Value} {z : Int} (h : WO w B v z) {k : Nat} (hk : k < B) (o : Nat) (u : Value) : WO (w.setCell ⟨k, o, none⟩ u) B v z := by
  obtain ⟨ad, cap, hv, ho⟩ := h
  exact ⟨ad, cap, hv, own_setFar ho hk o u⟩
theorem sgn_val {neg : Bool} {xs : List Int} (hd : Dig xs) (hl : xs = [] ∨ xs.getD (xs.length - 1) 0 ≠ 0) :
    xs = digs (if neg = true then -(val xs) else val xs).natAbs ∧ (neg && decide (0 < xs.length)) = decide ((if neg = true then -(val xs) else val xs) < 0) := by
  have h0 := val_nonneg hd
  have h1 := digs_val hd hl
  have h2 : (if neg = true then -(val xs) else val xs).natAbs = (val xs).toNat := by cases neg <;> simp <;> omega
  refine ⟨by rw [h2, h1], ?_⟩
  have h3 : 0 < xs.length ↔ 0 < val xs := by
    constructor
    · intro h
      rcases Int.lt_or_le 0 (val xs) with k | k
      · exact k
      · rw [show (val xs).toNat = 0 by omega, digs_zero] at h1
        subst h1; simp at h
    · intro h
      cases xs with
      | nil => simp [val] at h
      | cons x r => simp
  cases neg
  · simp; omega
  · simp only [Bool.true_and, if_true]
    rw [Bool.eq_iff_iff, decide_eq_true_eq, decide_eq_true_eq, h3]
    omega
set_option maxHeartbeats 2000000 in
theorem trimmed_any (neg : Bool) (v : Value) (xs : List Int) (w : World) (hrd : Rd w v xs) (hso : SlOk v) (hd : Dig xs) (hl : xs.length ≤ 1000000) :
    Calls Try.prog 73 #[.bool neg, v] w (RetW (if neg = true then -(val xs) else val xs) w) := by
  obtain ⟨hz, hca⟩ := hso
  by_cases hn : xs.length = 0
  · have hx := List.eq_nil_of_length_eq_zero hn
    subst hx
    have hsg := sgn_val (neg := neg) (xs := []) hd (.inl rfl)
    have HS := Lib.hid hsg; clear hsg
    have HR := Lib.hid hrd
    have HZ := Lib.hid hz; clear hz hca
    obtain ⟨ad, cap, rfl, _, _⟩ := hrd
    cases neg
    all_goals
      go_enter Try.func73, Try.ntmps73
      go_wp2_with fail
      refine wp_loop_rounds 1 ?_; rw [rounds_succ]
      go_wp2_with fail
      refine (clone_any _ [] _ (HR.out.keep (by repeat (first | exact Below.refl _ _ | (with_reducible assumption) | refine bel_alloc ?_ _ | refine bel_drew ?_ | refine bel_drewN ?_ _ | refine Below.setCell ?_ (by dsimp only; omega) _ | refine bel_trans (by assumption) ?_))) HZ.out (by simp)).mono ?_; rintro e w2 ⟨u, rfl, hb2, ho2⟩
      obtain ⟨hc2, hf2, hz1, hz2, hz3, hz4⟩ := aftz hb2
      obtain ⟨ad2, cap2, rfl⟩ := ho2.len
      have hzz : w.heap.size + 1 ≤ w2.heap.size := by have := hb2.size; simpa using this
      go_wp2_with fail
      refine bodyPost_ret (by simp (maxDischargeDepth := 3) [results, Try.results73, go_sem, *]; try rfl) rfl ?_
      exact ⟨_, rfl, (by repeat (first | exact Below.refl _ _ | (with_reducible assumption) | refine bel_alloc ?_ _ | refine bel_drew ?_ | refine bel_drewN ?_ _ | refine Below.setCell ?_ (by dsimp only; omega) _ | refine bel_trans (by assumption) ?_)), wv_of ((own_setFar (own_setFar ho2 (by simp) _ _) (by simp) _ _).le (by simp)) HS.out.1 HS.out.2⟩
  · obtain ⟨z, hz0⟩ : ∃ z, (if neg = true then -(val xs) else val xs) = z := ⟨_, rfl⟩
    rw [hz0]
    have HZ0 := Lib.hid hz0; clear hz0
    have HR := Lib.hid hrd
    obtain ⟨ad, cap, rfl, hlm, hcs⟩ := hrd
    obtain ⟨bb, off, rfl, hbb, hcell⟩ := hcs (by omega)
    clear hcs
    have HC := Lib.hid hcell; clear hcell
    have HD := Lib.hid hd; clear hd
    have hcap := hca _ _ _ rfl
    clear hz hca
    have hsg : ∀ m, (xs.take m = [] ∨ (xs.take m).getD ((xs.take m).length - 1) 0 ≠ 0) → val (xs.take m) = val xs → (xs.take m = digs z.natAbs ∧ (neg && decide (0 < (xs.take m).length)) = decide (z < 0)) := fun m h1 h2 => by
      have := sgn_val (neg := neg) (HD.out.take m) h1
      rw [h2, HZ0.out] at this
      exact this
    have HSG := Lib.hid hsg; clear hsg
    cases neg
    all_goals
      go_enter Try.func73, Try.ntmps73
      go_wp2_with fail
      go_loop [1] (fun x => ∃ m : Nat, x = .slice (some ⟨bb, off, none⟩) m cap ∧ m ≤ xs.length ∧ m ≤ cap ∧ Hid (val (xs.take m) = val xs)) (fun x => slLen x)
      case atStart => exact ⟨xs.length, rfl, Nat.le_refl _, hcap, by unfold Hid; rw [List.take_length]⟩
      case round =>
        obtain ⟨m, rfl, hm, hmc, HV⟩ := hrel
        have hm0 : (0 : Int) ≤ (m : Int) := Int.natCast_nonneg _
        have hmb : (m : Int) ≤ 1000000 := by omega
        have hrm : ∀ n w', n ≤ xs.length → Below w.heap.size w w' → Rd w' (.slice (some ⟨bb, off, none⟩) (xs.take n).length cap) (xs.take n) := fun n w' hn hb => by
          refine ⟨_, _, rfl, by rw [List.length_take]; omega, fun _ => ⟨bb, off, rfl, Nat.lt_of_lt_of_le hbb hb.size, fun i hi => ?_⟩⟩
          rw [List.length_take] at hi
          rw [hb.cell (p := ⟨bb, off + i, none⟩) hbb, HC.out i (by omega)]
          congr 2
          rw [List.getD_eq_getElem?_getD, List.getD_eq_getElem?_getD, List.getElem?_take, if_pos (by omega)]
        have HRM := Lib.hid hrm; clear hrm
        by_cases hz0 : m = 0
        · subst hz0
          have hx0 : xs.take 0 = [] := rfl
          have HS := Lib.hid (HSG.out 0 (.inl rfl) HV.out)
          have hcl := fun w' hb => clone_any (.slice (some ⟨bb, off, none⟩) 0 cap) [] w' (HRM.out 0 w' (by omega) hb) (by intro n c h; cases h) (by simp)
          clear hx0
          go_wp2_with fail
          refine (hcl _ (by repeat (first | exact Below.refl _ _ | (with_reducible assumption) | refine bel_alloc ?_ _ | refine bel_drew ?_ | refine bel_drewN ?_ _ | refine Below.setCell ?_ (by dsimp only; omega) _ | refine bel_trans (by assumption) ?_))).mono ?_; rintro e w2 ⟨u, rfl, hb2, ho2⟩
          obtain ⟨hc2, hf2, hz1, hz2, hz3, hz4⟩ := aftz hb2
          obtain ⟨ad2, cap2, rfl⟩ := ho2.len
          have hzz : w.heap.size + 1 ≤ w2.heap.size := by have := hb2.size; simpa using this
          go_wp2_with fail
          refine bodyPost_ret (by simp (maxDischargeDepth := 3) [results, Try.results73, go_sem, *]; try rfl) rfl ?_
          exact ⟨_, rfl, (by repeat (first | exact Below.refl _ _ | (with_reducible assumption) | refine bel_alloc ?_ _ | refine bel_drew ?_ | refine bel_drewN ?_ _ | refine Below.setCell ?_ (by dsimp only; omega) _ | refine bel_trans (by assumption) ?_)), wv_of ((own_setFar (own_setFar ho2 (by simp) _ _) (by simp) _ _).le (by simp)) HS.out.1 HS.out.2⟩
        · have hm1 : (0 : Int) < (m : Int) := by omega
          have hck := HC.out (m - 1) (by omega)
          by_cases hx0 : xs.getD (m - 1) 0 = 0
          · have hvv : val (xs.take (m - 1)) = val xs := by
              have h1 := val_take_succ (xs := xs) (k := m - 1) (by omega)
              rw [show m - 1 + 1 = m by omega, hx0, Int.zero_mul, Int.add_zero, HV.out] at h1
              exact h1.symm
            rw [hx0] at hck
            clear hx0
            have HVV := Lib.hid hvv; clear hvv
            go_wp2_with fail
            go_round
            case rel => exact ⟨m - 1, by first | rfl | (congr 1; omega), by omega, by omega, HVV⟩
            case measure => simp [slLen]; omega
          · have hxb : (xs.getD (m - 1) 0 == 0) = false := beq_eq_false_iff_ne.2 hx0
            have hlast : (xs.take m) = [] ∨ (xs.take m).getD ((xs.take m).length - 1) 0 ≠ 0 := .inr (by
              rw [List.length_take, Nat.min_eq_left hm, List.getD_eq_getElem?_getD, List.getElem?_take, if_pos (by omega), ← List.getD_eq_getElem?_getD]
              exact hx0)
            generalize xs.getD (m - 1) 0 = y at hck hx0 hxb
            have HLA := Lib.hid hlast; clear hlast
            have hcl := fun w' hb => clone_any (.slice (some ⟨bb, off, none⟩) (xs.take m).length cap) (xs.take m) w' (HRM.out m w' hm hb) (by intro n c h; cases h) (by rw [List.length_take]; omega)
            have hlt : (xs.take m).length = m := by rw [List.length_take]; omega
            have HS := Lib.hid (HSG.out m HLA.out HV.out)
            rw [hlt] at hcl
            have HLT := Lib.hid hlt; clear hlt
            go_wp2_with fail
            refine (hcl _ (by repeat (first | exact Below.refl _ _ | (with_reducible assumption) | refine bel_alloc ?_ _ | refine bel_drew ?_ | refine bel_drewN ?_ _ | refine Below.setCell ?_ (by dsimp only; omega) _ | refine bel_trans (by assumption) ?_))).mono ?_; rintro e w2 ⟨u, rfl, hb2, ho2⟩
            obtain ⟨hc2, hf2, hz1, hz2, hz3, hz4⟩ := aftz hb2
            obtain ⟨ad2, cap2, hu⟩ := ho2.len
            rw [HLT.out] at hu
            have hzz : w.heap.size + 1 ≤ w2.heap.size := by have := hb2.size; simpa using this
            have HO := Lib.hid ho2; clear ho2
            subst hu
            go_wp2_with fail
            refine bodyPost_ret (by simp (maxDischargeDepth := 3) [results, Try.results73, go_sem, *]; try rfl) rfl ?_
            exact ⟨_, rfl, (by repeat (first | exact Below.refl _ _ | (with_reducible assumption) | refine bel_alloc ?_ _ | refine bel_drew ?_ | refine bel_drewN ?_ _ | refine Below.setCell ?_ (by dsimp only; omega) _ | refine bel_trans (by assumption) ?_)), wv_of ((own_setFar (own_setFar HO.out (by simp) _ _) (by simp) _ _).le (by simp)) HS.out.1 (by rw [← HS.out.2, HLT.out]; simp; try omega)⟩
end Go.Proofs.Ytnhlcgbknkdbiaa
