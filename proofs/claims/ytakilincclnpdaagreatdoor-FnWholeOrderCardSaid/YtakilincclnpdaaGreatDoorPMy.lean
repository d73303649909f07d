/- Wa: contracts: whole numbers with many limbs: laying one, its sign, the order. No conditions. -/
import Derived.Test.YtakilincclnpdaaGreatDoorPIy
/- Wh: whole numbers as rows of limbs to the base 10000, the least ahead: plain laws. No conditions. -/
namespace Go.Proofs.YtakilincclnpdaaGreatDoor

/-- the limbs of a number. -/
def digs (n : Nat) : List Int := if h : n = 0 then [] else ((n % 10000 : Nat) : Int) :: digs (n / 10000)
termination_by n
decreasing_by omega
/-- the number of some limbs. -/
def val : List Int → Int
  | [] => 0
  | x :: r => x + 10000 * val r
def Dig (xs : List Int) : Prop := ∀ x ∈ xs, 0 ≤ x ∧ x ≤ 9999
theorem digs_zero : digs 0 = [] := by rw [digs, dif_pos rfl]
theorem digs_pos {n : Nat} (h : n ≠ 0) : digs n = ((n % 10000 : Nat) : Int) :: digs (n / 10000) := by rw [digs, dif_neg h]
theorem val_digs (n : Nat) : val (digs n) = n := by
  induction n using Nat.strongRecOn with
  | _ n ih =>
    by_cases h : n = 0
    · subst h; rw [digs_zero]; rfl
    · rw [digs_pos h, val, ih (n / 10000) (by omega)]
      omega
theorem digs_dig (n : Nat) : Dig (digs n) := by
  induction n using Nat.strongRecOn with
  | _ n ih =>
    by_cases h : n = 0
    · subst h; rw [digs_zero]; intro x hx; cases hx
    · rw [digs_pos h]
      intro x hx
      rcases List.mem_cons.1 hx with rfl | hx
      · omega
      · exact ih (n / 10000) (by omega) x hx
theorem digs_nil {n : Nat} : digs n = [] ↔ n = 0 := by
  constructor
  · intro h
    by_cases h0 : n = 0
    · exact h0
    · rw [digs_pos h0] at h; cases h
  · rintro rfl; exact digs_zero
theorem Dig.tail {x : Int} {r : List Int} (h : Dig (x :: r)) : Dig r := fun y hy => h y (List.mem_cons_of_mem _ hy)
theorem Dig.head {x : Int} {r : List Int} (h : Dig (x :: r)) : 0 ≤ x ∧ x ≤ 9999 := h x (List.mem_cons_self ..)
theorem Dig.take {xs : List Int} (h : Dig xs) (k : Nat) : Dig (xs.take k) := fun y hy => h y (List.mem_of_mem_take hy)
theorem Dig.at {xs : List Int} (h : Dig xs) {i : Nat} (hi : i < xs.length) : 0 ≤ xs.getD i 0 ∧ xs.getD i 0 ≤ 9999 := by
  rw [List.getD_eq_getElem?_getD, List.getElem?_eq_getElem hi]
  exact h _ (List.getElem_mem hi)
theorem Dig.set {xs : List Int} (h : Dig xs) (i : Nat) {v : Int} (h0 : 0 ≤ v) (h1 : v ≤ 9999) : Dig (xs.set i v) := by
  intro y hy
  rcases List.mem_or_eq_of_mem_set hy with h' | rfl
  · exact h y h'
  · exact ⟨h0, h1⟩
theorem Dig.zeros (n : Nat) : Dig (List.replicate n 0) := fun y hy => by rw [List.eq_of_mem_replicate hy]; omega
theorem val_nonneg : ∀ {xs : List Int}, Dig xs → 0 ≤ val xs
  | [], _ => Int.le_refl _
  | x :: r, h => by have h1 := h.head; have h2 := val_nonneg h.tail; rw [val]; omega
theorem val_lt : ∀ {xs : List Int}, Dig xs → val xs < 10000 ^ xs.length
  | [], _ => by decide
  | x :: r, h => by
    have h1 := h.head; have h2 := val_lt h.tail
    rw [val, List.length_cons, Int.pow_succ]; omega
theorem val_zeros : ∀ n, val (List.replicate n 0) = 0
  | 0 => rfl
  | n + 1 => by rw [List.replicate_succ, val, val_zeros n]; rfl
theorem val_append : ∀ (xs ys : List Int), val (xs ++ ys) = val xs + 10000 ^ xs.length * val ys
  | [], ys => by simp [val]
  | x :: r, ys => by
    rw [List.cons_append, val, val, val_append r ys, List.length_cons, Int.pow_succ]
    generalize (10000 : Int) ^ r.length = p
    grind
theorem val_set : ∀ {xs : List Int} {i : Nat} (v : Int), i < xs.length → val (xs.set i v) = val xs + (v - xs.getD i 0) * 10000 ^ i
  | [], i, v, h => absurd h (Nat.not_lt_zero _)
  | x :: r, 0, v, _ => by simp [val]; omega
  | x :: r, i + 1, v, h => by
    have h2 := val_set (xs := r) (i := i) v (by simpa using h)
    rw [List.set_cons_succ, val, val, h2, List.getD_cons_succ, Int.pow_succ]
    generalize (10000 : Int) ^ i = p
    generalize r.getD i 0 = y
    grind
theorem val_take_succ {xs : List Int} {k : Nat} (h : k < xs.length) : val (xs.take (k + 1)) = val (xs.take k) + xs.getD k 0 * 10000 ^ k := by
  rw [List.take_add_one, List.getElem?_eq_getElem h, val_append, List.length_take, Nat.min_eq_left (by omega), List.getD_eq_getElem?_getD, List.getElem?_eq_getElem h]
  simp only [Option.toList, Option.getD_some, val]
  rw [Int.mul_zero, Int.add_zero, Int.mul_comm]
/-- limbs whose last one is not 0 are those of their number. -/
theorem digs_val : ∀ {xs : List Int}, Dig xs → (xs = [] ∨ xs.getD (xs.length - 1) 0 ≠ 0) → digs (val xs).toNat = xs
  | [], _, _ => digs_zero
  | x :: r, h, hl => by
    have h1 := h.head
    have h2 := val_nonneg h.tail
    have hv : 0 < val (x :: r) := by
      rw [val]
      rcases hl with hl | hl
      · cases hl
      · cases r with
        | nil => simp at hl; simp only [val]; omega
        | cons y q =>
          have hr : 0 < val (y :: q) := by
            have hih := digs_val (xs := y :: q) h.tail (.inr (by simpa using hl))
            rcases Int.lt_or_le 0 (val (y :: q)) with k | k
            · exact k
            · rw [show (val (y :: q)).toNat = 0 by omega, digs_zero] at hih; cases hih
          omega
    have hn : (val (x :: r)).toNat ≠ 0 := by omega
    have hih : digs (val r).toNat = r := by
      refine digs_val h.tail ?_
      cases r with
      | nil => exact .inl rfl
      | cons y q => exact .inr (by rcases hl with hl | hl; · cases hl
                                   · simpa using hl)
    rw [digs_pos hn]
    rw [val] at hv hn ⊢
    have e1 : (((x + 10000 * val r).toNat % 10000 : Nat) : Int) = x := by omega
    have e2 : (x + 10000 * val r).toNat / 10000 = (val r).toNat := by omega
    rw [e1, e2, hih]
theorem digs_lt {n k : Nat} (h : n < 10000 ^ k) : (digs n).length ≤ k := by
  induction k generalizing n with
  | zero => rw [show n = 0 by simpa using h, digs_zero]; exact Nat.le_refl _
  | succ k ih =>
    by_cases h0 : n = 0
    · subst h0; rw [digs_zero]; exact Nat.zero_le _
    · rw [digs_pos h0, List.length_cons]
      have : n / 10000 < 10000 ^ k := by rw [Nat.pow_succ] at h; omega
      have := ih this
      omega
theorem lt_digs (n : Nat) : n < 10000 ^ (digs n).length := by
  have h := val_lt (digs_dig n)
  rw [val_digs] at h
  have e : ((10000 ^ (digs n).length : Nat) : Int) = (10000 : Int) ^ (digs n).length := Int.natCast_pow _ _
  generalize (digs n).length = k at *
  omega
theorem digs_ge {n : Nat} (h : n ≠ 0) : 10000 ^ ((digs n).length - 1) ≤ n := by
  rcases Nat.lt_or_ge n (10000 ^ ((digs n).length - 1)) with k | k
  · have h1 := digs_lt k
    have h2 : (digs n).length ≠ 0 := fun e => h (digs_nil.1 (List.eq_nil_of_length_eq_zero e))
    omega
  · exact k
theorem digs_last {n : Nat} : digs n = [] ∨ (digs n).getD ((digs n).length - 1) 0 ≠ 0 := by
  induction n using Nat.strongRecOn with
  | _ n ih =>
    by_cases h : n = 0
    · subst h; exact .inl digs_zero
    · right
      rw [digs_pos h]
      rcases ih (n / 10000) (by omega) with h1 | h1
      · rw [h1]; have := digs_nil.1 h1; simp; omega
      · have hl : (digs (n / 10000)).length ≠ 0 := fun e => by rw [List.eq_nil_of_length_eq_zero e] at h1; simp at h1
        rw [List.length_cons, show (digs (n / 10000)).length + 1 - 1 = ((digs (n / 10000)).length - 1) + 1 by omega, List.getD_cons_succ]
        exact h1
theorem digs_mul_len (m n : Nat) : (digs (m * n)).length ≤ (digs m).length + (digs n).length := by
  apply digs_lt
  rw [Nat.pow_add]
  by_cases h : n = 0
  · subst h; rw [Nat.mul_zero]; exact Nat.mul_pos (Nat.pow_pos (by decide)) (Nat.pow_pos (by decide))
  · exact Nat.mul_lt_mul'' (lt_digs m) (lt_digs n)
theorem digs_mono {m n : Nat} (h : m ≤ n) : (digs m).length ≤ (digs n).length := digs_lt (Nat.lt_of_le_of_lt h (lt_digs n))
theorem digs_add_len {m n k : Nat} (h1 : (digs m).length ≤ k) (h2 : (digs n).length ≤ k) : (digs (m + n)).length ≤ k + 1 := by
  apply digs_lt
  have a := Nat.lt_of_lt_of_le (lt_digs m) (Nat.pow_le_pow_right (by decide) h1)
  have b := Nat.lt_of_lt_of_le (lt_digs n) (Nat.pow_le_pow_right (by decide) h2)
  rw [Nat.pow_succ]; omega

/-- comparing limbs from the last one on. -/
theorem val_cmp : ∀ {xs ys : List Int} {i : Nat}, Dig xs → Dig ys → xs.length = ys.length → i < xs.length → xs.drop (i + 1) = ys.drop (i + 1) → xs.getD i 0 < ys.getD i 0 → val xs < val ys
  | [], _, i, _, _, _, h, _, _ => absurd h (Nat.not_lt_zero _)
  | x :: r, [], i, _, _, h, _, _, _ => by cases h
  | x :: r, y :: q, 0, hx, hy, hl, _, hd, hlt => by
    have : r = q := by simpa using hd
    subst this
    have : x < y := by simpa using hlt
    rw [val, val]; omega
  | x :: r, y :: q, i + 1, hx, hy, hl, hi, hd, hlt => by
    have h := val_cmp (xs := r) (ys := q) (i := i) hx.tail hy.tail (by simpa using hl) (by simpa using hi) (by simpa using hd) (by simpa using hlt)
    have h1 := hx.head; have h2 := hy.head
    rw [val, val]; omega
theorem drop_eq_step {xs ys : List Int} {i : Nat} (hx : i < xs.length) (hy : i < ys.length) (h : xs.drop (i + 1) = ys.drop (i + 1)) (he : xs.getD i 0 = ys.getD i 0) : xs.drop i = ys.drop i := by
  rw [List.drop_eq_getElem_cons hx, List.drop_eq_getElem_cons hy, h]
  congr 1
  rw [List.getD_eq_getElem?_getD, List.getD_eq_getElem?_getD, List.getElem?_eq_getElem hx, List.getElem?_eq_getElem hy] at he
  exact he
def cmpI (x y : Int) : Int := if x < y then -1 else if x = y then 0 else 1
theorem len_cmp {m n : Nat} (h : (digs m).length < (digs n).length) : m < n := by
  rcases Nat.lt_or_ge m n with k | k
  · exact k
  · have := digs_mono k; omega
/-- a limb of the product: what is carried stays a limb. -/
theorem mul_step {o c x y : Int} (h1 : 0 ≤ o) (h2 : o ≤ 9999) (h3 : 0 ≤ c) (h4 : c ≤ 9999) (h5 : 0 ≤ x) (h6 : x ≤ 9999) (h7 : 0 ≤ y) (h8 : y ≤ 9999) :
    0 ≤ o + c + x * y ∧ o + c + x * y ≤ 99999999 ∧ 0 ≤ x * y ∧ x * y ≤ 99980001 := by
  have a := Int.mul_nonneg h5 h7
  have b : x * y ≤ 9999 * 9999 := Int.mul_le_mul h6 h8 h7 (by omega)
  omega
theorem val_take_full {xs : List Int} {k : Nat} (h : xs.length ≤ k) : xs.take k = xs := List.take_of_length_le h
/-- what is left to carry behind the last limb is nothing. -/
theorem carry_zero {out : List Int} {c T : Int} {L : Nat} (hd : Dig out) (hl : out.length = L) (h : val out + c * 10000 ^ L = T) (h0 : 0 ≤ T) (h1 : T < 10000 ^ L) : c = 0 ∧ val out = T := by
  have a := val_nonneg hd
  have b := val_lt hd
  rw [hl] at b
  have hc : c = 0 := by
    rcases Int.lt_trichotomy c 0 with k | k | k
    · have : c * 10000 ^ L ≤ (-1) * 10000 ^ L := Int.mul_le_mul_of_nonneg_right (by omega) (by omega)
      omega
    · exact k
    · have : 1 * (10000 : Int) ^ L ≤ c * 10000 ^ L := Int.mul_le_mul_of_nonneg_right (by omega) (by omega)
      omega
  subst hc
  exact ⟨rfl, by omega⟩
end Go.Proofs.YtakilincclnpdaaGreatDoor
namespace Go.Proofs.YtakilincclnpdaaGreatDoor
open Go.RowKit

/-- a row's length is within its room; no row without cells claims room. -/
def SlOk (v : Value) : Prop := NilZ v ∧ ∀ ad n c, v = .slice ad n c → n ≤ c
theorem Own.slok {w : World} {B : Nat} {v : Value} {xs : List Int} (h : Own w B v xs) : SlOk v := by
  refine ⟨h.nilz, fun ad n c hv => ?_⟩
  rcases h.shape with ⟨rfl, _⟩ | ⟨g, cap, rfl, _, _, hn, _⟩
  · cases hv; exact Nat.le_refl _
  · cases hv; exact hn
theorem own_setFar {w : World} {B : Nat} {v : Value} {xs : List Int} (h : Own w B v xs) {k : Nat} (hk : k < B) (o : Nat) (u : Value) : Own (w.setCell ⟨k, o, none⟩ u) B v xs := by
  obtain ⟨h1, h2⟩ := h
  refine ⟨h1, ?_⟩
  rcases h2 with h2 | ⟨g, cap, cur, hv, hg, hh, r⟩
  · exact .inl h2
  · exact .inr ⟨g, cap, cur, hv, hg, (Below.heap_setCell _ ⟨k, o, none⟩ _ _ (by dsimp only; omega)).trans hh, r⟩
/-- v is the whole number z. -/
def WV (w : World) (v : Value) (z : Int) : Prop := ∃ (ad : Option Addr) (cap : Nat), v = .agg #[.bool (decide (z < 0)), .slice ad (digs z.natAbs).length cap] ∧ Rd w (.slice ad (digs z.natAbs).length cap) (digs z.natAbs) ∧ SlOk (.slice ad (digs z.natAbs).length cap)
theorem WV.keep {w w' : World} {v : Value} {z : Int} (h : WV w v z) (hb : Below w.heap.size w w') : WV w' v z := by
  obtain ⟨ad, cap, hv, hr, hz⟩ := h
  exact ⟨ad, cap, hv, hr.keep hb, hz⟩
def slLen : Value → Nat
  | .slice _ n _ => n
  | _ => 0
/-- v is the whole number z, its limbs a row of the call's own. -/
def WO (w : World) (B : Nat) (v : Value) (z : Int) : Prop := ∃ (ad : Option Addr) (cap : Nat), v = .agg #[.bool (decide (z < 0)), .slice ad (digs z.natAbs).length cap] ∧ Own w B (.slice ad (digs z.natAbs).length cap) (digs z.natAbs)
def RetW (z : Int) (w : World) (e : Ending) (w' : World) : Prop := ∃ v, e = .returned v ∧ Below w.heap.size w w' ∧ WO w' w.heap.size v z
theorem WO.wv {w : World} {B : Nat} {v : Value} {z : Int} (h : WO w B v z) : WV w v z := by
  obtain ⟨ad, cap, hv, ho⟩ := h
  exact ⟨ad, cap, hv, ho.rd, ho.slok⟩
theorem WO.keep {w w' : World} {B : Nat} {v : Value} {z : Int} (h : WO w B v z) (hb : Below w.heap.size w w') : WO w' B v z := by
  obtain ⟨ad, cap, hv, ho⟩ := h
  exact ⟨ad, cap, hv, ho.keep hb⟩
theorem WO.le {w : World} {B B' : Nat} {v : Value} {z : Int} (h : WO w B v z) (hb : B' ≤ B) : WO w B' v z := by
  obtain ⟨ad, cap, hv, ho⟩ := h
  exact ⟨ad, cap, hv, ho.le hb⟩
theorem NilZ.take {ad : Option Addr} {n m cap : Nat} (h : NilZ (.slice ad n cap)) : NilZ (.slice ad m cap) := by
  intro n' c hc
  injection hc with h1 h2 h3
  subst h1; subst h3
  exact h n cap rfl
/-- the number that trimmed limbs and a sign make. -/
theorem wv_of {w : World} {B : Nat} {u : Value} {xs : List Int} {z : Int} {b : Bool} (ho : Own w B u xs) (hx : xs = digs z.natAbs) (hb : b = decide (z < 0)) : WO w B (.agg #[.bool b, u]) z := by
  subst hx; subst hb
  obtain ⟨ad, cap, rfl⟩ := ho.len
  exact ⟨ad, cap, rfl, ho⟩
theorem WO.setFar {w : World} {B : Nat} {v : Value} {z : Int} (h : WO w B v z) {k : Nat} (hk : k < B) (o : Nat) (u : Value) : WO (w.setCell ⟨k, o, none⟩ u) B v z := by
  obtain ⟨ad, cap, hv, ho⟩ := h
  exact ⟨ad, cap, hv, own_setFar ho hk o u⟩
theorem sgn_val {neg : Bool} {xs : List Int} (hd : Dig xs) (hl : xs = [] ∨ xs.getD (xs.length - 1) 0 ≠ 0) :
    xs = digs (if neg = true then -(val xs) else val xs).natAbs ∧ (neg && decide (0 < xs.length)) = decide ((if neg = true then -(val xs) else val xs) < 0) := by
  have h0 := val_nonneg hd
  have h1 := digs_val hd hl
  have h2 : (if neg = true then -(val xs) else val xs).natAbs = (val xs).toNat := by cases neg <;> simp <;> omega
  refine ⟨by rw [h2, h1], ?_⟩
  have h3 : 0 < xs.length ↔ 0 < val xs := by
    constructor
    · intro h
      rcases Int.lt_or_le 0 (val xs) with k | k
      · exact k
      · rw [show (val xs).toNat = 0 by omega, digs_zero] at h1
        subst h1; simp at h
    · intro h
      cases xs with
      | nil => simp [val] at h
      | cons x r => simp
  cases neg
  · simp; omega
  · simp only [Bool.true_and, if_true]
    rw [Bool.eq_iff_iff, decide_eq_true_eq, decide_eq_true_eq, h3]
    omega
set_option maxHeartbeats 2000000 in
theorem trimmed_any (neg : Bool) (v : Value) (xs : List Int) (w : World) (hrd : Rd w v xs) (hso : SlOk v) (hd : Dig xs) (hl : xs.length ≤ 1000000) :
    Calls Tryz.prog 110 #[.bool neg, v] w (RetW (if neg = true then -(val xs) else val xs) w) := by
  obtain ⟨hz, hca⟩ := hso
  by_cases hn : xs.length = 0
  · have hx := List.eq_nil_of_length_eq_zero hn
    subst hx
    have hsg := sgn_val (neg := neg) (xs := []) hd (.inl rfl)
    have HS := Lib.hid hsg; clear hsg
    have HR := Lib.hid hrd
    have HZ := Lib.hid hz; clear hz hca
    obtain ⟨ad, cap, rfl, _, _⟩ := hrd
    cases neg
    all_goals
      go_enter Tryz.func110, Tryz.ntmps110
      go_wp2_with fail
      refine wp_loop_rounds 1 ?_; rw [rounds_succ]
      go_wp2_with fail
      refine (clone_any _ [] _ (HR.out.keep (by repeat (first | exact Below.refl _ _ | (with_reducible assumption) | refine bel_alloc ?_ _ | refine bel_drew ?_ | refine bel_drewN ?_ _ | refine Below.setCell ?_ (by dsimp only; omega) _ | refine bel_trans (by assumption) ?_))) HZ.out (by simp)).mono ?_; rintro e w2 ⟨u, rfl, hb2, ho2⟩
      obtain ⟨hc2, hf2, hz1, hz2, hz3, hz4⟩ := aftz hb2
      obtain ⟨ad2, cap2, rfl⟩ := ho2.len
      have hzz : w.heap.size + 1 ≤ w2.heap.size := by have := hb2.size; simpa using this
      go_wp2_with fail
      refine bodyPost_ret (by simp (maxDischargeDepth := 3) [results, Tryz.results110, go_sem, *]; try rfl) rfl ?_
      exact ⟨_, rfl, (by repeat (first | exact Below.refl _ _ | (with_reducible assumption) | refine bel_alloc ?_ _ | refine bel_drew ?_ | refine bel_drewN ?_ _ | refine Below.setCell ?_ (by dsimp only; omega) _ | refine bel_trans (by assumption) ?_)), wv_of ((own_setFar (own_setFar ho2 (by simp) _ _) (by simp) _ _).le (by simp)) HS.out.1 HS.out.2⟩
  · obtain ⟨z, hz0⟩ : ∃ z, (if neg = true then -(val xs) else val xs) = z := ⟨_, rfl⟩
    rw [hz0]
    have HZ0 := Lib.hid hz0; clear hz0
    have HR := Lib.hid hrd
    obtain ⟨ad, cap, rfl, hlm, hcs⟩ := hrd
    obtain ⟨bb, off, rfl, hbb, hcell⟩ := hcs (by omega)
    clear hcs
    have HC := Lib.hid hcell; clear hcell
    have HD := Lib.hid hd; clear hd
    have hcap := hca _ _ _ rfl
    clear hz hca
    have hsg : ∀ m, (xs.take m = [] ∨ (xs.take m).getD ((xs.take m).length - 1) 0 ≠ 0) → val (xs.take m) = val xs → (xs.take m = digs z.natAbs ∧ (neg && decide (0 < (xs.take m).length)) = decide (z < 0)) := fun m h1 h2 => by
      have := sgn_val (neg := neg) (HD.out.take m) h1
      rw [h2, HZ0.out] at this
      exact this
    have HSG := Lib.hid hsg; clear hsg
    cases neg
    all_goals
      go_enter Tryz.func110, Tryz.ntmps110
      go_wp2_with fail
      go_loop [1] (fun x => ∃ m : Nat, x = .slice (some ⟨bb, off, none⟩) m cap ∧ m ≤ xs.length ∧ m ≤ cap ∧ Hid (val (xs.take m) = val xs)) (fun x => slLen x)
      case atStart => exact ⟨xs.length, rfl, Nat.le_refl _, hcap, by unfold Hid; rw [List.take_length]⟩
      case round =>
        obtain ⟨m, rfl, hm, hmc, HV⟩ := hrel
        have hm0 : (0 : Int) ≤ (m : Int) := Int.natCast_nonneg _
        have hmb : (m : Int) ≤ 1000000 := by omega
        have hrm : ∀ n w', n ≤ xs.length → Below w.heap.size w w' → Rd w' (.slice (some ⟨bb, off, none⟩) (xs.take n).length cap) (xs.take n) := fun n w' hn hb => by
          refine ⟨_, _, rfl, by rw [List.length_take]; omega, fun _ => ⟨bb, off, rfl, Nat.lt_of_lt_of_le hbb hb.size, fun i hi => ?_⟩⟩
          rw [List.length_take] at hi
          rw [hb.cell (p := ⟨bb, off + i, none⟩) hbb, HC.out i (by omega)]
          congr 2
          rw [List.getD_eq_getElem?_getD, List.getD_eq_getElem?_getD, List.getElem?_take, if_pos (by omega)]
        have HRM := Lib.hid hrm; clear hrm
        by_cases hz0 : m = 0
        · subst hz0
          have hx0 : xs.take 0 = [] := rfl
          have HS := Lib.hid (HSG.out 0 (.inl rfl) HV.out)
          have hcl := fun w' hb => clone_any (.slice (some ⟨bb, off, none⟩) 0 cap) [] w' (HRM.out 0 w' (by omega) hb) (by intro n c h; cases h) (by simp)
          clear hx0
          go_wp2_with fail
          refine (hcl _ (by repeat (first | exact Below.refl _ _ | (with_reducible assumption) | refine bel_alloc ?_ _ | refine bel_drew ?_ | refine bel_drewN ?_ _ | refine Below.setCell ?_ (by dsimp only; omega) _ | refine bel_trans (by assumption) ?_))).mono ?_; rintro e w2 ⟨u, rfl, hb2, ho2⟩
          obtain ⟨hc2, hf2, hz1, hz2, hz3, hz4⟩ := aftz hb2
          obtain ⟨ad2, cap2, rfl⟩ := ho2.len
          have hzz : w.heap.size + 1 ≤ w2.heap.size := by have := hb2.size; simpa using this
          go_wp2_with fail
          refine bodyPost_ret (by simp (maxDischargeDepth := 3) [results, Tryz.results110, go_sem, *]; try rfl) rfl ?_
          exact ⟨_, rfl, (by repeat (first | exact Below.refl _ _ | (with_reducible assumption) | refine bel_alloc ?_ _ | refine bel_drew ?_ | refine bel_drewN ?_ _ | refine Below.setCell ?_ (by dsimp only; omega) _ | refine bel_trans (by assumption) ?_)), wv_of ((own_setFar (own_setFar ho2 (by simp) _ _) (by simp) _ _).le (by simp)) HS.out.1 HS.out.2⟩
        · have hm1 : (0 : Int) < (m : Int) := by omega
          have hck := HC.out (m - 1) (by omega)
          by_cases hx0 : xs.getD (m - 1) 0 = 0
          · have hvv : val (xs.take (m - 1)) = val xs := by
              have h1 := val_take_succ (xs := xs) (k := m - 1) (by omega)
              rw [show m - 1 + 1 = m by omega, hx0, Int.zero_mul, Int.add_zero, HV.out] at h1
              exact h1.symm
            rw [hx0] at hck
            clear hx0
            have HVV := Lib.hid hvv; clear hvv
            go_wp2_with fail
            go_round
            case rel => exact ⟨m - 1, by first | rfl | (congr 1; omega), by omega, by omega, HVV⟩
            case measure => simp [slLen]; omega
          · have hxb : (xs.getD (m - 1) 0 == 0) = false := beq_eq_false_iff_ne.2 hx0
            have hlast : (xs.take m) = [] ∨ (xs.take m).getD ((xs.take m).length - 1) 0 ≠ 0 := .inr (by
              rw [List.length_take, Nat.min_eq_left hm, List.getD_eq_getElem?_getD, List.getElem?_take, if_pos (by omega), ← List.getD_eq_getElem?_getD]
              exact hx0)
            generalize xs.getD (m - 1) 0 = y at hck hx0 hxb
            have HLA := Lib.hid hlast; clear hlast
            have hcl := fun w' hb => clone_any (.slice (some ⟨bb, off, none⟩) (xs.take m).length cap) (xs.take m) w' (HRM.out m w' hm hb) (by intro n c h; cases h) (by rw [List.length_take]; omega)
            have hlt : (xs.take m).length = m := by rw [List.length_take]; omega
            have HS := Lib.hid (HSG.out m HLA.out HV.out)
            rw [hlt] at hcl
            have HLT := Lib.hid hlt; clear hlt
            go_wp2_with fail
            refine (hcl _ (by repeat (first | exact Below.refl _ _ | (with_reducible assumption) | refine bel_alloc ?_ _ | refine bel_drew ?_ | refine bel_drewN ?_ _ | refine Below.setCell ?_ (by dsimp only; omega) _ | refine bel_trans (by assumption) ?_))).mono ?_; rintro e w2 ⟨u, rfl, hb2, ho2⟩
            obtain ⟨hc2, hf2, hz1, hz2, hz3, hz4⟩ := aftz hb2
            obtain ⟨ad2, cap2, hu⟩ := ho2.len
            rw [HLT.out] at hu
            have hzz : w.heap.size + 1 ≤ w2.heap.size := by have := hb2.size; simpa using this
            have HO := Lib.hid ho2; clear ho2
            subst hu
            go_wp2_with fail
            refine bodyPost_ret (by simp (maxDischargeDepth := 3) [results, Tryz.results110, go_sem, *]; try rfl) rfl ?_
            exact ⟨_, rfl, (by repeat (first | exact Below.refl _ _ | (with_reducible assumption) | refine bel_alloc ?_ _ | refine bel_drew ?_ | refine bel_drewN ?_ _ | refine Below.setCell ?_ (by dsimp only; omega) _ | refine bel_trans (by assumption) ?_)), wv_of ((own_setFar (own_setFar HO.out (by simp) _ _) (by simp) _ _).le (by simp)) HS.out.1 (by rw [← HS.out.2, HLT.out]; simp; try omega)⟩
end Go.Proofs.YtakilincclnpdaaGreatDoor
