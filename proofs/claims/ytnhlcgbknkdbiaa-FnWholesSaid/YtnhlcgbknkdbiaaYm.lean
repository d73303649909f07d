/- Ym: the values of the calls of FnWholes, as packages. No conditions. -/
import Derived.Test.YtnhlcgbknkdbiaaYl
namespace Go.Proofs.Ytnhlcgbknkdbiaa
open Go.RowKit

/-- returned the whole S and a truth value. -/
def RetW2 (ok : Bool) (S : Int) (w : World) (e : Ending) (w' : World) : Prop := ∃ v, e = .returned (.tuple #[v, .bool ok]) ∧ Below w.heap.size w w' ∧ WV w' v S
def RetD2 (ok : Bool) (S r : Int) (w : World) (e : Ending) (w' : World) : Prop := ∃ v, e = .returned (.tuple #[v, .int .i64 r, .bool ok]) ∧ Below w.heap.size w w' ∧ WV w' v S
theorem valW_digs (z : Int) : valW (decide (z < 0)) (digs z.natAbs) = z := by
  unfold valW
  rw [val_digs]
  by_cases h : z < 0
  · rw [if_pos (by simpa using h)]; omega
  · rw [if_neg (by simpa using h)]; omega
theorem len4_iff {z : Int} : len4 z = true ↔ (digs z.natAbs).length ≤ 400 := by unfold len4; exact decide_eq_true_iff
theorem good_len4 (z : Int) : goodW (decide (z < 0)) (digs z.natAbs) = len4 z := goodW_dig z
theorem len4_zero : len4 0 = true := by rw [len4_iff]; simp [digs_zero]
section
variable {n m : Bool} {xs ys : List Int}
structure WM (n : Bool) (xs : List Int) (S P Q A : Int) (ok6 ok7 : Bool) : Prop where
  q : ∀ v u w, RW w v n xs → RW w u n xs → Calls Try.prog 12 #[v, u] w (RetW2 ok6 Q w)
  al : ∀ v u w, RW w v n xs → WV w u S → Calls Try.prog 12 #[v, u] w (RetW2 ok7 A w)
  add : ok6 = true → ok7 = true → ∃ ok8 E, (∀ v u w, WV w v Q → WV w u P → Calls Try.prog 7 #[v, u] w (RetW2 ok8 E w)) ∧ (∀ v u w, WV w v Q → WV w u P → Calls Try.prog 8 #[v, u] w (RetW2 ok8 E w)) ∧ (ok8 = true → E = A)
structure WY (n m : Bool) (xs ys : List Int) (S P Z : Int) (ok3 : Bool) : Prop where
  back : ∀ v u w, WV w v S → RW w u m ys → Calls Try.prog 9 #[v, u] w (RetW2 true Z w)
  wa : ∀ v w, RW w v n xs → WV w v Z
  isW : ∀ v w, WV w v S → Calls Try.prog 14 #[v] w (Ret (.bool true) w)
  mul : ok3 = true → ∃ Q A ok6 ok7, WM n xs S P Q A ok6 ok7
structure WK (n m : Bool) (xs ys : List Int) (S D P : Int) (ok1 ok2 ok3 : Bool) : Prop where
  a0 : ∀ v u w, RW w v n xs → RW w u m ys → Calls Try.prog 7 #[v, u] w (RetW2 ok1 S w)
  a1 : ∀ v u w, RW w v n xs → RW w u m ys → Calls Try.prog 8 #[v, u] w (RetW2 ok1 S w)
  s0 : ∀ v u w, RW w v n xs → RW w u m ys → Calls Try.prog 9 #[v, u] w (RetW2 ok2 D w)
  s1 : ∀ v u w, RW w v n xs → RW w u m ys → Calls Try.prog 10 #[v, u] w (RetW2 ok2 D w)
  p0 : ∀ v u w, RW w v n xs → RW w u m ys → Calls Try.prog 11 #[v, u] w (RetW2 ok3 P w)
  p1 : ∀ v u w, RW w v n xs → RW w u m ys → Calls Try.prog 12 #[v, u] w (RetW2 ok3 P w)
  yes : ok1 = true → ∃ Z, WY n m xs ys S P Z ok3
  oth : ok3 = true → ∀ v u w, RW w v m ys → RW w u n xs → Calls Try.prog 11 #[v, u] w (RetW2 true P w)
theorem add_i {z y : Int} (hz : len4 z = true) (hy : len4 y = true) (v u : Value) (w : World) (h : WV w v z) (h' : WV w u y) : Calls Try.prog 7 #[v, u] w (RetW2 (len4 (z + y)) (if len4 (z + y) = true then z + y else 0) w) := by
  have hb := iAddWholes_any v u _ _ _ _ w h.rw h'.rw (by have := len4_iff.1 hz; omega) (by have := len4_iff.1 hy; omega)
  rw [valW_digs, valW_digs, good_len4, good_len4, hz, hy] at hb
  exact hb
theorem add_s {z y : Int} (hz : len4 z = true) (hy : len4 y = true) (v u : Value) (w : World) (h : WV w v z) (h' : WV w u y) : Calls Try.prog 8 #[v, u] w (RetW2 (len4 (z + y)) (if len4 (z + y) = true then z + y else 0) w) := by
  have hb := sAddWholes_any v u _ _ _ _ w h.rw h'.rw (by have := len4_iff.1 hz; omega) (by have := len4_iff.1 hy; omega)
  rw [valW_digs, valW_digs, good_len4, good_len4, hz, hy] at hb
  exact hb
theorem sub_i {z y : Int} (hz : len4 z = true) (hy : len4 y = true) (v u : Value) (w : World) (h : WV w v z) (h' : WV w u y) : Calls Try.prog 9 #[v, u] w (RetW2 (len4 (z - y)) (if len4 (z - y) = true then z - y else 0) w) := by
  have hb := iSubWholes_any v u _ _ _ _ w h.rw h'.rw (by have := len4_iff.1 hz; omega) (by have := len4_iff.1 hy; omega)
  rw [valW_digs, valW_digs, good_len4, good_len4, hz, hy] at hb
  exact hb
theorem mul_i {z y : Int} (hz : len4 z = true) (hy : len4 y = true) (v u : Value) (w : World) (h : WV w v z) (h' : WV w u y) : Calls Try.prog 11 #[v, u] w (RetW2 (len4 (z * y)) (if len4 (z * y) = true then z * y else 0) w) := by
  have hb := iMulWholes_any v u _ _ _ _ w h.rw h'.rw (by have := len4_iff.1 hz; omega) (by have := len4_iff.1 hy; omega)
  rw [valW_digs, valW_digs, good_len4, good_len4, hz, hy] at hb
  exact hb
theorem mul_s {z y : Int} (hz : len4 z = true) (hy : len4 y = true) (v u : Value) (w : World) (h : WV w v z) (h' : WV w u y) : Calls Try.prog 12 #[v, u] w (RetW2 (len4 (z * y)) (if len4 (z * y) = true then z * y else 0) w) := by
  have hb := sMulWholes_any v u _ _ _ _ w h.rw h'.rw (by have := len4_iff.1 hz; omega) (by have := len4_iff.1 hy; omega)
  rw [valW_digs, valW_digs, good_len4, good_len4, hz, hy] at hb
  exact hb
theorem wfacts (hl : xs.length ≤ 1000) (hl' : ys.length ≤ 1000) : ∃ S D P ok1 ok2 ok3, WK n m xs ys S D P ok1 ok2 ok3 := by
  refine ⟨_, _, _, _, _, _, fun v u w h h' => iAddWholes_any v u n m xs ys w h h' hl hl', fun v u w h h' => sAddWholes_any v u n m xs ys w h h' hl hl', fun v u w h h' => iSubWholes_any v u n m xs ys w h h' hl hl', fun v u w h h' => sSubWholes_any v u n m xs ys w h h' hl hl', fun v u w h h' => iMulWholes_any v u n m xs ys w h h' hl hl', fun v u w h h' => sMulWholes_any v u n m xs ys w h h' hl hl', fun hok => ?_, fun hok v u w h h' => ?_⟩
  · rw [Bool.and_eq_true, Bool.and_eq_true] at hok
    obtain ⟨⟨g1, g2⟩, g3⟩ := hok
    have hz := len4_iff.2 (good_val g1).2.2
    have hy := len4_iff.2 (good_val g2).2.2
    have hwz := fun v w (h : RW w v n xs) => h.wv g1
    have hwy := fun v w (h : RW w v m ys) => h.wv g2
    rw [g1, g2, g3]
    show ∃ Z, WY n m xs ys (valW n xs + valW m ys) (if len4 (valW n xs * valW m ys) = true then valW n xs * valW m ys else 0) Z (len4 (valW n xs * valW m ys))
    generalize valW n xs = z at *
    generalize valW m ys = y at *
    refine ⟨z, fun v u w h h' => ?_, hwz, fun v w h => ?_, fun h3 => ?_⟩
    · have hb := sub_i g3 hy v u w h (hwy _ _ h')
      rw [show z + y - y = z by omega, hz] at hb
      exact hb
    · have hb := iIsWhole_any v _ _ w h.rw (by have := len4_iff.1 g3; omega)
      rw [good_len4, g3] at hb
      exact hb
    · rw [h3]
      show ∃ Q A ok6 ok7, WM n xs (z + y) (z * y) Q A ok6 ok7
      refine ⟨_, _, _, _, fun v u w h h' => mul_s hz hz v u w (hwz _ _ h) (hwz _ _ h'), fun v u w h h' => mul_s hz g3 v u w (hwz _ _ h) h', fun h6 h7 => ?_⟩
      rw [h6, h7]
      refine ⟨_, _, fun v u w h h' => add_i h6 h3 v u w h h', fun v u w h h' => add_s h6 h3 v u w h h', fun h8 => ?_⟩
      rw [h8]
      show z * z + z * y = z * (z + y)
      rw [Int.mul_add]
  · rw [Bool.and_eq_true, Bool.and_eq_true] at hok
    obtain ⟨⟨g1, g2⟩, g3⟩ := hok
    have hb := mul_i (len4_iff.2 (good_val g2).2.2) (len4_iff.2 (good_val g1).2.2) v u w (h.wv g2) (h'.wv g1)
    rw [Int.mul_comm (valW m ys), g3] at hb
    rw [g1, g2, g3]
    exact hb
structure WE (n : Bool) (xs : List Int) (k Q R M U Lw Bk Z : Int) (ok8 ok10 : Bool) : Prop where
  w7 : ∀ w, Calls Try.prog 18 #[.int .i64 k] w (RetW2 true M w)
  u8 : ∀ v u w, WV w v Q → WV w u M → Calls Try.prog 12 #[v, u] w (RetW2 ok8 U w)
  w9 : ∀ w, Calls Try.prog 18 #[.int .i64 R] w (RetW2 true Lw w)
  b10 : ∀ v u w, WV w v U → WV w u Lw → Calls Try.prog 8 #[v, u] w (RetW2 ok10 Bk w)
  r0 : 0 ≤ R
  r1 : R < k
  same : ok8 = true → ok10 = true → Bk = Z
  wa : ∀ v w, RW w v n xs → WV w v Z
structure WD (n : Bool) (xs : List Int) (k Q R : Int) (ok : Bool) : Prop where
  d0 : ∀ v w, RW w v n xs → Calls Try.prog 16 #[v, .int .i64 k] w (RetD2 ok Q R w)
  d1 : ∀ v w, RW w v n xs → Calls Try.prog 17 #[v, .int .i64 k] w (RetD2 ok Q R w)
  yes : ok = true → ∃ M U Lw Bk Z ok8 ok10, WE n xs k Q R M U Lw Bk Z ok8 ok10
theorem dfacts (k : Int) (hl : xs.length ≤ 1000) : ∃ Q R ok, WD n xs k Q R ok := by
  refine ⟨_, _, _, fun v w h => iDivideWhole_any v n xs k w h hl, fun v w h => sDivideWhole_any v n xs k w h hl, fun hok => ?_⟩
  rw [Bool.and_eq_true] at hok
  obtain ⟨g1, g2⟩ := hok
  obtain ⟨k0, k1⟩ := inB_true.1 g2
  have hz := (good_val g1).2.2
  have hwz := fun v w (h : RW w v n xs) => h.wv g1
  rw [g1, g2]
  show ∃ M U Lw Bk Z ok8 ok10, WE n xs k (valW n xs / k) (valW n xs % k) M U Lw Bk Z ok8 ok10
  generalize valW n xs = z at *
  have hql := len4_iff.2 (div_len (k := k) hz)
  have hr0 := Int.emod_nonneg z (b := k) (by omega)
  have hr1 := Int.emod_lt_of_pos z (b := k) (by omega)
  have he := Int.mul_ediv_add_emod z k
  rw [Int.mul_comm] at he
  generalize z / k = q at *
  generalize z % k = r at *
  have hkl : len4 k = true := len4_iff.2 (Nat.le_trans (digs_int_len (by omega)) (by decide))
  have hrl : len4 r = true := len4_iff.2 (Nat.le_trans (digs_int_len (by omega)) (by decide))
  have hw7 := fun w => sWholeOf_any k w
  rw [inB_true.2 ⟨by omega, by omega⟩] at hw7
  have hw9 := fun w => sWholeOf_any r w
  rw [inB_true.2 ⟨by omega, by omega⟩] at hw9
  cases h8 : len4 (q * k)
  · have hu := fun v u w (h : WV w v q) (h' : WV w u k) => mul_s hql hkl v u w h h'
    rw [h8] at hu
    exact ⟨k, _, r, _, z, _, _, hw7, hu, hw9, fun v u w h h' => add_s len4_zero hrl v u w h h', hr0, hr1, fun h => (by cases h), hwz⟩
  · have hu := fun v u w (h : WV w v q) (h' : WV w u k) => mul_s hql hkl v u w h h'
    rw [h8] at hu
    refine ⟨k, q * k, r, _, z, _, _, hw7, hu, hw9, fun v u w h h' => add_s h8 hrl v u w h h', hr0, hr1, fun _ h10 => ?_, hwz⟩
    rw [h10]
    exact he
end
end Go.Proofs.Ytnhlcgbknkdbiaa
