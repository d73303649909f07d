/- Zk: the values of the calls of FnWholeOrder, as packages. No conditions. -/
import Derived.Test.YtakilincclnpdaaGreatDoorPSy
import Derived.Test.YtakilincclnpdaaGreatDoorZay
namespace Go.Proofs.YtakilincclnpdaaGreatDoor
open Go.RowKit

/-- returned the whole S and a truth value. -/
def RetW2 (ok : Bool) (S : Int) (w : World) (e : Ending) (w' : World) : Prop := ∃ v, e = .returned (.tuple #[v, .bool ok]) ∧ Below w.heap.size w w' ∧ WV w' v S
def RetD2 (ok : Bool) (S r : Int) (w : World) (e : Ending) (w' : World) : Prop := ∃ v, e = .returned (.tuple #[v, .int .i64 r, .bool ok]) ∧ Below w.heap.size w w' ∧ WV w' v S
theorem valW_digs (z : Int) : valW (decide (z < 0)) (digs z.natAbs) = z := by
  unfold valW
  rw [val_digs]
  by_cases h : z < 0
  · rw [if_pos (by simpa using h)]; omega
  · rw [if_neg (by simpa using h)]; omega
theorem len4_iff {z : Int} : len4 z = true ↔ (digs z.natAbs).length ≤ 400 := by unfold len4; exact decide_eq_true_iff
theorem good_len4 (z : Int) : goodW (decide (z < 0)) (digs z.natAbs) = len4 z := goodW_dig z
theorem len0_iff (z : Int) : (digs z.natAbs).length = 0 ↔ z = 0 := by
  rw [List.length_eq_zero_iff, digs_nil]; omega
theorem cmp_facts (z y : Int) : cmpI y z = -cmpI z y ∧ (cmpI z y = 0 ↔ z - y = 0) ∧ (cmpI z y < 0 ↔ z - y < 0) ∧ -1 ≤ cmpI z y ∧ cmpI z y ≤ 1 := by
  unfold cmpI
  rcases Int.lt_trichotomy z y with h | h | h
  · rw [if_pos h, if_neg (show ¬ y < z by omega), if_neg (show ¬ y = z by omega)]; omega
  · rw [if_neg (show ¬ z < y by omega), if_pos h, if_neg (show ¬ y < z by omega), if_pos h.symm]; omega
  · rw [if_neg (show ¬ z < y by omega), if_neg (show ¬ z = y by omega), if_pos h]; omega
section
variable {n m : Bool} {xs ys : List Int}
structure OB (n m : Bool) (xs ys : List Int) (c D : Int) (ok3 : Bool) : Prop where
  back : ∀ v u w, RW w v n xs → RW w u m ys → Calls Tryz.prog 7 #[u, v] w (Ret (.tuple #[.int .i64 (-c), .bool true]) w)
  s0 : ∀ v u w, RW w v n xs → RW w u m ys → Calls Tryz.prog 9 #[v, u] w (RetW2 ok3 D w)
  s1 : ∀ v u w, RW w v n xs → RW w u m ys → Calls Tryz.prog 10 #[v, u] w (RetW2 ok3 D w)
  zer : ok3 = true → ((digs D.natAbs).length = 0 ↔ c = 0)
  sgn : ok3 = true → decide (D < 0) = decide (c < 0)
  c0 : -1 ≤ c
  c1 : c ≤ 1
structure OA (n m : Bool) (xs ys : List Int) (c : Int) (ok : Bool) : Prop where
  c0 : ∀ v u w, RW w v n xs → RW w u m ys → Calls Tryz.prog 7 #[v, u] w (Ret (.tuple #[.int .i64 c, .bool ok]) w)
  c1 : ∀ v u w, RW w v n xs → RW w u m ys → Calls Tryz.prog 8 #[v, u] w (Ret (.tuple #[.int .i64 c, .bool ok]) w)
  yes : ok = true → ∃ D ok3, OB n m xs ys c D ok3
theorem ofacts (hl : xs.length ≤ 1000) (hl' : ys.length ≤ 1000) : ∃ c ok, OA n m xs ys c ok := by
  refine ⟨_, _, fun v u w h h' => iCompareWholes_any v u n m xs ys w h h' hl hl', fun v u w h h' => sCompareWholes_any v u n m xs ys w h h' hl hl', fun hok => ?_⟩
  have hok' := hok
  rw [Bool.and_eq_true] at hok'
  obtain ⟨g1, g2⟩ := hok'
  rw [if_pos hok]
  have hs0 := fun v u w (h : RW w v n xs) (h' : RW w u m ys) => iSubWholes_any v u n m xs ys w h h' hl hl'
  have hs1 := fun v u w (h : RW w v n xs) (h' : RW w u m ys) => sSubWholes_any v u n m xs ys w h h' hl hl'
  have hbk := fun v u w (h : RW w v n xs) (h' : RW w u m ys) => iCompareWholes_any u v m n ys xs w h' h hl' hl
  unfold cmpV at hbk
  obtain ⟨f1, f2, f3, f4, f5⟩ := cmp_facts (valW n xs) (valW m ys)
  rw [g1, g2] at hs0 hs1 hbk
  rw [if_pos (show (true && true) = true from rfl), f1] at hbk
  refine ⟨_, _, hbk, hs0, hs1, fun h3 => ?_, fun h3 => ?_, f4, f5⟩
  · rw [if_pos h3, len0_iff, f2]
  · rw [if_pos h3]
    exact decide_eq_decide.2 f3.symm
structure TA (n : Bool) (xs : List Int) (t : ByteArray) (k : Int) (ok : Bool) : Prop where
  t0 : ∀ v w, RW w v n xs → PowT w → Calls Tryz.prog 13 #[v] w (Ret (.tuple #[.string t, .bool ok]) w)
  t1 : ∀ v w, RW w v n xs → Calls Tryz.prog 14 #[v] w (Ret (.tuple #[.string t, .bool ok]) w)
  b0 : ∀ v w, RW w v n xs → Calls Tryz.prog 15 #[v] w (Ret (.tuple #[.int .i64 k, .bool ok]) w)
  b1 : ∀ v w, RW w v n xs → Calls Tryz.prog 16 #[v] w (Ret (.tuple #[.int .i64 k, .bool ok]) w)
  isW : ∀ v w, RW w v n xs → Calls Tryz.prog 17 #[v] w (Ret (.bool ok) w)
  yes : ok = true → ∃ Z, (∀ w, PowT w → Calls Tryz.prog 18 #[.string t] w (RetW2 true Z w)) ∧ (∀ v w, RW w v n xs → WV w v Z) ∧ 0 ≤ k ∧ (k = 0 ↔ xs.length = 0)
theorem tfacts (hl : xs.length ≤ 1000) : ∃ t k ok, TA n xs t k ok := by
  refine ⟨_, _, _, fun v w h hp => iWholeText_any v n xs w h hl hp, fun v w h => sWholeText_any v n xs w h hl, fun v w h => iBitLength_any v n xs w h hl, fun v w h => sBitLength_any v n xs w h hl, fun v w h => iIsWhole_any v n xs w h hl, fun hok => ?_⟩
  rw [if_pos hok, if_pos hok]
  obtain ⟨g1, g2, g3⟩ := good_val hok
  obtain ⟨r1, r2⟩ := read_wtxt g3
  refine ⟨valW n xs, fun w hp => ?_, fun v w h => h.wv hok, by omega, ?_⟩
  · have h := iParseWhole_any (wtxt (valW n xs)) w hp
    rw [r1, r2] at h
    exact h
  · have e : xs.length = (digs (valW n xs).natAbs).length := by rw [← g1]
    rw [e, len0_iff]
    have := blen_nil (n := (valW n xs).natAbs)
    omega
structure PA (n : Bool) (xs : List Int) (k P : Int) (ok : Bool) : Prop where
  p0 : ∀ v w, RW w v n xs → Calls Tryz.prog 20 #[v, .int .i64 k] w (RetW2 ok P w)
  p1 : ∀ v w, RW w v n xs → Calls Tryz.prog 21 #[v, .int .i64 k] w (RetW2 ok P w)
  yes : ok = true → 0 < k → ∃ L, (∀ v w, RW w v n xs → Calls Tryz.prog 20 #[v, .int .i64 (k - 1)] w (RetW2 true L w)) ∧ (∀ v w, RW w v n xs → Calls Tryz.prog 21 #[v, .int .i64 (k - 1)] w (RetW2 true L w)) ∧ (∀ v u w, WV w v L → RW w u n xs → Calls Tryz.prog 22 #[v, u] w (RetW2 true P w)) ∧ k ≤ 64
theorem pwfacts (k : Int) (hl : xs.length ≤ 1000) : ∃ P ok, PA n xs k P ok := by
  refine ⟨_, _, fun v w h => iPowerOfWhole_any v n xs k w h hl, fun v w h => sPowerOfWhole_any v n xs k w h hl, fun hok hk => ?_⟩
  have hok' := hok
  rw [Bool.and_eq_true, Bool.and_eq_true] at hok'
  obtain ⟨⟨g1, g2⟩, g3⟩ := hok'
  obtain ⟨k0, k1⟩ := inB_true.1 g2
  rw [if_pos hok]
  have h0 := fun v w (h : RW w v n xs) => iPowerOfWhole_any v n xs (k - 1) w h hl
  have h1 := fun v w (h : RW w v n xs) => sPowerOfWhole_any v n xs (k - 1) w h hl
  obtain ⟨j, hj⟩ : ∃ j : Nat, k.toNat = j + 1 := ⟨k.toNat - 1, by omega⟩
  have hj2 : (k - 1).toNat = j := by omega
  rw [hj] at g3 ⊢
  have g4 : (powOk (valW n xs) j && len4 (valW n xs ^ (j + 1))) = true := g3
  rw [Bool.and_eq_true] at g4
  rw [hj2, g1, g4.1, inB_true.2 ⟨by omega, by omega⟩] at h0 h1
  refine ⟨valW n xs ^ j, h0, h1, fun v u w hv hu => ?_, k1⟩
  have hwv := hu.wv g1
  have hb := iMulWholes_any v u _ _ _ _ w hv.rw hwv.rw (by have := powOk_len g4.1; omega) (by have := (good_val g1).2.2; omega)
  have hz4 : len4 (valW n xs) = true := len4_iff.2 (good_val g1).2.2
  have hL4 : len4 (valW n xs ^ j) = true := len4_iff.2 (powOk_len g4.1)
  rw [valW_digs, valW_digs, good_len4, good_len4, hz4, hL4, ← Int.pow_succ, g4.2] at hb
  exact hb
structure DA (n : Bool) (xs : List Int) (q G : Int) (ok : Bool) : Prop where
  d0 : ∀ v w, RW w v n xs → Calls Tryz.prog 24 #[v, .int .i64 q] w (Ret (.tuple #[.int .i64 G, .bool ok]) w)
  d1 : ∀ v w, RW w v n xs → Calls Tryz.prog 25 #[v, .int .i64 q] w (Ret (.tuple #[.int .i64 G, .bool ok]) w)
  yes : ok = true → ∃ Q, (∀ v w, RW w v n xs → Calls Tryz.prog 26 #[v, .int .i64 G] w (RetD2 true Q 0 w)) ∧ q.tmod G = 0 ∧ q % G = 0 ∧ 1 ≤ G
theorem dvfacts (q : Int) (hl : xs.length ≤ 1000) : ∃ G ok, DA n xs q G ok := by
  refine ⟨_, _, fun v w h => iDivisorWith_any v n xs q w h hl, fun v w h => sDivisorWith_any v n xs q w h hl, fun hok => ?_⟩
  have hok' := hok
  rw [Bool.and_eq_true] at hok'
  obtain ⟨g1, g2⟩ := hok'
  obtain ⟨k0, k1⟩ := inB_true.1 g2
  rw [if_pos hok]
  have hd := fun v w (h : RW w v n xs) => iDivideWhole_any v n xs (gcdI (valW n xs) q) w h hl
  have e1 : gcdI (valW n xs) q ∣ valW n xs := Int.gcd_dvd_left ..
  have e2 : gcdI (valW n xs) q ∣ q := Int.gcd_dvd_right ..
  have e3 : 1 ≤ gcdI (valW n xs) q := by
    unfold gcdI
    have : 0 < Int.gcd (valW n xs) q := Int.gcd_pos_of_ne_zero_right _ (by omega)
    omega
  have e4 : gcdI (valW n xs) q ≤ q := Int.le_of_dvd (by omega) e2
  rw [g1, inB_true.2 ⟨by omega, by omega⟩] at hd
  generalize gcdI (valW n xs) q = G at *
  have e5 : valW n xs % G = 0 := Int.emod_eq_zero_of_dvd e1
  have e6 : q % G = 0 := Int.emod_eq_zero_of_dvd e2
  rw [e5] at hd
  exact ⟨_, hd, by rw [Int.tmod_eq_emod_of_nonneg (by omega)]; exact e6, e6, e3⟩
end
structure YA (x : ByteArray) (Y : Int) (ok : Bool) : Prop where
  y0 : ∀ w, PowT w → Calls Tryz.prog 18 #[.string x] w (RetW2 ok Y w)
  y1 : ∀ w, Calls Tryz.prog 28 #[.string x] w (RetW2 ok Y w)
theorem yfacts (x : ByteArray) (hx : x.size ≤ 2000) : ∃ Y ok, YA x Y ok :=
  ⟨_, _, fun w hp => iParseWhole_any x w hp, fun w => sParseWhole_any x w (by omega)⟩
structure ZA (z Y : Int) (ok : Bool) : Prop where
  z0 : ∀ w, Calls Tryz.prog 30 #[.int .i64 z] w (RetW2 ok Y w)
  z1 : ∀ w, Calls Tryz.prog 31 #[.int .i64 z] w (RetW2 ok Y w)
theorem zfacts (z : Int) : ∃ Y ok, ZA z Y ok := ⟨_, _, fun w => iWholeOf_any z w, fun w => sWholeOf_any z w⟩
end Go.Proofs.YtakilincclnpdaaGreatDoor
