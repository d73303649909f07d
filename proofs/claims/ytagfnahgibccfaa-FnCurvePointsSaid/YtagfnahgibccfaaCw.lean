/- Cw: what the law FnCurvePoints needs: contracts with their answers laid in, and what is true of roots, discriminants and bad primes. No conditions. -/
import Derived.Test.YtagfnahgibccfaaCx
import Derived.Test.YtagfnahgibccfaaDz
import Derived.Test.YtagfnahgibccfaaBp
namespace Go.Proofs.Ytagfnahgibccfaa
open Go.RowKit

theorem iOrd_ok {a b : Int} (h : curveB a b = true) (w : World) : Calls Try.prog 6 #[.agg #[.int .i64 a, .int .i64 b]] w (RetSlB (rts a b (-100) 201) true w) := by
  have := iOrderTwoAt_any a b w h
  rwa [rts_same h] at this
theorem sOrd_ok {a b : Int} (h : curveB a b = true) (w : World) : Calls Try.prog 7 #[.agg #[.int .i64 a, .int .i64 b]] w (RetSlB (rts a b (-100) 201) true w) := by
  have := sOrderTwoAt_any a b w
  rwa [h, if_pos rfl] at this
theorem sOrd_no {a b : Int} (h : curveB a b = false) (w : World) : Calls Try.prog 7 #[.agg #[.int .i64 a, .int .i64 b]] w (RetSlB [] false w) := by
  have := sOrderTwoAt_any a b w
  rwa [h, if_neg (by decide)] at this
theorem iBad_ok {a b : Int} (h : curveB a b = true) (w : World) : Calls Try.prog 10 #[.agg #[.int .i64 a, .int .i64 b]] w (RetSlB (badL a b) true w) := by
  have := iBadPrimes_any a b w
  rwa [h, if_pos rfl] at this
theorem iBad_no {a b : Int} (h : curveB a b = false) (w : World) : Calls Try.prog 10 #[.agg #[.int .i64 a, .int .i64 b]] w (RetSlB [] false w) := by
  have := iBadPrimes_any a b w
  rwa [h, if_neg (by decide)] at this
theorem sBad_ok {a b : Int} (h : curveB a b = true) (w : World) : Calls Try.prog 11 #[.agg #[.int .i64 a, .int .i64 b]] w (RetSlB (badL a b) true w) := by
  have := sBadPrimes_any a b w
  rwa [h, if_pos rfl] at this
theorem sBad_no {a b : Int} (h : curveB a b = false) (w : World) : Calls Try.prog 11 #[.agg #[.int .i64 a, .int .i64 b]] w (RetSlB [] false w) := by
  have := sBadPrimes_any a b w
  rwa [h, if_neg (by decide)] at this
theorem iReal_ok {a b R : Int} (h : curveB a b = true) (e : (if discI a b < 0 then 2 else 1) = R) (w : World) : Calls Try.prog 8 #[.agg #[.int .i64 a, .int .i64 b]] w (Ret (.tuple #[.int .i64 R, .bool true]) w) := by
  have := iRealParts_any a b w
  rwa [h, if_pos rfl, e] at this
theorem sReal_ok {a b R : Int} (h : curveB a b = true) (e : (if discI a b < 0 then 2 else 1) = R) (w : World) : Calls Try.prog 9 #[.agg #[.int .i64 a, .int .i64 b]] w (Ret (.tuple #[.int .i64 R, .bool true]) w) := by
  have := sRealParts_any a b w
  rwa [h, if_pos rfl, e] at this
theorem iReal_no {a b : Int} (h : curveB a b = false) (w : World) : Calls Try.prog 8 #[.agg #[.int .i64 a, .int .i64 b]] w (Ret (.tuple #[.int .i64 0, .bool false]) w) := by
  have := iRealParts_any a b w
  rwa [h, if_neg (by decide)] at this
theorem sReal_no {a b : Int} (h : curveB a b = false) (w : World) : Calls Try.prog 9 #[.agg #[.int .i64 a, .int .i64 b]] w (Ret (.tuple #[.int .i64 0, .bool false]) w) := by
  have := sRealParts_any a b w
  rwa [h, if_neg (by decide)] at this
theorem iDisc_ok {a b R : Int} (h : curveB a b = true) (e : -16 * discI a b = R) (w : World) : Calls Try.prog 12 #[.agg #[.int .i64 a, .int .i64 b]] w (Ret (.tuple #[.int .i64 R, .bool true]) w) := by
  have := iDiscriminantOf_any a b w
  rwa [h, if_pos rfl, e] at this
theorem sDisc_ok {a b R : Int} (h : curveB a b = true) (e : -16 * discI a b = R) (w : World) : Calls Try.prog 13 #[.agg #[.int .i64 a, .int .i64 b]] w (Ret (.tuple #[.int .i64 R, .bool true]) w) := by
  have := sDiscriminantOf_any a b w
  rwa [h, if_pos rfl, e] at this
theorem iDisc_no {a b : Int} (h : curveB a b = false) (w : World) : Calls Try.prog 12 #[.agg #[.int .i64 a, .int .i64 b]] w (Ret (.tuple #[.int .i64 0, .bool false]) w) := by
  have := iDiscriminantOf_any a b w
  rwa [h, if_neg (by decide)] at this
theorem sDisc_no {a b : Int} (h : curveB a b = false) (w : World) : Calls Try.prog 13 #[.agg #[.int .i64 a, .int .i64 b]] w (Ret (.tuple #[.int .i64 0, .bool false]) w) := by
  have := sDiscriminantOf_any a b w
  rwa [h, if_neg (by decide)] at this
theorem iInv_ok {a b n d : Int} (h : curveB a b = true) (e : lowN (6912 * a * a * a) (discI a b) = n) (e' : lowD (6912 * a * a * a) (discI a b) = d) (w : World) : Calls Try.prog 14 #[.agg #[.int .i64 a, .int .i64 b]] w (Ret (.tuple #[.int .i64 n, .int .i64 d, .bool true]) w) := by
  have := iInvariantOf_any a b w
  rwa [h, if_pos rfl, e, e'] at this
theorem sInv_ok {a b n d : Int} (h : curveB a b = true) (e : lowN (6912 * a * a * a) (discI a b) = n) (e' : lowD (6912 * a * a * a) (discI a b) = d) (w : World) : Calls Try.prog 15 #[.agg #[.int .i64 a, .int .i64 b]] w (Ret (.tuple #[.int .i64 n, .int .i64 d, .bool true]) w) := by
  have := sInvariantOf_any a b w
  rwa [h, if_pos rfl, e, e'] at this
theorem iInv_no {a b : Int} (h : curveB a b = false) (w : World) : Calls Try.prog 14 #[.agg #[.int .i64 a, .int .i64 b]] w (Ret (.tuple #[.int .i64 0, .int .i64 0, .bool false]) w) := by
  have := iInvariantOf_any a b w
  rwa [h, if_neg (by decide)] at this
theorem sInv_no {a b : Int} (h : curveB a b = false) (w : World) : Calls Try.prog 15 #[.agg #[.int .i64 a, .int .i64 b]] w (Ret (.tuple #[.int .i64 0, .int .i64 0, .bool false]) w) := by
  have := sInvariantOf_any a b w
  rwa [h, if_neg (by decide)] at this
theorem same_ok {v u : Value} {s : List Int} {w : World} (h : Rd w v s) (h' : Rd w u s) : Calls Try.prog 16 #[v, u] w (Ret (.bool true) w) := by
  have := sameInts_any v u s s w h h'
  rwa [decide_eq_true rfl] at this
/-- a box of two numbers. -/
def Bx (n : Nat) (a b : Int) (w : World) : Prop := n < w.heap.size ∧ w.cell? ⟨n, 0, none⟩ = some (.int .i64 a) ∧ w.cell? ⟨n, 1, none⟩ = some (.int .i64 b)
theorem Bx.new (a b : Int) (w : World) (t : TypeId) : Bx w.heap.size a b (w.alloc (.cells #[.int .i64 a, .int .i64 b] t)) := ⟨by simp, by simp [go_sem], by simp [go_sem]⟩
theorem Bx.keep {n : Nat} {a b : Int} {w w' : World} (h : Bx n a b w) (hb : Below w.heap.size w w') : Bx n a b w' :=
  ⟨Nat.lt_of_lt_of_le h.1 hb.size, (hb.cell (p := ⟨n, 0, none⟩) h.1).trans h.2.1, (hb.cell (p := ⟨n, 1, none⟩) h.1).trans h.2.2⟩
theorem isRow_keep {k : IntKind} {w w' : World} {a : Option Addr} {len cap : Nat} {zs : List Int} (h : IsRow k w a len cap zs) (hb : Below w.heap.size w w') : IsRow k w' a len cap zs := by
  rcases h with h | ⟨x, rfl, h1, h2, h3, h4, h5⟩
  · exact .inl h
  · refine .inr ⟨x, rfl, h1, h2, h3, fun i hi => ?_, h5⟩
    have hc := h4 i hi
    have hlt := World.block_lt_of_cell? w _ hc
    exact (hb.cell hlt).trans hc
theorem ip_root {a b x : Int} (h : curveB a b = true) (hx : x ∈ rts a b (-100) 201) : ipV a b x 0 = .tuple #[.bool true, .bool true] := by
  obtain ⟨g, hc⟩ := rts_mem.1 hx
  unfold ipV
  rw [if_pos ⟨h, by omega, by omega⟩, decide_eq_true (by rw [hc]; rfl)]
theorem ip_neg {a b x y : Int} : ipV a b x (-y) = ipV a b x y := by
  unfold ipV
  have e : (-1000000 ≤ -y ∧ -y ≤ 1000000) ↔ (-1000000 ≤ y ∧ y ≤ 1000000) := by omega
  simp only [e, Int.neg_mul_neg]
theorem bad_mem {a b q : Int} (h : curveB a b = true) : q ∈ badL a b ↔ Pr q ∧ q ∣ 2 * ((discI a b).natAbs : Int) := by
  obtain ⟨_, _, _, _, h5⟩ := curveB_true.1 h
  unfold badL
  have h1 : (1 : Int) ≤ ((discI a b).natAbs : Int) := by omega
  rw [badL_eq h1]
  exact (primesL_spec (by omega)).2 q
theorem dvd_abs2 {q D : Int} (h : q ∣ 2 * (D.natAbs : Int)) : q ∣ -16 * D := by
  have h1 : q ∣ 2 * D := by
    rcases Int.natAbs_eq D with e | e
    · rw [e]; exact h
    · rw [e, Int.mul_neg]; exact (Int.dvd_neg).2 h
  have h2 : -16 * D = (2 * D) * (-8) := by omega
  rw [h2]
  exact Int.dvd_mul_of_dvd_left h1
theorem bad_rem {a b q : Int} (h : curveB a b = true) (hq : q ∈ badL a b) : ¬ q = 0 ∧ (-16 * discI a b).tmod q = 0 := by
  obtain ⟨h1, h2⟩ := (bad_mem h).1 hq
  have := h1.1
  exact ⟨by omega, Int.tmod_eq_zero_of_dvd (dvd_abs2 h2)⟩
theorem bad_is {a b q : Int} (h : curveB a b = true) (hp : Pr q) (h2 : q ≠ 2) : ((-16 * discI a b).tmod q == 0) = decide (q ∈ badL a b) := by
  rw [Bool.eq_iff_iff, beq_iff_eq, decide_eq_true_eq, bad_mem h]
  constructor
  · intro e
    have hd : q ∣ -16 * discI a b := Int.dvd_of_tmod_eq_zero e
    refine ⟨hp, ?_⟩
    have h3 : q ∣ (2 * (2 * (2 * 2))) * discI a b := by
      have : (2 * (2 * (2 * 2)) : Int) * discI a b = -(-16 * discI a b) := by omega
      rw [this]; exact (Int.dvd_neg).2 hd
    have n2 : ¬ q ∣ 2 := fun k => by
      have := Int.le_of_dvd (by omega) k
      have := hp.1
      omega
    have h4 : q ∣ discI a b := by
      rcases pr_dvd_mul hp h3 with k | k
      · rcases pr_dvd_mul hp k with k | k
        · exact absurd k n2
        · rcases pr_dvd_mul hp k with k | k
          · exact absurd k n2
          · rcases pr_dvd_mul hp k with k | k <;> exact absurd k n2
      · exact k
    exact Int.dvd_mul_of_dvd_right (Int.dvd_natAbs.2 h4)
  · rintro ⟨_, hd⟩
    exact Int.tmod_eq_zero_of_dvd (dvd_abs2 hd)
theorem bad_head (a b : Int) : 0 < (badL a b).length ∧ (badL a b).getD 0 0 = 2 := by unfold badL bpF; simp
theorem pr_5 : Pr 5 := ⟨by omega, fun d h1 h2 => by rcases (by omega : d = 2 ∨ d = 3 ∨ d = 4) with rfl | rfl | rfl <;> decide⟩
theorem pr_7 : Pr 7 := ⟨by omega, fun d h1 h2 => by rcases (by omega : d = 2 ∨ d = 3 ∨ d = 4 ∨ d = 5 ∨ d = 6) with rfl | rfl | rfl | rfl | rfl <;> decide⟩
theorem pr_11 : Pr 11 := ⟨by omega, fun d h1 h2 => by rcases (by omega : d = 2 ∨ d = 3 ∨ d = 4 ∨ d = 5 ∨ d = 6 ∨ d = 7 ∨ d = 8 ∨ d = 9 ∨ d = 10) with rfl | rfl | rfl | rfl | rfl | rfl | rfl | rfl | rfl <;> decide⟩
theorem pr_13 : Pr 13 := ⟨by omega, fun d h1 h2 => by rcases (by omega : d = 2 ∨ d = 3 ∨ d = 4 ∨ d = 5 ∨ d = 6 ∨ d = 7 ∨ d = 8 ∨ d = 9 ∨ d = 10 ∨ d = 11 ∨ d = 12) with rfl | rfl | rfl | rfl | rfl | rfl | rfl | rfl | rfl | rfl | rfl <;> decide⟩
end Go.Proofs.Ytagfnahgibccfaa
