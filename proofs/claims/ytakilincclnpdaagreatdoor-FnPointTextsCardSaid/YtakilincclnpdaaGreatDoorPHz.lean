/- Pc: contracts: both readers of a curve's text. No conditions. -/
import Derived.Test.YtakilincclnpdaaGreatDoorPDz
import Derived.Test.YtakilincclnpdaaGreatDoorAtoz
import Derived.Test.YtakilincclnpdaaGreatDoorCutz
import Derived.Lib.AtoiErrMem
import Derived.Lib.AtoiAllCases
import Derived.Test.YtakilincclnpdaaGreatDoorFrz
import Derived.Test.YtakilincclnpdaaGreatDoorRgz
import Derived.Lib.Strings
/- Lt: contracts: strconv.Atoi and strings.Cut where the library's variables lie. No conditions. -/
namespace Go.Proofs.YtakilincclnpdaaGreatDoor
open Go.RowKit

/-- the table of powers of ten, the two errors and the greatest length lie as the program's text lays them. -/
def LibT (w : World) : Prop := PowT w ∧ (∃ m, w.cell? ⟨1, 0, none⟩ = some (.int .i64 m)) ∧
  (∃ t p, w.cell? ⟨3, 0, none⟩ = some (.iface t p)) ∧ (∃ t p, w.cell? ⟨4, 0, none⟩ = some (.iface t p))
theorem cell_keep {w w' : World} {g : Nat} {v : Value} (h : w.cell? ⟨g, 0, none⟩ = some v) (hb : Below w.heap.size w w') : w'.cell? ⟨g, 0, none⟩ = some v :=
  (hb.cell (p := ⟨g, 0, none⟩) (Lib.lt_of_cell h)).trans h
theorem LibT.keep {w w' : World} (h : LibT w) (hb : Below w.heap.size w w') : LibT w' := by
  obtain ⟨h1, ⟨m, h2⟩, ⟨t, p, h3⟩, ⟨u, q, h4⟩⟩ := h
  exact ⟨h1.keep hb, ⟨m, cell_keep h2 hb⟩, ⟨t, p, cell_keep h3 hb⟩, ⟨u, q, cell_keep h4 hb⟩⟩
/-- a number and an error, nil just where the text spells an int, and then its number. -/
def RetAto (s : ByteArray) (w : World) (e : Ending) (w' : World) : Prop :=
  ∃ v ev, e = .returned (.tuple #[.int .i64 v, ev]) ∧ ((ev = .nilIface ∧ Lib.atoiAll s.data.toList = .ok v) ∨ ((∃ t p, ev = .iface t p) ∧ ∀ n, Lib.atoiAll s.data.toList ≠ .ok n)) ∧ I64 v ∧ Below w.heap.size w w'
theorem atoi_any (s : ByteArray) (w : World) (hs : s.size ≤ 1048576) (ht : LibT w) : Calls Tryz.prog 162 #[.string s] w (RetAto s w) := by
  obtain ⟨_, _, ⟨t, p, h3⟩, ⟨u, q, h4⟩⟩ := ht
  cases h : Lib.atoiAll s.data.toList with
  | ok v =>
    refine (Tryz.strconv_Atoi_ok s (by omega) v h w).mono ?_
    rintro e w' ⟨rfl, hw⟩
    refine ⟨v, .nilIface, rfl, .inl ⟨rfl, h⟩, ?_, ?_⟩
    · have := Lib.atoiAll_bounds h
      unfold I64; omega
    · rcases hw with rfl | ⟨t, rfl⟩
      · exact Below.refl _ _
      · exact Lib.bytesWorld_below _ _ _
  | range =>
    refine (Tryz.strconv_Atoi_range s (by omega) h _ w h4 (.inr ⟨_, _, rfl⟩)).mono ?_
    rintro e w' ⟨N, rfl, _, _, hb⟩
    refine ⟨_, _, rfl, .inr ⟨⟨_, _, rfl⟩, fun n hn => by rw [h] at hn; cases hn⟩, ?_, hb⟩
    unfold I64 Lib.atoiSat
    split <;> omega
  | _ =>
    refine (Tryz.strconv_Atoi_other s (by omega) (fun n hn => by rw [h] at hn; cases hn) (fun hn => by rw [h] at hn; cases hn) _ w h3 (.inr ⟨_, _, rfl⟩)).mono ?_
    rintro e w' ⟨N, rfl, _, _, hb⟩
    exact ⟨0, _, rfl, .inr ⟨⟨_, _, rfl⟩, fun n hn => by rw [h] at hn; cases hn⟩, by unfold I64; omega, hb⟩
theorem cut_any (s : ByteArray) (b : UInt8) (w : World) (hs : s.size ≤ 1048576) (ht : LibT w) :
    Calls Tryz.prog 133 #[.string s, .string ⟨#[b]⟩] w (Ret (.tuple #[.string ⟨(Lib.cut s.data.toList [b]).1.toArray⟩, .string ⟨(Lib.cut s.data.toList [b]).2.1.toArray⟩, .bool (Lib.cut s.data.toList [b]).2.2]) w) := by
  obtain ⟨_, ⟨m, h2⟩, _⟩ := ht
  refine (Tryz.strings_Cut s ⟨#[b]⟩ m w (by omega) h2).mono ?_
  rintro e w' ⟨rfl, n, rfl⟩
  exact ⟨rfl, bel_drewN (Below.refl _ _) n⟩
theorem cut_size (l : List UInt8) (b : UInt8) : (Lib.cut l [b]).1.length ≤ l.length ∧ (Lib.cut l [b]).2.1.length ≤ l.length := by
  unfold Lib.cut
  split
  · simp; omega
  · simp
end Go.Proofs.YtakilincclnpdaaGreatDoor
/- Mf: contracts: fractions in lowest terms. No conditions. -/
namespace Go.Proofs.YtakilincclnpdaaGreatDoor
open Go.RowKit

def Box2 (n B : Nat) (x y : Value) (w' : World) : Prop := n ≤ B ∧ B < w'.heap.size ∧ w'.cell? ⟨B, 0, none⟩ = some x ∧ w'.cell? ⟨B, 1, none⟩ = some y
theorem wrapf {u : Int} (h0 : -4000000000000000000 ≤ u) (h1 : u ≤ 4000000000000000000) : IntKind.i64.wrap u = u := by
  simp only [IntKind.wrap, IntKind.bits, IntKind.signed]
  simp
  omega
/-- the greatest common divisor, with the denominator's sign. -/
def sgcd (n d : Int) : Int := if d < 0 then -gcdI n d else gcdI n d
theorem sgcd_ne {n d : Int} (h : d ≠ 0) : sgcd n d ≠ 0 := by
  have : gcdI n d ≠ 0 := by
    unfold gcdI
    intro k
    have := Int.gcd_eq_zero_iff.1 (show Int.gcd n d = 0 by omega)
    exact h this.2
  unfold sgcd; split <;> omega
theorem tdiv_bd {n g B : Int} (h0 : -B ≤ n) (h1 : n ≤ B) : -B ≤ n.tdiv g ∧ n.tdiv g ≤ B := by
  have h : (n.tdiv g).natAbs ≤ n.natAbs := by rw [Int.natAbs_tdiv]; exact Nat.div_le_self _ _
  omega
theorem gcdI_bd {n d : Int} (h : d ≠ 0) : 1 ≤ gcdI n d ∧ gcdI n d ≤ d.natAbs := by
  have h0 := gcdI_nonneg n d
  have h1 := sgcd_ne (n := n) h
  have h2 : gcdI n d ≠ 0 := by unfold sgcd at h1; split at h1 <;> omega
  refine ⟨by omega, ?_⟩
  unfold gcdI
  have := Nat.le_of_dvd (by omega) (Int.gcd_dvd_natAbs_right n d)
  omega
/-- numerator and denominator in lowest terms. -/
def lowN (n d : Int) : Int := n.tdiv (sgcd n d)
def lowD (n d : Int) : Int := d.tdiv (sgcd n d)
theorem gcdI_dvd_l (n d : Int) : gcdI n d ∣ n := Int.gcd_dvd_left ..
theorem gcdI_dvd_r (n d : Int) : gcdI n d ∣ d := Int.gcd_dvd_right ..
theorem lowD_pos {n d : Int} (h : d ≠ 0) : 1 ≤ lowD n d := by
  obtain ⟨g1, g2⟩ := gcdI_bd (n := n) h
  obtain ⟨c, hc⟩ := gcdI_dvd_r n d
  unfold lowD sgcd
  split
  · rename_i hd
    have hcn : c < 0 := by
      rcases Int.lt_or_le c 0 with k | k
      · exact k
      · have := Int.mul_nonneg (show 0 ≤ gcdI n d by omega) k
        omega
    rw [Int.tdiv_neg]
    conv => rhs; rw [hc]
    rw [show gcdI n (gcdI n d * c) = gcdI n d by rw [← hc]]
    rw [Int.mul_tdiv_cancel_left _ (by omega)]
    omega
  · rename_i hd
    have hcn : 0 < c := by
      rcases Int.lt_or_le 0 c with k | k
      · exact k
      · have := Int.mul_nonpos_of_nonneg_of_nonpos (show 0 ≤ gcdI n d by omega) k
        omega
    conv => rhs; rw [hc]
    rw [show gcdI n (gcdI n d * c) = gcdI n d by rw [← hc]]
    rw [Int.mul_tdiv_cancel_left _ (by omega)]
    omega
theorem low_gcd {n d : Int} (h : d ≠ 0) : gcdI (lowN n d) (lowD n d) = 1 := by
  obtain ⟨g1, g2⟩ := gcdI_bd (n := n) h
  have hN : (lowN n d).natAbs = n.natAbs / (gcdI n d).natAbs := by
    unfold lowN; rw [Int.natAbs_tdiv]; unfold sgcd; split <;> first | rfl | (rw [Int.natAbs_neg]; rfl)
  have hD : (lowD n d).natAbs = d.natAbs / (gcdI n d).natAbs := by
    unfold lowD; rw [Int.natAbs_tdiv]; unfold sgcd; split <;> first | rfl | (rw [Int.natAbs_neg]; rfl)
  have hg : (gcdI n d).natAbs = Nat.gcd n.natAbs d.natAbs := by unfold gcdI; rw [Int.natAbs_natCast, Int.gcd_eq_natAbs_gcd_natAbs]
  have e : Nat.gcd (lowN n d).natAbs (lowD n d).natAbs = 1 := by
    rw [hN, hD, hg]
    have hp : 0 < Nat.gcd n.natAbs d.natAbs := by rw [← hg]; omega
    rw [Nat.gcd_div (Nat.gcd_dvd_left ..) (Nat.gcd_dvd_right ..)]
    exact Nat.div_self hp
  unfold gcdI
  rw [Int.gcd_eq_natAbs_gcd_natAbs, e]
  rfl
theorem low_low {n d : Int} (h : d ≠ 0) : lowN (lowN n d) (lowD n d) = lowN n d ∧ lowD (lowN n d) (lowD n d) = lowD n d := by
  have h1 := low_gcd (n := n) h
  have h2 := lowD_pos (n := n) h
  have e : sgcd (lowN n d) (lowD n d) = 1 := by unfold sgcd; rw [if_neg (by omega), h1]
  constructor
  · show (lowN n d).tdiv (sgcd (lowN n d) (lowD n d)) = _
    rw [e, Int.tdiv_one]
  · show (lowD n d).tdiv (sgcd (lowN n d) (lowD n d)) = _
    rw [e, Int.tdiv_one]
/-- what a fraction's making returns. -/
def makV (n d : Int) : Value := bif fracB (lowN n d) (lowD n d) then .tuple #[.agg #[.int .i64 (lowN n d), .int .i64 (lowD n d)], .bool true] else .tuple #[.agg #[.int .i64 0, .int .i64 0], .bool false]
set_option maxHeartbeats 2000000 in
theorem frMake_any (n d : Int) (w : World) (n0 : -1000000000000000000 ≤ n) (n1 : n ≤ 1000000000000000000) (d0 : -1000000000000000000 ≤ d) (d1 : d ≤ 1000000000000000000) (hd : d ≠ 0) :
    Calls Tryz.prog 98 #[.int .i64 n, .int .i64 d] w (Ret (makV n d) w) := by
  obtain ⟨G, hG⟩ : ∃ G, gcdI n d = G := ⟨_, rfl⟩
  have hgb := gcdI_bd (n := n) hd
  rw [hG] at hgb
  obtain ⟨g, hg⟩ : ∃ g, sgcd n d = g := ⟨_, rfl⟩
  have hgne := sgcd_ne (n := n) hd
  rw [hg] at hgne
  have hgg : g = if d < 0 then -G else G := by rw [← hg, ← hG]; rfl
  have hv : makV n d = bif fracB (n.tdiv g) (d.tdiv g) then .tuple #[.agg #[.int .i64 (n.tdiv g), .int .i64 (d.tdiv g)], .bool true] else .tuple #[.agg #[.int .i64 0, .int .i64 0], .bool false] := by unfold makV lowN lowD; rw [hg]
  have b1 := tdiv_bd (g := g) n0 n1
  have b2 := tdiv_bd (g := g) d0 d1
  have w1 : IntKind.i64.wrap (n.tdiv g) = n.tdiv g := wrapf (by omega) (by omega)
  have w2 : IntKind.i64.wrap (d.tdiv g) = d.tdiv g := wrapf (by omega) (by omega)
  rw [hv]; clear hv hg
  have hgb0 : (g == 0) = false := by simp [hgne]
  have HG := Lib.hid hG; clear hG
  have hdb : (d == 0) = false := by simp [hd]
  by_cases hneg : d < 0
  all_goals
    cases hfr : fracB (n.tdiv g) (d.tdiv g)
    all_goals
      first | rw [if_pos hneg] at hgg | rw [if_neg hneg] at hgg
      have HGG := Lib.hid hgg; clear hgg
      have hgn0 : ¬ g = 0 := hgne
      go_enter Tryz.func98, Tryz.ntmps98
      go_wp2_with fail
      go_wp2_with (go_at_call 123; refine (l1Abs_any _ _ (by omega) (by omega)).mono ?_; rintro e w' ⟨rfl, rfl⟩)
      refine (bgCommon_any _ _ _ (by omega) (by omega) (by omega) (by omega)).mono ?_; rintro e W ⟨rfl, hb1⟩
      rw [gcdI_natAbs]
      rw [HG.out]
      obtain ⟨g0, hbW, cr0, cr1, fz0, fz1⟩ : w.heap.size < W.heap.size ∧ Below w.heap.size w W ∧ W.cell? ⟨w.heap.size, 0, none⟩ = some (.int .i64 0) ∧ W.cell? ⟨w.heap.size, 1, none⟩ = some (.int .i64 0) ∧ W.frozen? ⟨w.heap.size, 0, none⟩ = false ∧ W.frozen? ⟨w.heap.size, 1, none⟩ = false := by
        obtain ⟨hc, hf⟩ := aft hb1
        have hsz := hb1.size
        refine ⟨by simp at hsz; omega, (by repeat (first | exact Below.refl _ _ | (with_reducible assumption) | refine bel_alloc ?_ _ | refine bel_drew ?_ | refine bel_drewN ?_ _ | refine Below.setCell ?_ (by dsimp only; omega) _ | refine bel_trans (by assumption) ?_)), by simp [go_sem, hc], by simp [go_sem, hc], by simp [go_sem, hf], by simp [go_sem, hf]⟩
      clear hb1
      obtain ⟨B0, hB0⟩ : ∃ B0, w.heap.size = B0 := ⟨_, rfl⟩
      rw [hB0] at g0 cr0 cr1 fz0 fz1 ⊢
      go_wp2_with fail
      rw [← HGG.out]
      refine' wp_region_box (a0 := _) 7 (fun B w' => Below W.heap.size W w' ∧ Box2 W.heap.size B (.int .i64 (n.tdiv g)) (.int .i64 (d.tdiv g)) w') ?_ ?_
      rotate_left
      · go_region_held3 (fun w' => Below W.heap.size W w') ((repeat (first | exact Below.refl _ _ | (with_reducible assumption) | refine bel_alloc ?_ _ | refine bel_drew ?_ | refine Below.setCell ?_ (by dsimp only; first | omega | (simp; done)) _ | refine bel_trans (by assumption) ?_))) (fail)
        all_goals
          rename_i hHeld
          refine ⟨rfl, _, ⟨by first | rfl | (simp [Act.put]; done) | (simp [Act.put]; rfl), by first | rfl | (simp; done) | (simp; rfl)⟩, hHeld, ?_⟩
          clear hHeld
          refine ⟨by simp, by first | (simp; done) | (simp; omega), ?_, ?_⟩
          all_goals first | (simp [go_sem]; done) | (simp [go_sem, *]; done)
      rintro B w2 ⟨hbw, q0, q1, q2, q3⟩
      simp only [Act.put, List.setIfInBounds_toArray, List.set_cons_zero, List.set_cons_succ]
      have r0 := (hbw.cell (p := ⟨B0, 0, none⟩) g0).trans cr0
      have r1 := (hbw.cell (p := ⟨B0, 1, none⟩) g0).trans cr1
      have rz := (hbw.frozen (p := ⟨B0, 0, none⟩) g0).trans fz0
      have rz1 := (hbw.frozen (p := ⟨B0, 1, none⟩) g0).trans fz1
      have gB : B0 < w2.heap.size := Nat.lt_of_lt_of_le g0 hbw.size
      have hne : B ≠ B0 := by omega
      have hbx := bel_trans hbw hbW
      go_wp2_with fail
      refine (frGood_any _ _ _).mono ?_; rintro e w3 ⟨rfl, hb3⟩
      have s0 := (hb3.cell (p := ⟨B0, 0, none⟩) gB).trans r0
      have s1 := (hb3.cell (p := ⟨B0, 1, none⟩) gB).trans r1
      have sz := (hb3.frozen (p := ⟨B0, 0, none⟩) gB).trans rz
      have sz1 := (hb3.frozen (p := ⟨B0, 1, none⟩) gB).trans rz1
      have t0 := (hb3.cell (p := ⟨B, 0, none⟩) q1).trans q2
      have t1 := (hb3.cell (p := ⟨B, 1, none⟩) q1).trans q3
      have hb4 := bel_trans hb3 hbx
      have gz := hb3.size
      clear r0 r1 rz rz1 q2 q3
      go_wp2_with fail
      refine bodyPost_ret (by simp (maxDischargeDepth := 3) [results, Tryz.results98, go_sem, *]; try rfl) rfl ?_
      exact ret_eq (by first | rfl | simp) (by repeat (first | exact Below.refl _ _ | (with_reducible assumption) | refine Below.setCell ?_ (by dsimp only; omega) _))
end Go.Proofs.YtakilincclnpdaaGreatDoor
namespace Go.Proofs.YtakilincclnpdaaGreatDoor
open Go.RowKit

theorem str_ne {a b : ByteArray} (h : a ≠ b) : (a.toList == b.toList) = false := by
  rw [beq_eq_false_iff_ne, Lib.toList_data, Lib.toList_data]
  intro e
  apply h
  apply ByteArray.ext
  exact Array.toList_inj.1 e
theorem cvT_size {a b : Int} (hc : curveB a b = true) : (cvT a b).size ≤ 12 := by
  obtain ⟨h1, h2, h3, h4, _⟩ := curveB_true.1 hc
  have e : (cvT a b).data.toList.length = (cvT a b).size := by simp
  have k1 : (intS a).data.toList.length ≤ 5 := by
    rw [intS_list]
    unfold Lib.itoa
    split
    · have := dec_length 3 a.natAbs (by omega); simp; omega
    · have := dec_length 3 a.toNat (by omega); omega
  have k2 : (intS b).data.toList.length ≤ 6 := by
    rw [intS_list]
    unfold Lib.itoa
    split
    · have := dec_length 4 b.natAbs (by omega); simp; omega
    · have := dec_length 4 b.toNat (by omega); omega
  rw [← e, cvT_list, List.length_append, List.length_cons]
  omega
/-- the curve whose text it is, or none. -/
noncomputable def pcV (s : ByteArray) : Value := match pcs 32 s.data.toList with
  | [x, y] => if curveB (sgL x) (sgL y) = true ∧ cvT (sgL x) (sgL y) = s then .tuple #[.agg #[.int .i64 (sgL x), .int .i64 (sgL y)], .bool true] else .tuple #[.agg #[.int .i64 0, .int .i64 0], .bool false]
  | _ => .tuple #[.agg #[.int .i64 0, .int .i64 0], .bool false]
theorem pcs_cv (a b : Int) : pcs 32 (cvT a b).data.toList = [(intS a).data.toList, (intS b).data.toList] := by
  rw [cvT_list, pcs_two (int_none (.inl (by decide)) a) (int_none (.inl (by decide)) b)]
theorem pcV_yes {a b : Int} (hc : curveB a b = true) : pcV (cvT a b) = .tuple #[.agg #[.int .i64 a, .int .i64 b], .bool true] := by
  obtain ⟨h1, h2, h3, h4, _⟩ := curveB_true.1 hc
  unfold pcV
  rw [pcs_cv]
  simp only
  rw [sgL_int (by omega) (by omega), sgL_int (by omega) (by omega), if_pos ⟨hc, rfl⟩]
theorem pcV_no {s : ByteArray} (h : ∀ a b, curveB a b = true → cvT a b ≠ s) : pcV s = .tuple #[.agg #[.int .i64 0, .int .i64 0], .bool false] := by
  unfold pcV
  split
  · rw [if_neg (fun ⟨h1, h2⟩ => h _ _ h1 h2)]
  · rfl
theorem atoi_yes {n : Int} (h0 : -1000000 < n) (h1 : n < 1000000) (w : World) (ht : LibT w) : Calls Tryz.prog 162 #[.string (intS n)] w (Ret (.tuple #[.int .i64 n, .nilIface]) w) := by
  have hs := int_size (n := n) (k := 5) (by omega)
  have e : (intS n).data.toList.length = (intS n).size := by simp
  refine (atoi_any (intS n) w (by omega) ht).mono ?_
  rintro e w' ⟨v, ev, rfl, hv, _, hb⟩
  rw [atoi_int h0 h1] at hv
  rcases hv with ⟨rfl, h⟩ | ⟨_, h⟩
  · injection h with h
    subst h
    exact ⟨rfl, hb⟩
  · exact absurd rfl (h n)
theorem inside_known {n lo hi : Int} {r : Bool} (h : inB n lo hi = r) (w : World) : Calls Tryz.prog 66 #[.int .i64 n, .int .i64 lo, .int .i64 hi] w (fun e w' => e = .returned (.bool r) ∧ w = w') := by
  have := inside_any n lo hi w
  rw [h] at this
  exact this
/-- a fresh result of two zeros. -/
def RB (B : Nat) (w : World) : Prop := B < w.heap.size ∧ w.cell? ⟨B, 0, none⟩ = some (.int .i64 0) ∧ w.cell? ⟨B, 1, none⟩ = some (.int .i64 0) ∧ w.frozen? ⟨B, 0, none⟩ = false ∧ w.frozen? ⟨B, 1, none⟩ = false
theorem RB.keep {B : Nat} {w w' : World} (h : RB B w) (hb : Below w.heap.size w w') : RB B w' := by
  obtain ⟨h0, h1, h2, h3, h4⟩ := h
  exact ⟨Nat.lt_of_lt_of_le h0 hb.size, (hb.cell (p := ⟨B, 0, none⟩) h0).trans h1, (hb.cell (p := ⟨B, 1, none⟩) h0).trans h2, (hb.frozen (p := ⟨B, 0, none⟩) h0).trans h3, (hb.frozen (p := ⟨B, 1, none⟩) h0).trans h4⟩
theorem RB.mk (w : World) : RB w.heap.size (w.alloc (.cells #[.int .i64 0, .int .i64 0] 50)) :=
  ⟨by simp, by simp [go_sem], by simp [go_sem], by simp [go_sem], by simp [go_sem]⟩
theorem pcs_len (b : UInt8) : ∀ (l x : List UInt8), x ∈ pcs b l → x.length ≤ l.length
  | [], x, h => by
    obtain rfl : x = [] := by simpa [pcs] using h
    simp
  | c :: l, x, h => by
    rw [pcs_cons] at h
    split at h
    · rcases List.mem_cons.1 h with rfl | h
      · simp
      · have := pcs_len b l x h
        simp; omega
    · cases hp : pcs b l with
      | nil =>
        rw [hp] at h
        obtain rfl : x = [c] := by simpa using h
        simp
      | cons y t =>
        rw [hp] at h
        rcases List.mem_cons.1 h with rfl | h
        · have := pcs_len b l y (by rw [hp]; simp)
          simp; omega
        · have := pcs_len b l x (by rw [hp]; exact List.mem_cons_of_mem _ h)
          simp; omega
theorem pk_held {g : Nat} {X Y : ByteArray} {w1 w' : World} (hb : Below w1.heap.size w1 w') (hlt : g < w1.heap.size) (e0 : w1.cell? ⟨g, 0, none⟩ = some (.string X)) (e1 : w1.cell? ⟨g, 1, none⟩ = some (.string Y)) :
    Below w1.heap.size w1 w' ∧ w'.cell? ⟨g, 0, none⟩ = some (.string X) ∧ w'.cell? ⟨g, 1, none⟩ = some (.string Y) :=
  ⟨hb, (hb.cell (p := ⟨g, 0, none⟩) hlt).trans e0, (hb.cell (p := ⟨g, 1, none⟩) hlt).trans e1⟩
end Go.Proofs.YtakilincclnpdaaGreatDoor
