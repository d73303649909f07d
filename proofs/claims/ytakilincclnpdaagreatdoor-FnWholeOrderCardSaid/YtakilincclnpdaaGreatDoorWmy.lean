/- Wm: contracts: the product of two whole numbers. No conditions. -/
import Derived.Test.YtakilincclnpdaaGreatDoorWby
import Derived.Test.YtakilincclnpdaaGreatDoorWcy
namespace Go.Proofs.YtakilincclnpdaaGreatDoor
open Go.RowKit

theorem emod_add (y : Int) : y % 10000 + y / 10000 * 10000 = y := by omega
theorem mul_keep {V c p xd o T y r c' : Int} (h : V + c * p = T) (hy : y = o + c + xd) (hr : r + c' * 10000 = y) : (V + (r - o) * p) + c' * (p * 10000) = T + xd * p := by
  have e : r = y - c' * 10000 := by omega
  subst e
  subst hy
  rw [← h]
  clear hr h
  grind
theorem pow_lt_mul {a b : Int} {m n N : Nat} (ha : 0 ≤ a) (ha2 : a < 10000 ^ m) (hb : 0 ≤ b) (hb2 : b < 10000 ^ n) (h : m + n ≤ N) : a * b < 10000 ^ N := by
  have h1 : a * b < 10000 ^ m * 10000 ^ n := by
    by_cases hb0 : b = 0
    · subst hb0
      rw [Int.mul_zero]
      exact Int.mul_pos (by omega) (by omega)
    · exact Int.mul_lt_mul ha2 (by omega) (by omega) (by omega)
  rw [← Int.pow_add] at h1
  have h2 : (10000 : Int) ^ (m + n) ≤ 10000 ^ N := by
    have := Nat.pow_le_pow_right (n := 10000) (by decide) h
    have e1 : ((10000 ^ (m + n) : Nat) : Int) = (10000 : Int) ^ (m + n) := Int.natCast_pow _ _
    have e2 : ((10000 ^ N : Nat) : Int) = (10000 : Int) ^ N := Int.natCast_pow _ _
    omega
  omega
/-- what the inner loop keeps. -/
def MulIn (xs ys out0 : List Int) (i k : Nat) (c : Int) (out : List Int) : Prop :=
  out.length = xs.length + ys.length + 1 ∧ Dig out ∧ 0 ≤ c ∧ c ≤ 9999 ∧ val out + c * 10000 ^ k = val out0 + xs.getD i 0 * val (ys.take (k - i)) * 10000 ^ i
def MulOut (xs ys : List Int) (i : Nat) (out : List Int) : Prop := out.length = xs.length + ys.length + 1 ∧ Dig out ∧ val out = val (xs.take i) * val ys
theorem MulIn.start {xs ys out : List Int} {i : Nat} (h : MulOut xs ys i out) : MulIn xs ys out i i 0 out := by
  refine ⟨h.1, h.2.1, by omega, by omega, ?_⟩
  rw [Nat.sub_self]
  simp [val]
theorem MulIn.step {xs ys out0 out : List Int} {i k : Nat} {c : Int} (h : MulIn xs ys out0 i k c out) (hx : Dig xs) (hy : Dig ys) (hi : i < xs.length) (hik : i ≤ k) (hk : k < out.length) (hj : k - i < ys.length) :
    0 ≤ out.getD k 0 + c + xs.getD i 0 * ys.getD (k - i) 0 ∧ out.getD k 0 + c + xs.getD i 0 * ys.getD (k - i) 0 ≤ 99999999 ∧ 0 ≤ xs.getD i 0 * ys.getD (k - i) 0 ∧ xs.getD i 0 * ys.getD (k - i) 0 ≤ 99980001 ∧
    MulIn xs ys out0 i (k + 1) ((out.getD k 0 + c + xs.getD i 0 * ys.getD (k - i) 0) / 10000) (out.set k ((out.getD k 0 + c + xs.getD i 0 * ys.getD (k - i) 0) % 10000)) := by
  obtain ⟨h1, h2, h3, h4, h5⟩ := h
  have ho := h2.at hk
  have hxx := hx.at hi
  have hyy := hy.at hj
  have hb := mul_step ho.1 ho.2 h3 h4 hxx.1 hxx.2 hyy.1 hyy.2
  refine ⟨hb.1, hb.2.1, hb.2.2.1, hb.2.2.2, by rw [List.length_set]; exact h1, h2.set k (by omega) (by omega), by omega, by omega, ?_⟩
  rw [val_set _ hk, show k + 1 - i = (k - i) + 1 by omega, val_take_succ hj]
  have e := mul_keep h5 (o := out.getD k 0) (xd := xs.getD i 0 * ys.getD (k - i) 0) rfl (emod_add (out.getD k 0 + c + xs.getD i 0 * ys.getD (k - i) 0))
  rw [Int.pow_succ, e]
  have e2 : (10000 : Int) ^ k = 10000 ^ (k - i) * 10000 ^ i := by rw [← Int.pow_add]; congr 1; omega
  rw [e2]
  generalize (10000 : Int) ^ (k - i) = q
  generalize (10000 : Int) ^ i = t
  generalize xs.getD i 0 = x
  generalize ys.getD (k - i) 0 = y
  generalize val (ys.take (k - i)) = vv
  grind
theorem MulIn.pass {xs ys out0 out : List Int} {i k : Nat} {c : Int} (h : MulIn xs ys out0 i k c out) (hk : k < out.length) (hj : ys.length ≤ k - i) (hik : i ≤ k) :
    0 ≤ out.getD k 0 + c ∧ out.getD k 0 + c ≤ 19998 ∧ MulIn xs ys out0 i (k + 1) ((out.getD k 0 + c) / 10000) (out.set k ((out.getD k 0 + c) % 10000)) := by
  obtain ⟨h1, h2, h3, h4, h5⟩ := h
  have ho := h2.at hk
  refine ⟨by omega, by omega, by rw [List.length_set]; exact h1, h2.set k (by omega) (by omega), by omega, by omega, ?_⟩
  rw [val_set _ hk]
  rw [val_take_full hj] at h5
  rw [val_take_full (show ys.length ≤ k + 1 - i by omega)]
  have e := mul_keep h5 (o := out.getD k 0) (xd := 0) (by rw [Int.add_zero]) (emod_add (out.getD k 0 + c))
  rw [Int.pow_succ, e]
  omega
theorem MulIn.finish {xs ys out0 out : List Int} {i : Nat} {c : Int} (h : MulIn xs ys out0 i (xs.length + ys.length + 1) c out) (h0 : MulOut xs ys i out0) (hx : Dig xs) (hy : Dig ys) (hi : i < xs.length) : MulOut xs ys (i + 1) out := by
  obtain ⟨h1, h2, h3, h4, h5⟩ := h
  rw [val_take_full (show ys.length ≤ xs.length + ys.length + 1 - i by omega), h0.2.2] at h5
  have e : val (xs.take i) * val ys + xs.getD i 0 * val ys * 10000 ^ i = val (xs.take (i + 1)) * val ys := by
    rw [val_take_succ hi]
    generalize (10000 : Int) ^ i = t
    generalize xs.getD i 0 = x
    grind
  rw [e] at h5
  have t0 := val_nonneg (hx.take (i + 1))
  have t1 := val_lt (hx.take (i + 1))
  have t2 := val_nonneg hy
  have t3 := val_lt hy
  have hl : (xs.take (i + 1)).length + ys.length ≤ xs.length + ys.length + 1 := by rw [List.length_take]; omega
  exact ⟨h1, h2, (carry_zero h2 h1 h5 (Int.mul_nonneg t0 t2) (pow_lt_mul t0 t1 t2 t3 hl)).2⟩
theorem mul_sign {z y : Int} : (if (decide (z < 0) != decide (y < 0)) = true then -((z.natAbs : Int) * (y.natAbs : Int)) else (z.natAbs : Int) * (y.natAbs : Int)) = z * y := by
  by_cases hz : z < 0
  · have ez : (z.natAbs : Int) = -z := by omega
    by_cases hy : y < 0
    · have ey : (y.natAbs : Int) = -y := by omega
      simp only [hz, hy, ez, ey]; simp; try grind
    · have ey : (y.natAbs : Int) = y := by omega
      simp only [hz, hy, ez, ey]; simp; try grind
  · have ez : (z.natAbs : Int) = z := by omega
    by_cases hy : y < 0
    · have ey : (y.natAbs : Int) = -y := by omega
      simp only [hz, hy, ez, ey]; simp; try grind
    · have ey : (y.natAbs : Int) = y := by omega
      simp only [hz, hy, ez, ey]; simp; try grind
set_option maxRecDepth 4000 in
set_option maxHeartbeats 4000000 in
theorem mulWholes_any (v u : Value) (z y : Int) (w : World) (hv : WV w v z) (hu : WV w u y) (hl : (digs z.natAbs).length ≤ 1000) (hl' : (digs y.natAbs).length ≤ 1000) :
    Calls Tryz.prog 71 #[v, u] w (RetW (z * y) w) := by
  obtain ⟨i0, hi, hz0, hz1, hz2⟩ := info_parts Tryz.info_int
  obtain ⟨ad, cap, rfl, hr, _⟩ := hv
  obtain ⟨ad', cap', rfl, hr', _⟩ := hu
  have hsg := mul_sign (z := z) (y := y)
  have hxd := digs_dig z.natAbs
  have hyd := digs_dig y.natAbs
  have hxv := val_digs z.natAbs
  have hyv := val_digs y.natAbs
  generalize z * y = zy at hsg ⊢
  generalize decide (z < 0) = b1 at *
  generalize decide (y < 0) = b2 at *
  rw [← hxv, ← hyv] at hsg
  generalize digs z.natAbs = xs at *
  generalize digs y.natAbs = ys at *
  have HSG := Lib.hid hsg; clear hsg hxv hyv
  have HXD := Lib.hid hxd; clear hxd
  have HYD := Lib.hid hyd; clear hyd
  have HR := Lib.hid hr; clear hr
  have HR' := Lib.hid hr'; clear hr'
  obtain ⟨la, hla⟩ : ∃ la, xs.length = la := ⟨_, rfl⟩
  obtain ⟨lb, hlb⟩ : ∃ lb, ys.length = lb := ⟨_, rfl⟩
  rw [hla] at hl ⊢
  rw [hlb] at hl' ⊢
  have HLA := Lib.hid hla; clear hla
  have HLB := Lib.hid hlb; clear hlb
  obtain ⟨B0, hB0⟩ : ∃ B0, w.heap.size = B0 := ⟨_, rfl⟩
  go_enter Tryz.func71, Tryz.ntmps71
  go_wp2_with (first | (at_make; refine wpList_make_full _ rfl _ _ 24 rfl (B0 + 3) 3 i0 (.int .i64 0) 1 Tryz.underlying24 hi hz0 hz1 _ _ _ _ (la + lb + 1) rfl rfl rfl rfl ?_ ?_ ?_ ?_))
  · rw [hz2]; omega
  · unfold maxLen; omega
  · simp; omega
  · intro w1 hown hgr
    generalize hW : ((w.alloc (.cells #[.bool b1, .slice ad la cap] 26)).alloc (.cells #[.bool b2, .slice ad' lb cap'] 26)).alloc (.cells #[.bool false, .slice none 0 0] 26) = W at hgr
    obtain ⟨hbelW, hws, ca0, ca1, cb0, cb1, cr0, cr1, fr0, fr1⟩ : Below w.heap.size w W ∧ W.heap.size = B0 + 3 ∧ W.cell? ⟨B0, 0, none⟩ = some (.bool b1) ∧ W.cell? ⟨B0, 1, none⟩ = some (.slice ad la cap) ∧ W.cell? ⟨B0 + 1, 0, none⟩ = some (.bool b2) ∧ W.cell? ⟨B0 + 1, 1, none⟩ = some (.slice ad' lb cap') ∧
        W.cell? ⟨B0 + 2, 0, none⟩ = some (.bool false) ∧ W.cell? ⟨B0 + 2, 1, none⟩ = some (.slice none 0 0) ∧ W.frozen? ⟨B0 + 2, 0, none⟩ = false ∧ W.frozen? ⟨B0 + 2, 1, none⟩ = false := by
      subst hW; subst hB0
      exact ⟨(by repeat (first | exact Below.refl _ _ | (with_reducible assumption) | refine bel_alloc ?_ _ | refine bel_drew ?_ | refine bel_drewN ?_ _ | refine Below.setCell ?_ (by dsimp only; omega) _ | refine bel_trans (by assumption) ?_)), by simp, by simp [go_sem], by simp [go_sem], by simp [go_sem], by simp [go_sem], by simp [go_sem], by simp [go_sem], by simp [go_sem], by simp [go_sem]⟩
    clear hW
    have hb1 : Below W.heap.size W w1 := (Below.refl _ _).grown hgr (Nat.le_refl _) (fun k h => by cases h)
    have hin : Own w1 (B0 + 3) (.slice (some ⟨B0 + 1 + 1 + 1, 0, none⟩) (List.replicate (la + lb + 1) 0).length (la + lb + 1)) (List.replicate (la + lb + 1) 0) := by
      have e : (madeCells #[Value.int .i64 0] (la + lb + 1)).toList = (List.replicate (la + lb + 1) (0 : Int)).map (Value.int .i64) := by
        have := toList_madeCells_one (.int .i64 0) (la + lb + 1)
        rw [this]; simp
      unfold Own
      rw [← e]
      simp only [List.length_replicate]
      exact hown
    have hmo : MulOut xs ys 0 (List.replicate (la + lb + 1) 0) := ⟨by rw [List.length_replicate, HLA.out, HLB.out], Dig.zeros _, by rw [val_zeros]; simp [val]⟩
    have HMO := Lib.hid hmo; clear hmo hown hgr
    have HIN := Lib.hid hin; clear hin
    rw [hws] at hb1
    have HBW := Lib.hid hbelW
    have hzw : w.heap.size ≤ B0 + 3 := by omega
    -- the boxes from now on
    have hk : ∀ wr, Below (B0 + 3) W wr → wr.cell? ⟨B0, 0, none⟩ = some (.bool b1) ∧ wr.cell? ⟨B0, 1, none⟩ = some (.slice ad la cap) ∧ wr.cell? ⟨B0 + 1, 0, none⟩ = some (.bool b2) ∧ wr.cell? ⟨B0 + 1, 1, none⟩ = some (.slice ad' lb cap') := fun wr hb =>
      ⟨(hb.cell (p := ⟨B0, 0, none⟩) (by dsimp only; omega)).trans ca0, (hb.cell (p := ⟨B0, 1, none⟩) (by dsimp only; omega)).trans ca1, (hb.cell (p := ⟨B0 + 1, 0, none⟩) (by dsimp only; omega)).trans cb0, (hb.cell (p := ⟨B0 + 1, 1, none⟩) (by dsimp only; omega)).trans cb1⟩
    have HK := Lib.hid hk; clear hk
    have hrx : ∀ wr, Below (B0 + 3) W wr → Rd wr (.slice ad xs.length cap) xs := fun wr hb => (HR.out.keep HBW.out).keep (by rw [hws]; exact hb)
    have hry : ∀ wr, Below (B0 + 3) W wr → Rd wr (.slice ad' ys.length cap') ys := fun wr hb => (HR'.out.keep HBW.out).keep (by rw [hws]; exact hb)
    have HRX := Lib.hid hrx; clear hrx
    have HRY := Lib.hid hry; clear hry
    clear ca0 ca1 cb0 cb1 HR HR'
    obtain ⟨k1, k2, k3, k4⟩ := HK.out w1 hb1
    go_wp2_with fail
    clear k1 k2 k3 k4
    obtain ⟨g, hg⟩ : ∃ g, B0 + 1 + 1 + 1 = g := ⟨_, rfl⟩
    obtain ⟨N, hN⟩ : ∃ N, la + lb + 1 = N := ⟨_, rfl⟩
    have hin := HIN.out
    have hmo := HMO.out
    rw [List.length_replicate, hg, hN] at hin
    rw [hN] at hmo ⊢
    rw [hg]
    have hgB : B0 + 3 ≤ g := by omega
    have hNb : N ≤ 2001 := by omega
    have hlaN : la + lb + 1 ≤ N := by omega
    have HN := Lib.hid hN
    clear HIN HMO hN hg
    go_loopw [23] (fun x wr => ∃ (i : Nat) (out : List Int), x = .int .i64 i ∧ i ≤ la ∧ Below (B0 + 3) W wr ∧ Hid (MulOut xs ys i out) ∧ Hid (Own wr (B0 + 3) (.slice (some ⟨g, 0, none⟩) N N) out)) (fun x _ => la - (intOf x).toNat)
    case atStart => exact ⟨0, _, rfl, Nat.zero_le _, hb1, hmo, hin.le hgB⟩
    case round =>
      obtain ⟨i, out, rfl, hi1, hbel, HO, HW⟩ := hrel
      have hi0 : (0 : Int) ≤ (i : Int) := Int.natCast_nonneg _
      obtain ⟨k1, k2, k3, k4⟩ := HK.out wr hbel
      by_cases hlt : i < la
      · have hi2 : (i : Int) < (la : Int) := by omega
        obtain ⟨bb, off, rfl, hbb, hcell⟩ := rd_cell (HRX.out wr hbel) (by rw [HLA.out]; omega)
        have hck := hcell i (by rw [HLA.out]; omega)
        have hxi : i < xs.length := by rw [HLA.out]; omega
        have hxr := HXD.out.at hxi
        have hms := MulIn.start HO.out
        clear hcell
        have HMS := Lib.hid hms; clear hms
        have HXI := Lib.hid hxi; clear hxi
        obtain ⟨x, hxx⟩ : ∃ x, xs.getD i 0 = x := ⟨_, rfl⟩
        rw [hxx] at hck hxr
        have HXX := Lib.hid hxx; clear hxx
        go_wp2_with fail
        clear k1 k2 k3 k4
        go_loopw [8, 9] (fun p q wr2 => ∃ (c : Int) (k : Nat) (o2 : List Int), p = .int .i64 c ∧ q = .int .i64 k ∧ 0 ≤ c ∧ c ≤ 9999 ∧ i ≤ k ∧ k ≤ N ∧ Below (B0 + 3) W wr2 ∧ Hid (MulIn xs ys out i k c o2) ∧ Hid (Own wr2 (B0 + 3) (.slice (some ⟨g, 0, none⟩) N N) o2)) (fun _ q _ => N - (intOf q).toNat)
        case atStart => exact ⟨0, i, out, rfl, rfl, by omega, by omega, Nat.le_refl _, by omega, hbel, HMS, HW⟩
        case round =>
          obtain ⟨c, k, o2, rfl, rfl, c0, c1, hik, hkN, hbel2, HI, HW2⟩ := hrel
          have hk0 : (0 : Int) ≤ (k : Int) := Int.natCast_nonneg _
          have hik' : (i : Int) ≤ (k : Int) := by omega
          obtain ⟨k1, k2, k3, k4⟩ := HK.out wr hbel2
          have hlen : o2.length = N := by rw [HI.out.1, HLA.out, HLB.out]; exact HN.out
          have hown : Own wr (B0 + 3) (.slice (some ⟨g, 0, none⟩) o2.length N) o2 := by rw [hlen]; exact HW2.out
          by_cases hkl : k < N
          · have hkN' : (k : Int) < (N : Int) := by omega
            have hck2 := hown.cellAt k (by omega)
            have hfz := World.ownsRow.frozenAt hown k
            have hst : ∀ u : Int, Own (wr.setCell ⟨g, k, none⟩ (.int .i64 u)) (B0 + 3) (.slice (some ⟨g, 0, none⟩) N N) (o2.set k u) := fun u => by
              have h := (World.ownsRow.stored hown k (.int .i64 u)).1
              unfold Own
              rw [List.map_set, List.length_set]
              rw [hlen] at h ⊢
              exact h
            have hor := HI.out.2.1.at (i := k) (by omega)
            by_cases hj : k - i < lb
            · have hj' : (k : Int) - (i : Int) < (lb : Int) := by omega
              have hj0 : (0 : Int) ≤ (k : Int) - (i : Int) := by omega
              have hjt : ((k : Int) - (i : Int)).toNat = k - i := by omega
              obtain ⟨bb', off', rfl, hbb', hcell'⟩ := rd_cell (HRY.out wr hbel2) (by rw [HLB.out]; omega)
              have hcd := hcell' (k - i) (by rw [HLB.out]; omega)
              clear hcell' hjt
              obtain ⟨m1, m2, m3, m4, hms⟩ := HI.out.step HXD.out HYD.out HXI.out hik (by omega) (by rw [HLB.out]; exact hj)
              rw [HXX.out] at m1 m2 m3 m4 hms
              generalize ys.getD (k - i) 0 = d at *
              generalize hoo : o2.getD k 0 = o at *
              have HST := Lib.hid (hst ((o + c + x * d) % 10000))
              have HMS2 := Lib.hid hms
              clear hms hst hown hoo hlen
              go_wp2_with fail
              go_roundw
              case rel => exact ⟨_, k + 1, _, rfl, by go_num, by omega, by omega, by omega, by omega, hbel2.setCell hgB _, HMS2, HST.out⟩
              case measure => simp [intOf]; omega
            · have hj' : (lb : Int) ≤ (k : Int) - (i : Int) := by omega
              obtain ⟨m1, m2, hms⟩ := HI.out.pass (by omega) (by rw [HLB.out]; omega) hik
              generalize hoo : o2.getD k 0 = o at *
              have HST := Lib.hid (hst ((o + c) % 10000))
              have HMS2 := Lib.hid hms
              clear hms hst hown hoo hlen
              go_wp2_with fail
              go_roundw
              case rel => exact ⟨_, k + 1, _, rfl, by go_num, by omega, by omega, by omega, by omega, hbel2.setCell hgB _, HMS2, HST.out⟩
              case measure => simp [intOf]; omega
          · have hkN : k = N := by omega
            subst hkN
            have hfin : MulOut xs ys (i + 1) o2 := by
              refine MulIn.finish (c := c) ?_ HO.out HXD.out HYD.out HXI.out
              have h := HI.out
              rw [← HN.out] at h
              rw [HLA.out, HLB.out]
              exact h
            have HFIN := Lib.hid hfin; clear hfin hown hlen
            go_wp2_with fail
            go_roundw
            case rel => exact ⟨i + 1, o2, by go_num, by omega, hbel2, HFIN, HW2⟩
            case measure => simp [intOf]; omega
      · have hil : i = la := by omega
        subst hil
        have hfin := HO.out.2.2
        rw [val_take_full (by rw [HLA.out]; exact Nat.le_refl _)] at hfin
        have hol : out.length = N := by rw [HO.out.1, HLA.out, HLB.out]; exact HN.out
        have hown : Own wr (B0 + 3) (.slice (some ⟨g, 0, none⟩) out.length N) out := by rw [hol]; exact HW.out
        have htr := trimmed_any (b1 != b2) (.slice (some ⟨g, 0, none⟩) out.length N) out wr hown.rd hown.slok HO.out.2.1 (by omega)
        rw [hfin, HSG.out, hol] at htr
        have HTR := Lib.hid htr
        have q0 : wr.cell? ⟨B0 + 2, 0, none⟩ = some (.bool false) := (hbel.cell (p := ⟨B0 + 2, 0, none⟩) (by dsimp only; omega)).trans cr0
        have q1 : wr.cell? ⟨B0 + 2, 1, none⟩ = some (.slice none 0 0) := (hbel.cell (p := ⟨B0 + 2, 1, none⟩) (by dsimp only; omega)).trans cr1
        have q2 : wr.frozen? ⟨B0 + 2, 0, none⟩ = false := (hbel.frozen (p := ⟨B0 + 2, 0, none⟩) (by dsimp only; omega)).trans fr0
        have q3 : wr.frozen? ⟨B0 + 2, 1, none⟩ = false := (hbel.frozen (p := ⟨B0 + 2, 1, none⟩) (by dsimp only; omega)).trans fr1
        have hzr := hbel.size
        rw [hws] at hzr
        have hB2 : B0 + 2 < wr.heap.size := by omega
        clear htr hfin hol hown
        go_wp2_with fail
        refine HTR.out.mono ?_; rintro e w2 ⟨v, rfl, hb2, hv2⟩
        have l0 := (hb2.cell (p := ⟨B0 + 2, 0, none⟩) hB2).trans q0
        have l1 := (hb2.cell (p := ⟨B0 + 2, 1, none⟩) hB2).trans q1
        have l2 := (hb2.frozen (p := ⟨B0 + 2, 0, none⟩) hB2).trans q2
        have l3 := (hb2.frozen (p := ⟨B0 + 2, 1, none⟩) hB2).trans q3
        have lz := hb2.size
        have HV := Lib.hid hv2
        obtain ⟨ad2, cap2, hvv, _⟩ := hv2
        have hbw : Below w.heap.size w w2 := bel_trans hb2 (HBW.out.trans (hbel.mono hzw))
        subst hvv
        generalize decide (zy < 0) = bb2 at HV ⊢
        generalize (digs zy.natAbs).length = ln at HV ⊢
        clear k1 k2 k3 k4 q0 q1 q2 q3
        go_wp2_with fail
        refine bodyPost_ret (by simp (maxDischargeDepth := 3) [results, Tryz.results71, go_sem, *]; try rfl) rfl ?_
        exact ⟨_, rfl, (by repeat (first | exact Below.refl _ _ | (with_reducible assumption) | refine bel_alloc ?_ _ | refine bel_drew ?_ | refine bel_drewN ?_ _ | refine Below.setCell ?_ (by dsimp only; omega) _ | refine bel_trans (by assumption) ?_)), ((HV.out.setFar (by omega) _ _).setFar (by omega) _ _).le (by omega)⟩
end Go.Proofs.YtakilincclnpdaaGreatDoor
