/- Yf: contracts: the reference's products of wholes. No conditions. -/
import Derived.Test.YtakilincclnpdaaGreatDoorYcy
import Derived.Test.YtakilincclnpdaaGreatDoorWmy
namespace Go.Proofs.YtakilincclnpdaaGreatDoor
open Go.RowKit

set_option maxRecDepth 4000 in
set_option maxHeartbeats 4000000 in
theorem bgMul_any (v u : Value) (z y : Int) (w : World) (hv : WV w v z) (hu : WV w u y) (hl : (digs z.natAbs).length ≤ 1000) (hl' : (digs y.natAbs).length ≤ 1000) :
    Calls Tryz.prog 70 #[v, u] w (RetW (z * y) w) := by
  obtain ⟨i0, hi, hz0, hz1, hz2⟩ := info_parts Tryz.info_int
  obtain ⟨ad, cap, rfl, hr, _⟩ := hv
  obtain ⟨ad', cap', rfl, hr', _⟩ := hu
  have hsg := mul_sign (z := z) (y := y)
  have hxd := digs_dig z.natAbs
  have hyd := digs_dig y.natAbs
  have hxv := val_digs z.natAbs
  have hyv := val_digs y.natAbs
  generalize z * y = zy at hsg ⊢
  generalize decide (z < 0) = b1 at *
  generalize decide (y < 0) = b2 at *
  rw [← hxv, ← hyv] at hsg
  generalize digs z.natAbs = xs at *
  generalize digs y.natAbs = ys at *
  have HSG := Lib.hid hsg; clear hsg hxv hyv
  have HXD := Lib.hid hxd; clear hxd
  have HYD := Lib.hid hyd; clear hyd
  have HR := Lib.hid hr; clear hr
  have HR' := Lib.hid hr'; clear hr'
  obtain ⟨la, hla⟩ : ∃ la, xs.length = la := ⟨_, rfl⟩
  obtain ⟨lb, hlb⟩ : ∃ lb, ys.length = lb := ⟨_, rfl⟩
  rw [hla] at hl ⊢
  rw [hlb] at hl' ⊢
  have HLA := Lib.hid hla; clear hla
  have HLB := Lib.hid hlb; clear hlb
  obtain ⟨B0, hB0⟩ : ∃ B0, w.heap.size = B0 := ⟨_, rfl⟩
  go_enter Tryz.func70, Tryz.ntmps70
  go_wp2_with (first | (at_make; refine wpList_make_full _ rfl _ _ 24 rfl (B0 + 3) 3 i0 (.int .i64 0) 1 Tryz.underlying24 hi hz0 hz1 _ _ _ _ (la + lb) rfl rfl rfl rfl ?_ ?_ ?_ ?_))
  · rw [hz2]; omega
  · unfold maxLen; omega
  · simp; omega
  · intro w1 hown hgr
    generalize hW : ((w.alloc (.cells #[.bool b1, .slice ad la cap] 26)).alloc (.cells #[.bool b2, .slice ad' lb cap'] 26)).alloc (.cells #[.bool false, .slice none 0 0] 26) = W at hgr
    obtain ⟨hbelW, hws, ca0, ca1, cb0, cb1, cr0, cr1, fr0, fr1⟩ : Below w.heap.size w W ∧ W.heap.size = B0 + 3 ∧ W.cell? ⟨B0, 0, none⟩ = some (.bool b1) ∧ W.cell? ⟨B0, 1, none⟩ = some (.slice ad la cap) ∧ W.cell? ⟨B0 + 1, 0, none⟩ = some (.bool b2) ∧ W.cell? ⟨B0 + 1, 1, none⟩ = some (.slice ad' lb cap') ∧
        W.cell? ⟨B0 + 2, 0, none⟩ = some (.bool false) ∧ W.cell? ⟨B0 + 2, 1, none⟩ = some (.slice none 0 0) ∧ W.frozen? ⟨B0 + 2, 0, none⟩ = false ∧ W.frozen? ⟨B0 + 2, 1, none⟩ = false := by
      subst hW; subst hB0
      exact ⟨(by repeat (first | exact Below.refl _ _ | (with_reducible assumption) | refine bel_alloc ?_ _ | refine bel_drew ?_ | refine bel_drewN ?_ _ | refine Below.setCell ?_ (by dsimp only; omega) _ | refine bel_trans (by assumption) ?_)), by simp, by simp [go_sem], by simp [go_sem], by simp [go_sem], by simp [go_sem], by simp [go_sem], by simp [go_sem], by simp [go_sem], by simp [go_sem]⟩
    clear hW
    have hb1 : Below W.heap.size W w1 := (Below.refl _ _).grown hgr (Nat.le_refl _) (fun k h => by cases h)
    have hin : Own w1 (B0 + 3) (.slice (some ⟨B0 + 1 + 1 + 1, 0, none⟩) (List.replicate (la + lb) 0).length (la + lb)) (List.replicate (la + lb) 0) := by
      have e : (madeCells #[Value.int .i64 0] (la + lb)).toList = (List.replicate (la + lb) (0 : Int)).map (Value.int .i64) := by
        have := toList_madeCells_one (.int .i64 0) (la + lb)
        rw [this]; simp
      unfold Own
      rw [← e]
      simp only [List.length_replicate]
      exact hown
    have hmo : MSt xs ys 0 (List.replicate (la + lb) 0) := by rw [← HLA.out, ← HLB.out]; exact MSt.start xs ys
    have HMO := Lib.hid hmo; clear hmo hown hgr
    have HIN := Lib.hid hin; clear hin
    rw [hws] at hb1
    have HBW := Lib.hid hbelW
    have hzw : w.heap.size ≤ B0 + 3 := by omega
    have hk : ∀ wr, Below (B0 + 3) W wr → wr.cell? ⟨B0, 0, none⟩ = some (.bool b1) ∧ wr.cell? ⟨B0, 1, none⟩ = some (.slice ad la cap) ∧ wr.cell? ⟨B0 + 1, 0, none⟩ = some (.bool b2) ∧ wr.cell? ⟨B0 + 1, 1, none⟩ = some (.slice ad' lb cap') := fun wr hb =>
      ⟨(hb.cell (p := ⟨B0, 0, none⟩) (by dsimp only; omega)).trans ca0, (hb.cell (p := ⟨B0, 1, none⟩) (by dsimp only; omega)).trans ca1, (hb.cell (p := ⟨B0 + 1, 0, none⟩) (by dsimp only; omega)).trans cb0, (hb.cell (p := ⟨B0 + 1, 1, none⟩) (by dsimp only; omega)).trans cb1⟩
    have HK := Lib.hid hk; clear hk
    have hrx : ∀ wr, Below (B0 + 3) W wr → Rd wr (.slice ad xs.length cap) xs := fun wr hb => (HR.out.keep HBW.out).keep (by rw [hws]; exact hb)
    have hry : ∀ wr, Below (B0 + 3) W wr → Rd wr (.slice ad' ys.length cap') ys := fun wr hb => (HR'.out.keep HBW.out).keep (by rw [hws]; exact hb)
    have HRX := Lib.hid hrx; clear hrx
    have HRY := Lib.hid hry; clear hry
    clear ca0 ca1 cb0 cb1 HR HR'
    obtain ⟨k1, k2, k3, k4⟩ := HK.out w1 hb1
    go_wp2_with fail
    clear k1 k2 k3 k4
    obtain ⟨g, hg⟩ : ∃ g, B0 + 1 + 1 + 1 = g := ⟨_, rfl⟩
    obtain ⟨N, hN⟩ : ∃ N, la + lb = N := ⟨_, rfl⟩
    have hin := HIN.out
    have hmo := HMO.out
    rw [List.length_replicate, hg, hN] at hin
    rw [hN] at hmo ⊢
    rw [hg]
    have hgB : B0 + 3 ≤ g := by omega
    have hNb : N ≤ 2000 := by omega
    have hNI : (la : Int) + (lb : Int) = (N : Int) := by omega
    have HN := Lib.hid hN
    clear HIN HMO hN hg hNI
    go_loopw [24] (fun x wr => ∃ (i : Nat) (S : List Int), x = .int .i64 i ∧ i ≤ la ∧ Below (B0 + 3) W wr ∧ Hid (MSt xs ys i S) ∧ Hid (Own wr (B0 + 3) (.slice (some ⟨g, 0, none⟩) N N) S)) (fun x _ => la - (intOf x).toNat)
    case atStart => exact ⟨0, _, rfl, Nat.zero_le _, hb1, hmo, hin.le hgB⟩
    case round =>
      obtain ⟨i, S, rfl, hi1, hbel, HO, HW⟩ := hrel
      have hi0 : (0 : Int) ≤ (i : Int) := Int.natCast_nonneg _
      obtain ⟨k1, k2, k3, k4⟩ := HK.out wr hbel
      by_cases hlt : i < la
      · have hi2 : (i : Int) < (la : Int) := by omega
        obtain ⟨bb, off, rfl, hbb, hcell⟩ := rd_cell (HRX.out wr hbel) (by rw [HLA.out]; omega)
        have hck := hcell i (by rw [HLA.out]; omega)
        have hxi : i < xs.length := by rw [HLA.out]; omega
        have hxr := HXD.out.at hxi
        have hms := MIn.start HO.out
        clear hcell
        have HMS := Lib.hid hms; clear hms
        have HXI := Lib.hid hxi; clear hxi
        obtain ⟨x, hxx⟩ : ∃ x, xs.getD i 0 = x := ⟨_, rfl⟩
        rw [hxx] at hck hxr
        have HXX := Lib.hid hxx; clear hxx
        have hin1 : (i : Int) + (lb : Int) ≤ (N : Int) := by have := HN.out; omega
        go_wp2_with fail
        clear k1 k2 k3 k4
        go_loopw [32] (fun q wr2 => ∃ (k : Nat) (S2 : List Int), q = .int .i64 k ∧ k ≤ lb ∧ Below (B0 + 3) W wr2 ∧ Hid (MIn xs ys i k S2) ∧ Hid (Own wr2 (B0 + 3) (.slice (some ⟨g, 0, none⟩) N N) S2)) (fun q _ => lb - (intOf q).toNat)
        case atStart => exact ⟨0, S, rfl, Nat.zero_le _, hbel, HMS, HW⟩
        case round =>
          obtain ⟨k, S2, rfl, hkb, hbel2, HI, HW2⟩ := hrel
          have hk0 : (0 : Int) ≤ (k : Int) := Int.natCast_nonneg _
          obtain ⟨k1, k2, k3, k4⟩ := HK.out wr hbel2
          have hlen : S2.length = N := by rw [HI.out.1, HLA.out, HLB.out]; exact HN.out
          have hown : Own wr (B0 + 3) (.slice (some ⟨g, 0, none⟩) S2.length N) S2 := by rw [hlen]; exact HW2.out
          by_cases hkl : k < lb
          · have hkl' : (k : Int) < (lb : Int) := by omega
            obtain ⟨bb', off', rfl, hbb', hcell'⟩ := rd_cell (HRY.out wr hbel2) (by rw [HLB.out]; omega)
            have hcd := hcell' k (by rw [HLB.out]; exact hkl)
            clear hcell'
            have hik : i + k < N := by omega
            have hikI : (i : Int) + (k : Int) < (N : Int) := by omega
            have hik0 : (0 : Int) ≤ (i : Int) + (k : Int) := by omega
            have hck2 := hown.cellAt (i + k) (by omega)
            have hfz := World.ownsRow.frozenAt hown (i + k)
            have hst : ∀ t : Int, Own (wr.setCell ⟨g, i + k, none⟩ (.int .i64 t)) (B0 + 3) (.slice (some ⟨g, 0, none⟩) N N) (S2.set (i + k) t) := fun t => by
              have h := (World.ownsRow.stored hown (i + k) (.int .i64 t)).1
              unfold Own
              rw [List.map_set, List.length_set]
              rw [hlen] at h ⊢
              exact h
            have hor := HI.out.2.1 (i + k)
            rw [if_neg (Nat.lt_irrefl _)] at hor
            have hyr := HYD.out.at (i := k) (by rw [HLB.out]; exact hkl)
            have hms := HI.out.step HXD.out HYD.out HXI.out (by rw [HLB.out]; exact hkl)
            rw [HXX.out] at hms
            generalize ys.getD k 0 = d at *
            generalize S2.getD (i + k) 0 = o at *
            obtain ⟨m3, m4⟩ := mul_99 hxr hyr
            have hor1 : o ≤ 1000 * 99980001 := by omega
            have hor0 : 0 ≤ o := hor.1
            clear hor
            have HST := Lib.hid (hst (o + x * d))
            have HMS2 := Lib.hid hms
            clear hms hst hown hlen
            go_wp2_with fail
            go_roundw
            case rel => exact ⟨k + 1, _, by go_num, by omega, hbel2.setCell hgB _, HMS2, HST.out⟩
            case measure => simp [intOf]; omega
          · have hkN : k = lb := by omega
            subst hkN
            have hfin : MSt xs ys (i + 1) S2 := by
              refine MIn.finish ?_
              rw [HLB.out]
              exact HI.out
            have HFIN := Lib.hid hfin; clear hfin hown hlen
            go_wp2_with fail
            go_roundw
            case rel => exact ⟨i + 1, S2, by go_num, by omega, hbel2, HFIN, HW2⟩
            case measure => simp [intOf]; omega
      · have hil : i = la := by omega
        subst hil
        have hfin := HO.out.2.2
        rw [List.take_of_length_le (by rw [HLA.out]; exact Nat.le_refl _)] at hfin
        have hSb := HO.out.2.1
        have hSl : S.length = N := by rw [HO.out.1, HLA.out, HLB.out]; exact HN.out
        have hv0 : 0 ≤ val S := by rw [hfin]; exact Int.mul_nonneg (val_nonneg HXD.out) (val_nonneg HYD.out)
        have hv1 : val S < 10000 ^ S.length := by
          rw [hfin, HO.out.1]
          exact pow_lt_mul (val_nonneg HXD.out) (val_lt HXD.out) (val_nonneg HYD.out) (val_lt HYD.out) (Nat.le_refl _)
        have hcs := CSt.start S
        have hcstep := fun out k c (h : CSt S k c out) (hk : k < N) => h.step (by omega) ⟨(hSb k).1, by have := (hSb k).2; omega⟩
        have hcfin := fun out c (h : CSt S N c out) => (by rw [← hSl] at h; exact h.finish hv0 hv1 : Dig out ∧ val out = val S)
        have hcob := fun out k c (h : CSt S k c out) (_ : k < N) => (by rw [h.2.2.1 k (Nat.le_refl _)]; exact ⟨(hSb k).1, by have := (hSb k).2; omega⟩ : 0 ≤ out.getD k 0 ∧ out.getD k 0 ≤ 100000000000000)
        have HCS := Lib.hid hcs; have HCT := Lib.hid hcstep; have HCF := Lib.hid hcfin; have HCB := Lib.hid hcob
        have HF := Lib.hid hfin; have HSL := Lib.hid hSl
        clear hcs hcstep hcfin hcob hfin hSb hSl hv0 hv1
        go_wp2_with fail
        clear k1 k2 k3 k4
        go_loopw [10, 52] (fun p q wr2 => ∃ (c : Int) (k : Nat) (out : List Int), p = .int .i64 c ∧ q = .int .i64 k ∧ 0 ≤ c ∧ c ≤ 1000000000000 ∧ k ≤ N ∧ Below (B0 + 3) W wr2 ∧ Hid (CSt S k c out) ∧ Hid (Own wr2 (B0 + 3) (.slice (some ⟨g, 0, none⟩) N N) out)) (fun _ q _ => N - (intOf q).toNat)
        case atStart => exact ⟨0, 0, S, rfl, rfl, by omega, by omega, Nat.zero_le _, hbel, HCS, HW⟩
        case round =>
          obtain ⟨c, k, out, rfl, rfl, c0, c1, hkN, hbel2, HI, HW2⟩ := hrel
          have hk0 : (0 : Int) ≤ (k : Int) := Int.natCast_nonneg _
          obtain ⟨k1, k2, k3, k4⟩ := HK.out wr hbel2
          have hlen : out.length = N := HI.out.1.trans HSL.out
          have hown : Own wr (B0 + 3) (.slice (some ⟨g, 0, none⟩) out.length N) out := by rw [hlen]; exact HW2.out
          by_cases hkl : k < N
          · have hkN' : (k : Int) < (N : Int) := by omega
            have hck2 := hown.cellAt k (by omega)
            have hfz := World.ownsRow.frozenAt hown k
            have hst : ∀ t : Int, Own (wr.setCell ⟨g, k, none⟩ (.int .i64 t)) (B0 + 3) (.slice (some ⟨g, 0, none⟩) N N) (out.set k t) := fun t => by
              have h := (World.ownsRow.stored hown k (.int .i64 t)).1
              unfold Own
              rw [List.map_set, List.length_set]
              rw [hlen] at h ⊢
              exact h
            obtain ⟨o0, o1⟩ := HCB.out out k c HI.out hkl
            have hms := HCT.out out k c HI.out hkl
            have hcc := hms.2.2.2.1
            have hcc2 := hms.2.2.2.2.1
            generalize out.getD k 0 = o at *
            have HST := Lib.hid (hst ((o + c) % 10000))
            have HMS2 := Lib.hid hms
            clear hms hst hown hlen
            go_wp2_with fail
            go_roundw
            case rel => exact ⟨_, k + 1, _, rfl, by go_num, hcc, hcc2, by omega, hbel2.setCell hgB _, HMS2, HST.out⟩
            case measure => simp [intOf]; omega
          · have hkN : k = N := by omega
            subst hkN
            obtain ⟨hd, hvo⟩ := HCF.out out c HI.out
            rw [HF.out] at hvo
            have htr := bgMake_any (b1 != b2) (.slice (some ⟨g, 0, none⟩) out.length k) out wr hown.rd hown.slok hd (by omega)
            rw [hvo, HSG.out, hlen] at htr
            have HTR := Lib.hid htr
            have q0 : wr.cell? ⟨B0 + 2, 0, none⟩ = some (.bool false) := (hbel2.cell (p := ⟨B0 + 2, 0, none⟩) (by dsimp only; omega)).trans cr0
            have q1 : wr.cell? ⟨B0 + 2, 1, none⟩ = some (.slice none 0 0) := (hbel2.cell (p := ⟨B0 + 2, 1, none⟩) (by dsimp only; omega)).trans cr1
            have q2 : wr.frozen? ⟨B0 + 2, 0, none⟩ = false := (hbel2.frozen (p := ⟨B0 + 2, 0, none⟩) (by dsimp only; omega)).trans fr0
            have q3 : wr.frozen? ⟨B0 + 2, 1, none⟩ = false := (hbel2.frozen (p := ⟨B0 + 2, 1, none⟩) (by dsimp only; omega)).trans fr1
            have hzr := hbel2.size
            rw [hws] at hzr
            have hB2 : B0 + 2 < wr.heap.size := by omega
            clear htr hvo hd hown
            go_wp2_with fail
            refine HTR.out.mono ?_; rintro e w2 ⟨v, rfl, hb2, hv2⟩
            have l0 := (hb2.cell (p := ⟨B0 + 2, 0, none⟩) hB2).trans q0
            have l1 := (hb2.cell (p := ⟨B0 + 2, 1, none⟩) hB2).trans q1
            have l2 := (hb2.frozen (p := ⟨B0 + 2, 0, none⟩) hB2).trans q2
            have l3 := (hb2.frozen (p := ⟨B0 + 2, 1, none⟩) hB2).trans q3
            have lz := hb2.size
            have HV := Lib.hid hv2
            obtain ⟨ad2, cap2, hvv, _⟩ := hv2
            have hbw : Below w.heap.size w w2 := bel_trans hb2 (HBW.out.trans (hbel2.mono hzw))
            subst hvv
            generalize decide (zy < 0) = bb2 at HV ⊢
            generalize (digs zy.natAbs).length = ln at HV ⊢
            clear k1 k2 k3 k4 q0 q1 q2 q3
            go_wp2_with fail
            refine bodyPost_ret (by simp (maxDischargeDepth := 3) [results, Tryz.results70, go_sem, *]; try rfl) rfl ?_
            exact ⟨_, rfl, (by repeat (first | exact Below.refl _ _ | (with_reducible assumption) | refine bel_alloc ?_ _ | refine bel_drew ?_ | refine bel_drewN ?_ _ | refine Below.setCell ?_ (by dsimp only; omega) _ | refine bel_trans (by assumption) ?_)), ((HV.out.setFar (by omega) _ _).setFar (by omega) _ _).le (by omega)⟩
end Go.Proofs.YtakilincclnpdaaGreatDoor
