/- Zc: contracts: absolute values; greatest common divisors of wholes and numbers, both sides. No conditions. -/
import Derived.Test.YtakilincclnpdaaGreatDoorPWy
namespace Go.Proofs.YtakilincclnpdaaGreatDoor
open Go.RowKit

theorem gcd_emod (z k : Int) : Int.gcd (z % k) k = Int.gcd z k := by
  apply Nat.dvd_antisymm
  · refine Int.dvd_gcd ?_ (Int.gcd_dvd_right ..)
    have h1 := Int.gcd_dvd_left (z % k) k
    have h2 := Int.gcd_dvd_right (z % k) k
    have h3 := Int.dvd_add (Int.dvd_trans h2 (Int.dvd_mul_right k (z / k))) h1
    rwa [Int.mul_ediv_add_emod] at h3
  · refine Int.dvd_gcd ?_ (Int.gcd_dvd_right ..)
    have h1 := Int.gcd_dvd_left z k
    have h2 := Int.gcd_dvd_right z k
    rw [Int.emod_def]
    exact Int.dvd_sub h1 (Int.dvd_trans h2 (Int.dvd_mul_right k (z / k)))
theorem gcdI_emod (z k : Int) : gcdI (z % k) k = gcdI z k := by unfold gcdI; rw [gcd_emod]
theorem gcdI_abs_emod (z k : Int) : gcdI ((z.natAbs : Int) % k) k = gcdI z k := by
  rw [gcdI_emod]
  simp [gcdI, Int.gcd_eq_natAbs_gcd_natAbs]
theorem gcdI_emod' (z k : Int) : gcdI k (z % k) = gcdI z k := by
  rw [← gcdI_emod z k]
  unfold gcdI
  rw [Int.gcd_comm]
set_option maxHeartbeats 1000000 in
theorem absolute_any (v : Value) (z : Int) (w : World) (h : WV w v z) (hl : (digs z.natAbs).length ≤ 1000000) :
    Calls Tryz.prog 119 #[v] w (RetW (z.natAbs : Int) w) := by
  obtain ⟨ad, cap, rfl, hr, hs⟩ := h
  have hval : (if false = true then -(val (digs z.natAbs)) else val (digs z.natAbs)) = (z.natAbs : Int) := by rw [if_neg (by decide), val_digs]
  have htr := fun w' hb => trimmed_any false (.slice ad (digs z.natAbs).length cap) (digs z.natAbs) w' (hr.keep hb) hs (digs_dig _) hl
  rw [hval] at htr
  have HTR := Lib.hid htr; clear htr hval hr hs
  generalize hbb : decide (z < 0) = bb at HTR ⊢
  generalize (digs z.natAbs).length = ln at HTR ⊢
  clear hbb
  go_enter Tryz.func119, Tryz.ntmps119
  go_wp2_with fail
  refine (HTR.out _ (by repeat (first | exact Below.refl _ _ | (with_reducible assumption) | refine bel_alloc ?_ _ | refine bel_drew ?_ | refine bel_drewN ?_ _ | refine Below.setCell ?_ (by dsimp only; omega) _ | refine bel_trans (by assumption) ?_))).mono ?_; rintro e w2 ⟨u, rfl, hb2, hv2⟩
  obtain ⟨hc2, hf2, hs1, hs2, hs3, hs4⟩ := aftz hb2
  have HV := Lib.hid hv2
  obtain ⟨ad2, cap2, hu, _⟩ := hv2
  subst hu
  generalize decide ((z.natAbs : Int) < 0) = b2 at HV ⊢
  generalize (digs ((z.natAbs : Int)).natAbs).length = l2 at HV ⊢
  go_wp2_with fail
  refine bodyPost_ret (by simp (maxDischargeDepth := 3) [results, Tryz.results119, go_sem, *]; try rfl) rfl ?_
  exact ⟨_, rfl, (by repeat (first | exact Below.refl _ _ | (with_reducible assumption) | refine bel_alloc ?_ _ | refine bel_drew ?_ | refine bel_drewN ?_ _ | refine Below.setCell ?_ (by dsimp only; omega) _ | refine bel_trans (by assumption) ?_)), ((HV.out.setFar (by simp) _ _).setFar (by simp) _ _).le (by simp; omega)⟩
set_option maxHeartbeats 4000000 in
theorem divisorWith_any (v : Value) (z k : Int) (w : World) (hv : WV w v z) (hl : (digs z.natAbs).length ≤ 900) (k0 : 1 ≤ k) (k1 : k ≤ 1000000000000) :
    Calls Tryz.prog 73 #[v, .int .i64 k] w (Ret (.int .i64 (gcdI z k)) w) := by
  have hab := fun w' (hb : Below w.heap.size w w') => absolute_any v z w' (hv.keep hb) (by omega)
  have hdv := fun v w' (h : WV w' v (z.natAbs : Int)) => divWhole_any v (z.natAbs : Int) k w' h (by simpa using hl) k0 k1
  have hr0 := Int.emod_nonneg (z.natAbs : Int) (show k ≠ 0 by omega)
  have hr1 := Int.emod_lt_of_pos (z.natAbs : Int) (show 0 < k by omega)
  have hgc := fun w => gcd_any ((z.natAbs : Int) % k) k w (by omega) (by omega) (by omega) (by omega)
  rw [gcdI_abs_emod] at hgc
  generalize gcdI z k = G at hgc ⊢
  generalize (z.natAbs : Int) / k = q at hdv
  generalize (z.natAbs : Int) % k = r at hdv hgc
  obtain ⟨ad, cap, rfl, _, _⟩ := hv
  generalize decide (z < 0) = bz at hab ⊢
  generalize (digs z.natAbs).length = ln at *
  have HA := Lib.hid hab; have HD := Lib.hid hdv; have HG := Lib.hid hgc; clear hab hdv hgc hr0 hr1
  go_enter Tryz.func73, Tryz.ntmps73
  go_wp2_with fail
  refine (HA.out _ (by repeat (first | exact Below.refl _ _ | (with_reducible assumption) | refine bel_alloc ?_ _ | refine bel_drew ?_ | refine bel_drewN ?_ _ | refine Below.setCell ?_ (by dsimp only; omega) _ | refine bel_trans (by assumption) ?_))).mono ?_; rintro e w1 ⟨v1, rfl, hb1, ho1⟩
  obtain ⟨hc1, hf1, hs1, hs2, hs3, hs4⟩ := aftz hb1
  go_wp2_with fail
  refine (HD.out _ _ ho1.wv).mono ?_; rintro e w2 ⟨v2, rfl, hb2, ho2⟩
  replace hb2 := aft2 hb2 hb1; clear hb1 hc1 hf1 hs1 hs2 hs3 hs4 ho1
  obtain ⟨ad2, cap2, hv2, _⟩ := ho2
  generalize decide (q < 0) = b2 at hv2
  generalize (digs q.natAbs).length = l2 at hv2
  subst hv2
  obtain ⟨hc2, hf2, hs1, hs2, hs3, hs4⟩ := aftz hb2
  go_wp2_with fail
  refine (HG.out _).mono ?_; rintro e w3 ⟨rfl, hb3⟩
  go_wp2_with fail
  go_ret
  exact ret_eq rfl (by repeat (first | exact Below.refl _ _ | (with_reducible assumption) | refine bel_alloc ?_ _ | refine bel_drew ?_ | refine bel_drewN ?_ _ | refine Below.setCell ?_ (by dsimp only; omega) _ | refine bel_trans (by assumption) ?_))
/-- returned the greatest common divisor, where there is one. -/
def divV (n : Bool) (xs : List Int) (k : Int) : Value := .tuple #[.int .i64 (if (goodW n xs && inB k 1 1000000000000) = true then gcdI (valW n xs) k else 0), .bool (goodW n xs && inB k 1 1000000000000)]
set_option maxHeartbeats 4000000 in
theorem iDivisorWith_any (v : Value) (n : Bool) (xs : List Int) (k : Int) (w : World) (hv : RW w v n xs) (hl : xs.length ≤ 1000) :
    Calls Tryz.prog 24 #[v, .int .i64 k] w (Ret (divV n xs k) w) := by
  have hg := fun w' (hb : Below w.heap.size w w') => isWhole_any v n xs w' (hv.keep hb) (by omega)
  have hwv := fun (h : goodW n xs = true) => hv.wv h
  have hlv := fun (h : goodW n xs = true) => (good_val h).2.2
  unfold divV
  generalize valW n xs = z at *
  generalize goodW n xs = g at *
  obtain ⟨ad, cap, rfl, _, _⟩ := hv
  generalize xs.length = la at *
  have HG := Lib.hid hg; clear hg
  cases g
  · clear hwv hlv
    go_enter Tryz.func24, Tryz.ntmps24
    go_wp2_with fail
    refine (HG.out _ (by repeat (first | exact Below.refl _ _ | (with_reducible assumption) | refine bel_alloc ?_ _ | refine bel_drew ?_ | refine bel_drewN ?_ _ | refine Below.setCell ?_ (by dsimp only; omega) _ | refine bel_trans (by assumption) ?_))).mono ?_; rintro e w1 ⟨rfl, hb1⟩
    obtain ⟨hc1, hf1⟩ := aft hb1
    go_wp2_with fail
    go_returns
    exact ret_eq rfl (by repeat (first | exact Below.refl _ _ | (with_reducible assumption) | refine bel_alloc ?_ _ | refine bel_drew ?_ | refine bel_drewN ?_ _ | refine Below.setCell ?_ (by dsimp only; omega) _ | refine bel_trans (by assumption) ?_))
  cases hin : inB k 1 1000000000000
  · clear hwv hlv
    go_enter Tryz.func24, Tryz.ntmps24
    go_wp2_with fail
    refine (HG.out _ (by repeat (first | exact Below.refl _ _ | (with_reducible assumption) | refine bel_alloc ?_ _ | refine bel_drew ?_ | refine bel_drewN ?_ _ | refine Below.setCell ?_ (by dsimp only; omega) _ | refine bel_trans (by assumption) ?_))).mono ?_; rintro e w1 ⟨rfl, hb1⟩
    obtain ⟨hc1, hf1⟩ := aft hb1
    go_wp2_with (go_at_call 66; refine (inside_any _ _ _ _).mono ?_; rintro e w' ⟨rfl, rfl⟩)
    go_returns
    exact ret_eq rfl (by repeat (first | exact Below.refl _ _ | (with_reducible assumption) | refine bel_alloc ?_ _ | refine bel_drew ?_ | refine bel_drewN ?_ _ | refine Below.setCell ?_ (by dsimp only; omega) _ | refine bel_trans (by assumption) ?_))
  obtain ⟨k0, k1⟩ := inB_true.1 hin
  have hdv := fun w' (hb : Below w.heap.size w w') => divisorWith_any _ z k w' ((hwv rfl).keep hb) (by have := hlv rfl; omega) k0 k1
  generalize gcdI z k = G at hdv ⊢
  have HDV := Lib.hid hdv; clear hdv hwv hlv
  go_enter Tryz.func24, Tryz.ntmps24
  go_wp2_with fail
  refine (HG.out _ (by repeat (first | exact Below.refl _ _ | (with_reducible assumption) | refine bel_alloc ?_ _ | refine bel_drew ?_ | refine bel_drewN ?_ _ | refine Below.setCell ?_ (by dsimp only; omega) _ | refine bel_trans (by assumption) ?_))).mono ?_; rintro e w1 ⟨rfl, hb1⟩
  obtain ⟨hc1, hf1⟩ := aft hb1
  go_wp2_with (go_at_call 66; refine (inside_any _ _ _ _).mono ?_; rintro e w' ⟨rfl, rfl⟩)
  refine (HDV.out _ (by repeat (first | exact Below.refl _ _ | (with_reducible assumption) | refine bel_alloc ?_ _ | refine bel_drew ?_ | refine bel_drewN ?_ _ | refine Below.setCell ?_ (by dsimp only; omega) _ | refine bel_trans (by assumption) ?_))).mono ?_; rintro e w2 ⟨rfl, hb2⟩
  replace hb2 := aft2 hb2 hb1; clear hb1 hc1 hf1
  go_wp2_with fail
  go_returns
  exact ret_eq rfl (by repeat (first | exact Below.refl _ _ | (with_reducible assumption) | refine bel_alloc ?_ _ | refine bel_drew ?_ | refine bel_drewN ?_ _ | refine Below.setCell ?_ (by dsimp only; omega) _ | refine bel_trans (by assumption) ?_))
set_option maxHeartbeats 4000000 in
theorem sDivisorWith_any (v : Value) (n : Bool) (xs : List Int) (k : Int) (w : World) (hv : RW w v n xs) (hl : xs.length ≤ 1000) :
    Calls Tryz.prog 25 #[v, .int .i64 k] w (Ret (divV n xs k) w) := by
  have hg := fun w' (hb : Below w.heap.size w w') => bgGood_any v n xs w' (hv.keep hb) (by omega)
  have hwv := fun (h : goodW n xs = true) => hv.wv h
  have hlv := fun (h : goodW n xs = true) => (good_val h).2.2
  unfold divV
  generalize valW n xs = z at *
  generalize goodW n xs = g at *
  obtain ⟨ad, cap, rfl, _, _⟩ := hv
  generalize xs.length = la at *
  have HG := Lib.hid hg; clear hg
  have hsm := fun w => bgSmall_any k w
  cases g
  · clear hwv hlv
    go_enter Tryz.func25, Tryz.ntmps25
    go_wp2_with fail
    refine (HG.out _ (by repeat (first | exact Below.refl _ _ | (with_reducible assumption) | refine bel_alloc ?_ _ | refine bel_drew ?_ | refine bel_drewN ?_ _ | refine Below.setCell ?_ (by dsimp only; omega) _ | refine bel_trans (by assumption) ?_))).mono ?_; rintro e w1 ⟨rfl, hb1⟩
    obtain ⟨hc1, hf1⟩ := aft hb1
    go_wp2_with fail
    go_returns
    exact ret_eq rfl (by repeat (first | exact Below.refl _ _ | (with_reducible assumption) | refine bel_alloc ?_ _ | refine bel_drew ?_ | refine bel_drewN ?_ _ | refine Below.setCell ?_ (by dsimp only; omega) _ | refine bel_trans (by assumption) ?_))
  cases hin : inB k 1 1000000000000
  · clear hwv hlv
    rw [hin] at hsm
    have HSM := Lib.hid hsm; clear hsm
    go_enter Tryz.func25, Tryz.ntmps25
    go_wp2_with fail
    refine (HG.out _ (by repeat (first | exact Below.refl _ _ | (with_reducible assumption) | refine bel_alloc ?_ _ | refine bel_drew ?_ | refine bel_drewN ?_ _ | refine Below.setCell ?_ (by dsimp only; omega) _ | refine bel_trans (by assumption) ?_))).mono ?_; rintro e w1 ⟨rfl, hb1⟩
    obtain ⟨hc1, hf1⟩ := aft hb1
    go_wp2_with fail
    refine (HSM.out _).mono ?_; rintro e w' ⟨rfl, rfl⟩
    go_wp2_with fail
    go_returns
    exact ret_eq rfl (by repeat (first | exact Below.refl _ _ | (with_reducible assumption) | refine bel_alloc ?_ _ | refine bel_drew ?_ | refine bel_drewN ?_ _ | refine Below.setCell ?_ (by dsimp only; omega) _ | refine bel_trans (by assumption) ?_))
  obtain ⟨k0, k1⟩ := inB_true.1 hin
  rw [hin] at hsm
  have HSM := Lib.hid hsm; clear hsm
  have hr0 := Int.emod_nonneg z (show k ≠ 0 by omega)
  have hr1 := Int.emod_lt_of_pos z (show 0 < k by omega)
  have hgc := fun w => bgCommon_any k (z % k) w (by omega) (by omega) (by omega) (by omega)
  rw [gcdI_emod'] at hgc
  have hdv := fun w' (hb : Below w.heap.size w w') => bgOver_any _ z k w' ((hwv rfl).keep hb) (by have := hlv rfl; omega) k0 k1
  generalize gcdI z k = G at hgc ⊢
  generalize z / k = q at hdv
  generalize z % k = r at hdv hgc hr0 hr1
  have HGC := Lib.hid hgc; clear hgc hr0 hr1
  have HDV := Lib.hid hdv; clear hdv hwv hlv
  go_enter Tryz.func25, Tryz.ntmps25
  go_wp2_with fail
  refine (HG.out _ (by repeat (first | exact Below.refl _ _ | (with_reducible assumption) | refine bel_alloc ?_ _ | refine bel_drew ?_ | refine bel_drewN ?_ _ | refine Below.setCell ?_ (by dsimp only; omega) _ | refine bel_trans (by assumption) ?_))).mono ?_; rintro e w1 ⟨rfl, hb1⟩
  obtain ⟨hc1, hf1⟩ := aft hb1
  go_wp2_with fail
  refine (HSM.out _).mono ?_; rintro e w' ⟨rfl, rfl⟩
  go_wp2_with fail
  refine (HDV.out _ (by repeat (first | exact Below.refl _ _ | (with_reducible assumption) | refine bel_alloc ?_ _ | refine bel_drew ?_ | refine bel_drewN ?_ _ | refine Below.setCell ?_ (by dsimp only; omega) _ | refine bel_trans (by assumption) ?_))).mono ?_; rintro e w2 ⟨v2, rfl, hb2, ho⟩
  replace hb2 := aft2 hb2 hb1; clear hb1 hc1 hf1
  obtain ⟨ad1, cap1, hv1, _⟩ := ho
  generalize decide (q < 0) = b1 at hv1
  generalize (digs q.natAbs).length = l1 at hv1
  subst hv1
  obtain ⟨hc2, hf2, hs1, hs2, hs3, hs4⟩ := aftz hb2
  go_wp2_with fail
  refine (HGC.out _).mono ?_; rintro e w3 ⟨rfl, hb3⟩
  go_wp2_with fail
  go_returns
  exact ret_eq rfl (by repeat (first | exact Below.refl _ _ | (with_reducible assumption) | refine bel_alloc ?_ _ | refine bel_drew ?_ | refine bel_drewN ?_ _ | refine Below.setCell ?_ (by dsimp only; omega) _ | refine bel_trans (by assumption) ?_))
end Go.Proofs.YtakilincclnpdaaGreatDoor
