/- Kj: contracts: exponents of the conductor, kinds, nodes, numbers of nonsingular points. No conditions. -/
import Derived.Test.YtpjcfnjagknocaaDoorKi
namespace Go.Proofs.YtpjcfnjagknocaaDoor
open Go.RowKit

def expK : Nat → Int
  | 0 => 0
  | 1 => 2
  | _ => 1
theorem conductorExponent_any (a b p : Int) (w : World) (hcur : curveB a b = true) (hpr : p5B p = true) :
    Calls Tryd.prog 28 #[.agg #[.int .i64 a, .int .i64 b], .int .i64 p] w (Ret (.int .i64 (expK (kindN (minA a b p) b p))) w) := by
  rcases kind_cases (minA a b p) b p with hk | hk | hk | hk
  all_goals
    rw [hk]
    go_enter Tryd.func28, Tryd.ntmps28
    go_wp2_with fail
    refine (kindAt_any _ _ _ _ hcur hpr).mono ?_; rintro e w1 ⟨rfl, hb1⟩
    rw [hk]
    go_wp2_with fail
    go_ret
    exact ret_eq rfl (by repeat (first | exact Below.refl _ _ | (with_reducible assumption) | refine bel_alloc ?_ _ | refine bel_drew ?_ | refine bel_drewN ?_ _ | refine Below.setCell ?_ (by dsimp only; omega) _ | refine bel_trans (by assumption) ?_))
theorem rtExponent_any (a b p : Int) (w : World) (hcur : curveB a b = true) (hpr : p5B p = true) :
    Calls Tryd.prog 30 #[.agg #[.int .i64 a, .int .i64 b], .int .i64 p] w (Ret (.int .i64 (expK (kindN (minA a b p) b p))) w) := by
  obtain ⟨k1, k2, k3⟩ := min_disc (p := p) hcur
  obtain ⟨_, _, h3, h4, _⟩ := curveB_true.1 hcur
  clear k3
  rcases kind_cases (minA a b p) b p with hk | hk | hk | hk
  all_goals
    rw [hk]
    go_enter Tryd.func30, Tryd.ntmps30
    go_wp2_with (go_at_call 37; refine (rtMinimal_any _ _ _ _ hcur hpr).mono ?_; rintro e w' ⟨rfl, hb⟩; (try replace hb := aft2 hb (by assumption)); obtain ⟨hc, hf, hs1, hs2, hs3, hs4⟩ := aftz hb)
    refine (rtKind_any _ _ _ _ k1 k2 h3 h4 hpr).mono ?_; rintro e w2 ⟨rfl, hb2⟩
    rw [hk]
    go_wp2_with fail
    go_ret
    exact ret_eq rfl (by repeat (first | exact Below.refl _ _ | (with_reducible assumption) | refine bel_alloc ?_ _ | refine bel_drew ?_ | refine bel_drewN ?_ _ | refine Below.setCell ?_ (by dsimp only; omega) _ | refine bel_trans (by assumption) ?_))
theorem kind_good {A B p : Int} (hpr : p5B p = true) (h : kindN A B p = 0) : goodB A B p = true := by
  unfold kindN at h
  split at h
  · rename_i hd
    unfold goodB; rw [hpr]; simp [hd]
  · split at h
    · omega
    · split at h <;> omega
set_option maxHeartbeats 1000000 in
theorem iConductorExponent_any (a b p : Int) (w : World) :
    Calls Tryd.prog 20 #[.agg #[.int .i64 a, .int .i64 b], .int .i64 p] w (Ret (bif curveB a b && p5B p then .tuple #[.int .i64 (expK (kindN (minA a b p) b p)), .bool true] else .tuple #[.int .i64 0, .bool false]) w) := by
  cases hcur : curveB a b
  · go_enter Tryd.func20, Tryd.ntmps20
    go_wp2_with (go_at_call 24; refine (isCurve_any _ _ _).mono ?_; rintro e w' ⟨rfl, hb⟩; (try replace hb := aft2 hb (by assumption)); obtain ⟨hc, hf⟩ := aft hb)
    refine bodyPost_ret (by simp (maxDischargeDepth := 3) [results, Tryd.results20, go_sem, *]; try rfl) rfl ?_
    exact ret_eq rfl (by repeat (first | exact Below.refl _ _ | (with_reducible assumption) | refine bel_alloc ?_ _ | refine bel_drew ?_ | refine bel_drewN ?_ _ | refine Below.setCell ?_ (by dsimp only; omega) _ | refine bel_trans (by assumption) ?_))
  · cases hpr : p5B p
    · go_enter Tryd.func20, Tryd.ntmps20
      go_wp2_with (first | (go_at_call 24; refine (isCurve_any _ _ _).mono ?_; rintro e w' ⟨rfl, hb⟩; (try replace hb := aft2 hb (by assumption)); obtain ⟨hc, hf⟩ := aft hb) | (go_at_call 44; refine (fromFive_any _ _).mono ?_; rintro e w' ⟨rfl, hb⟩; (try replace hb := aft2 hb (by assumption)); obtain ⟨hc, hf⟩ := aft hb))
      refine bodyPost_ret (by simp (maxDischargeDepth := 3) [results, Tryd.results20, go_sem, *]; try rfl) rfl ?_
      exact ret_eq rfl (by repeat (first | exact Below.refl _ _ | (with_reducible assumption) | refine bel_alloc ?_ _ | refine bel_drew ?_ | refine bel_drewN ?_ _ | refine Below.setCell ?_ (by dsimp only; omega) _ | refine bel_trans (by assumption) ?_))
    · obtain ⟨k1, k2, k3⟩ := min_disc (p := p) hcur
      obtain ⟨_, _, h3, h4, _⟩ := curveB_true.1 hcur
      obtain ⟨p1, p2⟩ := p5_bd hpr
      have hmc := min_curve (p := p) hcur
      have hp0 : (p == 0) = false := by simp; omega
      clear k3
      rcases kind_cases (minA a b p) b p with hk | hk | hk | hk
      all_goals
        try have hgd := kind_good hpr hk
        try simp only [hk]
        go_enter Tryd.func20, Tryd.ntmps20
        go_wp2_with (first | (go_at_call 24; refine (isCurve_any _ _ _).mono ?_; rintro e w' ⟨rfl, hb⟩; (try replace hb := aft2 hb (by assumption)); obtain ⟨hc, hf, hs1, hs2, hs3, hs4⟩ := aftz hb) | (go_at_call 44; refine (fromFive_any _ _).mono ?_; rintro e w' ⟨rfl, hb⟩; (try replace hb := aft2 hb (by assumption)); obtain ⟨hc, hf, hs1, hs2, hs3, hs4⟩ := aftz hb) | (go_at_call 28; refine (conductorExponent_any _ _ _ _ hcur hpr).mono ?_; rintro e w' ⟨rfl, hb⟩; (try replace hb := aft2 hb (by assumption)); obtain ⟨hc, hf, hs1, hs2, hs3, hs4⟩ := aftz hb))
        refine bodyPost_ret (by simp (maxDischargeDepth := 3) [results, Tryd.results20, go_sem, *]; try rfl) rfl ?_
        exact ret_eq rfl (by repeat (first | exact Below.refl _ _ | (with_reducible assumption) | refine bel_alloc ?_ _ | refine bel_drew ?_ | refine bel_drewN ?_ _ | refine Below.setCell ?_ (by dsimp only; omega) _ | refine bel_trans (by assumption) ?_))
set_option maxHeartbeats 1000000 in
theorem sConductorExponent_any (a b p : Int) (w : World) :
    Calls Tryd.prog 22 #[.agg #[.int .i64 a, .int .i64 b], .int .i64 p] w (Ret (bif curveB a b && p5B p then .tuple #[.int .i64 (expK (kindN (minA a b p) b p)), .bool true] else .tuple #[.int .i64 0, .bool false]) w) := by
  cases hcpx : (curveB a b && p5B p)
  · go_enter Tryd.func22, Tryd.ntmps22
    go_wp2_with fail
    refine (rtAsked_any _ _ _ _).mono ?_; rintro e w1 ⟨rfl, hb1⟩
    obtain ⟨hc1, hf1⟩ := aft hb1
    rw [hcpx]
    go_wp2_with fail
    refine bodyPost_ret (by simp (maxDischargeDepth := 3) [results, Tryd.results22, go_sem, *]; try rfl) rfl ?_
    exact ret_mk (by repeat (first | exact Below.refl _ _ | (with_reducible assumption) | refine bel_alloc ?_ _ | refine bel_drew ?_ | refine bel_drewN ?_ _ | refine Below.setCell ?_ (by dsimp only; omega) _ | refine bel_trans (by assumption) ?_))
  · obtain ⟨hcur, hpr⟩ := (Bool.and_eq_true _ _).mp hcpx
    obtain ⟨k1, k2, k3⟩ := min_disc (p := p) hcur
    obtain ⟨_, _, h3, h4, _⟩ := curveB_true.1 hcur
    obtain ⟨p1, p2⟩ := p5_bd hpr
    have hmc := min_curve (p := p) hcur
    clear k3
    rcases kind_cases (minA a b p) b p with hk | hk | hk | hk
    all_goals
      try have hgd := kind_good hpr hk
      try simp only [hk]
      go_enter Tryd.func22, Tryd.ntmps22
      go_wp2_with fail
      refine (rtAsked_any _ _ _ _).mono ?_; rintro e w1 ⟨rfl, hb1⟩
      obtain ⟨hc1, hf1, hs11, hs12, hs13, hs14⟩ := aftz hb1
      rw [hcpx]
      go_wp2_with (first | (go_at_call 30; refine (rtExponent_any _ _ _ _ hcur hpr).mono ?_; rintro e w' ⟨rfl, hb⟩; (try replace hb := aft2 hb (by assumption)); obtain ⟨hc, hf, hs1, hs2, hs3, hs4⟩ := aftz hb))
      refine bodyPost_ret (by simp (maxDischargeDepth := 3) [results, Tryd.results22, go_sem, *]; try rfl) rfl ?_
      exact ret_eq rfl (by repeat (first | exact Below.refl _ _ | (with_reducible assumption) | refine bel_alloc ?_ _ | refine bel_drew ?_ | refine bel_drewN ?_ _ | refine Below.setCell ?_ (by dsimp only; omega) _ | refine bel_trans (by assumption) ?_))
set_option maxHeartbeats 1000000 in
theorem iReductionKind_any (a b p : Int) (w : World) :
    Calls Tryd.prog 17 #[.agg #[.int .i64 a, .int .i64 b], .int .i64 p] w (Ret (bif curveB a b && p5B p then .tuple #[kindV (kindN (minA a b p) b p), .bool true] else .tuple #[.string ⟨#[]⟩, .bool false]) w) := by
  cases hcur : curveB a b
  · go_enter Tryd.func17, Tryd.ntmps17
    go_wp2_with (go_at_call 24; refine (isCurve_any _ _ _).mono ?_; rintro e w' ⟨rfl, hb⟩; (try replace hb := aft2 hb (by assumption)); obtain ⟨hc, hf⟩ := aft hb)
    refine bodyPost_ret (by simp (maxDischargeDepth := 3) [results, Tryd.results17, go_sem, *]; try rfl) rfl ?_
    exact ret_eq rfl (by repeat (first | exact Below.refl _ _ | (with_reducible assumption) | refine bel_alloc ?_ _ | refine bel_drew ?_ | refine bel_drewN ?_ _ | refine Below.setCell ?_ (by dsimp only; omega) _ | refine bel_trans (by assumption) ?_))
  · cases hpr : p5B p
    · go_enter Tryd.func17, Tryd.ntmps17
      go_wp2_with (first | (go_at_call 24; refine (isCurve_any _ _ _).mono ?_; rintro e w' ⟨rfl, hb⟩; (try replace hb := aft2 hb (by assumption)); obtain ⟨hc, hf⟩ := aft hb) | (go_at_call 44; refine (fromFive_any _ _).mono ?_; rintro e w' ⟨rfl, hb⟩; (try replace hb := aft2 hb (by assumption)); obtain ⟨hc, hf⟩ := aft hb))
      refine bodyPost_ret (by simp (maxDischargeDepth := 3) [results, Tryd.results17, go_sem, *]; try rfl) rfl ?_
      exact ret_eq rfl (by repeat (first | exact Below.refl _ _ | (with_reducible assumption) | refine bel_alloc ?_ _ | refine bel_drew ?_ | refine bel_drewN ?_ _ | refine Below.setCell ?_ (by dsimp only; omega) _ | refine bel_trans (by assumption) ?_))
    · obtain ⟨k1, k2, k3⟩ := min_disc (p := p) hcur
      obtain ⟨_, _, h3, h4, _⟩ := curveB_true.1 hcur
      obtain ⟨p1, p2⟩ := p5_bd hpr
      have hmc := min_curve (p := p) hcur
      have hp0 : (p == 0) = false := by simp; omega
      clear k3
      rcases kind_cases (minA a b p) b p with hk | hk | hk | hk
      all_goals
        try have hgd := kind_good hpr hk
        try simp only [hk]
        go_enter Tryd.func17, Tryd.ntmps17
        go_wp2_with (first | (go_at_call 24; refine (isCurve_any _ _ _).mono ?_; rintro e w' ⟨rfl, hb⟩; (try replace hb := aft2 hb (by assumption)); obtain ⟨hc, hf, hs1, hs2, hs3, hs4⟩ := aftz hb) | (go_at_call 44; refine (fromFive_any _ _).mono ?_; rintro e w' ⟨rfl, hb⟩; (try replace hb := aft2 hb (by assumption)); obtain ⟨hc, hf, hs1, hs2, hs3, hs4⟩ := aftz hb) | (go_at_call 33; refine (kindAt_any _ _ _ _ hcur hpr).mono ?_; rintro e w' ⟨rfl, hb⟩; (try replace hb := aft2 hb (by assumption)); obtain ⟨hc, hf, hs1, hs2, hs3, hs4⟩ := aftz hb))
        refine bodyPost_ret (by simp (maxDischargeDepth := 3) [results, Tryd.results17, go_sem, *]; try rfl) rfl ?_
        exact ret_eq rfl (by repeat (first | exact Below.refl _ _ | (with_reducible assumption) | refine bel_alloc ?_ _ | refine bel_drew ?_ | refine bel_drewN ?_ _ | refine Below.setCell ?_ (by dsimp only; omega) _ | refine bel_trans (by assumption) ?_))
def nodeT (k : Nat) (x p : Int) : Value := bif Nat.ble 2 k then .tuple #[.int .i64 x, .int .i64 (3 * x % p), .bool true] else .tuple #[.int .i64 0, .int .i64 0, .bool false]
def nsK (k : Nat) (c p : Int) : Int := match k with
  | 0 => c
  | 1 => p
  | 2 => p - 1
  | _ => p + 1
end Go.Proofs.YtpjcfnjagknocaaDoor
