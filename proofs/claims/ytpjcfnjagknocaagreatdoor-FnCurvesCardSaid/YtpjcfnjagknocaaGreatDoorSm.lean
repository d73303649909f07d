/- Sm: contracts: scaled curves, smallest models, isomorphic curves. No conditions. -/
import Derived.Test.YtpjcfnjagknocaaGreatDoorSmp
import Derived.Test.YtpjcfnjagknocaaGreatDoorCur
import Derived.Test.YtpjcfnjagknocaaGreatDoorMf
namespace Go.Proofs.YtpjcfnjagknocaaGreatDoor
open Go.RowKit

theorem up_bd {u : Int} (h1 : 1 ≤ u) (h2 : u ≤ 10) : (1 ≤ u * u ∧ u * u ≤ 100) ∧ (1 ≤ u * u * u ∧ u * u * u ≤ 1000) ∧ (1 ≤ u * u * u * u ∧ u * u * u * u ≤ 10000) ∧ (1 ≤ u * u * u * u * u ∧ u * u * u * u * u ≤ 100000) ∧ (1 ≤ u * u * u * u * u * u ∧ u * u * u * u * u * u ≤ 1000000) := by
  have p : ∀ x N : Int, 1 ≤ x → x ≤ N → 1 ≤ x * u ∧ x * u ≤ N * 10 := fun x N a b => by
    have := Int.mul_le_mul a h1 (by omega) (by omega)
    have := Int.mul_le_mul b h2 (by omega) (by omega)
    omega
  have e2 := p u 10 h1 h2
  have e3 := p _ _ e2.1 e2.2
  have e4 := p _ _ e3.1 e3.2
  have e5 := p _ _ e4.1 e4.2
  have e6 := p _ _ e5.1 e5.2
  exact ⟨⟨e2.1, by omega⟩, ⟨e3.1, by omega⟩, ⟨e4.1, by omega⟩, ⟨e5.1, by omega⟩, ⟨e6.1, by omega⟩⟩
theorem sc_bd {a u N : Int} (_hN : 0 ≤ N) (a1 : -N ≤ a) (a2 : a ≤ N) (u1 : 1 ≤ u) (u2 : u ≤ 5) : -(5 * N) ≤ a * u ∧ a * u ≤ 5 * N := by
  rcases (by omega : u = 1 ∨ u = 2 ∨ u = 3 ∨ u = 4 ∨ u = 5) with rfl | rfl | rfl | rfl | rfl <;> omega
/-- the products of a scaled curve stay whole numbers of 64 bits. -/
theorem sc_wraps {a u N : Int} (hN : 0 ≤ N) (hN2 : N ≤ 10000) (a1 : -N ≤ a) (a2 : a ≤ N) (u1 : 1 ≤ u) (u2 : u ≤ 5) :
    IntKind.i64.wrap (a * u) = a * u ∧ IntKind.i64.wrap (a * u * u) = a * u * u ∧ IntKind.i64.wrap (a * u * u * u) = a * u * u * u ∧ IntKind.i64.wrap (a * u * u * u * u) = a * u * u * u * u ∧ IntKind.i64.wrap (a * u * u * u * u * u) = a * u * u * u * u * u ∧ IntKind.i64.wrap (a * u * u * u * u * u * u) = a * u * u * u * u * u * u := by
  have b1 := sc_bd hN a1 a2 u1 u2
  have b2 := sc_bd (by omega) b1.1 b1.2 u1 u2
  have b3 := sc_bd (by omega) b2.1 b2.2 u1 u2
  have b4 := sc_bd (by omega) b3.1 b3.2 u1 u2
  have b5 := sc_bd (by omega) b4.1 b4.2 u1 u2
  have b6 := sc_bd (by omega) b5.1 b5.2 u1 u2
  exact ⟨wrapf (by omega) (by omega), wrapf (by omega) (by omega), wrapf (by omega) (by omega), wrapf (by omega) (by omega), wrapf (by omega) (by omega), wrapf (by omega) (by omega)⟩
theorem wrapq {a m : Int} (a1 : -10000 ≤ a) (a2 : a ≤ 10000) : IntKind.i64.wrap (a.tdiv m) = a.tdiv m := by
  have h := tdiv_bd (n := a) (g := m) (B := 10000) a1 a2
  exact wrapf (by omega) (by omega)
theorem mB_no {a b u : Int} (h : mB a b u = false) : (a.tmod (u * u * u * u) == 0) = false ∨ ((a.tmod (u * u * u * u) == 0) = true ∧ (b.tmod (u * u * u * u * u * u) == 0) = false) := by
  unfold mB at h
  cases h1 : (a.tmod (u * u * u * u) == 0)
  · exact .inl rfl
  · rw [h1, Bool.true_and] at h
    exact .inr ⟨rfl, h⟩
theorem mB_yes {a b u : Int} (h : mB a b u = true) : (a.tmod (u * u * u * u) == 0) = true ∧ (b.tmod (u * u * u * u * u * u) == 0) = true := by
  unfold mB at h
  rwa [Bool.and_eq_true] at h
set_option maxHeartbeats 2000000 in
theorem smallest_any (a b : Int) (w : World) (hcv : curveB a b = true) :
    Calls Tryz.prog 74 #[.agg #[.int .i64 a, .int .i64 b]] w (Ret (.tuple #[.agg #[.int .i64 (smA a b), .int .i64 (smC a b)], .int .i64 (smU a b)]) w) := by
  obtain ⟨h1, h2, h3, h4, _⟩ := curveB_true.1 hcv
  have htop := fun u h => smU_top hcv (u := u) h
  obtain ⟨k1, k2, k3, _⟩ := smU_is a b
  have hA : smA a b = a.tdiv (smU a b * smU a b * smU a b * smU a b) := rfl
  have hC : smC a b = b.tdiv (smU a b * smU a b * smU a b * smU a b * smU a b * smU a b) := rfl
  rw [hA, hC]
  clear hA hC
  generalize smU a b = U at *
  have HTOP := Lib.hid htop; have HYES := Lib.hid k3
  clear htop k3 hcv
  go_enter Tryz.func74, Tryz.ntmps74
  go_wp2_with fail
  go_loopw [4] (fun x wr => ∃ u : Int, x = .int .i64 u ∧ U ≤ u ∧ u ≤ 10 ∧ wr = (w.alloc (.cells #[.int .i64 a, .int .i64 b] 25)).alloc (.cells #[.int .i64 0, .int .i64 0] 25)) (fun x _ => (intOf x).toNat)
  case atStart => exact ⟨10, rfl, by omega, by omega, rfl⟩
  case round =>
    obtain ⟨u, rfl, q1, q2, rfl⟩ := hrel
    obtain ⟨⟨e1, e2⟩, ⟨e3, e4⟩, ⟨e5, e6⟩, ⟨e7, e8⟩, ⟨e9, e10⟩⟩ := up_bd (show 1 ≤ u by omega) q2
    have hq0 : (u * u * u * u == 0) = false := by simp only [beq_eq_false_iff_ne]; omega
    have hq6 : (u * u * u * u * u * u == 0) = false := by simp only [beq_eq_false_iff_ne]; omega
    by_cases hu : U < u
    · rcases mB_no (HTOP.out u hu) with hmb | ⟨hmb, hbb⟩
      all_goals
        go_wp2_with fail
        go_roundw
        case rel => exact ⟨u - 1, by first | rfl | go_num, by omega, by omega, by first | rfl | trivial⟩
        case measure => simp [intOf]; omega
    · obtain rfl : u = U := by omega
      obtain ⟨hmb, hbb⟩ := mB_yes HYES.out
      have y1 : IntKind.i64.wrap (a.tdiv (u * u * u * u)) = a.tdiv (u * u * u * u) := wrapq (by omega) (by omega)
      have y2 : IntKind.i64.wrap (b.tdiv (u * u * u * u * u * u)) = b.tdiv (u * u * u * u * u * u) := wrapq (by omega) (by omega)
      go_wp2_with fail
      go_region
      all_goals go_wp2_with fail
      all_goals refine bodyPost_ret (by simp (maxDischargeDepth := 3) [results, Tryz.results74, go_sem, *]; try rfl) rfl ?_
      all_goals exact ret_mk (by repeat (first | exact Below.refl _ _ | (with_reducible assumption) | refine bel_alloc ?_ _ | refine bel_drew ?_ | refine bel_drewN ?_ _ | refine Below.setCell ?_ (by dsimp only; omega) _ | refine bel_trans (by assumption) ?_))
set_option maxHeartbeats 2000000 in
theorem ecSmallest_any (a b : Int) (w : World) (hcv : curveB a b = true) :
    Calls Tryz.prog 80 #[.agg #[.int .i64 a, .int .i64 b]] w (Ret (.tuple #[.agg #[.int .i64 (smA a b), .int .i64 (smC a b)], .int .i64 (smU a b)]) w) := by
  obtain ⟨h1, h2, h3, h4, _⟩ := curveB_true.1 hcv
  have hend : ∀ v, 1 ≤ v → v ≤ 5 → mB a b v = true → (∀ t, v < t → t < 6 → mB a b t = false) → smU a b = v := fun v _ h5 h6 h7 => smU_eq h5 h6 fun t a1 a2 => h7 t a1 (by omega)
  have hA : smA a b = a.tdiv (smU a b * smU a b * (smU a b * smU a b)) := by unfold smA; congr 1; generalize smU a b = v; simp only [Int.mul_assoc]
  have hC : smC a b = b.tdiv (smU a b * smU a b * (smU a b * smU a b) * (smU a b * smU a b)) := by unfold smC; congr 1; generalize smU a b = v; simp only [Int.mul_assoc]
  rw [hA, hC]
  clear hA hC hcv
  generalize smU a b = U at *
  have HEND := Lib.hid hend
  clear hend
  go_enter Tryz.func80, Tryz.ntmps80
  go_wp2_with fail
  go_loopw [4, 5] (fun y x wr => ∃ u v : Int, x = .int .i64 u ∧ y = .int .i64 v ∧ 2 ≤ u ∧ u ≤ 6 ∧ 1 ≤ v ∧ v < u ∧ Hid (mB a b v = true) ∧ Hid (∀ t, v < t → t < u → mB a b t = false) ∧ wr = (w.alloc (.cells #[.int .i64 a, .int .i64 b] 25)).alloc (.cells #[.int .i64 0, .int .i64 0] 25)) (fun _ x _ => 6 - (intOf x).toNat)
  case atStart => exact ⟨2, 1, rfl, rfl, by omega, by omega, by omega, by omega, mB_one a b, fun t a1 a2 => by omega, rfl⟩
  case round =>
    obtain ⟨u, v, rfl, rfl, q1, q2, v1, v2, HV, HN, rfl⟩ := hrel
    by_cases hu : u ≤ 5
    · obtain ⟨⟨e1, e2⟩, ⟨e3, e4⟩, ⟨e5, e6⟩, ⟨e7, e8⟩, ⟨e9, e10⟩⟩ := up_bd (show 1 ≤ u by omega) (by omega)
      have hq0 : (u * u * u * u == 0) = false := by simp only [beq_eq_false_iff_ne]; omega
      have hq6 : (u * u * u * u * u * u == 0) = false := by simp only [beq_eq_false_iff_ne]; omega
      cases hm : mB a b u
      · have HM := Lib.hid hm; clear hm
        have hn2 : Hid (∀ t, v < t → t < u + 1 → mB a b t = false) := fun t a1 a2 => by
          rcases (by omega : t < u ∨ t = u) with h | rfl
          · exact HN.out t a1 h
          · exact HM.out
        clear HN
        rcases mB_no HM.out with hmb | ⟨hmb, hbb⟩
        all_goals
          go_wp2_with fail
          go_roundw
          case rel => exact ⟨u + 1, v, by first | rfl | go_num, rfl, by omega, by omega, v1, by omega, HV, hn2, by first | rfl | trivial⟩
          case measure => simp [intOf]; omega
      · have HM : Hid (mB a b u = true) := hm
        clear hm
        obtain ⟨hmb, hbb⟩ := mB_yes HM.out
        go_wp2_with fail
        go_roundw
        case rel => exact ⟨u + 1, u, by first | rfl | go_num, rfl, by omega, by omega, by omega, by omega, HM, fun t a1 a2 => by omega, by first | rfl | trivial⟩
        case measure => simp [intOf]; omega
    · obtain rfl : u = 6 := by omega
      obtain rfl : U = v := HEND.out v v1 (by omega) HV.out HN.out
      obtain ⟨⟨e1, e2⟩, _⟩ := up_bd v1 (show U ≤ 10 by omega)
      have f1 : 1 ≤ U * U * (U * U) ∧ U * U * (U * U) ≤ 10000 := by
        have := Int.mul_le_mul e1 e1 (by omega) (by omega); have := Int.mul_le_mul e2 e2 (by omega) (by omega); omega
      have f2 : 1 ≤ U * U * (U * U) * (U * U) ∧ U * U * (U * U) * (U * U) ≤ 1000000 := by
        have := Int.mul_le_mul f1.1 e1 (by omega) (by omega); have := Int.mul_le_mul f1.2 e2 (by omega) (by omega); omega
      obtain ⟨f3, f4⟩ := f1; obtain ⟨f5, f6⟩ := f2
      have hq0 : (U * U * (U * U) == 0) = false := by simp only [beq_eq_false_iff_ne]; omega
      have hq6 : (U * U * (U * U) * (U * U) == 0) = false := by simp only [beq_eq_false_iff_ne]; omega
      have y1 : IntKind.i64.wrap (a.tdiv (U * U * (U * U))) = a.tdiv (U * U * (U * U)) := wrapq (by omega) (by omega)
      have y2 : IntKind.i64.wrap (b.tdiv (U * U * (U * U) * (U * U))) = b.tdiv (U * U * (U * U) * (U * U)) := wrapq (by omega) (by omega)
      clear HEND HV HN
      go_wp2_with fail
      go_region
      all_goals go_wp2_with fail
      all_goals refine bodyPost_ret (by simp (maxDischargeDepth := 3) [results, Tryz.results80, go_sem, *]; try rfl) rfl ?_
      all_goals exact ret_mk (by repeat (first | exact Below.refl _ _ | (with_reducible assumption) | refine bel_alloc ?_ _ | refine bel_drew ?_ | refine bel_drewN ?_ _ | refine Below.setCell ?_ (by dsimp only; omega) _ | refine bel_trans (by assumption) ?_))
/-- what SmallestModel returns. -/
def smV (a b : Int) : Value := if curveB a b = true then .tuple #[.agg #[.int .i64 (smA a b), .int .i64 (smC a b)], .int .i64 (smU a b), .bool true] else .tuple #[.agg #[.int .i64 0, .int .i64 0], .int .i64 0, .bool false]
theorem iSmallestModel_any (a b : Int) (w : World) : Calls Tryz.prog 17 #[.agg #[.int .i64 a, .int .i64 b]] w (Ret (smV a b) w) := by
  unfold smV
  cases hcv : curveB a b
  · rw [if_neg (by decide)]
    go_enter Tryz.func17, Tryz.ntmps17
    go_wp2_with (go_at_call 69; refine (isCurve_any _ _ _).mono ?_; rintro e w' ⟨rfl, hb⟩; (try replace hb := aft2 hb (by assumption)); obtain ⟨hc, hf, hs1, hs2, hs3, hs4⟩ := aftz hb)
    refine bodyPost_ret (by simp (maxDischargeDepth := 3) [results, Tryz.results17, go_sem, *]; try rfl) rfl ?_
    exact ret_mk (by repeat (first | exact Below.refl _ _ | (with_reducible assumption) | refine bel_alloc ?_ _ | refine bel_drew ?_ | refine bel_drewN ?_ _ | refine Below.setCell ?_ (by dsimp only; omega) _ | refine bel_trans (by assumption) ?_))
  · rw [if_pos rfl]
    go_enter Tryz.func17, Tryz.ntmps17
    go_wp2_with (first | (go_at_call 69; refine (isCurve_any _ _ _).mono ?_; rintro e w' ⟨rfl, hb⟩; (try replace hb := aft2 hb (by assumption)); obtain ⟨hc, hf, hs1, hs2, hs3, hs4⟩ := aftz hb) | (go_at_call 74; refine (smallest_any _ _ _ hcv).mono ?_; rintro e w' ⟨rfl, hb⟩; (try replace hb := aft2 hb (by assumption)); obtain ⟨hc, hf, hs1, hs2, hs3, hs4⟩ := aftz hb))
    refine bodyPost_ret (by simp (maxDischargeDepth := 3) [results, Tryz.results17, go_sem, *]; try rfl) rfl ?_
    exact ret_mk (by repeat (first | exact Below.refl _ _ | (with_reducible assumption) | refine bel_alloc ?_ _ | refine bel_drew ?_ | refine bel_drewN ?_ _ | refine Below.setCell ?_ (by dsimp only; omega) _ | refine bel_trans (by assumption) ?_))
theorem sSmallestModel_any (a b : Int) (w : World) : Calls Tryz.prog 18 #[.agg #[.int .i64 a, .int .i64 b]] w (Ret (smV a b) w) := by
  unfold smV
  cases hcv : curveB a b
  · rw [if_neg (by decide)]
    go_enter Tryz.func18, Tryz.ntmps18
    go_wp2_with (go_at_call 72; refine (ecGood_any _ _ _).mono ?_; rintro e w' ⟨rfl, hb⟩; (try replace hb := aft2 hb (by assumption)); obtain ⟨hc, hf, hs1, hs2, hs3, hs4⟩ := aftz hb)
    refine bodyPost_ret (by simp (maxDischargeDepth := 3) [results, Tryz.results18, go_sem, *]; try rfl) rfl ?_
    exact ret_mk (by repeat (first | exact Below.refl _ _ | (with_reducible assumption) | refine bel_alloc ?_ _ | refine bel_drew ?_ | refine bel_drewN ?_ _ | refine Below.setCell ?_ (by dsimp only; omega) _ | refine bel_trans (by assumption) ?_))
  · rw [if_pos rfl]
    go_enter Tryz.func18, Tryz.ntmps18
    go_wp2_with (first | (go_at_call 72; refine (ecGood_any _ _ _).mono ?_; rintro e w' ⟨rfl, hb⟩; (try replace hb := aft2 hb (by assumption)); obtain ⟨hc, hf, hs1, hs2, hs3, hs4⟩ := aftz hb) | (go_at_call 80; refine (ecSmallest_any _ _ _ hcv).mono ?_; rintro e w' ⟨rfl, hb⟩; (try replace hb := aft2 hb (by assumption)); obtain ⟨hc, hf, hs1, hs2, hs3, hs4⟩ := aftz hb))
    refine bodyPost_ret (by simp (maxDischargeDepth := 3) [results, Tryz.results18, go_sem, *]; try rfl) rfl ?_
    exact ret_mk (by repeat (first | exact Below.refl _ _ | (with_reducible assumption) | refine bel_alloc ?_ _ | refine bel_drew ?_ | refine bel_drewN ?_ _ | refine Below.setCell ?_ (by dsimp only; omega) _ | refine bel_trans (by assumption) ?_))
theorem crEq_run (x y x2 y2 : Int) (w : World) : (binOp .eql 25 (.agg #[.int .i64 x, .int .i64 y]) (.agg #[.int .i64 x2, .int .i64 y2])).run Tryz.prog w = .ok (.bool (decide (x = x2 ∧ y = y2))) w := by
  simp [go_sem]
  by_cases h1 : x = x2 <;> by_cases h2 : y = y2 <;> simp [h1, h2]
/-- two curves have the same smallest model. -/
def isoB (a b c d : Int) : Bool := decide (smA a b = smA c d ∧ smC a b = smC c d)
def isoV (a b c d : Int) : Value := if (curveB a b && curveB c d) = true then .tuple #[.bool (isoB a b c d), .bool true] else .tuple #[.bool false, .bool false]
set_option maxHeartbeats 1000000 in
theorem iAreIsomorphic_any (a b c d : Int) (w : World) : Calls Tryz.prog 10 #[.agg #[.int .i64 a, .int .i64 b], .agg #[.int .i64 c, .int .i64 d]] w (Ret (isoV a b c d) w) := by
  unfold isoV isoB
  cases hcv : curveB a b
  · rw [Bool.false_and, if_neg (by decide)]
    go_enter Tryz.func10, Tryz.ntmps10
    go_wp2_with (go_at_call 69; refine (isCurve_any _ _ _).mono ?_; rintro e w' ⟨rfl, hb⟩; (try replace hb := aft2 hb (by assumption)); obtain ⟨hc, hf, hs1, hs2, hs3, hs4⟩ := aftz hb)
    go_returns
    exact ret_mk (by repeat (first | exact Below.refl _ _ | (with_reducible assumption) | refine bel_alloc ?_ _ | refine bel_drew ?_ | refine bel_drewN ?_ _ | refine Below.setCell ?_ (by dsimp only; omega) _ | refine bel_trans (by assumption) ?_))
  · cases hdv : curveB c d
    · rw [Bool.and_false, if_neg (by decide)]
      go_enter Tryz.func10, Tryz.ntmps10
      go_wp2_with (go_at_call 69; refine (isCurve_any _ _ _).mono ?_; rintro e w' ⟨rfl, hb⟩; (try replace hb := aft2 hb (by assumption)); obtain ⟨hc, hf, hs1, hs2, hs3, hs4⟩ := aftz hb)
      go_returns
      exact ret_mk (by repeat (first | exact Below.refl _ _ | (with_reducible assumption) | refine bel_alloc ?_ _ | refine bel_drew ?_ | refine bel_drewN ?_ _ | refine Below.setCell ?_ (by dsimp only; omega) _ | refine bel_trans (by assumption) ?_))
    · rw [Bool.and_true, if_pos rfl]
      have hsA := fun w => smallest_any a b w hcv
      have hsB := fun w => smallest_any c d w hdv
      have heqv := crEq_run (smA a b) (smC a b) (smA c d) (smC c d)
      generalize smA a b = A1 at *; generalize smC a b = C1 at *; generalize smU a b = U1 at *
      generalize smA c d = A2 at *; generalize smC c d = C2 at *; generalize smU c d = U2 at *
      generalize decide (A1 = A2 ∧ C1 = C2) = r at *
      go_enter Tryz.func10, Tryz.ntmps10
      go_wp2_with fail
      refine (isCurve_any _ _ _).mono ?_; rintro e w1 ⟨rfl, hb1⟩
      obtain ⟨hc1, hf1⟩ := aft hb1
      go_wp2_with fail
      refine (isCurve_any _ _ _).mono ?_; rintro e w2 ⟨rfl, hb2⟩
      replace hb2 := aft2 hb2 hb1; clear hb1 hc1 hf1
      obtain ⟨hc2, hf2⟩ := aft hb2
      go_wp2_with fail
      refine (hsA _).mono ?_; rintro e w3 ⟨rfl, hb3⟩
      replace hb3 := aft2 hb3 hb2; clear hb2 hc2 hf2
      obtain ⟨hc3, hf3⟩ := aft hb3
      obtain ⟨_, _, t1, t2, t3, t4⟩ := aftz hb3
      go_wp2_with fail
      refine (hsB _).mono ?_; rintro e w4 ⟨rfl, hb4⟩
      obtain ⟨hc4, hf4, t5, t6, t7, t8⟩ := aftz hb4
      go_wp2_with fail
      go_returns
      exact ret_mk (by repeat (first | exact Below.refl _ _ | (with_reducible assumption) | refine bel_alloc ?_ _ | refine bel_drew ?_ | refine bel_drewN ?_ _ | refine Below.setCell ?_ (by dsimp only; omega) _ | refine bel_trans (by assumption) ?_))
set_option maxHeartbeats 1000000 in
theorem ecSame_any (a b c d : Int) (w : World) (hcv : curveB a b = true) (hdv : curveB c d = true) : Calls Tryz.prog 90 #[.agg #[.int .i64 a, .int .i64 b], .agg #[.int .i64 c, .int .i64 d]] w (Ret (.bool (isoB a b c d)) w) := by
  unfold isoB
  have hsA := fun w => ecSmallest_any a b w hcv
  have hsB := fun w => ecSmallest_any c d w hdv
  have heqv := crEq_run (smA a b) (smC a b) (smA c d) (smC c d)
  generalize smA a b = A1 at *; generalize smC a b = C1 at *; generalize smU a b = U1 at *
  generalize smA c d = A2 at *; generalize smC c d = C2 at *; generalize smU c d = U2 at *
  generalize decide (A1 = A2 ∧ C1 = C2) = r at *
  go_enter Tryz.func90, Tryz.ntmps90
  go_wp2_with fail
  refine (hsA _).mono ?_; rintro e w1 ⟨rfl, hb1⟩
  obtain ⟨hc1, hf1⟩ := aft hb1
  obtain ⟨_, _, t1, t2, t3, t4⟩ := aftz hb1
  go_wp2_with fail
  refine (hsB _).mono ?_; rintro e w2 ⟨rfl, hb2⟩
  obtain ⟨hc2, hf2, t5, t6, t7, t8⟩ := aftz hb2
  go_wp2_with fail
  go_ret
  exact ret_mk (by repeat (first | exact Below.refl _ _ | (with_reducible assumption) | refine bel_alloc ?_ _ | refine bel_drew ?_ | refine bel_drewN ?_ _ | refine Below.setCell ?_ (by dsimp only; omega) _ | refine bel_trans (by assumption) ?_))
theorem sAreIsomorphic_any (a b c d : Int) (w : World) : Calls Tryz.prog 26 #[.agg #[.int .i64 a, .int .i64 b], .agg #[.int .i64 c, .int .i64 d]] w (Ret (isoV a b c d) w) := by
  unfold isoV
  cases hcv : curveB a b
  · rw [Bool.false_and, if_neg (by decide)]
    go_enter Tryz.func26, Tryz.ntmps26
    go_wp2_with (go_at_call 72; refine (ecGood_any _ _ _).mono ?_; rintro e w' ⟨rfl, hb⟩; (try replace hb := aft2 hb (by assumption)); obtain ⟨hc, hf, hs1, hs2, hs3, hs4⟩ := aftz hb)
    go_returns
    exact ret_mk (by repeat (first | exact Below.refl _ _ | (with_reducible assumption) | refine bel_alloc ?_ _ | refine bel_drew ?_ | refine bel_drewN ?_ _ | refine Below.setCell ?_ (by dsimp only; omega) _ | refine bel_trans (by assumption) ?_))
  · cases hdv : curveB c d
    · rw [Bool.and_false, if_neg (by decide)]
      go_enter Tryz.func26, Tryz.ntmps26
      go_wp2_with (go_at_call 72; refine (ecGood_any _ _ _).mono ?_; rintro e w' ⟨rfl, hb⟩; (try replace hb := aft2 hb (by assumption)); obtain ⟨hc, hf, hs1, hs2, hs3, hs4⟩ := aftz hb)
      go_returns
      exact ret_mk (by repeat (first | exact Below.refl _ _ | (with_reducible assumption) | refine bel_alloc ?_ _ | refine bel_drew ?_ | refine bel_drewN ?_ _ | refine Below.setCell ?_ (by dsimp only; omega) _ | refine bel_trans (by assumption) ?_))
    · rw [Bool.and_true, if_pos rfl]
      go_enter Tryz.func26, Tryz.ntmps26
      go_wp2_with (first | (go_at_call 72; refine (ecGood_any _ _ _).mono ?_; rintro e w' ⟨rfl, hb⟩; (try replace hb := aft2 hb (by assumption)); obtain ⟨hc, hf, hs1, hs2, hs3, hs4⟩ := aftz hb) | (go_at_call 90; refine (ecSame_any _ _ _ _ _ hcv hdv).mono ?_; rintro e w' ⟨rfl, hb⟩; (try replace hb := aft2 hb (by assumption)); obtain ⟨hc, hf, hs1, hs2, hs3, hs4⟩ := aftz hb))
      go_returns
      exact ret_mk (by repeat (first | exact Below.refl _ _ | (with_reducible assumption) | refine bel_alloc ?_ _ | refine bel_drew ?_ | refine bel_drewN ?_ _ | refine Below.setCell ?_ (by dsimp only; omega) _ | refine bel_trans (by assumption) ?_))
theorem curveResultS_any (a b : Int) (w : World) : Calls Tryz.prog 71 #[.agg #[.int .i64 a, .int .i64 b]] w (Ret (if curveB a b = true then .tuple #[.agg #[.int .i64 a, .int .i64 b], .bool true] else .tuple #[.agg #[.int .i64 0, .int .i64 0], .bool false]) w) := by
  cases hcv : curveB a b
  · rw [if_neg (by decide)]
    go_enter Tryz.func71, Tryz.ntmps71
    go_wp2_with (go_at_call 69; refine (isCurve_any _ _ _).mono ?_; rintro e w' ⟨rfl, hb⟩; (try replace hb := aft2 hb (by assumption)); obtain ⟨hc, hf, hs1, hs2, hs3, hs4⟩ := aftz hb)
    refine bodyPost_ret (by simp (maxDischargeDepth := 3) [results, Tryz.results71, go_sem, *]; try rfl) rfl ?_
    exact ret_mk (by repeat (first | exact Below.refl _ _ | (with_reducible assumption) | refine bel_alloc ?_ _ | refine bel_drew ?_ | refine bel_drewN ?_ _ | refine Below.setCell ?_ (by dsimp only; omega) _ | refine bel_trans (by assumption) ?_))
  · rw [if_pos rfl]
    go_enter Tryz.func71, Tryz.ntmps71
    go_wp2_with (go_at_call 69; refine (isCurve_any _ _ _).mono ?_; rintro e w' ⟨rfl, hb⟩; (try replace hb := aft2 hb (by assumption)); obtain ⟨hc, hf, hs1, hs2, hs3, hs4⟩ := aftz hb)
    refine bodyPost_ret (by simp (maxDischargeDepth := 3) [results, Tryz.results71, go_sem, *]; try rfl) rfl ?_
    exact ret_mk (by repeat (first | exact Below.refl _ _ | (with_reducible assumption) | refine bel_alloc ?_ _ | refine bel_drew ?_ | refine bel_drewN ?_ _ | refine Below.setCell ?_ (by dsimp only; omega) _ | refine bel_trans (by assumption) ?_))
def scB (a b u : Int) : Bool := curveB a b && (inB u 1 5 && curveB (a * u * u * u * u) (b * u * u * u * u * u * u))
def scV (a b u : Int) : Value := if scB a b u = true then .tuple #[.agg #[.int .i64 (a * u * u * u * u), .int .i64 (b * u * u * u * u * u * u)], .bool true] else .tuple #[.agg #[.int .i64 0, .int .i64 0], .bool false]
set_option maxHeartbeats 1000000 in
theorem iScaleCurve_any (a b u : Int) (w : World) : Calls Tryz.prog 8 #[.agg #[.int .i64 a, .int .i64 b], .int .i64 u] w (Ret (scV a b u) w) := by
  unfold scV scB
  cases hcv : curveB a b
  · rw [Bool.false_and, if_neg (by decide)]
    go_enter Tryz.func8, Tryz.ntmps8
    go_wp2_with (go_at_call 69; refine (isCurve_any _ _ _).mono ?_; rintro e w' ⟨rfl, hb⟩; (try replace hb := aft2 hb (by assumption)); obtain ⟨hc, hf, hs1, hs2, hs3, hs4⟩ := aftz hb)
    refine bodyPost_ret (by simp (maxDischargeDepth := 3) [results, Tryz.results8, go_sem, *]; try rfl) rfl ?_
    exact ret_mk (by repeat (first | exact Below.refl _ _ | (with_reducible assumption) | refine bel_alloc ?_ _ | refine bel_drew ?_ | refine bel_drewN ?_ _ | refine Below.setCell ?_ (by dsimp only; omega) _ | refine bel_trans (by assumption) ?_))
  · cases hu : inB u 1 5
    · rw [Bool.false_and, Bool.and_false, if_neg (by decide)]
      go_enter Tryz.func8, Tryz.ntmps8
      go_wp2_with (first | (go_at_call 69; refine (isCurve_any _ _ _).mono ?_; rintro e w' ⟨rfl, hb⟩; (try replace hb := aft2 hb (by assumption)); obtain ⟨hc, hf, hs1, hs2, hs3, hs4⟩ := aftz hb) | (go_at_call 70; refine (inside_any _ _ _ _).mono ?_; rintro e w' ⟨rfl, rfl⟩))
      refine bodyPost_ret (by simp (maxDischargeDepth := 3) [results, Tryz.results8, go_sem, *]; try rfl) rfl ?_
      exact ret_mk (by repeat (first | exact Below.refl _ _ | (with_reducible assumption) | refine bel_alloc ?_ _ | refine bel_drew ?_ | refine bel_drewN ?_ _ | refine Below.setCell ?_ (by dsimp only; omega) _ | refine bel_trans (by assumption) ?_))
    · rw [Bool.true_and, Bool.true_and]
      obtain ⟨h1, h2, h3, h4, _⟩ := curveB_true.1 hcv
      obtain ⟨u1, u2⟩ := inB_true.1 hu
      obtain ⟨x1, x2, x3, x4, -, -⟩ := sc_wraps (a := a) (N := 1000) (by omega) (by omega) h1 h2 u1 u2
      obtain ⟨y1, y2, y3, y4, y5, y6⟩ := sc_wraps (a := b) (N := 10000) (by omega) (by omega) h3 h4 u1 u2
      have hr := fun w => curveResultS_any (a * u * u * u * u) (b * u * u * u * u * u * u) w
      cases hdv : curveB (a * u * u * u * u) (b * u * u * u * u * u * u)
      · rw [hdv, if_neg (by decide)] at hr
        rw [if_neg (by decide)]
        go_enter Tryz.func8, Tryz.ntmps8
        go_wp2_with (first | (go_at_call 69; refine (isCurve_any _ _ _).mono ?_; rintro e w' ⟨rfl, hb⟩; (try replace hb := aft2 hb (by assumption)); obtain ⟨hc, hf, hs1, hs2, hs3, hs4⟩ := aftz hb) | (go_at_call 70; refine (inside_any _ _ _ _).mono ?_; rintro e w' ⟨rfl, rfl⟩) | (go_at_call 71; refine (hr _).mono ?_; rintro e w' ⟨rfl, hb⟩; (try replace hb := aft2 hb (by assumption)); obtain ⟨hc, hf, hs1, hs2, hs3, hs4⟩ := aftz hb))
        refine bodyPost_ret (by simp (maxDischargeDepth := 3) [results, Tryz.results8, go_sem, *]; try rfl) rfl ?_
        exact ret_mk (by repeat (first | exact Below.refl _ _ | (with_reducible assumption) | refine bel_alloc ?_ _ | refine bel_drew ?_ | refine bel_drewN ?_ _ | refine Below.setCell ?_ (by dsimp only; omega) _ | refine bel_trans (by assumption) ?_))
      · rw [hdv, if_pos rfl] at hr
        rw [if_pos rfl]
        go_enter Tryz.func8, Tryz.ntmps8
        go_wp2_with (first | (go_at_call 69; refine (isCurve_any _ _ _).mono ?_; rintro e w' ⟨rfl, hb⟩; (try replace hb := aft2 hb (by assumption)); obtain ⟨hc, hf, hs1, hs2, hs3, hs4⟩ := aftz hb) | (go_at_call 70; refine (inside_any _ _ _ _).mono ?_; rintro e w' ⟨rfl, rfl⟩) | (go_at_call 71; refine (hr _).mono ?_; rintro e w' ⟨rfl, hb⟩; (try replace hb := aft2 hb (by assumption)); obtain ⟨hc, hf, hs1, hs2, hs3, hs4⟩ := aftz hb))
        refine bodyPost_ret (by simp (maxDischargeDepth := 3) [results, Tryz.results8, go_sem, *]; try rfl) rfl ?_
        exact ret_mk (by repeat (first | exact Below.refl _ _ | (with_reducible assumption) | refine bel_alloc ?_ _ | refine bel_drew ?_ | refine bel_drewN ?_ _ | refine Below.setCell ?_ (by dsimp only; omega) _ | refine bel_trans (by assumption) ?_))
set_option maxHeartbeats 1000000 in
theorem sScaleCurve_any (a b u : Int) (w : World) : Calls Tryz.prog 9 #[.agg #[.int .i64 a, .int .i64 b], .int .i64 u] w (Ret (scV a b u) w) := by
  unfold scV scB
  cases hcv : curveB a b
  · rw [Bool.false_and, if_neg (by decide)]
    go_enter Tryz.func9, Tryz.ntmps9
    go_wp2_with (go_at_call 72; refine (ecGood_any _ _ _).mono ?_; rintro e w' ⟨rfl, hb⟩; (try replace hb := aft2 hb (by assumption)); obtain ⟨hc, hf, hs1, hs2, hs3, hs4⟩ := aftz hb)
    refine bodyPost_ret (by simp (maxDischargeDepth := 3) [results, Tryz.results9, go_sem, *]; try rfl) rfl ?_
    exact ret_mk (by repeat (first | exact Below.refl _ _ | (with_reducible assumption) | refine bel_alloc ?_ _ | refine bel_drew ?_ | refine bel_drewN ?_ _ | refine Below.setCell ?_ (by dsimp only; omega) _ | refine bel_trans (by assumption) ?_))
  · cases hu : inB u 1 5
    · rw [Bool.false_and, Bool.and_false, if_neg (by decide)]
      go_enter Tryz.func9, Tryz.ntmps9
      go_wp2_with (first | (go_at_call 72; refine (ecGood_any _ _ _).mono ?_; rintro e w' ⟨rfl, hb⟩; (try replace hb := aft2 hb (by assumption)); obtain ⟨hc, hf, hs1, hs2, hs3, hs4⟩ := aftz hb) | (go_at_call 73; refine (l1In_any _ _ _ _).mono ?_; rintro e w' ⟨rfl, rfl⟩))
      refine bodyPost_ret (by simp (maxDischargeDepth := 3) [results, Tryz.results9, go_sem, *]; try rfl) rfl ?_
      exact ret_mk (by repeat (first | exact Below.refl _ _ | (with_reducible assumption) | refine bel_alloc ?_ _ | refine bel_drew ?_ | refine bel_drewN ?_ _ | refine Below.setCell ?_ (by dsimp only; omega) _ | refine bel_trans (by assumption) ?_))
    · rw [Bool.true_and, Bool.true_and]
      obtain ⟨h1, h2, h3, h4, _⟩ := curveB_true.1 hcv
      obtain ⟨u1, u2⟩ := inB_true.1 hu
      obtain ⟨x1, x2, x3, x4, -, -⟩ := sc_wraps (a := a) (N := 1000) (by omega) (by omega) h1 h2 u1 u2
      obtain ⟨y1, y2, y3, y4, y5, y6⟩ := sc_wraps (a := b) (N := 10000) (by omega) (by omega) h3 h4 u1 u2
      cases hdv : curveB (a * u * u * u * u) (b * u * u * u * u * u * u)
      · rw [if_neg (by decide)]
        go_enter Tryz.func9, Tryz.ntmps9
        go_wp2_with (first | (go_at_call 72; refine (ecGood_any _ _ _).mono ?_; rintro e w' ⟨rfl, hb⟩; (try replace hb := aft2 hb (by assumption)); obtain ⟨hc, hf, hs1, hs2, hs3, hs4⟩ := aftz hb) | (go_at_call 73; refine (l1In_any _ _ _ _).mono ?_; rintro e w' ⟨rfl, rfl⟩))
        refine bodyPost_ret (by simp (maxDischargeDepth := 3) [results, Tryz.results9, go_sem, *]; try rfl) rfl ?_
        exact ret_mk (by repeat (first | exact Below.refl _ _ | (with_reducible assumption) | refine bel_alloc ?_ _ | refine bel_drew ?_ | refine bel_drewN ?_ _ | refine Below.setCell ?_ (by dsimp only; omega) _ | refine bel_trans (by assumption) ?_))
      · rw [if_pos rfl]
        go_enter Tryz.func9, Tryz.ntmps9
        go_wp2_with (first | (go_at_call 72; refine (ecGood_any _ _ _).mono ?_; rintro e w' ⟨rfl, hb⟩; (try replace hb := aft2 hb (by assumption)); obtain ⟨hc, hf, hs1, hs2, hs3, hs4⟩ := aftz hb) | (go_at_call 73; refine (l1In_any _ _ _ _).mono ?_; rintro e w' ⟨rfl, rfl⟩))
        refine bodyPost_ret (by simp (maxDischargeDepth := 3) [results, Tryz.results9, go_sem, *]; try rfl) rfl ?_
        exact ret_mk (by repeat (first | exact Below.refl _ _ | (with_reducible assumption) | refine bel_alloc ?_ _ | refine bel_drew ?_ | refine bel_drewN ?_ _ | refine Below.setCell ?_ (by dsimp only; omega) _ | refine bel_trans (by assumption) ?_))
end Go.Proofs.YtpjcfnjagknocaaGreatDoor
