/- Pm: contracts: all points modulo a prime. No conditions. -/
import Derived.Test.YtpjcfnjagknocaaSs
import Derived.Test.YtpjcfnjagknocaaFac
import Derived.Test.YtpjcfnjagknocaaFld
import Derived.Laws.OwnMore
namespace Go.Proofs.Ytpjcfnjagknocaa
open Go.RowKit

/-- is the k-th pair (x first) a point? -/
def ptC (a b : Int) (q k : Nat) : Bool := ((k % q : Nat) : Int) * ((k % q : Nat) : Int) % (q : Int) == rsI a b q ((k / q : Nat) : Int)
/-- the points among the first k pairs. -/
def ptsN (a b : Int) (q : Nat) : Nat → List (List Int)
  | 0 => []
  | k + 1 => if ptC a b q k = true then ptsN a b q k ++ [[((k / q : Nat) : Int), ((k % q : Nat) : Int)]] else ptsN a b q k
/-- all points, infinity first. -/
def ptsL (a b p : Int) : List (List Int) := [] :: ptsN a b p.toNat (p.toNat * p.toNat)
theorem ptsN_step {a b : Int} {q x y : Nat} (hy : y < q) : ptsN a b q (x * q + (y + 1)) = if ((y : Int) * (y : Int) % (q : Int) == rsI a b q x) = true then ptsN a b q (x * q + y) ++ [[(x : Int), (y : Int)]] else ptsN a b q (x * q + y) := by
  have h1 : (x * q + y) / q = x := by
    rw [Nat.add_comm, Nat.add_mul_div_right _ _ (by omega), Nat.div_eq_of_lt hy]; omega
  have h2 : (x * q + y) % q = y := by
    rw [Nat.add_comm, Nat.add_mul_mod_self_right, Nat.mod_eq_of_lt hy]
  show ptsN a b q ((x * q + y) + 1) = _
  rw [ptsN]
  unfold ptC
  rw [h1, h2]
theorem ptsN_len (a b : Int) (q : Nat) : ∀ k, (ptsN a b q k).length ≤ k
  | 0 => Nat.le_refl _
  | k + 1 => by
    have := ptsN_len a b q k
    rw [ptsN]
    split
    · simp; omega
    · omega
theorem OwnSS.le {w : World} {base base' : Nat} {v : Value} {xss : List (List Int)} (h : OwnSS w base v xss) (hb : base' ≤ base) : OwnSS w base' v xss := by
  obtain ⟨vs, h1, h2, h3, h4⟩ := h
  exact ⟨vs, Joins.ownsRow_le h1 hb, h2, fun i hi => (h3 i hi).le hb, h4⟩
theorem idx_bd {q x y : Nat} (hx : x < q) (hy : y ≤ q) (hq : q ≤ 200) : x * q + y ≤ 40000 := by
  have h1 : (x + 1) * q ≤ q * q := Nat.mul_le_mul_right q hx
  have h2 : q * q ≤ 200 * 200 := Nat.mul_le_mul hq hq
  rw [Nat.add_mul] at h1
  omega
set_option maxRecDepth 4000 in
set_option maxHeartbeats 4000000 in
theorem pointsModulo_any (a b p : Int) (w : World) (h1 : -1000 ≤ a) (h2 : a ≤ 1000) (h3 : -10000 ≤ b) (h4 : b ≤ 10000) (p1 : 5 ≤ p) (p2 : p ≤ 199) :
    Calls Try.prog 78 #[.agg #[.int .i64 a, .int .i64 b], .int .i64 p] w (RetSS (ptsL a b p) w) := by
  obtain ⟨i0, hi, hz0, hz1, hz2⟩ := info_parts Try.info_row
  obtain ⟨q, rfl⟩ : ∃ q : Nat, p = q := ⟨p.toNat, by omega⟩
  have hP : ptsL a b q = [] :: ptsN a b q (q * q) := by unfold ptsL; rw [Int.toNat_natCast]
  rw [hP]; clear hP
  have hq0 : ((q : Int) == 0) = false := by simp; omega
  go_enter Try.func78, Try.ntmps78
  go_wp2_with fail
  generalize hW0 : w.alloc (.cells #[.int .i64 a, .int .i64 b] 39) = W0
  obtain ⟨B0, hB0⟩ : ∃ B0, w.heap.size = B0 := ⟨_, rfl⟩
  obtain ⟨hbW, g0, hsz0, ca0, cb0⟩ : Below w.heap.size w W0 ∧ B0 < W0.heap.size ∧ W0.heap.size = B0 + 1 ∧ W0.cell? ⟨B0, 0, none⟩ = some (.int .i64 a) ∧ W0.cell? ⟨B0, 1, none⟩ = some (.int .i64 b) := by
    subst hW0; subst hB0
    exact ⟨(by repeat (first | exact Below.refl _ _ | (with_reducible assumption) | refine bel_alloc ?_ _ | refine bel_drew ?_ | refine bel_drewN ?_ _ | refine Below.setCell ?_ (by dsimp only; omega) _ | refine bel_trans (by assumption) ?_)), by simp, by simp, by simp [go_sem], by simp [go_sem]⟩
  clear hW0
  (try rw [hB0])
  (try rw [show B0 + 2 = W0.heap.size + 1 by omega])
  (try rw [show B0 + 1 + 1 = W0.heap.size + 1 by omega])
  (try rw [show B0 + 1 = W0.heap.size by omega])
  have HSZ0 := Lib.hid hsz0; clear hsz0
  have hbel0 : Below W0.heap.size W0 (W0.alloc (.cells #[.slice none 0 0] 24)) := (Below.refl _ _).alloc (Nat.le_refl _) _
  have hown0 : OwnSS (W0.alloc (.cells #[.slice none 0 0] 24)) W0.heap.size (.slice (some ⟨W0.heap.size, 0, none⟩) 1 1) [[]] := by
    refine ⟨[.slice none 0 0], ?_, rfl, fun i hi => ?_, fun i j g hij hj => by simp at hj; omega⟩
    · simpa using World.ownsRow_lit (base := W0.heap.size) (e := 24) (size := 1) W0 #[.slice none 0 0] 1 (Nat.le_refl _) (by unfold maxLen; omega) (by simp)
    · have : i = 0 := by simp at hi; omega
      subst this
      exact Own.nil _ _
  go_loopw [5, 10] (fun v i wr => ∃ x : Nat, i = .int .i64 x ∧ x ≤ q ∧ Below W0.heap.size W0 wr ∧ OwnSS wr W0.heap.size v ([] :: ptsN a b q (x * q))) (fun _ i _ => q - (intOf i).toNat)
  case atStart => exact ⟨0, rfl, Nat.zero_le _, hbel0, by rw [Nat.zero_mul]; exact hown0⟩
  case round =>
    obtain ⟨x, rfl, hx, hbel, hown⟩ := hrel
    have hx0 : (0 : Int) ≤ (x : Int) := Int.natCast_nonneg _
    by_cases hxq : x < q
    · have hx1 : (x : Int) < (q : Int) := by omega
      have ca1 := (hbel.cell (p := ⟨B0, 0, none⟩) g0).trans ca0
      have cb1 := (hbel.cell (p := ⟨B0, 1, none⟩) g0).trans cb0
      obtain ⟨R, hR⟩ : ∃ R, rsI a b q x = R := ⟨_, rfl⟩
      have hRb : 0 ≤ R ∧ R < q := by rw [← hR]; exact rs_bd (by omega)
      have HR := Lib.hid hR; clear hR
      go_wp2_with fail
      go_loopw [5, 14] (fun v j wr => ∃ y : Nat, j = .int .i64 y ∧ y ≤ q ∧ Below W0.heap.size W0 wr ∧ OwnSS wr W0.heap.size v ([] :: ptsN a b q (x * q + y))) (fun _ j _ => q - (intOf j).toNat)
      case atStart => exact ⟨0, rfl, Nat.zero_le _, hbel, by rw [Nat.add_zero]; exact hown⟩
      case round =>
        obtain ⟨y, rfl, hy, hbel, hown⟩ := hrel
        have hy0 : (0 : Int) ≤ (y : Int) := Int.natCast_nonneg _
        have hidx := idx_bd hxq hy (by omega)
        by_cases hyq : y < q
        · have hst := ptsN_step (a := a) (b := b) (x := x) hyq
          have hlen0 := ptsN_len a b q (x * q + y)
          rw [HR.out] at hst
          obtain ⟨acc, hacc⟩ : ∃ acc, ptsN a b q (x * q + y) = acc := ⟨_, rfl⟩
          rw [hacc] at hown hst hlen0
          clear hacc
          have HST := Lib.hid hst; clear hst
          have hy1 : (y : Int) < (q : Int) := by omega
          have hyy := mul_bd (a := (y : Int)) (b := (y : Int)) (A := 199) (B := 199) (by omega) (by omega) (by omega) (by omega)
          have hyy0 := Int.mul_nonneg hy0 hy0
          have ca2 := (hbel.cell (p := ⟨B0, 0, none⟩) g0).trans ca0
          have cb2 := (hbel.cell (p := ⟨B0, 1, none⟩) g0).trans cb0
          have gw : B0 < wr.heap.size := Nat.lt_of_lt_of_le g0 hbel.size
          cases hcd : ((y : Int) * (y : Int) % (q : Int) == R)
          · have HOWN := Lib.hid hown; clear hown
            have hrs : ∀ w, Calls Try.prog 125 #[.agg #[.int .i64 a, .int .i64 b], .int .i64 (q : Int), .int .i64 (x : Int)] w (Ret (.int .i64 R) w) := fun w => HR.out ▸ rightSide_any a b q x w h1 h2 h3 h4 (by omega) (by omega) hx0 (by omega)
            go_wp2_with fail
            have HBEL : True → Below W0.heap.size W0 wr := fun _ => hbel
            clear hbel
            refine wp_region_grow (by kernel_rfl) (by kernel_rfl) ?_
            repeat (go_big_quiet_step (((go_at_call 125; exact grow_ret (hrs _)))))
            refine wpQuiet_nil ?_
            rintro wg hbg
            (try replace hbg := aft2 hbg (by assumption))
            obtain ⟨hcg, hfg, hg1, hg2, hg3, hg4⟩ := aftz hbg
            have hown1 := Lib.hid (HOWN.out.keep hbg)
            have hbel1 := bel_trans hbg (HBEL trivial)
            clear HOWN
            go_wp2_with fail
            go_roundw
            case rel => exact ⟨y + 1, by go_num, by omega, hbel1, by rw [HST.out, if_neg (by rw [hcd]; simp)]; exact hown1.out⟩
            case measure => simp [intOf]; omega
          · obtain ⟨vs, hrow, hvl, hin, hdis⟩ := hown
            have HROW := Lib.hid hrow; clear hrow
            have HVL := Lib.hid hvl; clear hvl
            have HIN := Lib.hid hin; clear hin
            have HDIS := Lib.hid hdis; clear hdis
            have hrs : ∀ w, Calls Try.prog 125 #[.agg #[.int .i64 a, .int .i64 b], .int .i64 (q : Int), .int .i64 (x : Int)] w (Ret (.int .i64 R) w) := fun w => HR.out ▸ rightSide_any a b q x w h1 h2 h3 h4 (by omega) (by omega) hx0 (by omega)
            go_wp2_with fail
            have HBEL : True → Below W0.heap.size W0 wr := fun _ => hbel
            clear hbel
            refine wp_region_grow (by kernel_rfl) (by kernel_rfl) ?_
            repeat (go_big_quiet_step (((go_at_call 125; exact grow_ret (hrs _)))))
            refine wpQuiet_nil ?_
            rintro wg hbg
            (try replace hbg := aft2 hbg (by assumption))
            obtain ⟨hcg, hfg, hg1, hg2, hg3, hg4⟩ := aftz hbg
            have hbel1 := bel_trans hbg (HBEL trivial)
            have HROW1 := Lib.hid (row_keep HROW.out hbg)
            have HIN1 := Lib.hid (fun i h => (HIN.out i h).keep hbg)
            clear HROW HIN
            go_wp2_with (first | (at_builtin; refine wpList_append_own _ rfl _ _ 44 rfl W0.heap.size 24 i0 (.slice none 0 0) 1 24 Try.underlying44 hi hz0 hz1 hz2 rfl (by decide) _ _ _ rfl ((HROW1.out.alloc _).alloc _) ⟨wg.heap.size + 1, 0, none⟩ 1 1 [.slice (some ⟨wg.heap.size, 0, none⟩) 2 2] rfl rfl ?_ ?_ ?_ ?_ ?_ ?_))
            · intro j u hj; match j, hj with | 0, hj => simp at hj; subst hj; simp [Addr.add]
            · first | rfl | (intro u hu; simp at hu; subst hu; rfl)
            · unfold maxLen; simp only [List.length_cons]; omega
            · simp only [List.length_cons]; omega
            · have := hbel1.size; simp; omega
            · intro v' w2 hown2 hgrow _
              obtain ⟨hb2, ho2⟩ := ownSS_snoc (ys := [(x : Int), (y : Int)]) (xss := [] :: acc) hbel1 HROW1.out HVL.out HIN1.out HDIS.out (by simp [maxLen]) (by simpa using hown2) hgrow
              clear hown2 hgrow HROW1 HIN1 HDIS hbel1
              go_wp2_with fail
              go_roundw
              case rel => exact ⟨y + 1, by go_num, by omega, hb2, by rw [HST.out, if_pos hcd]; exact ho2⟩
              case measure => simp [intOf]; omega
        · have hyq' : y = q := by omega
          subst hyq'
          have hown2 : OwnSS wr W0.heap.size u5 ([] :: ptsN a b y ((x + 1) * y)) := by rw [Nat.add_mul, Nat.one_mul]; exact hown
          clear hown
          go_wp2_with fail
          go_roundw
          case rel => exact ⟨x + 1, by go_num, by omega, hbel, hown2⟩
          case measure => simp [intOf]; omega
    · have hxq' : x = q := by omega
      subst hxq'
      go_wp2_with fail
      go_ret
      exact ⟨_, rfl, bel_trans hbel hbW, hown.le hbW.size⟩
set_option maxRecDepth 4000 in
set_option maxHeartbeats 4000000 in
theorem fmPoints_any (a b p : Int) (w : World) (h1 : -1000 ≤ a) (h2 : a ≤ 1000) (h3 : -10000 ≤ b) (h4 : b ≤ 10000) (p1 : 5 ≤ p) (p2 : p ≤ 199) :
    Calls Try.prog 82 #[.agg #[.int .i64 a, .int .i64 b], .int .i64 p] w (RetSS (ptsL a b p) w) := by
  obtain ⟨i0, hi, hz0, hz1, hz2⟩ := info_parts Try.info_row
  obtain ⟨q, rfl⟩ : ∃ q : Nat, p = q := ⟨p.toNat, by omega⟩
  have hP : ptsL a b q = [] :: ptsN a b q (q * q) := by unfold ptsL; rw [Int.toNat_natCast]
  rw [hP]; clear hP
  have hq0 : ((q : Int) == 0) = false := by simp; omega
  go_enter Try.func82, Try.ntmps82
  go_wp2_with fail
  generalize hW0 : w.alloc (.cells #[.int .i64 a, .int .i64 b] 39) = W0
  obtain ⟨B0, hB0⟩ : ∃ B0, w.heap.size = B0 := ⟨_, rfl⟩
  obtain ⟨hbW, g0, hsz0, ca0, cb0⟩ : Below w.heap.size w W0 ∧ B0 < W0.heap.size ∧ W0.heap.size = B0 + 1 ∧ W0.cell? ⟨B0, 0, none⟩ = some (.int .i64 a) ∧ W0.cell? ⟨B0, 1, none⟩ = some (.int .i64 b) := by
    subst hW0; subst hB0
    exact ⟨(by repeat (first | exact Below.refl _ _ | (with_reducible assumption) | refine bel_alloc ?_ _ | refine bel_drew ?_ | refine bel_drewN ?_ _ | refine Below.setCell ?_ (by dsimp only; omega) _ | refine bel_trans (by assumption) ?_)), by simp, by simp, by simp [go_sem], by simp [go_sem]⟩
  clear hW0
  (try rw [hB0])
  (try rw [show B0 + 2 = W0.heap.size + 1 by omega])
  (try rw [show B0 + 1 + 1 = W0.heap.size + 1 by omega])
  (try rw [show B0 + 1 = W0.heap.size by omega])
  have HSZ0 := Lib.hid hsz0; clear hsz0
  have hbel0 : Below W0.heap.size W0 ((W0.alloc (.cells #[] 3)).alloc (.cells #[.slice (some ⟨W0.heap.size, 0, none⟩) 0 0] 24)) := below_alloc2' _ _ _
  have hown0 : OwnSS ((W0.alloc (.cells #[] 3)).alloc (.cells #[.slice (some ⟨W0.heap.size, 0, none⟩) 0 0] 24)) W0.heap.size (.slice (some ⟨W0.heap.size + 1, 0, none⟩) 1 1) [[]] := by
    refine ⟨[.slice (some ⟨W0.heap.size, 0, none⟩) 0 0], ?_, rfl, fun i hi => ?_, fun i j g hij hj => by simp at hj; omega⟩
    · simpa using World.ownsRow_lit (base := W0.heap.size) (e := 24) (size := 1) (W0.alloc (.cells #[] 3)) #[.slice (some ⟨W0.heap.size, 0, none⟩) 0 0] 1 (by simp) (by unfold maxLen; omega) (by simp)
    · have : i = 0 := by simp at hi; omega
      subst this
      have h := World.ownsRow_lit (base := W0.heap.size) (e := 3) (size := 1) W0 #[] 0 (Nat.le_refl _) (by unfold maxLen; omega) (by simp)
      have h' : Own (W0.alloc (.cells #[] 3)) W0.heap.size (.slice (some ⟨W0.heap.size, 0, none⟩) 0 0) [] := by unfold Own; simpa using h
      exact h'.keep ((Below.refl _ _).alloc (Nat.le_refl _) _)
  go_loopw [5, 6] (fun v i wr => ∃ x : Nat, i = .int .i64 x ∧ x ≤ q ∧ Below W0.heap.size W0 wr ∧ OwnSS wr W0.heap.size v ([] :: ptsN a b q (x * q))) (fun _ i _ => q - (intOf i).toNat)
  case atStart => exact ⟨0, rfl, Nat.zero_le _, hbel0, by rw [Nat.zero_mul]; exact hown0⟩
  case round =>
    obtain ⟨x, rfl, hx, hbel, hown⟩ := hrel
    have hx0 : (0 : Int) ≤ (x : Int) := Int.natCast_nonneg _
    by_cases hxq : x < q
    · have hx1 : (x : Int) < (q : Int) := by omega
      have ca1 := (hbel.cell (p := ⟨B0, 0, none⟩) g0).trans ca0
      have cb1 := (hbel.cell (p := ⟨B0, 1, none⟩) g0).trans cb0
      obtain ⟨R, hR⟩ : ∃ R, rsI a b q x = R := ⟨_, rfl⟩
      have hRb : 0 ≤ R ∧ R < q := by rw [← hR]; exact rs_bd (by omega)
      have HR := Lib.hid hR; clear hR
      go_wp2_with fail
      refine (fmValue_any a b q x _ h1 h2 h3 h4 (by omega) (by omega) hx0 (by omega)).mono ?_; rintro e w5 ⟨rfl, hb5⟩
      rw [HR.out]
      have hown5 := hown.keep hb5
      replace hb5 := bel_trans hb5 hbel; clear hbel hown
      have hbel := hb5; clear hb5
      have hown := hown5; clear hown5
      go_wp2_with fail
      go_loopw [5, 8] (fun v j wr => ∃ y : Nat, j = .int .i64 y ∧ y ≤ q ∧ Below W0.heap.size W0 wr ∧ OwnSS wr W0.heap.size v ([] :: ptsN a b q (x * q + y))) (fun _ j _ => q - (intOf j).toNat)
      case atStart => exact ⟨0, rfl, Nat.zero_le _, hbel, by rw [Nat.add_zero]; exact hown⟩
      case round =>
        obtain ⟨y, rfl, hy, hbel, hown⟩ := hrel
        have hy0 : (0 : Int) ≤ (y : Int) := Int.natCast_nonneg _
        have hidx := idx_bd hxq hy (by omega)
        by_cases hyq : y < q
        · have hst := ptsN_step (a := a) (b := b) (x := x) hyq
          have hlen0 := ptsN_len a b q (x * q + y)
          rw [HR.out] at hst
          obtain ⟨acc, hacc⟩ : ∃ acc, ptsN a b q (x * q + y) = acc := ⟨_, rfl⟩
          rw [hacc] at hown hst hlen0
          clear hacc
          have HST := Lib.hid hst; clear hst
          have hy1 : (y : Int) < (q : Int) := by omega
          have hyy := mul_bd (a := (y : Int)) (b := (y : Int)) (A := 199) (B := 199) (by omega) (by omega) (by omega) (by omega)
          have hyy0 := Int.mul_nonneg hy0 hy0
          have ca2 := (hbel.cell (p := ⟨B0, 0, none⟩) g0).trans ca0
          have cb2 := (hbel.cell (p := ⟨B0, 1, none⟩) g0).trans cb0
          have gw : B0 < wr.heap.size := Nat.lt_of_lt_of_le g0 hbel.size
          cases hcd : ((y : Int) * (y : Int) % (q : Int) == R)
          · have HOWN := Lib.hid hown; clear hown
            go_wp2_with fail
            go_roundw
            case rel => exact ⟨y + 1, by go_num, by omega, hbel, by rw [HST.out, if_neg (by rw [hcd]; simp)]; exact HOWN.out⟩
            case measure => simp [intOf]; omega
          · obtain ⟨vs, hrow, hvl, hin, hdis⟩ := hown
            have HROW := Lib.hid hrow; clear hrow
            have HVL := Lib.hid hvl; clear hvl
            have HIN := Lib.hid hin; clear hin
            have HDIS := Lib.hid hdis; clear hdis
            have hbel1 := hbel
            have HROW1 := HROW
            have HIN1 := HIN
            go_wp2_with (first | (at_builtin; refine wpList_append_own _ rfl _ _ 44 rfl W0.heap.size 24 i0 (.slice none 0 0) 1 24 Try.underlying44 hi hz0 hz1 hz2 rfl (by decide) _ _ _ rfl ((HROW1.out.alloc _).alloc _) ⟨wr.heap.size + 1, 0, none⟩ 1 1 [.slice (some ⟨wr.heap.size, 0, none⟩) 2 2] rfl rfl ?_ ?_ ?_ ?_ ?_ ?_))
            · intro j u hj; match j, hj with | 0, hj => simp at hj; subst hj; simp [Addr.add]
            · first | rfl | (intro u hu; simp at hu; subst hu; rfl)
            · unfold maxLen; simp only [List.length_cons]; omega
            · simp only [List.length_cons]; omega
            · have := hbel1.size; simp; omega
            · intro v' w2 hown2 hgrow _
              obtain ⟨hb2, ho2⟩ := ownSS_snoc (ys := [(x : Int), (y : Int)]) (xss := [] :: acc) hbel1 HROW1.out HVL.out HIN1.out HDIS.out (by simp [maxLen]) (by simpa using hown2) hgrow
              clear hown2 hgrow HROW1 HIN1 HDIS hbel1
              go_wp2_with fail
              go_roundw
              case rel => exact ⟨y + 1, by go_num, by omega, hb2, by rw [HST.out, if_pos hcd]; exact ho2⟩
              case measure => simp [intOf]; omega
        · have hyq' : y = q := by omega
          subst hyq'
          have hown2 : OwnSS wr W0.heap.size u5 ([] :: ptsN a b y ((x + 1) * y)) := by rw [Nat.add_mul, Nat.one_mul]; exact hown
          clear hown
          go_wp2_with fail
          go_roundw
          case rel => exact ⟨x + 1, by go_num, by omega, hbel, hown2⟩
          case measure => simp [intOf]; omega
    · have hxq' : x = q := by omega
      subst hxq'
      go_wp2_with fail
      go_ret
      exact ⟨_, rfl, bel_trans hbel hbW, hown.le hbW.size⟩
end Go.Proofs.Ytpjcfnjagknocaa
