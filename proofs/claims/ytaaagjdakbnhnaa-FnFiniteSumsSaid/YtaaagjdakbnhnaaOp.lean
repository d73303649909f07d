/- Op: contracts: the opposite of a point modulo a prime. No conditions. -/
import Derived.Test.YtaaagjdakbnhnaaFld
import Derived.Test.YtaaagjdakbnhnaaMk
import Derived.Test.YtaaagjdakbnhnaaRg
import Derived.Laws.OwnMore
namespace Go.Proofs.Ytaaagjdakbnhnaa
open Go.RowKit

theorem own_pair (w : World) (B : Nat) (hB : B ≤ w.heap.size) (a b : Int) : Own (w.alloc (.cells #[.int .i64 a, .int .i64 b] 3)) B (.slice (some ⟨w.heap.size, 0, none⟩) 2 2) [a, b] := by
  have h := World.ownsRow_lit (base := B) (e := 3) (size := 1) w #[.int .i64 a, .int .i64 b] 2 hB (by unfold maxLen; omega) (by simp)
  unfold Own
  simpa using h
/-- a list that is a point modulo p. -/
theorem onF_cases {a b p : Int} {xs : List Int} (h : onF a b p xs = true) : xs = [] ∨ ∃ x y, xs = [x, y] ∧ 0 ≤ x ∧ x < p ∧ 0 ≤ y ∧ y < p ∧ y * y % p = rsI a b p x := by
  match xs, h with
  | [], _ => exact .inl rfl
  | [x, y], h =>
    simp only [onF, Bool.and_eq_true, decide_eq_true_eq, beq_iff_eq] at h
    exact .inr ⟨x, y, rfl, by omega, by omega, by omega, by omega, h.2⟩
  | [_], h => simp [onF] at h
  | _ :: _ :: _ :: _, h => simp [onF] at h
theorem wrap_neg {y : Int} (h0 : 0 ≤ y) (h1 : y ≤ 997) : IntKind.i64.wrap (-y) = -y := by
  simp only [IntKind.wrap, IntKind.bits, IntKind.signed]
  simp
  omega
/-- the opposite. -/
def negL (p : Int) : List Int → List Int
  | [x, y] => [x, (-y) % p]
  | _ => []
theorem held2 {W w' : World} {B o : Nat} {u0 u1 : Value} (h : Below W.heap.size W w') (hB : B < W.heap.size) (c0 : W.cell? ⟨B, o, none⟩ = some u0) (c1 : W.cell? ⟨B, o + 1, none⟩ = some u1) :
    Below W.heap.size W w' ∧ w'.cell? ⟨B, o, none⟩ = some u0 ∧ w'.cell? ⟨B, o + 1, none⟩ = some u1 := ⟨h, (h.cell (p := ⟨B, o, none⟩) hB).trans c0, (h.cell (p := ⟨B, o + 1, none⟩) hB).trans c1⟩
set_option maxHeartbeats 1000000 in
theorem fmOpposite_any (p : Int) (v : Value) (xs : List Int) (w : World) (hrd : Rd w v xs) (hx : xs = [] ∨ ∃ x y, xs = [x, y] ∧ 0 ≤ y ∧ y < p) (hp : 2 ≤ p) (hp2 : p ≤ 997) :
    Calls Try.prog 27 #[.int .i64 p, v] w (RetSl (negL p xs) w) := by
  obtain ⟨ad, cap, rfl, hl, hcs⟩ := hrd
  rcases hx with rfl | ⟨x, y, rfl, y0, y1⟩
  · go_enter Try.func27, Try.ntmps27
    go_wp2_with fail
    go_ret
    exact ⟨_, rfl, (by repeat (first | exact Below.refl _ _ | (with_reducible assumption) | refine bel_alloc ?_ _ | refine bel_drew ?_ | refine bel_drewN ?_ _ | refine Below.setCell ?_ (by dsimp only; omega) _ | refine bel_trans (by assumption) ?_)), Own.nil _ _⟩
  · obtain ⟨bb, off, rfl, hbb, hcell⟩ := hcs (by simp)
    have c0 : w.cell? ⟨bb, off, none⟩ = some (.int .i64 x) := hcell 0 (by simp)
    have c1 : w.cell? ⟨bb, off + 1, none⟩ = some (.int .i64 y) := hcell 1 (by simp)
    clear hcell hcs hl
    have wn := wrap_neg y0 (show y ≤ 997 by omega)
    go_enter Try.func27, Try.ntmps27
    go_wp2_with fail
    refine' wp_region_lit (a0 := _) 17 4 (fun v w' => Below w.heap.size w w' ∧ Own w' w.heap.size v [x, (-y) % p]) ?_ ?_
    rotate_left
    · go_region_held3 (fun w' => Below w.heap.size w w' ∧ w'.cell? ⟨bb, off, none⟩ = some (.int .i64 x) ∧ w'.cell? ⟨bb, off + 1, none⟩ = some (.int .i64 y)) ((refine held2 ?_ hbb c0 c1; go_split_ands; repeat (first | exact Below.refl _ _ | (with_reducible assumption) | refine bel_alloc ?_ _ | refine bel_drew ?_ | refine bel_trans (by assumption) ?_))) ((first | (go_at_call 45; refine (mdMod_any _ _ _ (by omega) (by omega)).mono ?_; rintro e w' ⟨rfl, hb⟩; (try replace hb := aft2 hb (by assumption)); have hz := hb.size; obtain ⟨hc, hf, hs1, hs2, hs3, hs4⟩ := aftz hb; (try simp at hz))))
      all_goals
        rename_i hHeld
        refine ⟨rfl, _, ⟨_, ⟨by first | rfl | (simp [Act.put]; done) | (simp [Act.put]; rfl), by first | rfl | (simp; done) | (simp; rfl)⟩, by first | rfl | (simp [Act.put]; done) | (simp [Act.put]; rfl), by first | rfl | (simp; done) | (simp; rfl)⟩, hHeld.1, own_pair _ _ (by show w.heap.size ≤ _; omega) _ _⟩
    · rintro v w' ⟨hb', ho⟩
      simp only [Act.put, List.setIfInBounds_toArray, List.set_cons_zero, List.set_cons_succ]
      go_wp2_with fail
      go_ret
      exact ⟨_, rfl, hb', ho⟩
noncomputable def askB (a b p : Int) (xs : List Int) : Bool := smallB a b p && onF a b p xs
/-- the curve, the prime and the point are valid. -/
theorem fmAsked_any (a b p : Int) (v : Value) (xs : List Int) (w : World) (hrd : Rd w v xs) :
    Calls Try.prog 23 #[.agg #[.int .i64 a, .int .i64 b], .int .i64 p, v] w (Ret (.bool (askB a b p xs)) w) := by
  cases hsm : smallB a b p
  · go_enter Try.func23, Try.ntmps23
    go_wp2_with (go_at_call 35; refine (fmSmall_any _ _ _ _).mono ?_; rintro e w' ⟨rfl, hb⟩; (try replace hb := aft2 hb (by assumption)); obtain ⟨hc, hf, hs1, hs2, hs3, hs4⟩ := aftz hb)
    go_ret
    exact ret_eq (by unfold askB; rw [hsm]; rfl) (by repeat (first | exact Below.refl _ _ | (with_reducible assumption) | refine bel_alloc ?_ _ | refine bel_drew ?_ | refine bel_drewN ?_ _ | refine Below.setCell ?_ (by dsimp only; omega) _ | refine bel_trans (by assumption) ?_))
  · obtain ⟨hcur, _, p1, p2⟩ := small_bd hsm
    obtain ⟨h1, h2, h3, h4, _⟩ := curveB_true.1 hcur
    go_enter Try.func23, Try.ntmps23
    go_wp2_with (go_at_call 35; refine (fmSmall_any _ _ _ _).mono ?_; rintro e w' ⟨rfl, hb⟩; (try replace hb := aft2 hb (by assumption)); obtain ⟨hc, hf, hs1, hs2, hs3, hs4⟩ := aftz hb)
    refine (fmOn_any _ _ _ v xs _ (hrd.keep (by repeat (first | exact Below.refl _ _ | (with_reducible assumption) | refine bel_alloc ?_ _ | refine bel_drew ?_ | refine bel_drewN ?_ _ | refine Below.setCell ?_ (by dsimp only; omega) _ | refine bel_trans (by assumption) ?_))) h1 h2 h3 h4 (by omega) (by omega)).mono ?_; rintro e w2 ⟨rfl, hb2⟩
    go_wp2_with fail
    go_ret
    exact ret_eq (by unfold askB; rw [hsm]; rfl) (by repeat (first | exact Below.refl _ _ | (with_reducible assumption) | refine bel_alloc ?_ _ | refine bel_drew ?_ | refine bel_drewN ?_ _ | refine Below.setCell ?_ (by dsimp only; omega) _ | refine bel_trans (by assumption) ?_))
theorem negL_len (a b p : Int) (xs : List Int) : (if askB a b p xs = true then negL p xs else []).length ≤ 1048576 := by
  split
  · unfold negL; split <;> simp
  · simp
theorem sOppositeModulo_any (a b p : Int) (v : Value) (xs : List Int) (w : World) (hrd : Rd w v xs) :
    Calls Try.prog 10 #[.agg #[.int .i64 a, .int .i64 b], .int .i64 p, v] w (RetSlB (if askB a b p xs = true then negL p xs else []) (askB a b p xs) w) := by
  cases hq : askB a b p xs
  · rw [if_neg (by simp)]
    go_enter Try.func10, Try.ntmps10
    go_wp2_with fail
    refine (fmAsked_any _ _ _ v xs _ (hrd.keep (by repeat (first | exact Below.refl _ _ | (with_reducible assumption) | refine bel_alloc ?_ _ | refine bel_drew ?_ | refine bel_drewN ?_ _ | refine Below.setCell ?_ (by dsimp only; omega) _ | refine bel_trans (by assumption) ?_)))).mono ?_; rintro e w1 ⟨rfl, hb1⟩
    rw [hq]
    go_wp2_with fail
    go_returns
    exact ⟨_, rfl, (by repeat (first | exact Below.refl _ _ | (with_reducible assumption) | refine bel_alloc ?_ _ | refine bel_drew ?_ | refine bel_drewN ?_ _ | refine Below.setCell ?_ (by dsimp only; omega) _ | refine bel_trans (by assumption) ?_)), Own.nil _ _⟩
  · have hq' := hq
    unfold askB at hq'
    rw [Bool.and_eq_true] at hq'
    obtain ⟨hcur, _, p1, p2⟩ := small_bd hq'.1
    have hx := onF_cases hq'.2
    rw [if_pos rfl]
    go_enter Try.func10, Try.ntmps10
    go_wp2_with fail
    refine (fmAsked_any _ _ _ v xs _ (hrd.keep (by repeat (first | exact Below.refl _ _ | (with_reducible assumption) | refine bel_alloc ?_ _ | refine bel_drew ?_ | refine bel_drewN ?_ _ | refine Below.setCell ?_ (by dsimp only; omega) _ | refine bel_trans (by assumption) ?_)))).mono ?_; rintro e w1 ⟨rfl, hb1⟩
    rw [hq]
    obtain ⟨hc1, hf1⟩ := aft hb1
    go_wp2_with fail
    refine (fmOpposite_any _ v xs _ (hrd.keep (by repeat (first | exact Below.refl _ _ | (with_reducible assumption) | refine bel_alloc ?_ _ | refine bel_drew ?_ | refine bel_drewN ?_ _ | refine Below.setCell ?_ (by dsimp only; omega) _ | refine bel_trans (by assumption) ?_))) (hx.imp id fun ⟨x, y, e, _, _, y0, y1, _⟩ => ⟨x, y, e, y0, y1⟩) (by omega) (by omega)).mono ?_; rintro e w2 ⟨u, rfl, hb2, ho⟩
    go_wp2_with fail
    go_returns
    exact ⟨_, rfl, (by repeat (first | exact Below.refl _ _ | (with_reducible assumption) | refine bel_alloc ?_ _ | refine bel_drew ?_ | refine bel_drewN ?_ _ | refine Below.setCell ?_ (by dsimp only; omega) _ | refine bel_trans (by assumption) ?_)), ho.le (Below.size (by repeat (first | exact Below.refl _ _ | (with_reducible assumption) | refine bel_alloc ?_ _ | refine bel_drew ?_ | refine bel_drewN ?_ _ | refine Below.setCell ?_ (by dsimp only; omega) _ | refine bel_trans (by assumption) ?_)))⟩
set_option maxHeartbeats 1000000 in
theorem iOppositeModulo_any (a b p : Int) (v : Value) (xs : List Int) (w : World) (hrd : Rd w v xs) :
    Calls Try.prog 9 #[.agg #[.int .i64 a, .int .i64 b], .int .i64 p, v] w (RetSlB (if askB a b p xs = true then negL p xs else []) (askB a b p xs) w) := by
  have hask : askB a b p xs = (smallB a b p && onF a b p xs) := rfl
  cases hsm : smallB a b p
  · rw [hask, hsm, Bool.false_and, if_neg (by simp)]
    go_enter Try.func9, Try.ntmps9
    go_wp2_with (go_at_call 20; refine (fieldFits_any _ _ _ _).mono ?_; rintro e w' ⟨rfl, hb⟩; (try replace hb := aft2 hb (by assumption)); obtain ⟨hc, hf, hs1, hs2, hs3, hs4⟩ := aftz hb)
    go_returns
    exact ⟨_, rfl, (by repeat (first | exact Below.refl _ _ | (with_reducible assumption) | refine bel_alloc ?_ _ | refine bel_drew ?_ | refine bel_drewN ?_ _ | refine Below.setCell ?_ (by dsimp only; omega) _ | refine bel_trans (by assumption) ?_)), Own.nil _ _⟩
  · obtain ⟨hcur, _, p1, p2⟩ := small_bd hsm
    obtain ⟨h1, h2, h3, h4, _⟩ := curveB_true.1 hcur
    cases hon : onF a b p xs
    · rw [hask, hsm, hon, Bool.and_false, if_neg (by simp)]
      go_enter Try.func9, Try.ntmps9
      go_wp2_with (go_at_call 20; refine (fieldFits_any _ _ _ _).mono ?_; rintro e w' ⟨rfl, hb⟩; (try replace hb := aft2 hb (by assumption)); obtain ⟨hc, hf, hs1, hs2, hs3, hs4⟩ := aftz hb)
      refine (onField_any _ _ _ v xs _ (hrd.keep (by repeat (first | exact Below.refl _ _ | (with_reducible assumption) | refine bel_alloc ?_ _ | refine bel_drew ?_ | refine bel_drewN ?_ _ | refine Below.setCell ?_ (by dsimp only; omega) _ | refine bel_trans (by assumption) ?_))) h1 h2 h3 h4 (by omega) (by omega)).mono ?_; rintro e w2 ⟨rfl, hb2⟩
      rw [hon]
      go_wp2_with fail
      go_returns
      exact ⟨_, rfl, (by repeat (first | exact Below.refl _ _ | (with_reducible assumption) | refine bel_alloc ?_ _ | refine bel_drew ?_ | refine bel_drewN ?_ _ | refine Below.setCell ?_ (by dsimp only; omega) _ | refine bel_trans (by assumption) ?_)), Own.nil _ _⟩
    · rw [hask, hsm, hon, Bool.and_true, if_pos rfl]
      have hx := onF_cases hon
      clear hask
      have hrd0 := hrd
      obtain ⟨ad, cap, rfl, hl, hcs⟩ := hrd
      rcases hx with rfl | ⟨x, y, rfl, x0, x1, y0, y1, hy⟩
      · go_enter Try.func9, Try.ntmps9
        go_wp2_with (go_at_call 20; refine (fieldFits_any _ _ _ _).mono ?_; rintro e w' ⟨rfl, hb⟩; (try replace hb := aft2 hb (by assumption)); obtain ⟨hc, hf, hs1, hs2, hs3, hs4⟩ := aftz hb)
        refine (onField_any _ _ _ _ [] _ (hrd0.keep (by repeat (first | exact Below.refl _ _ | (with_reducible assumption) | refine bel_alloc ?_ _ | refine bel_drew ?_ | refine bel_drewN ?_ _ | refine Below.setCell ?_ (by dsimp only; omega) _ | refine bel_trans (by assumption) ?_))) h1 h2 h3 h4 (by omega) (by omega)).mono ?_; rintro e w2 ⟨rfl, hb2⟩
        rw [hon]
        go_wp2_with fail
        go_returns
        exact ⟨_, rfl, (by repeat (first | exact Below.refl _ _ | (with_reducible assumption) | refine bel_alloc ?_ _ | refine bel_drew ?_ | refine bel_drewN ?_ _ | refine Below.setCell ?_ (by dsimp only; omega) _ | refine bel_trans (by assumption) ?_)), Own.nil _ _⟩
      · obtain ⟨bb, off, rfl, hbb, hcell⟩ := hcs (by simp)
        have c0 : w.cell? ⟨bb, off, none⟩ = some (.int .i64 x) := hcell 0 (by simp)
        have c1 : w.cell? ⟨bb, off + 1, none⟩ = some (.int .i64 y) := hcell 1 (by simp)
        clear hcell hcs hl hy
        have wn := wrap_neg y0 (show y ≤ 997 by omega)
        have HRD := Lib.hid hrd0; clear hrd0
        have HON := Lib.hid hon; clear hon
        go_enter Try.func9, Try.ntmps9
        go_wp2_with (go_at_call 20; refine (fieldFits_any _ _ _ _).mono ?_; rintro e w' ⟨rfl, hb⟩; (try replace hb := aft2 hb (by assumption)); obtain ⟨hc, hf, hs1, hs2, hs3, hs4⟩ := aftz hb)
        refine (onField_any _ _ _ _ [x, y] _ (HRD.out.keep (by repeat (first | exact Below.refl _ _ | (with_reducible assumption) | refine bel_alloc ?_ _ | refine bel_drew ?_ | refine bel_drewN ?_ _ | refine Below.setCell ?_ (by dsimp only; omega) _ | refine bel_trans (by assumption) ?_))) h1 h2 h3 h4 (by omega) (by omega)).mono ?_; rintro e W ⟨rfl, hbW⟩
        rw [HON.out]
        go_wp2_with fail
        have hbw : Below w.heap.size w W := (by repeat (first | exact Below.refl _ _ | (with_reducible assumption) | refine bel_alloc ?_ _ | refine bel_drew ?_ | refine bel_drewN ?_ _ | refine Below.setCell ?_ (by dsimp only; omega) _ | refine bel_trans (by assumption) ?_))
        have hbz := hbw.size
        have hB : bb < W.heap.size := by omega
        have d0 : W.cell? ⟨bb, off, none⟩ = some (.int .i64 x) := (hbw.cell (p := ⟨bb, off, none⟩) hbb).trans c0
        have d1 : W.cell? ⟨bb, off + 1, none⟩ = some (.int .i64 y) := (hbw.cell (p := ⟨bb, off + 1, none⟩) hbb).trans c1
        refine' wp_region_lit (a0 := _) 31 6 (fun v w' => Below W.heap.size W w' ∧ Own w' W.heap.size v [x, (-y) % p]) ?_ ?_
        rotate_left
        · go_region_held3 (fun w' => Below W.heap.size W w' ∧ w'.cell? ⟨bb, off, none⟩ = some (.int .i64 x) ∧ w'.cell? ⟨bb, off + 1, none⟩ = some (.int .i64 y)) ((refine held2 ?_ hB d0 d1; go_split_ands; repeat (first | exact Below.refl _ _ | (with_reducible assumption) | refine bel_alloc ?_ _ | refine bel_drew ?_ | refine bel_trans (by assumption) ?_))) ((first | (go_at_call 26; refine (modulo_any _ _ _ (by omega) (by omega)).mono ?_; rintro e w' ⟨rfl, hb⟩; (try replace hb := aft2 hb (by assumption)); have hz := hb.size; obtain ⟨hc, hf, hs1, hs2, hs3, hs4⟩ := aftz hb; (try simp at hz))))
          all_goals
            rename_i hHeld
            refine ⟨rfl, _, ⟨_, ⟨by first | rfl | (simp [Act.put]; done) | (simp [Act.put]; rfl), by first | rfl | (simp; done) | (simp; rfl)⟩, by first | rfl | (simp [Act.put]; done) | (simp [Act.put]; rfl), by first | rfl | (simp; done) | (simp; rfl)⟩, hHeld.1, own_pair _ _ (by show W.heap.size ≤ _; omega) _ _⟩
        · rintro v w' ⟨hb', ho⟩
          simp only [Act.put, List.setIfInBounds_toArray, List.set_cons_zero, List.set_cons_succ]
          go_wp2_with fail
          go_returns
          exact ⟨_, rfl, bel_trans hb' hbw, ho.le hbz⟩
end Go.Proofs.Ytaaagjdakbnhnaa
