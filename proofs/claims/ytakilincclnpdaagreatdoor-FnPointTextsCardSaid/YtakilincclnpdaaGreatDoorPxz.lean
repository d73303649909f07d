/- Px: contracts: the points with a given x, both sides. No conditions. -/
import Derived.Test.YtakilincclnpdaaGreatDoorPXz
import Derived.Test.YtakilincclnpdaaGreatDoorErz
import Derived.Test.YtakilincclnpdaaGreatDoorFrz
namespace Go.Proofs.YtakilincclnpdaaGreatDoor
open Go.RowKit
set_option linter.unusedVariables false

/-- returned the call's own points and a truth value. -/
def RetPx (xs : List Int) (ok : Bool) (w : World) (e : Ending) (w' : World) : Prop := ∃ v, e = .returned (.tuple #[v, .bool ok]) ∧ Below w.heap.size w w' ∧ OwnP w' w.heap.size v xs
theorem retPx_nil {w w' : World} {ok : Bool} (h : Below w.heap.size w w') : RetPx [] ok w (.returned (.tuple #[.slice none 0 0, .bool ok])) w' := ⟨_, rfl, h, OwnP.nil _ _⟩
/-- the points with an x and an e, as numbers. -/
inductive AtX (a b x e : Int) : List Int → Prop
  | neg (h : valI a b x e < 0) : AtX a b x e []
  | no (k : Int) (h : 0 ≤ valI a b x e) (k0 : 0 ≤ k) (h1 : k * k ≤ valI a b x e) (h2 : valI a b x e < (k + 1) * (k + 1)) (h3 : k * k ≠ valI a b x e) : AtX a b x e []
  | zero (h : valI a b x e = 0) : AtX a b x e [x, 0, e]
  | two (k : Int) (k0 : 1 ≤ k) (h : k * k = valI a b x e) : AtX a b x e [x, -k, e, x, k, e]
theorem atX_ex (a b x e : Int) : ∃ l, AtX a b x e l := by
  rcases Int.lt_or_le (valI a b x e) 0 with h | h
  · exact ⟨_, .neg h⟩
  · obtain ⟨k, k0, h1, h2⟩ := root_exI h
    by_cases h3 : k * k = valI a b x e
    · by_cases hk : k = 0
      · subst hk; exact ⟨_, .zero (by omega)⟩
      · exact ⟨_, .two k (by omega) h3⟩
    · exact ⟨_, .no k h k0 h1 h2 h3⟩
theorem AtX.len {a b x e : Int} {l : List Int} (h : AtX a b x e l) : l.length ≤ 6 := by cases h <;> simp
/-- what PointsAtX answers. -/
inductive PxIs (a b n d : Int) : List Int → Bool → Prop
  | bad (h : curveB a b = false ∨ fracB n d = false ∨ inB n (-10000) 10000 = false) : PxIs a b n d [] false
  | root (k : Int) (hc : curveB a b = true) (hf : fracB n d = true) (hn : inB n (-10000) 10000 = true) (k0 : 0 ≤ k) (h1 : k * k ≤ d) (h2 : d < (k + 1) * (k + 1)) (h3 : ¬ (k * k = d ∧ k ≤ 20)) : PxIs a b n d [] false
  | good (k : Int) (l : List Int) (hc : curveB a b = true) (hf : fracB n d = true) (hn : inB n (-10000) 10000 = true) (k0 : 1 ≤ k) (h1 : k * k = d) (h2 : k ≤ 20) (h3 : AtX a b n k l) : PxIs a b n d l true
theorem pxIs_ex (a b n d : Int) : ∃ p : List Int × Bool, PxIs a b n d p.1 p.2 := by
  cases hc : curveB a b
  · exact ⟨([], false), .bad (.inl hc)⟩
  cases hf : fracB n d
  · exact ⟨([], false), .bad (.inr (.inl hf))⟩
  cases hn : inB n (-10000) 10000
  · exact ⟨([], false), .bad (.inr (.inr hn))⟩
  obtain ⟨d1, _⟩ := frac_bd hf
  obtain ⟨k, k0, h1, h2⟩ := root_exI (n := d) (by omega)
  by_cases h3 : k * k = d ∧ k ≤ 20
  · obtain ⟨l, hl⟩ := atX_ex a b n k
    have hk : k ≠ 0 := by rintro rfl; omega
    exact ⟨(l, true), .good k l hc hf hn (by omega) h3.1 h3.2 hl⟩
  · exact ⟨([], false), .root k hc hf hn k0 h1 h2 h3⟩
noncomputable def atxV (a b n d : Int) : List Int := (pxIs_ex a b n d).choose.1
noncomputable def atxB (a b n d : Int) : Bool := (pxIs_ex a b n d).choose.2
theorem atx_is (a b n d : Int) : PxIs a b n d (atxV a b n d) (atxB a b n d) := (pxIs_ex a b n d).choose_spec
theorem PxIs.len {a b n d : Int} {l : List Int} {ok : Bool} (h : PxIs a b n d l ok) : l.length ≤ 6 := by
  cases h with
  | bad => simp
  | root => simp
  | good k l _ _ _ _ _ _ h => exact h.len
theorem atxV_len (a b n d : Int) : (atxV a b n d).length ≤ 6 := (atx_is a b n d).len
/-- a literal of points is the call's own row. -/
theorem ownP_lit (w : World) (B n : Nat) (xs : List Int) (hB : B ≤ w.heap.size) (hl : xs.length = 3 * n) (hn : n ≤ maxLen) : OwnP (w.alloc (.cells (xs.map (Value.int .i64)).toArray 52)) B (.slice (some ⟨w.heap.size, 0, none⟩) n n) xs := by
  refine ⟨n, hl, ?_⟩
  have h := World.ownsRow_lit (base := B) (e := 52) (size := 3) w (xs.map (Value.int .i64)).toArray n hB hn (by simp; omega)
  simpa using h
theorem sq_succ_lt {k : Int} (k0 : 0 ≤ k) : k * k < (k + 1) * (k + 1) := by
  have : (k + 1) * (k + 1) = k * k + 2 * k + 1 := by grind
  omega
theorem sq_lt {k B : Int} (k0 : 0 ≤ k) (hB : 0 ≤ B) (h : k * k < B * B) : k < B := by
  rcases Int.lt_or_le k B with g | g
  · exact g
  · have := Int.mul_le_mul g g hB k0; omega
set_option maxHeartbeats 4000000 in
theorem pxI {a b n d : Int} {l : List Int} {ok : Bool} (h : PxIs a b n d l ok) (w : World) :
    Calls Tryz.prog 41 #[.agg #[.int .i64 a, .int .i64 b], .agg #[.int .i64 n, .int .i64 d]] w (RetPx l ok w) := by
  cases h with
  | bad h =>
    cases hc : curveB a b
    · go_enter Tryz.func41, Tryz.ntmps41
      go_wp2_with (go_at_call 93; refine (isCurve_any _ _ _).mono ?_; rintro e w' ⟨rfl, hb⟩; (try replace hb := aft2 hb (by assumption)); obtain ⟨hc, hf, hs1, hs2, hs3, hs4⟩ := aftz hb)
      refine bodyPost_ret (by simp (maxDischargeDepth := 3) [results, Tryz.results41, go_sem, *]; try rfl) rfl ?_
      exact retPx_nil (by repeat (first | exact Below.refl _ _ | (with_reducible assumption) | refine bel_alloc ?_ _ | refine bel_drew ?_ | refine bel_drewN ?_ _ | refine Below.setCell ?_ (by dsimp only; omega) _ | refine bel_trans (by assumption) ?_))
    cases hfr : fracB n d
    · go_enter Tryz.func41, Tryz.ntmps41
      go_wp2_with (first | (go_at_call 93; refine (isCurve_any _ _ _).mono ?_; rintro e w' ⟨rfl, hb⟩; (try replace hb := aft2 hb (by assumption)); obtain ⟨hc, hf, hs1, hs2, hs3, hs4⟩ := aftz hb) | (go_at_call 100; refine (isFraction_any _ _ _).mono ?_; rintro e w' ⟨rfl, hb⟩; (try replace hb := aft2 hb (by assumption)); obtain ⟨hc, hf, hs1, hs2, hs3, hs4⟩ := aftz hb))
      refine bodyPost_ret (by simp (maxDischargeDepth := 3) [results, Tryz.results41, go_sem, *]; try rfl) rfl ?_
      exact retPx_nil (by repeat (first | exact Below.refl _ _ | (with_reducible assumption) | refine bel_alloc ?_ _ | refine bel_drew ?_ | refine bel_drewN ?_ _ | refine Below.setCell ?_ (by dsimp only; omega) _ | refine bel_trans (by assumption) ?_))
    have hn : inB n (-10000) 10000 = false := by
      rcases h with h | h | h
      · rw [hc] at h; cases h
      · rw [hfr] at h; cases h
      · exact h
    go_enter Tryz.func41, Tryz.ntmps41
    go_wp2_with (first | (go_at_call 93; refine (isCurve_any _ _ _).mono ?_; rintro e w' ⟨rfl, hb⟩; (try replace hb := aft2 hb (by assumption)); obtain ⟨hc, hf, hs1, hs2, hs3, hs4⟩ := aftz hb) | (go_at_call 100; refine (isFraction_any _ _ _).mono ?_; rintro e w' ⟨rfl, hb⟩; (try replace hb := aft2 hb (by assumption)); obtain ⟨hc, hf, hs1, hs2, hs3, hs4⟩ := aftz hb) | (go_at_call 66; refine (inside_any _ _ _ _).mono ?_; rintro e w' ⟨rfl, rfl⟩; rw [hn]))
    refine bodyPost_ret (by simp (maxDischargeDepth := 3) [results, Tryz.results41, go_sem, *]; try rfl) rfl ?_
    exact retPx_nil (by repeat (first | exact Below.refl _ _ | (with_reducible assumption) | refine bel_alloc ?_ _ | refine bel_drew ?_ | refine bel_drewN ?_ _ | refine Below.setCell ?_ (by dsimp only; omega) _ | refine bel_trans (by assumption) ?_))
  | root k hcu hfr hn k0 h1 h2 h3 =>
    obtain ⟨d1, d2, _⟩ := frac_bd hfr
    have hrt := fun w => exactRoot_any d k w (by omega) (by omega) k0 h1 h2
    have kb : k < 100000 := sq_lt k0 (by omega) (by omega)
    clear h1 h2
    by_cases hk : k * k = d
    · have hk2 : ¬ k ≤ 20 := fun h => h3 ⟨hk, h⟩
      simp only [if_pos hk] at hrt
      clear h3 hk
      go_enter Tryz.func41, Tryz.ntmps41
      go_wp2_with (first | (go_at_call 93; refine (isCurve_any _ _ _).mono ?_; rintro e w' ⟨rfl, hb⟩; (try replace hb := aft2 hb (by assumption)); obtain ⟨hc, hf, hs1, hs2, hs3, hs4⟩ := aftz hb) | (go_at_call 100; refine (isFraction_any _ _ _).mono ?_; rintro e w' ⟨rfl, hb⟩; (try replace hb := aft2 hb (by assumption)); obtain ⟨hc, hf, hs1, hs2, hs3, hs4⟩ := aftz hb) | (go_at_call 66; refine (inside_any _ _ _ _).mono ?_; rintro e w' ⟨rfl, rfl⟩; rw [hn]) | (go_at_call 101; refine (hrt _).mono ?_; rintro e w' ⟨rfl, hb⟩; (try replace hb := aft2 hb (by assumption)); obtain ⟨hc, hf, hs1, hs2, hs3, hs4⟩ := aftz hb))
      refine bodyPost_ret (by simp (maxDischargeDepth := 3) [results, Tryz.results41, go_sem, *]; try rfl) rfl ?_
      exact retPx_nil (by repeat (first | exact Below.refl _ _ | (with_reducible assumption) | refine bel_alloc ?_ _ | refine bel_drew ?_ | refine bel_drewN ?_ _ | refine Below.setCell ?_ (by dsimp only; omega) _ | refine bel_trans (by assumption) ?_))
    · simp only [if_neg hk] at hrt
      clear h3 hk
      go_enter Tryz.func41, Tryz.ntmps41
      go_wp2_with (first | (go_at_call 93; refine (isCurve_any _ _ _).mono ?_; rintro e w' ⟨rfl, hb⟩; (try replace hb := aft2 hb (by assumption)); obtain ⟨hc, hf, hs1, hs2, hs3, hs4⟩ := aftz hb) | (go_at_call 100; refine (isFraction_any _ _ _).mono ?_; rintro e w' ⟨rfl, hb⟩; (try replace hb := aft2 hb (by assumption)); obtain ⟨hc, hf, hs1, hs2, hs3, hs4⟩ := aftz hb) | (go_at_call 66; refine (inside_any _ _ _ _).mono ?_; rintro e w' ⟨rfl, rfl⟩; rw [hn]) | (go_at_call 101; refine (hrt _).mono ?_; rintro e w' ⟨rfl, hb⟩; (try replace hb := aft2 hb (by assumption)); obtain ⟨hc, hf, hs1, hs2, hs3, hs4⟩ := aftz hb))
      refine bodyPost_ret (by simp (maxDischargeDepth := 3) [results, Tryz.results41, go_sem, *]; try rfl) rfl ?_
      exact retPx_nil (by repeat (first | exact Below.refl _ _ | (with_reducible assumption) | refine bel_alloc ?_ _ | refine bel_drew ?_ | refine bel_drewN ?_ _ | refine Below.setCell ?_ (by dsimp only; omega) _ | refine bel_trans (by assumption) ?_))
  | good k l hcu hfr hn k0 h1 h2 h3 =>
    obtain ⟨d1, d2, _⟩ := frac_bd hfr
    have hrt := fun w => exactRoot_any d k w (by omega) (by omega) (by omega) (by omega) (by rw [← h1]; exact sq_succ_lt (by omega))
    simp only [if_pos h1] at hrt
    clear h1
    obtain ⟨x0, x1⟩ := inB_true.1 hn
    obtain ⟨c1, c2, c3, c4, _⟩ := curveB_true.1 hcu
    have hcv := fun w => curveValue_any a b n k w c1 c2 c3 c4 x0 x1 (by omega) (by omega)
    have hvb := val_bd (e := k) c1 c2 c3 c4 x0 x1 (by omega) (by omega)
    cases h3 with
    | neg h =>
      have hrv := fun w => exactRoot_neg (valI a b n k) w h
      generalize valI a b n k = v at *
      go_enter Tryz.func41, Tryz.ntmps41
      go_wp2_with (first | (go_at_call 93; refine (isCurve_any _ _ _).mono ?_; rintro e w' ⟨rfl, hb⟩; (try replace hb := aft2 hb (by assumption)); obtain ⟨hc, hf, hs1, hs2, hs3, hs4⟩ := aftz hb) | (go_at_call 100; refine (isFraction_any _ _ _).mono ?_; rintro e w' ⟨rfl, hb⟩; (try replace hb := aft2 hb (by assumption)); obtain ⟨hc, hf, hs1, hs2, hs3, hs4⟩ := aftz hb) | (go_at_call 66; refine (inside_any _ _ _ _).mono ?_; rintro e w' ⟨rfl, rfl⟩; rw [hn]))
      refine (hrt _).mono ?_; rintro ee w1 ⟨rfl, hb1⟩
      replace hb1 := aft2 hb1 (by assumption)
      obtain ⟨hc1, hf1, hq1, hq2, hq3, hq4⟩ := aftz hb1
      go_wp2_with (go_at_call 102; refine (hcv _).mono ?_; rintro e w' ⟨rfl, hb⟩; (try replace hb := aft2 hb (by assumption)); obtain ⟨hc, hf, hs1, hs2, hs3, hs4⟩ := aftz hb)
      refine (hrv _).mono ?_; rintro ee w2 ⟨rfl, hb2⟩
      replace hb2 := aft2 hb2 (by assumption)
      obtain ⟨hc2, hf2, hr1, hr2, hr3, hr4⟩ := aftz hb2
      go_wp2_with fail
      refine bodyPost_ret (by simp (maxDischargeDepth := 3) [results, Tryz.results41, go_sem, *]; try rfl) rfl ?_
      exact retPx_nil (by repeat (first | exact Below.refl _ _ | (with_reducible assumption) | refine bel_alloc ?_ _ | refine bel_drew ?_ | refine bel_drewN ?_ _ | refine Below.setCell ?_ (by dsimp only; omega) _ | refine bel_trans (by assumption) ?_))
    | no q h q0 q1 q2 q3 =>
      have hrv := fun w => exactRoot_any (valI a b n k) q w h (by omega) q0 q1 q2
      simp only [if_neg q3] at hrv
      generalize valI a b n k = v at *
      clear q1 q2 q3
      go_enter Tryz.func41, Tryz.ntmps41
      go_wp2_with (first | (go_at_call 93; refine (isCurve_any _ _ _).mono ?_; rintro e w' ⟨rfl, hb⟩; (try replace hb := aft2 hb (by assumption)); obtain ⟨hc, hf, hs1, hs2, hs3, hs4⟩ := aftz hb) | (go_at_call 100; refine (isFraction_any _ _ _).mono ?_; rintro e w' ⟨rfl, hb⟩; (try replace hb := aft2 hb (by assumption)); obtain ⟨hc, hf, hs1, hs2, hs3, hs4⟩ := aftz hb) | (go_at_call 66; refine (inside_any _ _ _ _).mono ?_; rintro e w' ⟨rfl, rfl⟩; rw [hn]))
      refine (hrt _).mono ?_; rintro ee w1 ⟨rfl, hb1⟩
      replace hb1 := aft2 hb1 (by assumption)
      obtain ⟨hc1, hf1, hq1, hq2, hq3, hq4⟩ := aftz hb1
      go_wp2_with (go_at_call 102; refine (hcv _).mono ?_; rintro e w' ⟨rfl, hb⟩; (try replace hb := aft2 hb (by assumption)); obtain ⟨hc, hf, hs1, hs2, hs3, hs4⟩ := aftz hb)
      refine (hrv _).mono ?_; rintro ee w2 ⟨rfl, hb2⟩
      replace hb2 := aft2 hb2 (by assumption)
      obtain ⟨hc2, hf2, hr1, hr2, hr3, hr4⟩ := aftz hb2
      go_wp2_with fail
      refine bodyPost_ret (by simp (maxDischargeDepth := 3) [results, Tryz.results41, go_sem, *]; try rfl) rfl ?_
      exact retPx_nil (by repeat (first | exact Below.refl _ _ | (with_reducible assumption) | refine bel_alloc ?_ _ | refine bel_drew ?_ | refine bel_drewN ?_ _ | refine Below.setCell ?_ (by dsimp only; omega) _ | refine bel_trans (by assumption) ?_))
    | zero h =>
      rw [h] at hcv
      have hrv := fun w => exactRoot_any 0 0 w (by omega) (by omega) (by omega) (by omega) (by omega)
      simp only [if_pos (show (0 : Int) * 0 = 0 by rfl)] at hrv
      clear hvb h
      go_enter Tryz.func41, Tryz.ntmps41
      go_wp2_with (first | (go_at_call 93; refine (isCurve_any _ _ _).mono ?_; rintro e w' ⟨rfl, hb⟩; (try replace hb := aft2 hb (by assumption)); obtain ⟨hc, hf, hs1, hs2, hs3, hs4⟩ := aftz hb) | (go_at_call 100; refine (isFraction_any _ _ _).mono ?_; rintro e w' ⟨rfl, hb⟩; (try replace hb := aft2 hb (by assumption)); obtain ⟨hc, hf, hs1, hs2, hs3, hs4⟩ := aftz hb) | (go_at_call 66; refine (inside_any _ _ _ _).mono ?_; rintro e w' ⟨rfl, rfl⟩; rw [hn]))
      refine (hrt _).mono ?_; rintro ee w1 ⟨rfl, hb1⟩
      replace hb1 := aft2 hb1 (by assumption)
      obtain ⟨hc1, hf1, hq1, hq2, hq3, hq4⟩ := aftz hb1
      go_wp2_with (go_at_call 102; refine (hcv _).mono ?_; rintro e w' ⟨rfl, hb⟩; (try replace hb := aft2 hb (by assumption)); obtain ⟨hc, hf, hs1, hs2, hs3, hs4⟩ := aftz hb)
      refine (hrv _).mono ?_; rintro ee w2 ⟨rfl, hb2⟩
      replace hb2 := aft2 hb2 (by assumption)
      obtain ⟨hc2, hf2, hr1, hr2, hr3, hr4⟩ := aftz hb2
      go_wp2_with fail
      refine bodyPost_ret (by simp (maxDischargeDepth := 3) [results, Tryz.results41, go_sem, *]; try rfl) rfl ?_
      exact ⟨_, rfl, (by repeat (first | exact Below.refl _ _ | (with_reducible assumption) | refine bel_alloc ?_ _ | refine bel_drew ?_ | refine bel_drewN ?_ _ | refine Below.setCell ?_ (by dsimp only; omega) _ | refine bel_trans (by assumption) ?_)), ownP_lit _ _ 1 [n, 0, k] (by have := hb2.size; simp at this ⊢; omega) rfl (by simp [maxLen])⟩
    | two q q0 h =>
      have hrv := fun w => exactRoot_any (valI a b n k) q w (by rw [← h]; exact Int.mul_nonneg (by omega) (by omega)) (by omega) (by omega) (by omega) (by rw [← h]; exact sq_succ_lt (by omega))
      simp only [if_pos h] at hrv
      have qb : q < 2000000 := sq_lt (by omega) (by omega) (by omega)
      generalize valI a b n k = v at *
      have hq0 : (q == 0) = false := by simp; omega
      clear h hvb
      go_enter Tryz.func41, Tryz.ntmps41
      go_wp2_with (first | (go_at_call 93; refine (isCurve_any _ _ _).mono ?_; rintro e w' ⟨rfl, hb⟩; (try replace hb := aft2 hb (by assumption)); obtain ⟨hc, hf, hs1, hs2, hs3, hs4⟩ := aftz hb) | (go_at_call 100; refine (isFraction_any _ _ _).mono ?_; rintro e w' ⟨rfl, hb⟩; (try replace hb := aft2 hb (by assumption)); obtain ⟨hc, hf, hs1, hs2, hs3, hs4⟩ := aftz hb) | (go_at_call 66; refine (inside_any _ _ _ _).mono ?_; rintro e w' ⟨rfl, rfl⟩; rw [hn]))
      refine (hrt _).mono ?_; rintro ee w1 ⟨rfl, hb1⟩
      replace hb1 := aft2 hb1 (by assumption)
      obtain ⟨hc1, hf1, hq1, hq2, hq3, hq4⟩ := aftz hb1
      go_wp2_with (go_at_call 102; refine (hcv _).mono ?_; rintro e w' ⟨rfl, hb⟩; (try replace hb := aft2 hb (by assumption)); obtain ⟨hc, hf, hs1, hs2, hs3, hs4⟩ := aftz hb)
      refine (hrv _).mono ?_; rintro ee w2 ⟨rfl, hb2⟩
      replace hb2 := aft2 hb2 (by assumption)
      obtain ⟨hc2, hf2, hr1, hr2, hr3, hr4⟩ := aftz hb2
      go_wp2_with fail
      refine bodyPost_ret (by simp (maxDischargeDepth := 3) [results, Tryz.results41, go_sem, *]; try rfl) rfl ?_
      exact ⟨_, rfl, (by repeat (first | exact Below.refl _ _ | (with_reducible assumption) | refine bel_alloc ?_ _ | refine bel_drew ?_ | refine bel_drewN ?_ _ | refine Below.setCell ?_ (by dsimp only; omega) _ | refine bel_trans (by assumption) ?_)), ownP_lit _ _ 2 [n, -q, k, n, q, k] (by have := hb2.size; simp at this ⊢; omega) rfl (by simp [maxLen])⟩
theorem iPointsAtX_any (a b n d : Int) (w : World) :
    Calls Tryz.prog 41 #[.agg #[.int .i64 a, .int .i64 b], .agg #[.int .i64 n, .int .i64 d]] w (RetPx (atxV a b n d) (atxB a b n d) w) := pxI (atx_is a b n d) w
set_option maxHeartbeats 4000000 in
theorem ptAtX_any {a b n k : Int} {l : List Int} (h : AtX a b n k l) (w : World) (c1 : -1000 ≤ a) (c2 : a ≤ 1000) (c3 : -10000 ≤ b) (c4 : b ≤ 10000) (x0 : -10000 ≤ n) (x1 : n ≤ 10000) (k0 : 0 ≤ k) (k1 : k ≤ 20) :
    Calls Tryz.prog 106 #[.agg #[.int .i64 a, .int .i64 b], .int .i64 n, .int .i64 k] w (fun e w' => ∃ v, e = .returned v ∧ Below w.heap.size w w' ∧ OwnP w' w.heap.size v l) := by
  have hcv := fun w => ptValue_any a b n k w c1 c2 c3 c4 x0 x1 (by omega) (by omega)
  have hvb := val_bd (e := k) c1 c2 c3 c4 x0 x1 (by omega) (by omega)
  cases h with
  | neg h =>
    generalize valI a b n k = v at *
    go_enter Tryz.func106, Tryz.ntmps106
    go_wp2_with (go_at_call 143; refine (hcv _).mono ?_; rintro e w' ⟨rfl, hb⟩; (try replace hb := aft2 hb (by assumption)); obtain ⟨hc, hf, hs1, hs2, hs3, hs4⟩ := aftz hb)
    go_ret
    exact ⟨_, rfl, (by repeat (first | exact Below.refl _ _ | (with_reducible assumption) | refine bel_alloc ?_ _ | refine bel_drew ?_ | refine bel_drewN ?_ _ | refine Below.setCell ?_ (by dsimp only; omega) _ | refine bel_trans (by assumption) ?_)), OwnP.nil _ _⟩
  | no q h q0 q1 q2 q3 =>
    have hsq := fun w => frSquare_any (valI a b n k) q w h (by omega) q0 q1 q2
    have hqb : (q * q == valI a b n k) = false := by simp [q3]
    rw [hqb] at hsq
    generalize valI a b n k = v at *
    clear q1 q2 q3
    go_enter Tryz.func106, Tryz.ntmps106
    go_wp2_with (first | (go_at_call 143; refine (hcv _).mono ?_; rintro e w' ⟨rfl, hb⟩; (try replace hb := aft2 hb (by assumption)); obtain ⟨hc, hf, hs1, hs2, hs3, hs4⟩ := aftz hb) | (go_at_call 104; refine (hsq _).mono ?_; rintro e w' ⟨rfl, hb⟩; (try replace hb := aft2 hb (by assumption)); obtain ⟨hc, hf, hs1, hs2, hs3, hs4⟩ := aftz hb))
    go_ret
    exact ⟨_, rfl, (by repeat (first | exact Below.refl _ _ | (with_reducible assumption) | refine bel_alloc ?_ _ | refine bel_drew ?_ | refine bel_drewN ?_ _ | refine Below.setCell ?_ (by dsimp only; omega) _ | refine bel_trans (by assumption) ?_)), OwnP.nil _ _⟩
  | zero h =>
    rw [h] at hcv
    have hsq := fun w => frSquare_any 0 0 w (by omega) (by omega) (by omega) (by omega) (by omega)
    rw [show ((0 : Int) * 0 == 0) = true by rfl] at hsq
    clear hvb h
    go_enter Tryz.func106, Tryz.ntmps106
    go_wp2_with (first | (go_at_call 143; refine (hcv _).mono ?_; rintro e w' ⟨rfl, hb⟩; (try replace hb := aft2 hb (by assumption)); obtain ⟨hc, hf, hs1, hs2, hs3, hs4⟩ := aftz hb) | (go_at_call 104; refine (hsq _).mono ?_; rintro e w' ⟨rfl, hb⟩; (try replace hb := aft2 hb (by assumption)); obtain ⟨hc, hf, hs1, hs2, hs3, hs4⟩ := aftz hb))
    go_ret
    exact ⟨_, rfl, (by repeat (first | exact Below.refl _ _ | (with_reducible assumption) | refine bel_alloc ?_ _ | refine bel_drew ?_ | refine bel_drewN ?_ _ | refine Below.setCell ?_ (by dsimp only; omega) _ | refine bel_trans (by assumption) ?_)), ownP_lit _ _ 1 [n, 0, k] (by have := hb.size; simp at this ⊢; omega) rfl (by simp [maxLen])⟩
  | two q q0 h =>
    have hv0 : 0 ≤ valI a b n k := by rw [← h]; exact Int.mul_nonneg (by omega) (by omega)
    have hsl : valI a b n k < (q + 1) * (q + 1) := by rw [← h]; exact sq_succ_lt (by omega)
    have hsq := fun w => frSquare_any (valI a b n k) q w hv0 (by omega) (by omega) (by omega) hsl
    have hrt := fun w => frRoot_any (valI a b n k) q w hv0 (by omega) (by omega) (by omega) hsl
    have hqb : (q * q == valI a b n k) = true := by simp [h]
    rw [hqb] at hsq
    have qb : q < 2000000 := sq_lt (by omega) (by omega) (by omega)
    have hvn : 0 < valI a b n k := by rw [← h]; exact Int.mul_pos (by omega) (by omega)
    generalize valI a b n k = v at *
    have hv0 : (v == 0) = false := by simp; omega
    clear h hsl hqb
    go_enter Tryz.func106, Tryz.ntmps106
    go_wp2_with (first | (go_at_call 143; refine (hcv _).mono ?_; rintro e w' ⟨rfl, hb⟩; (try replace hb := aft2 hb (by assumption)); obtain ⟨hc, hf, hs1, hs2, hs3, hs4⟩ := aftz hb) | (go_at_call 104; refine (hsq _).mono ?_; rintro e w' ⟨rfl, hb⟩; (try replace hb := aft2 hb (by assumption)); obtain ⟨hc, hf, hs1, hs2, hs3, hs4⟩ := aftz hb) | (go_at_call 105; refine (hrt _).mono ?_; rintro e w' ⟨rfl, hb⟩; (try replace hb := aft2 hb (by assumption)); obtain ⟨hc, hf, hs1, hs2, hs3, hs4⟩ := aftz hb))
    go_ret
    exact ⟨_, rfl, (by repeat (first | exact Below.refl _ _ | (with_reducible assumption) | refine bel_alloc ?_ _ | refine bel_drew ?_ | refine bel_drewN ?_ _ | refine Below.setCell ?_ (by dsimp only; omega) _ | refine bel_trans (by assumption) ?_)), ownP_lit _ _ 2 [n, -q, k, n, q, k] (by have := hb.size; simp at this ⊢; omega) rfl (by simp [maxLen])⟩
set_option maxHeartbeats 4000000 in
theorem pxS {a b n d : Int} {l : List Int} {ok : Bool} (h : PxIs a b n d l ok) (w : World) :
    Calls Tryz.prog 42 #[.agg #[.int .i64 a, .int .i64 b], .agg #[.int .i64 n, .int .i64 d]] w (RetPx l ok w) := by
  cases hc : curveB a b
  · have hl : l = [] ∧ ok = false := by
      cases h with
      | bad => exact ⟨rfl, rfl⟩
      | root => exact ⟨rfl, rfl⟩
      | good _ _ h => rw [hc] at h; cases h
    obtain ⟨rfl, rfl⟩ := hl
    clear h
    go_enter Tryz.func42, Tryz.ntmps42
    go_wp2_with (go_at_call 95; refine (ecGood_any _ _ _).mono ?_; rintro e w' ⟨rfl, hb⟩; (try replace hb := aft2 hb (by assumption)); obtain ⟨hc, hf, hs1, hs2, hs3, hs4⟩ := aftz hb)
    refine bodyPost_ret (by simp (maxDischargeDepth := 3) [results, Tryz.results42, go_sem, *]; try rfl) rfl ?_
    exact retPx_nil (by repeat (first | exact Below.refl _ _ | (with_reducible assumption) | refine bel_alloc ?_ _ | refine bel_drew ?_ | refine bel_drewN ?_ _ | refine Below.setCell ?_ (by dsimp only; omega) _ | refine bel_trans (by assumption) ?_))
  cases hfr : fracB n d
  · have hl : l = [] ∧ ok = false := by
      cases h with
      | bad => exact ⟨rfl, rfl⟩
      | root => exact ⟨rfl, rfl⟩
      | good _ _ _ h => rw [hfr] at h; cases h
    obtain ⟨rfl, rfl⟩ := hl
    clear h
    go_enter Tryz.func42, Tryz.ntmps42
    go_wp2_with (first | (go_at_call 95; refine (ecGood_any _ _ _).mono ?_; rintro e w' ⟨rfl, hb⟩; (try replace hb := aft2 hb (by assumption)); obtain ⟨hc, hf, hs1, hs2, hs3, hs4⟩ := aftz hb) | (go_at_call 103; refine (frGood_any _ _ _).mono ?_; rintro e w' ⟨rfl, hb⟩; (try replace hb := aft2 hb (by assumption)); obtain ⟨hc, hf, hs1, hs2, hs3, hs4⟩ := aftz hb))
    refine bodyPost_ret (by simp (maxDischargeDepth := 3) [results, Tryz.results42, go_sem, *]; try rfl) rfl ?_
    exact retPx_nil (by repeat (first | exact Below.refl _ _ | (with_reducible assumption) | refine bel_alloc ?_ _ | refine bel_drew ?_ | refine bel_drewN ?_ _ | refine Below.setCell ?_ (by dsimp only; omega) _ | refine bel_trans (by assumption) ?_))
  obtain ⟨d1, d2, _⟩ := frac_bd hfr
  obtain ⟨r, r0, r1, r2⟩ := root_exI (n := d) (by omega)
  have hsq := fun w => frSquare_any d r w (by omega) (by omega) r0 r1 r2
  have hrt := fun w => frRoot_any d r w (by omega) (by omega) r0 r1 r2
  have rb : r < 100000 := sq_lt r0 (by omega) (by omega)
  by_cases hr : r * r = d
  · have hrb : (r * r == d) = true := by simp [hr]
    rw [hrb] at hsq
    by_cases hr20 : r ≤ 20
    · cases hn : inB n (-10000) 10000
      · have hl : l = [] ∧ ok = false := by
          cases h with
          | bad => exact ⟨rfl, rfl⟩
          | root => exact ⟨rfl, rfl⟩
          | good _ _ _ _ h => rw [hn] at h; cases h
        obtain ⟨rfl, rfl⟩ := hl
        clear h hrb hr r1 r2
        go_enter Tryz.func42, Tryz.ntmps42
        go_wp2_with (first | (go_at_call 95; refine (ecGood_any _ _ _).mono ?_; rintro e w' ⟨rfl, hb⟩; (try replace hb := aft2 hb (by assumption)); obtain ⟨hc, hf, hs1, hs2, hs3, hs4⟩ := aftz hb) | (go_at_call 103; refine (frGood_any _ _ _).mono ?_; rintro e w' ⟨rfl, hb⟩; (try replace hb := aft2 hb (by assumption)); obtain ⟨hc, hf, hs1, hs2, hs3, hs4⟩ := aftz hb) | (go_at_call 68; refine (l1In_known hn _).mono ?_; rintro e w' ⟨rfl, rfl⟩) | (go_at_call 104; refine (hsq _).mono ?_; rintro e w' ⟨rfl, hb⟩; (try replace hb := aft2 hb (by assumption)); obtain ⟨hc, hf, hs1, hs2, hs3, hs4⟩ := aftz hb) | (go_at_call 105; refine (hrt _).mono ?_; rintro e w' ⟨rfl, hb⟩; (try replace hb := aft2 hb (by assumption)); obtain ⟨hc, hf, hs1, hs2, hs3, hs4⟩ := aftz hb))
        refine bodyPost_ret (by simp (maxDischargeDepth := 3) [results, Tryz.results42, go_sem, *]; try rfl) rfl ?_
        exact retPx_nil (by repeat (first | exact Below.refl _ _ | (with_reducible assumption) | refine bel_alloc ?_ _ | refine bel_drew ?_ | refine bel_drewN ?_ _ | refine Below.setCell ?_ (by dsimp only; omega) _ | refine bel_trans (by assumption) ?_))
      · have hl : ok = true ∧ AtX a b n r l := by
          cases h with
          | bad h => rcases h with h | h | h
                     · rw [hc] at h; cases h
                     · rw [hfr] at h; cases h
                     · rw [hn] at h; cases h
          | root k _ _ _ k0 k1 k2 k3 =>
            have := sq_unique r0 k0 r1 r2 k1 k2
            subst this
            exact absurd ⟨hr, hr20⟩ k3
          | good k l _ _ _ k0 k1 k2 k3 =>
            have : r = k := sq_unique r0 (by omega) r1 r2 (by omega) (by rw [← k1]; exact sq_succ_lt (by omega))
            subst this
            exact ⟨rfl, k3⟩
        obtain ⟨rfl, hl⟩ := hl
        obtain ⟨x0, x1⟩ := inB_true.1 hn
        obtain ⟨c1, c2, c3, c4, _⟩ := curveB_true.1 hc
        have hat := fun w => ptAtX_any hl w c1 c2 c3 c4 x0 x1 r0 hr20
        clear h hl hrb hr r1 r2
        go_enter Tryz.func42, Tryz.ntmps42
        go_wp2_with (first | (go_at_call 95; refine (ecGood_any _ _ _).mono ?_; rintro e w' ⟨rfl, hb⟩; (try replace hb := aft2 hb (by assumption)); obtain ⟨hc, hf, hs1, hs2, hs3, hs4⟩ := aftz hb) | (go_at_call 103; refine (frGood_any _ _ _).mono ?_; rintro e w' ⟨rfl, hb⟩; (try replace hb := aft2 hb (by assumption)); obtain ⟨hc, hf, hs1, hs2, hs3, hs4⟩ := aftz hb) | (go_at_call 68; refine (l1In_known hn _).mono ?_; rintro e w' ⟨rfl, rfl⟩) | (go_at_call 104; refine (hsq _).mono ?_; rintro e w' ⟨rfl, hb⟩; (try replace hb := aft2 hb (by assumption)); obtain ⟨hc, hf, hs1, hs2, hs3, hs4⟩ := aftz hb) | (go_at_call 105; refine (hrt _).mono ?_; rintro e w' ⟨rfl, hb⟩; (try replace hb := aft2 hb (by assumption)); obtain ⟨hc, hf, hs1, hs2, hs3, hs4⟩ := aftz hb) | (go_at_call 106; refine (hat _).mono ?_; rintro e wx ⟨v, rfl, hbx, hox⟩))
        refine bodyPost_ret (by simp (maxDischargeDepth := 3) [results, Tryz.results42, go_sem, *]; try rfl) rfl ?_
        exact ⟨_, rfl, bel_trans hbx (by repeat (first | exact Below.refl _ _ | (with_reducible assumption) | refine bel_alloc ?_ _ | refine bel_drew ?_ | refine bel_drewN ?_ _ | refine Below.setCell ?_ (by dsimp only; omega) _ | refine bel_trans (by assumption) ?_)), hox.le (by have := hb.size; simp at this ⊢; omega)⟩
    · have hl : l = [] ∧ ok = false := by
        cases h with
        | bad => exact ⟨rfl, rfl⟩
        | root => exact ⟨rfl, rfl⟩
        | good k l _ _ _ k0 k1 k2 k3 =>
          have : r = k := sq_unique r0 (by omega) r1 r2 (by omega) (by rw [← k1]; exact sq_succ_lt (by omega))
          subst this
          exact absurd k2 hr20
      obtain ⟨rfl, rfl⟩ := hl
      clear h hrb hr r1 r2
      go_enter Tryz.func42, Tryz.ntmps42
      go_wp2_with (first | (go_at_call 95; refine (ecGood_any _ _ _).mono ?_; rintro e w' ⟨rfl, hb⟩; (try replace hb := aft2 hb (by assumption)); obtain ⟨hc, hf, hs1, hs2, hs3, hs4⟩ := aftz hb) | (go_at_call 103; refine (frGood_any _ _ _).mono ?_; rintro e w' ⟨rfl, hb⟩; (try replace hb := aft2 hb (by assumption)); obtain ⟨hc, hf, hs1, hs2, hs3, hs4⟩ := aftz hb) | (go_at_call 104; refine (hsq _).mono ?_; rintro e w' ⟨rfl, hb⟩; (try replace hb := aft2 hb (by assumption)); obtain ⟨hc, hf, hs1, hs2, hs3, hs4⟩ := aftz hb) | (go_at_call 105; refine (hrt _).mono ?_; rintro e w' ⟨rfl, hb⟩; (try replace hb := aft2 hb (by assumption)); obtain ⟨hc, hf, hs1, hs2, hs3, hs4⟩ := aftz hb))
      refine bodyPost_ret (by simp (maxDischargeDepth := 3) [results, Tryz.results42, go_sem, *]; try rfl) rfl ?_
      exact retPx_nil (by repeat (first | exact Below.refl _ _ | (with_reducible assumption) | refine bel_alloc ?_ _ | refine bel_drew ?_ | refine bel_drewN ?_ _ | refine Below.setCell ?_ (by dsimp only; omega) _ | refine bel_trans (by assumption) ?_))
  · have hrb : (r * r == d) = false := by simp [hr]
    rw [hrb] at hsq
    have hl : l = [] ∧ ok = false := by
      cases h with
      | bad => exact ⟨rfl, rfl⟩
      | root => exact ⟨rfl, rfl⟩
      | good k l _ _ _ k0 k1 k2 k3 =>
        have : r = k := sq_unique r0 (by omega) r1 r2 (by omega) (by rw [← k1]; exact sq_succ_lt (by omega))
        subst this
        exact absurd k1 hr
    obtain ⟨rfl, rfl⟩ := hl
    clear h hrb hr r1 r2
    go_enter Tryz.func42, Tryz.ntmps42
    go_wp2_with (first | (go_at_call 95; refine (ecGood_any _ _ _).mono ?_; rintro e w' ⟨rfl, hb⟩; (try replace hb := aft2 hb (by assumption)); obtain ⟨hc, hf, hs1, hs2, hs3, hs4⟩ := aftz hb) | (go_at_call 103; refine (frGood_any _ _ _).mono ?_; rintro e w' ⟨rfl, hb⟩; (try replace hb := aft2 hb (by assumption)); obtain ⟨hc, hf, hs1, hs2, hs3, hs4⟩ := aftz hb) | (go_at_call 104; refine (hsq _).mono ?_; rintro e w' ⟨rfl, hb⟩; (try replace hb := aft2 hb (by assumption)); obtain ⟨hc, hf, hs1, hs2, hs3, hs4⟩ := aftz hb))
    refine bodyPost_ret (by simp (maxDischargeDepth := 3) [results, Tryz.results42, go_sem, *]; try rfl) rfl ?_
    exact retPx_nil (by repeat (first | exact Below.refl _ _ | (with_reducible assumption) | refine bel_alloc ?_ _ | refine bel_drew ?_ | refine bel_drewN ?_ _ | refine Below.setCell ?_ (by dsimp only; omega) _ | refine bel_trans (by assumption) ?_))
theorem sPointsAtX_any (a b n d : Int) (w : World) :
    Calls Tryz.prog 42 #[.agg #[.int .i64 a, .int .i64 b], .agg #[.int .i64 n, .int .i64 d]] w (RetPx (atxV a b n d) (atxB a b n d) w) := pxS (atx_is a b n d) w
end Go.Proofs.YtakilincclnpdaaGreatDoor
