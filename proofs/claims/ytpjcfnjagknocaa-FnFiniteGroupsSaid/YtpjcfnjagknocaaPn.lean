/- Pn: contracts: PointsModulo of both programs. No conditions. -/
import Derived.Test.YtpjcfnjagknocaaPm
import Derived.Test.YtpjcfnjagknocaaMs
import Derived.Test.YtpjcfnjagknocaaEc
namespace Go.Proofs.Ytpjcfnjagknocaa
open Go.RowKit

def RetSSB (xss : List (List Int)) (ok : Bool) (w : World) (e : Ending) (w' : World) : Prop := ∃ v, e = .returned (.tuple #[v, .bool ok]) ∧ Below w.heap.size w w' ∧ OwnSS w' w.heap.size v xss
theorem ptsN_two (a b : Int) (q : Nat) : ∀ k, ∀ r ∈ ptsN a b q k, r.length ≤ 2
  | 0, r, h => by simp [ptsN] at h
  | k + 1, r, h => by
    rw [ptsN] at h
    split at h
    · rcases List.mem_append.1 h with h | h
      · exact ptsN_two a b q k r h
      · rw [List.mem_singleton] at h; subst h; simp
    · exact ptsN_two a b q k r h
theorem ptsL_two (a b p : Int) : ∀ r ∈ ptsL a b p, r.length ≤ 2 := by
  intro r h
  unfold ptsL at h
  rcases List.mem_cons.1 h with h | h
  · subst h; simp
  · exact ptsN_two _ _ _ _ r h
theorem ptsL_len' {a b p : Int} (hp2 : p ≤ 199) : (ptsL a b p).length ≤ 50000 := by
  unfold ptsL
  have h1 := ptsN_len a b p.toNat (p.toNat * p.toNat)
  have h2 : p.toNat * p.toNat ≤ 199 * 199 := Nat.mul_le_mul (by omega) (by omega)
  rw [List.length_cons]
  omega
theorem totF_two {xss : List (List Int)} (h : ∀ r ∈ xss, r.length ≤ 2) : ∀ j, j ≤ xss.length → totF (fun j => xss.getD j []) j ≤ 2 * j
  | 0, _ => Nat.le_refl _
  | j + 1, hj => by
    have h1 := totF_two h j (by omega)
    have h2 : (xss.getD j []).length ≤ 2 := by
      rw [List.getD_eq_getElem?_getD, List.getElem?_eq_getElem (by omega)]
      exact h _ (List.getElem_mem (by omega))
    show totF (fun j => xss.getD j []) j + (xss.getD j []).length ≤ 2 * (j + 1)
    omega
noncomputable def pmX (a b p : Int) : List (List Int) := if smallB a b p = true then ptsL a b p else []
theorem pmX_bd (a b p : Int) : (pmX a b p).length ≤ 50000 ∧ totF (fun j => (pmX a b p).getD j []) (pmX a b p).length ≤ 100000 := by
  unfold pmX
  split
  · rename_i h
    obtain ⟨_, _, _, h2⟩ := small_bd h
    have h3 := ptsL_len' (a := a) (b := b) h2
    have h4 := totF_two (ptsL_two a b p) _ (Nat.le_refl _)
    exact ⟨h3, by omega⟩
  · exact ⟨by simp, by simp [totF]⟩
theorem iPointsModulo_any (a b p : Int) (w : World) :
    Calls Try.prog 23 #[.agg #[.int .i64 a, .int .i64 b], .int .i64 p] w (RetSSB (pmX a b p) (smallB a b p) w) := by
  cases hsm : smallB a b p
  · rw [show pmX a b p = [] by unfold pmX; rw [if_neg (by simp [hsm])]]
    go_enter Try.func23, Try.ntmps23
    go_wp2_with (go_at_call 77; refine (fieldFits_any _ _ _ _).mono ?_; rintro e w' ⟨rfl, hb⟩; (try replace hb := aft2 hb (by assumption)); obtain ⟨hc, hf, hs1, hs2, hs3, hs4⟩ := aftz hb)
    go_returns
    exact ⟨_, rfl, (by repeat (first | exact Below.refl _ _ | (with_reducible assumption) | refine bel_alloc ?_ _ | refine bel_drew ?_ | refine bel_drewN ?_ _ | refine Below.setCell ?_ (by dsimp only; omega) _ | refine bel_trans (by assumption) ?_)), OwnSS.nil _ _⟩
  · obtain ⟨hcur, _, p1, p2⟩ := small_bd hsm
    obtain ⟨h1, h2, h3, h4, _⟩ := curveB_true.1 hcur
    rw [show pmX a b p = ptsL a b p by unfold pmX; rw [if_pos hsm]]
    go_enter Try.func23, Try.ntmps23
    go_wp2_with (go_at_call 77; refine (fieldFits_any _ _ _ _).mono ?_; rintro e w' ⟨rfl, hb⟩; (try replace hb := aft2 hb (by assumption)); obtain ⟨hc, hf, hs1, hs2, hs3, hs4⟩ := aftz hb)
    refine (pointsModulo_any _ _ _ _ h1 h2 h3 h4 p1 p2).mono ?_; rintro e w2 ⟨v2, rfl, hb2, ho2⟩
    go_wp2_with fail
    go_returns
    exact ⟨_, rfl, (by repeat (first | exact Below.refl _ _ | (with_reducible assumption) | refine bel_alloc ?_ _ | refine bel_drew ?_ | refine bel_drewN ?_ _ | refine Below.setCell ?_ (by dsimp only; omega) _ | refine bel_trans (by assumption) ?_)), ho2.le (Below.size (by repeat (first | exact Below.refl _ _ | (with_reducible assumption) | refine bel_alloc ?_ _ | refine bel_drew ?_ | refine bel_drewN ?_ _ | refine Below.setCell ?_ (by dsimp only; omega) _ | refine bel_trans (by assumption) ?_)))⟩
theorem sPointsModulo_any (a b p : Int) (w : World) :
    Calls Try.prog 24 #[.agg #[.int .i64 a, .int .i64 b], .int .i64 p] w (RetSSB (pmX a b p) (smallB a b p) w) := by
  cases hsm : smallB a b p
  · rw [show pmX a b p = [] by unfold pmX; rw [if_neg (by simp [hsm])]]
    go_enter Try.func24, Try.ntmps24
    go_wp2_with (go_at_call 80; refine (fmSmall_any _ _ _ _).mono ?_; rintro e w' ⟨rfl, hb⟩; (try replace hb := aft2 hb (by assumption)); obtain ⟨hc, hf, hs1, hs2, hs3, hs4⟩ := aftz hb)
    go_returns
    exact ⟨_, rfl, (by repeat (first | exact Below.refl _ _ | (with_reducible assumption) | refine bel_alloc ?_ _ | refine bel_drew ?_ | refine bel_drewN ?_ _ | refine Below.setCell ?_ (by dsimp only; omega) _ | refine bel_trans (by assumption) ?_)), OwnSS.nil _ _⟩
  · obtain ⟨hcur, _, p1, p2⟩ := small_bd hsm
    obtain ⟨h1, h2, h3, h4, _⟩ := curveB_true.1 hcur
    rw [show pmX a b p = ptsL a b p by unfold pmX; rw [if_pos hsm]]
    go_enter Try.func24, Try.ntmps24
    go_wp2_with (go_at_call 80; refine (fmSmall_any _ _ _ _).mono ?_; rintro e w' ⟨rfl, hb⟩; (try replace hb := aft2 hb (by assumption)); obtain ⟨hc, hf, hs1, hs2, hs3, hs4⟩ := aftz hb)
    refine (fmPoints_any _ _ _ _ h1 h2 h3 h4 p1 p2).mono ?_; rintro e w2 ⟨v2, rfl, hb2, ho2⟩
    go_wp2_with fail
    go_returns
    exact ⟨_, rfl, (by repeat (first | exact Below.refl _ _ | (with_reducible assumption) | refine bel_alloc ?_ _ | refine bel_drew ?_ | refine bel_drewN ?_ _ | refine Below.setCell ?_ (by dsimp only; omega) _ | refine bel_trans (by assumption) ?_)), ho2.le (Below.size (by repeat (first | exact Below.refl _ _ | (with_reducible assumption) | refine bel_alloc ?_ _ | refine bel_drew ?_ | refine bel_drewN ?_ _ | refine Below.setCell ?_ (by dsimp only; omega) _ | refine bel_trans (by assumption) ?_)))⟩
end Go.Proofs.Ytpjcfnjagknocaa
