/- Od: contracts: the order of a point modulo a prime. No conditions. -/
import Derived.Test.YtpjcfnjagknocaaOr
namespace Go.Proofs.Ytpjcfnjagknocaa
open Go.RowKit

structure OdSt (a b p : Int) (B0 : Nat) (v : Value) (s : List Int) (k : Nat) (vs : Value) (wr : World) : Prop where
  ca : wr.cell? ⟨B0, 0, none⟩ = some (.int .i64 a)
  cb : wr.cell? ⟨B0, 1, none⟩ = some (.int .i64 b)
  hB : B0 < wr.heap.size
  hs : Rd wr v s
  ht : Rd wr vs (seqI a p s k)
  hn : NilZ vs
theorem OdSt.keep {a b p : Int} {B0 k : Nat} {v vs : Value} {s : List Int} {w w' : World} (h : OdSt a b p B0 v s k vs w) (hb : Below w.heap.size w w') : OdSt a b p B0 v s k vs w' :=
  ⟨(hb.cell (p := ⟨B0, 0, none⟩) h.hB).trans h.ca, (hb.cell (p := ⟨B0, 1, none⟩) h.hB).trans h.cb, Nat.lt_of_lt_of_le h.hB hb.size, h.hs.keep hb, h.ht.keep hb, h.hn⟩
set_option maxHeartbeats 2000000 in
theorem orderModulo_any (a b p : Int) (K : Nat) (v : Value) (s : List Int) (w : World) (hrd : Rd w v s) (hn : NilZ v) (hs : onF a b p s = true) (h1 : -1000 ≤ a) (h2 : a ≤ 1000) (hp : p5B p = true) (hK : IsOrd a p s K) :
    Calls Try.prog 79 #[.agg #[.int .i64 a, .int .i64 b], .int .i64 p, v] w (Ret (.int .i64 K) w) := by
  have hst0 : OdSt a b p w.heap.size v s 1 v (w.alloc (.cells #[.int .i64 a, .int .i64 b] 39)) :=
    ⟨by simp [go_sem], by simp [go_sem], by simp, hrd.keep (below_alloc _ _), by show Rd _ v (addI a p [] s); rw [addI_nil]; exact hrd.keep (below_alloc _ _), hn⟩
  clear hrd
  have HST := Lib.hid hst0; clear hst0
  obtain ⟨k1, k2, k3, k4⟩ := hK
  have K3 := Lib.hid k3; clear k3
  have K4 : True → ∀ j, 1 ≤ j → j < K → seqI a p s j ≠ [] := fun _ => k4
  clear k4
  obtain ⟨B0, hB0⟩ : ∃ B0, w.heap.size = B0 := ⟨_, rfl⟩
  go_enter Try.func79, Try.ntmps79
  go_wp2_with fail
  go_loopw [7, 8] (fun x vs wr => ∃ (k : Nat), x = .int .i64 k ∧ 1 ≤ k ∧ k ≤ K ∧ Below w.heap.size w wr ∧ Hid (OdSt a b p w.heap.size v s k vs wr)) (fun x _ _ => K - (intOf x).toNat)
  case atStart => exact ⟨1, rfl, by omega, by omega, (by repeat (first | exact Below.refl _ _ | (with_reducible assumption) | refine bel_alloc ?_ _ | refine bel_drew ?_ | refine bel_drewN ?_ _ | refine Below.setCell ?_ (by dsimp only; omega) _ | refine bel_trans (by assumption) ?_)), HST⟩
  case round =>
    obtain ⟨k, rfl, hk, hkK, hbel, HS⟩ := hrel
    by_cases hz : k = K
    · subst hz
      have hnil : Rd wr u8 [] := by
        have h := HS.out.ht
        rw [K3.out] at h; exact h
      obtain ⟨ad, cap, rfl⟩ := RdNil hnil
      clear HS hnil
      go_wp2_with fail
      go_ret
      exact ret_eq rfl hbel
    · have hne := K4 trivial k hk (by omega)
      have hon := on_seq hp hs k
      rcases onF_cases hon with h | ⟨x0, y0, hxy, _⟩
      · exact absurd h hne
      · have HX := Lib.hid hxy
        have htwo : Rd wr u8 [x0, y0] := by have h := HS.out.ht; rw [hxy] at h; exact h
        clear hxy hne
        obtain ⟨ad, cap, rfl⟩ := RdTwo htwo
        clear htwo
        have HON := Lib.hid hon; clear hon
        have ca := HS.out.ca
        have cb := HS.out.cb
        (try rw [hB0] at ca cb)
        have hkb : (k : Int) ≤ 1000000 := by omega
        obtain ⟨ki, hki⟩ : ∃ ki : Int, (k : Int) = ki := ⟨_, rfl⟩
        rw [hki] at hkb ⊢
        have hk0 : 0 ≤ ki := by omega
        have HKI := Lib.hid hki; clear hki
        go_wp2_with fail
        refine (addModulo_any a b p _ _ (seqI a p s k) s _ HS.out.ht HS.out.hs HS.out.hn hn HON.out hs h1 h2 hp).mono ?_; rintro e w2 ⟨v2, rfl, hb2, ho2⟩
        have HS2 := Lib.hid (HS.out.keep hb2)
        go_wp2_with fail
        go_roundw
        case rel => exact ⟨k + 1, by rw [← HKI.out]; rfl, by omega, by omega, bel_trans hb2 hbel, ⟨HS2.out.ca, HS2.out.cb, HS2.out.hB, HS2.out.hs, ho2.rd, ho2.nilz⟩⟩
        case measure => have := HKI.out; simp only [intOf]; omega
set_option maxHeartbeats 2000000 in
theorem fmOrder_any (a b p : Int) (K : Nat) (v : Value) (s : List Int) (w : World) (hrd : Rd w v s) (hn : NilZ v) (hs : onF a b p s = true) (h1 : -1000 ≤ a) (h2 : a ≤ 1000) (hp : p5B p = true) (hK : IsOrd a p s K) :
    Calls Try.prog 95 #[.agg #[.int .i64 a, .int .i64 b], .int .i64 p, v] w (Ret (.int .i64 K) w) := by
  have hst0 : OdSt a b p w.heap.size v s 1 v (w.alloc (.cells #[.int .i64 a, .int .i64 b] 39)) :=
    ⟨by simp [go_sem], by simp [go_sem], by simp, hrd.keep (below_alloc _ _), by show Rd _ v (addI a p [] s); rw [addI_nil]; exact hrd.keep (below_alloc _ _), hn⟩
  clear hrd
  have HST := Lib.hid hst0; clear hst0
  obtain ⟨k1, k2, k3, k4⟩ := hK
  have K3 := Lib.hid k3; clear k3
  have K4 : True → ∀ j, 1 ≤ j → j < K → seqI a p s j ≠ [] := fun _ => k4
  clear k4
  obtain ⟨B0, hB0⟩ : ∃ B0, w.heap.size = B0 := ⟨_, rfl⟩
  go_enter Try.func95, Try.ntmps95
  go_wp2_with fail
  go_loopw [7, 8] (fun x vs wr => ∃ (k : Nat), x = .int .i64 k ∧ 1 ≤ k ∧ k ≤ K ∧ Below w.heap.size w wr ∧ Hid (OdSt a b p w.heap.size v s k vs wr)) (fun x _ _ => K - (intOf x).toNat)
  case atStart => exact ⟨1, rfl, by omega, by omega, (by repeat (first | exact Below.refl _ _ | (with_reducible assumption) | refine bel_alloc ?_ _ | refine bel_drew ?_ | refine bel_drewN ?_ _ | refine Below.setCell ?_ (by dsimp only; omega) _ | refine bel_trans (by assumption) ?_)), HST⟩
  case round =>
    obtain ⟨k, rfl, hk, hkK, hbel, HS⟩ := hrel
    by_cases hz : k = K
    · subst hz
      have hnil : Rd wr u8 [] := by
        have h := HS.out.ht
        rw [K3.out] at h; exact h
      obtain ⟨ad, cap, rfl⟩ := RdNil hnil
      clear HS hnil
      go_wp2_with fail
      go_ret
      exact ret_eq rfl hbel
    · have hne := K4 trivial k hk (by omega)
      have hon := on_seq hp hs k
      rcases onF_cases hon with h | ⟨x0, y0, hxy, _⟩
      · exact absurd h hne
      · have HX := Lib.hid hxy
        have htwo : Rd wr u8 [x0, y0] := by have h := HS.out.ht; rw [hxy] at h; exact h
        clear hxy hne
        obtain ⟨ad, cap, rfl⟩ := RdTwo htwo
        clear htwo
        have HON := Lib.hid hon; clear hon
        have ca := HS.out.ca
        have cb := HS.out.cb
        (try rw [hB0] at ca cb)
        have hkb : (k : Int) ≤ 1000000 := by omega
        obtain ⟨ki, hki⟩ : ∃ ki : Int, (k : Int) = ki := ⟨_, rfl⟩
        rw [hki] at hkb ⊢
        have hk0 : 0 ≤ ki := by omega
        have HKI := Lib.hid hki; clear hki
        go_wp2_with fail
        refine (fmAdd_any a b p _ _ (seqI a p s k) s _ HS.out.ht HS.out.hs HS.out.hn hn HON.out hs h1 h2 hp).mono ?_; rintro e w2 ⟨v2, rfl, hb2, ho2⟩
        have HS2 := Lib.hid (HS.out.keep hb2)
        go_wp2_with fail
        go_roundw
        case rel => exact ⟨k + 1, by rw [← HKI.out]; rfl, by omega, by omega, bel_trans hb2 hbel, ⟨HS2.out.ca, HS2.out.cb, HS2.out.hB, HS2.out.hs, ho2.rd, ho2.nilz⟩⟩
        case measure => have := HKI.out; simp only [intOf]; omega
theorem small_disc {a b p : Int} (h : smallB a b p = true) : discI a b % p ≠ 0 := by
  obtain ⟨_, hg, _, _⟩ := small_bd h
  unfold goodB at hg
  rw [Bool.and_eq_true] at hg
  simpa using hg.2
/-- what the order's asking returns. -/
noncomputable def ordV (a b p : Int) (s : List Int) : Value := by
  classical
  exact if h : askB a b p s = true then .tuple #[.int .i64 ((ord_ex (small_p5 (by unfold askB at h; rw [Bool.and_eq_true] at h; exact h.1)) (small_disc (by unfold askB at h; rw [Bool.and_eq_true] at h; exact h.1)) (by unfold askB at h; rw [Bool.and_eq_true] at h; exact h.2) : ∃ K, IsOrd a p s K).choose : Nat), .bool true] else .tuple #[.int .i64 0, .bool false]
theorem ordV_no {a b p : Int} {s : List Int} (h : askB a b p s = false) : ordV a b p s = .tuple #[.int .i64 0, .bool false] := by
  unfold ordV; rw [dif_neg (by simp [h])]
theorem ordV_yes {a b p : Int} {s : List Int} (h : askB a b p s = true) : ∃ K, IsOrd a p s K ∧ ordV a b p s = .tuple #[.int .i64 (K : Nat), .bool true] := by
  have h' := h
  unfold askB at h'
  rw [Bool.and_eq_true] at h'
  have hex := ord_ex (small_p5 h'.1) (small_disc h'.1) h'.2
  refine ⟨hex.choose, hex.choose_spec, ?_⟩
  unfold ordV; rw [dif_pos h]
theorem iOrderModulo_any (a b p : Int) (v : Value) (s : List Int) (w : World) (hrd : Rd w v s) (hn : NilZ v) :
    Calls Try.prog 33 #[.agg #[.int .i64 a, .int .i64 b], .int .i64 p, v] w (Ret (ordV a b p s) w) := by
  have hask : askB a b p s = (smallB a b p && onF a b p s) := rfl
  cases hsm : smallB a b p
  · rw [ordV_no (by rw [hask, hsm]; rfl)]
    go_enter Try.func33, Try.ntmps33
    go_wp2_with (go_at_call 77; refine (fieldFits_any _ _ _ _).mono ?_; rintro e w' ⟨rfl, hb⟩; (try replace hb := aft2 hb (by assumption)); obtain ⟨hc, hf, hs1, hs2, hs3, hs4⟩ := aftz hb)
    go_returns
    exact ret_mk (by repeat (first | exact Below.refl _ _ | (with_reducible assumption) | refine bel_alloc ?_ _ | refine bel_drew ?_ | refine bel_drewN ?_ _ | refine Below.setCell ?_ (by dsimp only; omega) _ | refine bel_trans (by assumption) ?_))
  · obtain ⟨hcur, _, p1, p2⟩ := small_bd hsm
    have hp5 := small_p5 hsm
    obtain ⟨h1, h2, h3, h4, _⟩ := curveB_true.1 hcur
    cases hon : onF a b p s
    · rw [ordV_no (by rw [hask, hsm, hon]; rfl)]
      go_enter Try.func33, Try.ntmps33
      go_wp2_with (go_at_call 77; refine (fieldFits_any _ _ _ _).mono ?_; rintro e w' ⟨rfl, hb⟩; (try replace hb := aft2 hb (by assumption)); obtain ⟨hc, hf, hs1, hs2, hs3, hs4⟩ := aftz hb)
      refine (onField_any _ _ _ v s _ (hrd.keep (by repeat (first | exact Below.refl _ _ | (with_reducible assumption) | refine bel_alloc ?_ _ | refine bel_drew ?_ | refine bel_drewN ?_ _ | refine Below.setCell ?_ (by dsimp only; omega) _ | refine bel_trans (by assumption) ?_))) h1 h2 h3 h4 (by omega) (by omega)).mono ?_; rintro e w2 ⟨rfl, hb2⟩
      rw [hon]
      go_wp2_with fail
      go_returns
      exact ret_mk (by repeat (first | exact Below.refl _ _ | (with_reducible assumption) | refine bel_alloc ?_ _ | refine bel_drew ?_ | refine bel_drewN ?_ _ | refine Below.setCell ?_ (by dsimp only; omega) _ | refine bel_trans (by assumption) ?_))
    · obtain ⟨K, hK, hv⟩ := ordV_yes (a := a) (b := b) (p := p) (s := s) (by rw [hask, hsm, hon]; rfl)
      rw [hv]; clear hv
      go_enter Try.func33, Try.ntmps33
      go_wp2_with (go_at_call 77; refine (fieldFits_any _ _ _ _).mono ?_; rintro e w' ⟨rfl, hb⟩; (try replace hb := aft2 hb (by assumption)); obtain ⟨hc, hf, hs1, hs2, hs3, hs4⟩ := aftz hb)
      refine (onField_any _ _ _ v s _ (hrd.keep (by repeat (first | exact Below.refl _ _ | (with_reducible assumption) | refine bel_alloc ?_ _ | refine bel_drew ?_ | refine bel_drewN ?_ _ | refine Below.setCell ?_ (by dsimp only; omega) _ | refine bel_trans (by assumption) ?_))) h1 h2 h3 h4 (by omega) (by omega)).mono ?_; rintro e w2 ⟨rfl, hb2⟩
      rw [hon]
      (try replace hb2 := aft2 hb2 (by assumption))
      obtain ⟨hc2, hf2⟩ := aft hb2
      go_wp2_with fail
      refine (orderModulo_any _ _ _ K v s _ (hrd.keep (by repeat (first | exact Below.refl _ _ | (with_reducible assumption) | refine bel_alloc ?_ _ | refine bel_drew ?_ | refine bel_drewN ?_ _ | refine Below.setCell ?_ (by dsimp only; omega) _ | refine bel_trans (by assumption) ?_))) hn hon h1 h2 hp5 hK).mono ?_; rintro e w3 ⟨rfl, hb3⟩
      go_wp2_with fail
      go_returns
      exact ret_mk (by repeat (first | exact Below.refl _ _ | (with_reducible assumption) | refine bel_alloc ?_ _ | refine bel_drew ?_ | refine bel_drewN ?_ _ | refine Below.setCell ?_ (by dsimp only; omega) _ | refine bel_trans (by assumption) ?_))
theorem sOrderModulo_any (a b p : Int) (v : Value) (s : List Int) (w : World) (hrd : Rd w v s) (hn : NilZ v) :
    Calls Try.prog 34 #[.agg #[.int .i64 a, .int .i64 b], .int .i64 p, v] w (Ret (ordV a b p s) w) := by
  cases hq : askB a b p s
  · rw [ordV_no hq]
    go_enter Try.func34, Try.ntmps34
    go_wp2_with fail
    refine (fmAsked_any _ _ _ v s _ (hrd.keep (by repeat (first | exact Below.refl _ _ | (with_reducible assumption) | refine bel_alloc ?_ _ | refine bel_drew ?_ | refine bel_drewN ?_ _ | refine Below.setCell ?_ (by dsimp only; omega) _ | refine bel_trans (by assumption) ?_)))).mono ?_; rintro e w1 ⟨rfl, hb1⟩
    rw [hq]
    go_wp2_with fail
    go_returns
    exact ret_mk (by repeat (first | exact Below.refl _ _ | (with_reducible assumption) | refine bel_alloc ?_ _ | refine bel_drew ?_ | refine bel_drewN ?_ _ | refine Below.setCell ?_ (by dsimp only; omega) _ | refine bel_trans (by assumption) ?_))
  · obtain ⟨K, hK, hv⟩ := ordV_yes hq
    have hq' := hq
    unfold askB at hq'
    rw [Bool.and_eq_true] at hq'
    obtain ⟨hsm, hon⟩ := hq'
    obtain ⟨hcur, _, p1, p2⟩ := small_bd hsm
    have hp5 := small_p5 hsm
    obtain ⟨h1, h2, h3, h4, _⟩ := curveB_true.1 hcur
    rw [hv]; clear hv
    go_enter Try.func34, Try.ntmps34
    go_wp2_with fail
    refine (fmAsked_any _ _ _ v s _ (hrd.keep (by repeat (first | exact Below.refl _ _ | (with_reducible assumption) | refine bel_alloc ?_ _ | refine bel_drew ?_ | refine bel_drewN ?_ _ | refine Below.setCell ?_ (by dsimp only; omega) _ | refine bel_trans (by assumption) ?_)))).mono ?_; rintro e w1 ⟨rfl, hb1⟩
    rw [hq]
    obtain ⟨hc1, hf1⟩ := aft hb1
    go_wp2_with fail
    refine (fmOrder_any _ _ _ K v s _ (hrd.keep (by repeat (first | exact Below.refl _ _ | (with_reducible assumption) | refine bel_alloc ?_ _ | refine bel_drew ?_ | refine bel_drewN ?_ _ | refine Below.setCell ?_ (by dsimp only; omega) _ | refine bel_trans (by assumption) ?_))) hn hon h1 h2 hp5 hK).mono ?_; rintro e w3 ⟨rfl, hb3⟩
    go_wp2_with fail
    go_returns
    exact ret_mk (by repeat (first | exact Below.refl _ _ | (with_reducible assumption) | refine bel_alloc ?_ _ | refine bel_drew ?_ | refine bel_drewN ?_ _ | refine Below.setCell ?_ (by dsimp only; omega) _ | refine bel_trans (by assumption) ?_))
end Go.Proofs.Ytpjcfnjagknocaa
