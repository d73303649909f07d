/- Ti: contracts: a multiple of a point modulo a prime. No conditions. -/
import Derived.Test.YtpjcfnjagknocaaAl
import Derived.Test.YtpjcfnjagknocaaEc
namespace Go.Proofs.Ytpjcfnjagknocaa
open Go.RowKit

/-- double and add. -/
def timI (a p : Int) (n : Nat) (out s : List Int) : List Int :=
  if h : n = 0 then out else timI a p (n / 2) (if n % 2 = 1 then addI a p out s else out) (addI a p s s)
termination_by n
decreasing_by omega
theorem timI_zero (a p : Int) (out s : List Int) : timI a p 0 out s = out := by rw [timI]; simp
theorem timI_odd (a p : Int) {n : Nat} (out s : List Int) (h : n % 2 = 1) : timI a p n out s = timI a p (n / 2) (addI a p out s) (addI a p s s) := by
  rw [timI, dif_neg (by omega), if_pos h]
theorem timI_even (a p : Int) {n : Nat} (out s : List Int) (h0 : n ≠ 0) (h : ¬ n % 2 = 1) : timI a p n out s = timI a p (n / 2) out (addI a p s s) := by
  rw [timI, dif_neg h0, if_neg h]
theorem on_nil (a b p : Int) : onF a b p [] = true := rfl
theorem on_neg {a b p : Int} {s : List Int} (hp : p5B p = true) (hs : onF a b p s = true) : onF a b p (negL p s) = true := by
  have hb := p5_bd hp
  rcases onF_cases hs with rfl | ⟨x, y, rfl, sa, sb, sc, sd, hsq⟩
  · rfl
  · refine on_pair sa sb (Int.emod_nonneg _ (by omega)) (Int.emod_lt_of_pos _ (by omega)) ?_
    rw [← hsq, ← Int.mul_emod, Int.neg_mul_neg]
theorem on_tim {a b p : Int} (hp : p5B p = true) : ∀ (n : Nat) (out s : List Int), onF a b p out = true → onF a b p s = true → onF a b p (timI a p n out s) = true := by
  intro n
  induction n using Nat.strongRecOn with
  | ind n ih =>
    intro out s ho hs
    by_cases h0 : n = 0
    · subst h0; rw [timI_zero]; exact ho
    · by_cases h1 : n % 2 = 1
      · rw [timI_odd a p out s h1]
        exact ih (n / 2) (by omega) _ _ (on_add hp ho hs) (on_add hp hs hs)
      · rw [timI_even a p out s h0 h1]
        exact ih (n / 2) (by omega) _ _ ho (on_add hp hs hs)
/-- a multiple. -/
def timesL (a p n : Int) (s : List Int) : List Int := timI a p n.natAbs [] (if n < 0 then negL p s else s)
/-- what the loop carries: the curve's cells, the two lists. -/
structure TiSt (a b p : Int) (B0 : Nat) (R : List Int) (base : Nat) (k : Nat) (out s : List Int) (vo vs : Value) (wr : World) : Prop where
  ca : wr.cell? ⟨B0, 0, none⟩ = some (.int .i64 a)
  cb : wr.cell? ⟨B0, 1, none⟩ = some (.int .i64 b)
  hB : B0 < wr.heap.size
  ho : Own wr base vo out
  hs : Rd wr vs s
  hn : NilZ vs
  oo : onF a b p out = true
  os : onF a b p s = true
  eq : timI a p k out s = R
theorem TiSt.keep {a b p : Int} {B0 : Nat} {R : List Int} {base k : Nat} {out s : List Int} {vo vs : Value} {w w' : World} (h : TiSt a b p B0 R base k out s vo vs w) (hb : Below w.heap.size w w') : TiSt a b p B0 R base k out s vo vs w' :=
  ⟨(hb.cell (p := ⟨B0, 0, none⟩) h.hB).trans h.ca, (hb.cell (p := ⟨B0, 1, none⟩) h.hB).trans h.cb, Nat.lt_of_lt_of_le h.hB hb.size, h.ho.keep hb, h.hs.keep hb, h.hn, h.oo, h.os, h.eq⟩
set_option maxHeartbeats 2000000 in
theorem fmTimes_any (a b p n : Int) (v : Value) (s : List Int) (w : World) (hrd : Rd w v s) (hn : NilZ v) (hs : onF a b p s = true) (h1 : -1000 ≤ a) (h2 : a ≤ 1000) (hp : p5B p = true) (n0 : 0 ≤ n) (n1 : n ≤ 1000000000) :
    Calls Try.prog 92 #[.agg #[.int .i64 a, .int .i64 b], .int .i64 p, .int .i64 n, v] w (RetSl (timI a p n.toNat [] s) w) := by
  obtain ⟨k0, hk0⟩ : ∃ k : Nat, n = k := ⟨n.toNat, by omega⟩
  subst hk0
  rw [Int.toNat_natCast]
  obtain ⟨R, hR⟩ : ∃ R, timI a p k0 [] s = R := ⟨_, rfl⟩
  rw [hR]
  have hst0 : TiSt a b p w.heap.size R w.heap.size k0 [] s (.slice none 0 0) v (w.alloc (.cells #[.int .i64 a, .int .i64 b] 39)) :=
    ⟨by simp [go_sem], by simp [go_sem], by simp, Own.nil _ _, hrd.keep (below_alloc _ _), hn, rfl, hs, hR⟩
  clear hR hrd
  have HST := Lib.hid hst0; clear hst0
  obtain ⟨B0, hB0⟩ : ∃ B0, w.heap.size = B0 := ⟨_, rfl⟩
  go_enter Try.func92, Try.ntmps92
  go_wp2_with fail
  go_loopw [2, 9, 10] (fun x vo vs wr => ∃ (k : Nat) (out s : List Int), x = .int .i64 k ∧ k ≤ 1000000000 ∧ Below w.heap.size w wr ∧ Hid (TiSt a b p w.heap.size R w.heap.size k out s vo vs wr)) (fun x _ _ _ => (intOf x).toNat)
  case atStart => exact ⟨k0, [], s, rfl, by omega, (by repeat (first | exact Below.refl _ _ | (with_reducible assumption) | refine bel_alloc ?_ _ | refine bel_drew ?_ | refine bel_drewN ?_ _ | refine Below.setCell ?_ (by dsimp only; omega) _ | refine bel_trans (by assumption) ?_)), HST⟩
  case round =>
    obtain ⟨k, out, s, rfl, hk, hbel, HS⟩ := hrel
    by_cases hz : k = 0
    · subst hz
      have hfin : Own wr w.heap.size u9 R := by
        have h := HS.out.ho
        rw [← HS.out.eq, timI_zero]; exact h
      clear HS
      go_wp2_with fail
      go_ret
      exact ⟨_, rfl, hbel, hfin⟩
    · have hkp : (0 : Int) < (k : Int) := by omega
      have ca := HS.out.ca
      have cb := HS.out.cb
      have hhalf : Hid ((k : Int) / 2 = ((k / 2 : Nat) : Int)) := by unfold Hid; omega
      have hbs := hbel.size
      (try rw [hB0] at ca cb)
      by_cases hodd : k % 2 = 1
      · have hpar : ((k : Int) % 2 == 1) = true := by simp; omega
        go_wp2_with fail
        refine (fmAdd_any a b p _ _ out s _ HS.out.ho.rd HS.out.hs HS.out.ho.nilz HS.out.hn HS.out.oo HS.out.os h1 h2 hp).mono ?_; rintro e w1 ⟨v1, rfl, hb1, ho1⟩
        have HS1 := HS.out.keep hb1
        have ca1 := HS1.ca
        have cb1 := HS1.cb
        (try rw [hB0] at ca1 cb1)
        replace HS1 := Lib.hid HS1
        have hz1 := hb1.size
        go_wp2_with fail
        refine (fmAdd_any a b p _ _ s s _ HS1.out.hs HS1.out.hs HS1.out.hn HS1.out.hn HS1.out.os HS1.out.os h1 h2 hp).mono ?_; rintro e w2 ⟨v2, rfl, hb2, ho2⟩
        have HS2 := Lib.hid (HS1.out.keep hb2)
        go_wp2_with fail
        go_roundw
        case rel => exact ⟨k / 2, addI a p out s, addI a p s s, by rw [hhalf.out], by omega, bel_trans hb2 (bel_trans hb1 hbel), ⟨HS2.out.ca, HS2.out.cb, HS2.out.hB, (ho1.keep hb2).le hbs, ho2.rd, ho2.nilz, on_add hp HS.out.oo HS.out.os, on_add hp HS.out.os HS.out.os, by rw [← timI_odd a p out s hodd]; exact HS.out.eq⟩⟩
        case measure => simp only [intOf]; omega
      · have hpar : ((k : Int) % 2 == 1) = false := by simp; omega
        go_wp2_with fail
        refine (fmAdd_any a b p _ _ s s _ HS.out.hs HS.out.hs HS.out.hn HS.out.hn HS.out.os HS.out.os h1 h2 hp).mono ?_; rintro e w2 ⟨v2, rfl, hb2, ho2⟩
        have HS2 := Lib.hid (HS.out.keep hb2)
        go_wp2_with fail
        go_roundw
        case rel => exact ⟨k / 2, out, addI a p s s, by rw [hhalf.out], by omega, bel_trans hb2 hbel, ⟨HS2.out.ca, HS2.out.cb, HS2.out.hB, HS2.out.ho, ho2.rd, ho2.nilz, HS.out.oo, on_add hp HS.out.os HS.out.os, by rw [← timI_even a p out s hz hodd]; exact HS.out.eq⟩⟩
        case measure => simp only [intOf]; omega
set_option maxHeartbeats 4000000 in
theorem timesModulo_any (a b p n : Int) (v : Value) (s : List Int) (w : World) (hrd : Rd w v s) (hn : NilZ v) (hs : onF a b p s = true) (h1 : -1000 ≤ a) (h2 : a ≤ 1000) (hp : p5B p = true) (n0 : -1000000000 ≤ n) (n1 : n ≤ 1000000000) :
    Calls Try.prog 91 #[.agg #[.int .i64 a, .int .i64 b], .int .i64 p, .int .i64 n, v] w (RetSl (timesL a p n s) w) := by
  obtain ⟨p1, p2⟩ := p5_bd hp
  obtain ⟨k0, hk0⟩ : ∃ k : Nat, n.natAbs = k := ⟨_, rfl⟩
  have hmax : max n (-n) = (k0 : Int) := by omega
  have hmax2 : (if -n > n then -n else n) = (k0 : Int) := by split <;> omega
  obtain ⟨B0, hB0⟩ : ∃ B0, w.heap.size = B0 := ⟨_, rfl⟩
  by_cases hneg : 0 ≤ n
  · have hts : timesL a p n s = timI a p k0 [] s := by unfold timesL; rw [if_neg (by omega), hk0]
    rw [hts]; clear hts
    obtain ⟨R, hR⟩ : ∃ R, timI a p k0 [] s = R := ⟨_, rfl⟩
    rw [hR]
    have hst0 : TiSt a b p w.heap.size R w.heap.size k0 [] s (.slice none 0 0) v (w.alloc (.cells #[.int .i64 a, .int .i64 b] 39)) :=
      ⟨by simp [go_sem], by simp [go_sem], by simp, Own.nil _ _, hrd.keep (below_alloc _ _), hn, rfl, hs, hR⟩
    clear hR hrd
    have HST := Lib.hid hst0; clear hst0
    go_enter Try.func91, Try.ntmps91
    go_wp2_with fail
    go_loopw [2, 3, 9] (fun x vs vo wr => ∃ (k : Nat) (out s : List Int), x = .int .i64 k ∧ k ≤ 1000000000 ∧ Below w.heap.size w wr ∧ Hid (TiSt a b p w.heap.size R w.heap.size k out s vo vs wr)) (fun x _ _ _ => (intOf x).toNat)
    case atStart => exact ⟨k0, [], s, by first | rfl | (congr 1; done) | (congr 1; omega), by omega, (by repeat (first | exact Below.refl _ _ | (with_reducible assumption) | refine bel_alloc ?_ _ | refine bel_drew ?_ | refine bel_drewN ?_ _ | refine Below.setCell ?_ (by dsimp only; omega) _ | refine bel_trans (by assumption) ?_)), HST⟩
    case round =>
      obtain ⟨k, out, s, rfl, hk, hbel, HS⟩ := hrel
      by_cases hz : k = 0
      · subst hz
        have hfin : Own wr w.heap.size u9 R := by
          have h := HS.out.ho
          rw [← HS.out.eq, timI_zero]; exact h
        clear HS
        go_wp2_with fail
        go_ret
        exact ⟨_, rfl, hbel, hfin⟩
      · have hkp : (0 : Int) < (k : Int) := by omega
        have ca := HS.out.ca
        have cb := HS.out.cb
        have hhalf : Hid ((k : Int) / 2 = ((k / 2 : Nat) : Int)) := by unfold Hid; omega
        have hbs := hbel.size
        (try rw [hB0] at ca cb)
        by_cases hodd : k % 2 = 1
        · have hpar : ((k : Int) % 2 == 1) = true := by simp; omega
          go_wp2_with fail
          refine (addModulo_any a b p _ _ out s _ HS.out.ho.rd HS.out.hs HS.out.ho.nilz HS.out.hn HS.out.oo HS.out.os h1 h2 hp).mono ?_; rintro e w1 ⟨v1, rfl, hb1, ho1⟩
          have HS1 := HS.out.keep hb1
          have ca1 := HS1.ca
          have cb1 := HS1.cb
          (try rw [hB0] at ca1 cb1)
          replace HS1 := Lib.hid HS1
          have hz1 := hb1.size
          go_wp2_with fail
          refine (addModulo_any a b p _ _ s s _ HS1.out.hs HS1.out.hs HS1.out.hn HS1.out.hn HS1.out.os HS1.out.os h1 h2 hp).mono ?_; rintro e w2 ⟨v2, rfl, hb2, ho2⟩
          have HS2 := Lib.hid (HS1.out.keep hb2)
          go_wp2_with fail
          go_roundw
          case rel => exact ⟨k / 2, addI a p out s, addI a p s s, by rw [hhalf.out], by omega, bel_trans hb2 (bel_trans hb1 hbel), ⟨HS2.out.ca, HS2.out.cb, HS2.out.hB, (ho1.keep hb2).le hbs, ho2.rd, ho2.nilz, on_add hp HS.out.oo HS.out.os, on_add hp HS.out.os HS.out.os, by rw [← timI_odd a p out s hodd]; exact HS.out.eq⟩⟩
          case measure => simp only [intOf]; omega
        · have hpar : ((k : Int) % 2 == 1) = false := by simp; omega
          go_wp2_with fail
          refine (addModulo_any a b p _ _ s s _ HS.out.hs HS.out.hs HS.out.hn HS.out.hn HS.out.os HS.out.os h1 h2 hp).mono ?_; rintro e w2 ⟨v2, rfl, hb2, ho2⟩
          have HS2 := Lib.hid (HS.out.keep hb2)
          go_wp2_with fail
          go_roundw
          case rel => exact ⟨k / 2, out, addI a p s s, by rw [hhalf.out], by omega, bel_trans hb2 hbel, ⟨HS2.out.ca, HS2.out.cb, HS2.out.hB, HS2.out.ho, ho2.rd, ho2.nilz, HS.out.oo, on_add hp HS.out.os HS.out.os, by rw [← timI_even a p out s hz hodd]; exact HS.out.eq⟩⟩
          case measure => simp only [intOf]; omega
  · rcases onF_cases hs with rfl | ⟨x0, y0, rfl, sa, sb, sc, sd, hsq⟩
    · have hts : timesL a p n [] = timI a p k0 [] [] := by unfold timesL; rw [if_pos (by omega), hk0]; rfl
      rw [hts]; clear hts
      obtain ⟨R, hR⟩ : ∃ R, timI a p k0 [] [] = R := ⟨_, rfl⟩
      rw [hR]
      have hst0 : TiSt a b p w.heap.size R w.heap.size k0 [] [] (.slice none 0 0) v (w.alloc (.cells #[.int .i64 a, .int .i64 b] 39)) :=
        ⟨by simp [go_sem], by simp [go_sem], by simp, Own.nil _ _, hrd.keep (below_alloc _ _), hn, rfl, hs, hR⟩
      clear hR
      have HST := Lib.hid hst0; clear hst0
      obtain ⟨ad, cap, rfl⟩ := RdNil hrd
      clear hrd
      go_enter Try.func91, Try.ntmps91
      go_wp2_with fail
      go_loopw [2, 3, 9] (fun x vs vo wr => ∃ (k : Nat) (out s : List Int), x = .int .i64 k ∧ k ≤ 1000000000 ∧ Below w.heap.size w wr ∧ Hid (TiSt a b p w.heap.size R w.heap.size k out s vo vs wr)) (fun x _ _ _ => (intOf x).toNat)
      case atStart => exact ⟨k0, [], [], by first | rfl | (congr 1; done) | (congr 1; omega), by omega, (by repeat (first | exact Below.refl _ _ | (with_reducible assumption) | refine bel_alloc ?_ _ | refine bel_drew ?_ | refine bel_drewN ?_ _ | refine Below.setCell ?_ (by dsimp only; omega) _ | refine bel_trans (by assumption) ?_)), HST⟩
      case round =>
        obtain ⟨k, out, s, rfl, hk, hbel, HS⟩ := hrel
        by_cases hz : k = 0
        · subst hz
          have hfin : Own wr w.heap.size u9 R := by
            have h := HS.out.ho
            rw [← HS.out.eq, timI_zero]; exact h
          clear HS
          go_wp2_with fail
          go_ret
          exact ⟨_, rfl, hbel, hfin⟩
        · have hkp : (0 : Int) < (k : Int) := by omega
          have ca := HS.out.ca
          have cb := HS.out.cb
          have hhalf : Hid ((k : Int) / 2 = ((k / 2 : Nat) : Int)) := by unfold Hid; omega
          have hbs := hbel.size
          (try rw [hB0] at ca cb)
          by_cases hodd : k % 2 = 1
          · have hpar : ((k : Int) % 2 == 1) = true := by simp; omega
            go_wp2_with fail
            refine (addModulo_any a b p _ _ out s _ HS.out.ho.rd HS.out.hs HS.out.ho.nilz HS.out.hn HS.out.oo HS.out.os h1 h2 hp).mono ?_; rintro e w1 ⟨v1, rfl, hb1, ho1⟩
            have HS1 := HS.out.keep hb1
            have ca1 := HS1.ca
            have cb1 := HS1.cb
            (try rw [hB0] at ca1 cb1)
            replace HS1 := Lib.hid HS1
            have hz1 := hb1.size
            go_wp2_with fail
            refine (addModulo_any a b p _ _ s s _ HS1.out.hs HS1.out.hs HS1.out.hn HS1.out.hn HS1.out.os HS1.out.os h1 h2 hp).mono ?_; rintro e w2 ⟨v2, rfl, hb2, ho2⟩
            have HS2 := Lib.hid (HS1.out.keep hb2)
            go_wp2_with fail
            go_roundw
            case rel => exact ⟨k / 2, addI a p out s, addI a p s s, by rw [hhalf.out], by omega, bel_trans hb2 (bel_trans hb1 hbel), ⟨HS2.out.ca, HS2.out.cb, HS2.out.hB, (ho1.keep hb2).le hbs, ho2.rd, ho2.nilz, on_add hp HS.out.oo HS.out.os, on_add hp HS.out.os HS.out.os, by rw [← timI_odd a p out s hodd]; exact HS.out.eq⟩⟩
            case measure => simp only [intOf]; omega
          · have hpar : ((k : Int) % 2 == 1) = false := by simp; omega
            go_wp2_with fail
            refine (addModulo_any a b p _ _ s s _ HS.out.hs HS.out.hs HS.out.hn HS.out.hn HS.out.os HS.out.os h1 h2 hp).mono ?_; rintro e w2 ⟨v2, rfl, hb2, ho2⟩
            have HS2 := Lib.hid (HS.out.keep hb2)
            go_wp2_with fail
            go_roundw
            case rel => exact ⟨k / 2, out, addI a p s s, by rw [hhalf.out], by omega, bel_trans hb2 hbel, ⟨HS2.out.ca, HS2.out.cb, HS2.out.hB, HS2.out.ho, ho2.rd, ho2.nilz, HS.out.oo, on_add hp HS.out.os HS.out.os, by rw [← timI_even a p out s hz hodd]; exact HS.out.eq⟩⟩
            case measure => simp only [intOf]; omega
    · have hts : timesL a p n [x0, y0] = timI a p k0 [] [x0, (-y0) % p] := by unfold timesL; rw [if_pos (by omega), hk0]; rfl
      have hson : onF a b p [x0, (-y0) % p] = true := on_neg hp hs
      rw [hts]; clear hts
      obtain ⟨R, hR⟩ : ∃ R, timI a p k0 [] [x0, (-y0) % p] = R := ⟨_, rfl⟩
      rw [hR]
      have wn := wrap_neg sc (show y0 ≤ 997 by omega)
      obtain ⟨bs, os, cs, rfl, hbs, c0, c1⟩ := RdCells hrd
      clear hrd hn hs hsq
      have HR := Lib.hid hR; clear hR
      have HSON := Lib.hid hson; clear hson
      go_enter Try.func91, Try.ntmps91
      go_wp2_with fail
      generalize hW : w.alloc (.cells #[.int .i64 a, .int .i64 b] 39) = W
      obtain ⟨hbelW, g0, cA, cB, e0, e1⟩ : Below w.heap.size w W ∧ w.heap.size < W.heap.size ∧ W.cell? ⟨w.heap.size, 0, none⟩ = some (.int .i64 a) ∧ W.cell? ⟨w.heap.size, 1, none⟩ = some (.int .i64 b) ∧ W.cell? ⟨bs, os, none⟩ = some (.int .i64 x0) ∧ W.cell? ⟨bs, os + 1, none⟩ = some (.int .i64 y0) := by
        have hk := below_alloc w (.cells #[.int .i64 a, .int .i64 b] 39)
        subst hW
        exact ⟨hk, by simp, by simp [go_sem], by simp [go_sem], (hk.cell (p := ⟨bs, os, none⟩) hbs).trans c0, (hk.cell (p := ⟨bs, os + 1, none⟩) hbs).trans c1⟩
      have gs : bs < W.heap.size := Nat.lt_of_lt_of_le hbs hbelW.size
      clear hW c0 c1 hbs
      refine' wp_region_lit (a0 := _) 26 3 (fun v w' => Below W.heap.size W w' ∧ Own w' W.heap.size v [x0, (-y0) % p]) ?_ ?_
      rotate_left
      · go_region_held3 (fun w' => Below W.heap.size W w' ∧ w'.cell? ⟨bs, os, none⟩ = some (.int .i64 x0) ∧ w'.cell? ⟨bs, os + 1, none⟩ = some (.int .i64 y0)) ((refine held2 ?_ gs e0 e1; go_split_ands; repeat (first | exact Below.refl _ _ | (with_reducible assumption) | refine bel_alloc ?_ _ | refine bel_drew ?_ | refine bel_trans (by assumption) ?_))) ((first | (go_at_call 134; refine (modulo_any _ _ _ (by omega) (by omega)).mono ?_; rintro e w' ⟨rfl, hb⟩; (try replace hb := aft2 hb (by assumption)); have hz := hb.size; obtain ⟨hc, hf, hs1, hs2, hs3, hs4⟩ := aftz hb; (try simp at hz))))
        all_goals
          rename_i hHeld
          refine ⟨rfl, _, ⟨_, ⟨by first | rfl | (simp [Act.put]; done) | (simp [Act.put]; rfl), by first | rfl | (simp; done) | (simp; rfl)⟩, by first | rfl | (simp [Act.put]; done) | (simp [Act.put]; rfl), by first | rfl | (simp; done) | (simp; rfl)⟩, hHeld.1, own_pair _ _ (by show W.heap.size ≤ _; omega) _ _⟩
      · rintro vq w5 ⟨hb5, ho5⟩
        simp only [Act.put, List.setIfInBounds_toArray, List.set_cons_zero, List.set_cons_succ]
        have hst0 : TiSt a b p w.heap.size R w.heap.size k0 [] [x0, (-y0) % p] (.slice none 0 0) vq w5 :=
          ⟨(hb5.cell (p := ⟨w.heap.size, 0, none⟩) g0).trans cA, (hb5.cell (p := ⟨w.heap.size, 1, none⟩) g0).trans cB, Nat.lt_of_lt_of_le g0 hb5.size, Own.nil _ _, ho5.rd, ho5.nilz, rfl, HSON.out, HR.out⟩
        have HST := Lib.hid hst0; clear hst0
        have hbel5 := bel_trans hb5 hbelW
        clear cA cB e0 e1 ho5
        go_wp2_with fail
        go_loopw [2, 3, 9] (fun x vs vo wr => ∃ (k : Nat) (out s : List Int), x = .int .i64 k ∧ k ≤ 1000000000 ∧ Below w.heap.size w wr ∧ Hid (TiSt a b p w.heap.size R w.heap.size k out s vo vs wr)) (fun x _ _ _ => (intOf x).toNat)
        case atStart => exact ⟨k0, [], [x0, (-y0) % p], by first | rfl | (congr 1; done) | (congr 1; omega), by omega, hbel5, HST⟩
        case round =>
          obtain ⟨k, out, s, rfl, hk, hbel, HS⟩ := hrel
          by_cases hz : k = 0
          · subst hz
            have hfin : Own wr w.heap.size u9 R := by
              have h := HS.out.ho
              rw [← HS.out.eq, timI_zero]; exact h
            clear HS
            go_wp2_with fail
            go_ret
            exact ⟨_, rfl, hbel, hfin⟩
          · have hkp : (0 : Int) < (k : Int) := by omega
            have ca := HS.out.ca
            have cb := HS.out.cb
            have hhalf : Hid ((k : Int) / 2 = ((k / 2 : Nat) : Int)) := by unfold Hid; omega
            have hbs := hbel.size
            (try rw [hB0] at ca cb)
            by_cases hodd : k % 2 = 1
            · have hpar : ((k : Int) % 2 == 1) = true := by simp; omega
              go_wp2_with fail
              refine (addModulo_any a b p _ _ out s _ HS.out.ho.rd HS.out.hs HS.out.ho.nilz HS.out.hn HS.out.oo HS.out.os h1 h2 hp).mono ?_; rintro e w1 ⟨v1, rfl, hb1, ho1⟩
              have HS1 := HS.out.keep hb1
              have ca1 := HS1.ca
              have cb1 := HS1.cb
              (try rw [hB0] at ca1 cb1)
              replace HS1 := Lib.hid HS1
              have hz1 := hb1.size
              go_wp2_with fail
              refine (addModulo_any a b p _ _ s s _ HS1.out.hs HS1.out.hs HS1.out.hn HS1.out.hn HS1.out.os HS1.out.os h1 h2 hp).mono ?_; rintro e w2 ⟨v2, rfl, hb2, ho2⟩
              have HS2 := Lib.hid (HS1.out.keep hb2)
              go_wp2_with fail
              go_roundw
              case rel => exact ⟨k / 2, addI a p out s, addI a p s s, by rw [hhalf.out], by omega, bel_trans hb2 (bel_trans hb1 hbel), ⟨HS2.out.ca, HS2.out.cb, HS2.out.hB, (ho1.keep hb2).le hbs, ho2.rd, ho2.nilz, on_add hp HS.out.oo HS.out.os, on_add hp HS.out.os HS.out.os, by rw [← timI_odd a p out s hodd]; exact HS.out.eq⟩⟩
              case measure => simp only [intOf]; omega
            · have hpar : ((k : Int) % 2 == 1) = false := by simp; omega
              go_wp2_with fail
              refine (addModulo_any a b p _ _ s s _ HS.out.hs HS.out.hs HS.out.hn HS.out.hn HS.out.os HS.out.os h1 h2 hp).mono ?_; rintro e w2 ⟨v2, rfl, hb2, ho2⟩
              have HS2 := Lib.hid (HS.out.keep hb2)
              go_wp2_with fail
              go_roundw
              case rel => exact ⟨k / 2, out, addI a p s s, by rw [hhalf.out], by omega, bel_trans hb2 hbel, ⟨HS2.out.ca, HS2.out.cb, HS2.out.hB, HS2.out.ho, ho2.rd, ho2.nilz, HS.out.oo, on_add hp HS.out.os HS.out.os, by rw [← timI_even a p out s hz hodd]; exact HS.out.eq⟩⟩
              case measure => simp only [intOf]; omega
end Go.Proofs.Ytpjcfnjagknocaa
