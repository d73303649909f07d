/- Syi: contract: the program's symbol of a reduction. No conditions. -/
import Derived.Test.YtpjcfnjagknocaaDoorSym
namespace Go.Proofs.YtpjcfnjagknocaaDoor
open Go.RowKit

theorem itoaS (i : Nat) (hi : i < 100) (w : World) : Calls Tryd.prog 35 #[.int .i64 i] w (Ret (.string (numS i)) w) :=
  (Tryd.strconv_Itoa_small i hi w).mono fun _ _ ⟨h1, h2⟩ => ⟨h1, h2 ▸ Below.refl _ _⟩
set_option maxHeartbeats 8000000 in
theorem symbolAt_any (a B p : Int) (w : World) (hc : curveB a B = true) (hpr : p5B p = true) :
    Calls Tryd.prog 36 #[.agg #[.int .i64 a, .int .i64 B], .int .i64 p] w (Ret (.string (symS (minA a B p) B p (kindN (minA a B p) B p) (valP (discI (minA a B p) B) p).toNat)) w) := by
  obtain ⟨h1, h2, h5⟩ := min_disc (p := p) hc
  obtain ⟨_, _, h3, h4, _⟩ := curveB_true.1 hc
  obtain ⟨p1, p2⟩ := p5_bd hpr
  have hmin := fun w => minimal_any a B p w hc hpr
  have hk := fun w => kindAt_any a B p w hc hpr
  generalize minA a B p = A at *
  generalize minN a B p = cnt at *
  obtain ⟨d1, d2⟩ := disc_bd h1 h2 h3 h4
  have hNle := val_disc (p := p) (by omega) h5 d1 d2
  have hN0 := valP_nonneg (discI A B) p
  have hD := fun w => core_any A B w h1 h2 h3 h4
  have hv := fun w => valuation_any (discI A B) p w h5 (by omega) (by omega) (by omega) (by omega)
  have hkc := kind_cases A B p
  obtain ⟨N, hN⟩ : ∃ N : Nat, valP (discI A B) p = N := ⟨(valP (discI A B) p).toNat, by omega⟩
  have e0 : (valP (discI A B) p).toNat = N := by omega
  rw [e0]
  rw [hN] at hv hNle
  have hN33 : N ≤ 33 := by omega
  have hs1 := numS_size N
  have hs2 := numS_size (N - 6)
  have hk0 : kindN A B p = 0 → N = 0 := fun h => by
    have : valP (discI A B) p = 0 := valP_not fun hd => by
      unfold kindN at h
      rw [if_neg (by simp [Int.emod_eq_zero_of_dvd hd])] at h
      split at h
      · omega
      · split at h <;> omega
    omega
  have HMIN := Lib.hid hmin; have HD := Lib.hid hD; have HV := Lib.hid hv; have HK := Lib.hid hk
  clear hmin hD hv hk hN hN0 hNle h5 e0 hc hpr d1 d2
  generalize discI A B = D at *
  generalize kindN A B p = k at *
  go_enter Tryd.func36, Tryd.ntmps36
  go_wp2_with fail
  have c5 : w.heap.size < (w.alloc (.cells #[.int .i64 a, .int .i64 B] 24)).heap.size := by simp
  have c6 : (w.alloc (.cells #[.int .i64 a, .int .i64 B] 24)).cell? ⟨w.heap.size, 0, none⟩ = some (.int .i64 a) := by simp [go_sem]
  have c7 : (w.alloc (.cells #[.int .i64 a, .int .i64 B] 24)).cell? ⟨w.heap.size, 1, none⟩ = some (.int .i64 B) := by simp [go_sem]
  have hbW : Below w.heap.size w (w.alloc (.cells #[.int .i64 a, .int .i64 B] 24)) := below_allocS _ _
  generalize w.alloc (.cells #[.int .i64 a, .int .i64 B] 24) = W at c5 c6 c7 hbW ⊢
  generalize hB0 : w.heap.size = B0 at c5 c6 c7 ⊢
  have BX_B0 := Lib.hid (show BxS B0 a B W from ⟨c5, c6, c7⟩); clear c5 c6 c7
  clear hB0
  have HBW := Lib.hid hbW; clear hbW
  refine (HMIN.out _).mono ?_; rintro e w1 ⟨rfl, hb1⟩
  have BX := Lib.hid (BX_B0.out.keep hb1)
  have HB1 := Lib.hid (bel_trans hb1 HBW.out)
  clear hb1 BX_B0 HBW HMIN
  obtain ⟨c5, c6, c7⟩ := BX.out
  go_wp2_with fail
  clear c5 c6 c7
  have c5 : w1.heap.size < (w1.alloc (.cells #[.int .i64 A, .int .i64 B] 24)).heap.size := by simp
  have c6 : (w1.alloc (.cells #[.int .i64 A, .int .i64 B] 24)).cell? ⟨w1.heap.size, 0, none⟩ = some (.int .i64 A) := by simp [go_sem]
  have c7 : (w1.alloc (.cells #[.int .i64 A, .int .i64 B] 24)).cell? ⟨w1.heap.size, 1, none⟩ = some (.int .i64 B) := by simp [go_sem]
  have hbW : Below w1.heap.size w1 (w1.alloc (.cells #[.int .i64 A, .int .i64 B] 24)) := below_allocS _ _
  generalize w1.alloc (.cells #[.int .i64 A, .int .i64 B] 24) = W1 at c5 c6 c7 hbW ⊢
  generalize hB1 : w1.heap.size = B1 at c5 c6 c7 ⊢
  have BX_B1 := Lib.hid (show BxS B1 A B W1 from ⟨c5, c6, c7⟩); clear c5 c6 c7
  clear hB1
  have BX2 := Lib.hid (BX.out.keep hbW)
  have HB2 := Lib.hid (bel_trans hbW HB1.out)
  clear hbW BX HB1
  refine (HD.out _).mono ?_; rintro e w2 ⟨rfl, hb2⟩
  go_wp2_with fail
  refine (HV.out _).mono ?_; rintro e w3 ⟨rfl, hb3⟩
  have hb4 := bel_trans hb3 hb2
  have BX3 := Lib.hid (BX2.out.keep hb4); have BY3 := Lib.hid (BX_B1.out.keep hb4)
  have HB3 := Lib.hid (bel_trans hb4 HB2.out)
  clear hb2 hb3 hb4 BX2 BX_B1 HB2
  obtain ⟨c5, c6, c7⟩ := BX3.out
  go_wp2_with fail
  clear c5 c6 c7
  refine (HK.out _).mono ?_; rintro e w4 ⟨rfl, hb4⟩
  have BY := Lib.hid (BY3.out.keep hb4)
  have HB := Lib.hid (bel_trans hb4 HB3.out)
  clear hb4 BX3 BY3 HB3 HD HV HK
  obtain ⟨c5, c6, c7⟩ := BY.out
  rcases hkc with rfl | rfl | rfl | rfl
  · have hN0 := hk0 rfl
    subst hN0
    go_wp2_with fail
    go_ret
    exact ret_eq (by rw [symS_k (by decide), numS_dig (by decide)]; rfl) HB.out
  · by_cases za : A = 0
    · have HNS := Lib.hid (symS_add (A := A) (B := B) (p := p) (n := N) (fun k => k.1.1 za))
      rcases sevN N with hs | hs | hs | hs | hs | hs | ⟨⟨e2, e3, e4, e6, e8, e9⟩, he⟩
      all_goals
        first
        | (exfalso; omega)
        | (try subst hs
           go_wp2_with fail
           go_ret
           exact ret_eq (by first | (rw [HNS.out]; rfl) | (rw [HNS.out, he]; rfl)) HB.out)
    · have nza : (A != 0) = true := by simp [za]
      by_cases zb : B = 0
      · have HNS := Lib.hid (symS_add (A := A) (B := B) (p := p) (n := N) (fun k => k.2.1.1 zb))
        rcases sevN N with hs | hs | hs | hs | hs | hs | ⟨⟨e2, e3, e4, e6, e8, e9⟩, he⟩
        all_goals
          first
          | (exfalso; omega)
          | (try subst hs
             go_wp2_with fail
             go_ret
             exact ret_eq (by first | (rw [HNS.out]; rfl) | (rw [HNS.out, he]; rfl)) HB.out)
      · have nzb : (B != 0) = true := by simp [zb]
        go_wp2_with fail
        refine (valuation_any A p _ za (by omega) (by omega) (by omega) (by omega)).mono ?_; rintro e wv1 ⟨rfl, hbv⟩
        have BY1 := Lib.hid (BY.out.keep hbv)
        have HB := Lib.hid (bel_trans hbv HB.out)
        clear hbv c5 c6 c7
        obtain ⟨c5, c6, c7⟩ := BY1.out
        by_cases e2 : valP A p = 2
        · rw [e2]
          go_wp2_with fail
          refine (valuation_any B p _ zb (by omega) (by omega) (by omega) (by omega)).mono ?_; rintro e wv2 ⟨rfl, hbv⟩
          have BY2 := Lib.hid (BY1.out.keep hbv)
          have HB := Lib.hid (bel_trans hbv HB.out)
          clear hbv c5 c6 c7
          obtain ⟨c5, c6, c7⟩ := BY2.out
          by_cases e3 : valP B p = 3
          · rw [e3]
            by_cases n6 : 6 < N
            · have HNS := Lib.hid (symS_star (A := A) (B := B) (p := p) (n := N) ⟨⟨za, e2⟩, ⟨zb, e3⟩, n6⟩)
              go_wp2_with fail
              rw [show ((N : Int) - 6) = ((N - 6 : Nat) : Int) by omega]
              refine (itoaS (N - 6) (by omega) _).mono ?_; rintro e w5 ⟨rfl, hb5⟩
              have hb6 := bel_trans hb5 HB.out
              clear hb5
              go_wp2_with fail
              go_ret
              exact ret_eq (by rw [HNS.out]; rfl) hb6
            · have HNS := Lib.hid (symS_add (A := A) (B := B) (p := p) (n := N) (fun k => n6 k.2.2))
              rcases sevN N with hs | hs | hs | hs | hs | hs | ⟨⟨e2, e3, e4, e6, e8, e9⟩, he⟩
              all_goals
                first
                | (exfalso; omega)
                | (try subst hs
                   go_wp2_with fail
                   go_ret
                   exact ret_eq (by first | (rw [HNS.out]; rfl) | (rw [HNS.out, he]; rfl)) HB.out)
          · have eb3 : (valP B p == 3) = false := by simp [e3]
            generalize hvb : valP B p = vb at *
            have HNS := Lib.hid (symS_add (A := A) (B := B) (p := p) (n := N) (fun k => by rw [hvb] at k; exact e3 k.2.1.2))
            rcases sevN N with hs | hs | hs | hs | hs | hs | ⟨⟨e2, e3, e4, e6, e8, e9⟩, he⟩
            all_goals
              first
              | (exfalso; omega)
              | (try subst hs
                 go_wp2_with fail
                 go_ret
                 exact ret_eq (by first | (rw [HNS.out]; rfl) | (rw [HNS.out, he]; rfl)) HB.out)
        · have eb2 : (valP A p == 2) = false := by simp [e2]
          generalize hva : valP A p = va at *
          have HNS := Lib.hid (symS_add (A := A) (B := B) (p := p) (n := N) (fun k => by rw [hva] at k; exact e2 k.1.2))
          rcases sevN N with hs | hs | hs | hs | hs | hs | ⟨⟨e2, e3, e4, e6, e8, e9⟩, he⟩
          all_goals
            first
            | (exfalso; omega)
            | (try subst hs
               go_wp2_with fail
               go_ret
               exact ret_eq (by first | (rw [HNS.out]; rfl) | (rw [HNS.out, he]; rfl)) HB.out)
  · go_wp2_with fail
    refine (itoaS N (by omega) _).mono ?_; rintro e w5 ⟨rfl, hb5⟩
    have hb6 := bel_trans hb5 HB.out
    clear hb5
    go_wp2_with fail
    go_ret
    exact ret_eq (by rw [symS_k (by decide)]; rfl) hb6
  · go_wp2_with fail
    refine (itoaS N (by omega) _).mono ?_; rintro e w5 ⟨rfl, hb5⟩
    have hb6 := bel_trans hb5 HB.out
    clear hb5
    go_wp2_with fail
    go_ret
    exact ret_eq (by rw [symS_k (by decide)]; rfl) hb6
end Go.Proofs.YtpjcfnjagknocaaDoor
