/- Sym: contracts: the symbols of reductions, on both sides. No conditions. -/
import Derived.Test.YtpjcfnjagknocaaDoorSz
import Derived.Test.YtpjcfnjagknocaaDoorIt
namespace Go.Proofs.YtpjcfnjagknocaaDoor
open Go.RowKit

theorem below_allocS (w : World) (o : Obj) : Below w.heap.size w (w.alloc o) := Below.alloc (Below.refl _ _) (Nat.le_refl _) _
def BxS (n : Nat) (a b : Int) (w : World) : Prop := n < w.heap.size ∧ w.cell? ⟨n, 0, none⟩ = some (.int .i64 a) ∧ w.cell? ⟨n, 1, none⟩ = some (.int .i64 b)
theorem BxS.keep {n : Nat} {a b : Int} {w w' : World} (h : BxS n a b w) (hb : Below w.heap.size w w') : BxS n a b w' :=
  ⟨Nat.lt_of_lt_of_le h.1 hb.size, (hb.cell (p := ⟨n, 0, none⟩) h.1).trans h.2.1, (hb.cell (p := ⟨n, 1, none⟩) h.1).trans h.2.2⟩
theorem tmod_wrap {x m : Int} (h1 : -10000 ≤ x) (h2 : x ≤ 10000) : IntKind.i64.wrap (x.tmod m) = x.tmod m := by
  have h : (x.tmod m).natAbs ≤ x.natAbs := by rw [Int.natAbs_tmod]; exact Nat.mod_le _ _
  exact i64_wrap (by omega) (by omega)
theorem symS_k {A B p : Int} {k n : Nat} (h : k ≠ 1) : symS A B p k n = ⟨#[73]⟩ ++ numS n := by unfold symS; rw [if_neg h]
theorem symS_star {A B p : Int} {n : Nat} (h : (A ≠ 0 ∧ valP A p = 2) ∧ (B ≠ 0 ∧ valP B p = 3) ∧ 6 < n) : symS A B p 1 n = ⟨#[73]⟩ ++ numS (n - 6) ++ ⟨#[42]⟩ := by unfold symS starB; rw [if_pos rfl, decide_eq_true h, if_pos rfl]
theorem symS_add {A B p : Int} {n : Nat} (h : ¬ ((A ≠ 0 ∧ valP A p = 2) ∧ (B ≠ 0 ∧ valP B p = 3) ∧ 6 < n)) : symS A B p 1 n = addS n := by unfold symS starB; rw [if_pos rfl, decide_eq_false h, if_neg (by decide)]
theorem sevN (N : Nat) : N = 2 ∨ N = 3 ∨ N = 4 ∨ N = 6 ∨ N = 8 ∨ N = 9 ∨ ((((N : Int) == 2) = false ∧ ((N : Int) == 3) = false ∧ ((N : Int) == 4) = false ∧ ((N : Int) == 6) = false ∧ ((N : Int) == 8) = false ∧ ((N : Int) == 9) = false) ∧ addS N = ⟨#[73, 73, 42]⟩) := by
  by_cases h2 : N = 2
  · exact .inl h2
  by_cases h3 : N = 3
  · exact .inr (.inl h3)
  by_cases h4 : N = 4
  · exact .inr (.inr (.inl h4))
  by_cases h6 : N = 6
  · exact .inr (.inr (.inr (.inl h6)))
  by_cases h8 : N = 8
  · exact .inr (.inr (.inr (.inr (.inl h8))))
  by_cases h9 : N = 9
  · exact .inr (.inr (.inr (.inr (.inr (.inl h9)))))
  refine .inr (.inr (.inr (.inr (.inr (.inr ⟨⟨?_, ?_, ?_, ?_, ?_, ?_⟩, ?_⟩)))))
  all_goals first | (unfold addS; rw [if_neg h2, if_neg h3, if_neg h4, if_neg h6, if_neg h8, if_neg h9]; done) | (simp only [beq_eq_false_iff_ne, ne_eq]; omega)

set_option maxHeartbeats 8000000 in
theorem rtSymbol_any (A B p : Int) (w : World) (hc : curveB A B = true) (hpr : p5B p = true) :
    Calls Tryd.prog 39 #[.agg #[.int .i64 A, .int .i64 B], .int .i64 p] w (Ret (.string (symS A B p (kindN A B p) (valP (discI A B) p).toNat)) w) := by
  obtain ⟨h1, h2, h3, h4, h5⟩ := curveB_true.1 hc
  obtain ⟨p1, p2⟩ := p5_bd hpr
  obtain ⟨d1, d2⟩ := disc_bd h1 h2 h3 h4
  have hNle := val_disc (p := p) (by omega) h5 d1 d2
  have hN0 := valP_nonneg (discI A B) p
  have hD := fun w => ecDisc_any A B w h1 h2 h3 h4
  have hv := fun w => mdValuation_any (discI A B) p w h5 (by omega) (by omega) (by omega) (by omega)
  have hk := fun w => rtKind_any A B p w h1 h2 h3 h4 hpr
  have hkc := kind_cases A B p
  obtain ⟨N, hN⟩ : ∃ N : Nat, valP (discI A B) p = N := ⟨(valP (discI A B) p).toNat, by omega⟩
  have e0 : (valP (discI A B) p).toNat = N := by omega
  rw [e0]
  rw [hN] at hv hNle
  have hN33 : N ≤ 33 := by omega
  have hs1 := numS_size N
  have hs2 := numS_size (N - 6)
  obtain ⟨b1, b2, b3, b4, b5, b6⟩ := p4_bd p1 p2
  have x2 : IntKind.i64.wrap (p * p) = p * p := i64_wrap (by omega) (by omega)
  have x3 : IntKind.i64.wrap (p * p * p) = p * p * p := i64_wrap (by omega) (by omega)
  have x4 : IntKind.i64.wrap (p * p * p * p) = p * p * p * p := i64_wrap (by omega) (by omega)
  have z2 : ¬ p * p = 0 := by omega
  have z3 : ¬ p * p * p = 0 := by omega
  have z4 : ¬ p * p * p * p = 0 := by omega
  have y2 : (p * p == 0) = false := by simp only [beq_eq_false_iff_ne, ne_eq]; exact z2
  have y3 : (p * p * p == 0) = false := by simp only [beq_eq_false_iff_ne, ne_eq]; exact z3
  have y4 : (p * p * p * p == 0) = false := by simp only [beq_eq_false_iff_ne, ne_eq]; exact z4
  have t2 := tmod_wrap (x := A) (m := p * p) (by omega) (by omega)
  have t3 := tmod_wrap (x := A) (m := p * p * p) (by omega) (by omega)
  have t3b := tmod_wrap (x := B) (m := p * p * p) h3 h4
  have t4 := tmod_wrap (x := B) (m := p * p * p * p) h3 h4
  have v2 := val2 (a := A) (p := p) (by omega)
  have v3 := val3 (a := B) (p := p) (by omega)
  have V2 := Lib.hid v2; have V3 := Lib.hid v3; have HD := Lib.hid hD; have HV := Lib.hid hv; have HK := Lib.hid hk
  clear v2 v3 hD hv hk hN hN0 hNle h5 e0 hc hpr
  have AR := Lib.hid (And.intro (And.intro x2 (And.intro x3 x4)) (And.intro (And.intro z2 (And.intro z3 z4)) (And.intro (And.intro y2 (And.intro y3 y4)) (And.intro t2 (And.intro t3 (And.intro t3b t4))))))
  clear x2 x3 x4 z2 z3 z4 y2 y3 y4 t2 t3 t3b t4 b1 b2 b3 b4 b5 b6 d1 d2
  generalize discI A B = D at *
  generalize kindN A B p = k at *
  go_enter Tryd.func39, Tryd.ntmps39
  go_wp2_with fail
  have c5 : w.heap.size < (w.alloc (.cells #[.int .i64 A, .int .i64 B] 24)).heap.size := by simp
  have c6 : (w.alloc (.cells #[.int .i64 A, .int .i64 B] 24)).cell? ⟨w.heap.size, 0, none⟩ = some (.int .i64 A) := by simp [go_sem]
  have c7 : (w.alloc (.cells #[.int .i64 A, .int .i64 B] 24)).cell? ⟨w.heap.size, 1, none⟩ = some (.int .i64 B) := by simp [go_sem]
  have hbW : Below w.heap.size w (w.alloc (.cells #[.int .i64 A, .int .i64 B] 24)) := below_allocS _ _
  generalize w.alloc (.cells #[.int .i64 A, .int .i64 B] 24) = W at c5 c6 c7 hbW ⊢
  generalize hB0 : w.heap.size = B0 at c5 c6 c7 ⊢
  have BX_B0 := Lib.hid (show BxS B0 A B W from ⟨c5, c6, c7⟩); clear c5 c6 c7
  clear hB0
  have HBW := Lib.hid hbW; clear hbW
  refine (HD.out _).mono ?_; rintro e w1 ⟨rfl, hb1⟩
  go_wp2_with fail
  refine (HV.out _).mono ?_; rintro e w2 ⟨rfl, hb2⟩
  have hb3 := bel_trans hb2 hb1
  have BY := Lib.hid (BX_B0.out.keep hb3)
  have HB2 := Lib.hid (bel_trans hb3 HBW.out)
  clear hb1 hb2 hb3 BX_B0 HBW
  obtain ⟨c5, c6, c7⟩ := BY.out
  go_wp2_with fail
  refine (HK.out _).mono ?_; rintro e w3 ⟨rfl, hb3⟩
  have BZ := Lib.hid (BY.out.keep hb3)
  have HB := Lib.hid (bel_trans hb3 HB2.out)
  clear hb3 BY HB2 c5 c6 c7 HD HV HK
  obtain ⟨c5, c6, c7⟩ := BZ.out
  have kill : ∀ k : Nat, k ≠ 1 → symS A B p k N = ⟨#[73]⟩ ++ numS N := fun k h => symS_k h
  have KILL := Lib.hid kill; clear kill
  rcases hkc with rfl | rfl | rfl | rfl
  · rw [KILL.out 0 (by decide)]
    go_wp2_with fail
    refine (l1Num_any N _ (by omega)).mono ?_; rintro e w4 ⟨rfl, hb4⟩
    have hb5 := bel_trans hb4 HB.out
    clear hb4
    go_wp2_with fail
    go_ret
    exact ret_eq (by rfl) hb5
  · obtain ⟨⟨x2, x3, x4⟩, ⟨z2, z3, z4⟩, ⟨y2, y3, y4⟩, t2, t3, t3b, t4⟩ := AR.out
    clear AR KILL
    by_cases n6 : 6 < N
    · by_cases a2 : A.tmod (p * p) = 0
      · by_cases a3 : A.tmod (p * p * p) = 0
        · have HNS := Lib.hid (symS_add (A := A) (B := B) (p := p) (n := N) (fun k => (V2.out.1 k.1).2 a3))
          rcases sevN N with hs | hs | hs | hs | hs | hs | ⟨⟨e2, e3, e4, e6, e8, e9⟩, he⟩
          all_goals
            first
            | (exfalso; omega)
            | (try subst hs
               go_wp2_with fail
               go_ret
               exact ret_eq (by first | (rw [HNS.out]; rfl) | (rw [HNS.out, he]; rfl)) HB.out)
        · by_cases b3 : B.tmod (p * p * p) = 0
          · by_cases b4 : B.tmod (p * p * p * p) = 0
            · have HNS := Lib.hid (symS_add (A := A) (B := B) (p := p) (n := N) (fun k => (V3.out.1 k.2.1).2 b4))
              rcases sevN N with hs | hs | hs | hs | hs | hs | ⟨⟨e2, e3, e4, e6, e8, e9⟩, he⟩
              all_goals
                first
                | (exfalso; omega)
                | (try subst hs
                   go_wp2_with fail
                   go_ret
                   exact ret_eq (by first | (rw [HNS.out]; rfl) | (rw [HNS.out, he]; rfl)) HB.out)
            · have HNS := Lib.hid (symS_star (A := A) (B := B) (p := p) (n := N) ⟨V2.out.2 ⟨a2, a3⟩, V3.out.2 ⟨b3, b4⟩, n6⟩)
              have nb3 : (A.tmod (p * p * p) != 0) = true := by simp [a3]
              have nb4 : (B.tmod (p * p * p * p) != 0) = true := by simp [b4]
              go_wp2_with fail
              rw [show ((N : Int) - 6) = ((N - 6 : Nat) : Int) by omega]
              refine (l1Num_any (N - 6) _ (by omega)).mono ?_; rintro e w4 ⟨rfl, hb4⟩
              have hb5 := bel_trans hb4 HB.out
              clear hb4
              go_wp2_with fail
              go_ret
              exact ret_eq (by rw [HNS.out]; rfl) hb5
          · have HNS := Lib.hid (symS_add (A := A) (B := B) (p := p) (n := N) (fun k => b3 (V3.out.1 k.2.1).1))
            rcases sevN N with hs | hs | hs | hs | hs | hs | ⟨⟨e2, e3, e4, e6, e8, e9⟩, he⟩
            all_goals
              first
              | (exfalso; omega)
              | (try subst hs
                 go_wp2_with fail
                 go_ret
                 exact ret_eq (by first | (rw [HNS.out]; rfl) | (rw [HNS.out, he]; rfl)) HB.out)
      · have HNS := Lib.hid (symS_add (A := A) (B := B) (p := p) (n := N) (fun k => a2 (V2.out.1 k.1).1))
        rcases sevN N with hs | hs | hs | hs | hs | hs | ⟨⟨e2, e3, e4, e6, e8, e9⟩, he⟩
        all_goals
          first
          | (exfalso; omega)
          | (try subst hs
             go_wp2_with fail
             go_ret
             exact ret_eq (by first | (rw [HNS.out]; rfl) | (rw [HNS.out, he]; rfl)) HB.out)
    · have HNS := Lib.hid (symS_add (A := A) (B := B) (p := p) (n := N) (fun k => n6 k.2.2))
      rcases sevN N with hs | hs | hs | hs | hs | hs | ⟨⟨e2, e3, e4, e6, e8, e9⟩, he⟩
      all_goals
        first
        | (exfalso; omega)
        | (try subst hs
           go_wp2_with fail
           go_ret
           exact ret_eq (by first | (rw [HNS.out]; rfl) | (rw [HNS.out, he]; rfl)) HB.out)
  · rw [KILL.out 2 (by decide)]
    go_wp2_with fail
    refine (l1Num_any N _ (by omega)).mono ?_; rintro e w4 ⟨rfl, hb4⟩
    have hb5 := bel_trans hb4 HB.out
    clear hb4
    go_wp2_with fail
    go_ret
    exact ret_eq (by rfl) hb5
  · rw [KILL.out 3 (by decide)]
    go_wp2_with fail
    refine (l1Num_any N _ (by omega)).mono ?_; rintro e w4 ⟨rfl, hb4⟩
    have hb5 := bel_trans hb4 HB.out
    clear hb4
    go_wp2_with fail
    go_ret
    exact ret_eq (by rfl) hb5
end Go.Proofs.YtpjcfnjagknocaaDoor
