/- Is: contracts: bad primes of a kind; semistable from five. No conditions. -/
import Derived.Test.YtpjcfnjagknocaaDoorIf
import Derived.Test.YtpjcfnjagknocaaDoorBg
namespace Go.Proofs.YtpjcfnjagknocaaDoor
open Go.RowKit

noncomputable def okX (a b : Int) (j : Nat) : List Int := (bfX a b).filter fun p => kindN (minA a b p) b p == j
theorem bfX_p5 {a b : Int} (hcur : curveB a b = true) : ∀ p ∈ bfX a b, p5B p = true := by
  intro p hp
  obtain ⟨_, _, _, _, q5⟩ := curveB_true.1 hcur
  unfold bfX at hp
  cases hk : bfOk a b
  · rw [hk] at hp; simp at hp
  · rw [hk, cond_true] at hp
    unfold badF at hp
    obtain ⟨h1, h2⟩ := List.mem_filter.1 hp
    unfold badP at h2
    rw [Bool.and_eq_true, decide_eq_true_eq] at h2
    have h3 : p ≤ 997 := by
      unfold bfOk at hk
      have := List.all_eq_true.1 hk p h1
      simpa using this
    have hs := primesL_spec (N := ((discI a b).natAbs : Int)) (by omega)
    exact pr_p5 ((hs.2 p).1 h1).1 h2.1 h3
theorem filt_step (P : Int → Bool) {X : List Int} {k : Nat} (hk : k < X.length) : (X.take (k + 1)).filter P = (X.take k).filter P ++ (if P (X.getD k 0) = true then [X.getD k 0] else []) := by
  rw [List.take_add_one, List.filter_append, List.getElem?_eq_getElem hk]
  congr 1
  rw [List.getD_eq_getElem?_getD, List.getElem?_eq_getElem hk]
  simp only [Option.toList, Option.getD_some, List.filter_cons, List.filter_nil]
set_option maxRecDepth 4000 in
set_option maxHeartbeats 4000000 in
theorem rtOfKind_any (a b : Int) (j : Nat) (hj : j = 1 ∨ j = 2 ∨ j = 3) (w : World) (hcur : curveB a b = true) :
    Calls Tryd.prog 34 #[.agg #[.int .i64 a, .int .i64 b], kindV j] w (RetSlB (okX a b j) (bfOk a b) w) := by
  obtain ⟨i0, hi, hz0, hz1, hz2⟩ := info_parts Tryd.info_int
  obtain ⟨P, hP⟩ : ∃ P : Int → Bool, (fun p => kindN (minA a b p) b p == j) = P := ⟨_, rfl⟩
  have hX : okX a b j = (bfX a b).filter P := by unfold okX; rw [hP]
  have hPt : ∀ p, P p = true ↔ kindN (minA a b p) b p = j := fun p => by rw [← hP]; simp
  clear hP
  have hall := bfX_p5 hcur
  have hlen := bfX_len a b hcur
  have hbad := fun w => rtBad_any a b w hcur
  have hoff : bfOk a b = false → bfX a b = [] := fun h => by unfold bfX; rw [h]; rfl
  obtain ⟨X, hXX⟩ : ∃ X, bfX a b = X := ⟨_, rfl⟩
  rw [hXX] at hX hall hlen hbad hoff
  clear hXX
  have HX := Lib.hid hX; clear hX
  have HALL := Lib.hid hall; clear hall
  cases hok : bfOk a b
  · rw [hok] at hbad
    have hnil := hoff hok
    subst hnil
    rcases hj with rfl | rfl | rfl
    all_goals
      go_enter Tryd.func34, Tryd.ntmps34
      go_wp2_with fail
      refine (hbad _).mono ?_; rintro e w1 ⟨v, rfl, hb1, ho1⟩
      go_wp2_with fail
      go_returns
      exact ⟨.slice none 0 0, rfl, (by repeat (first | exact Below.refl _ _ | (with_reducible assumption) | refine bel_alloc ?_ _ | refine bel_drew ?_ | refine bel_drewN ?_ _ | refine Below.setCell ?_ (by dsimp only; omega) _ | refine bel_trans (by assumption) ?_)), by rw [HX.out]; exact Own.nil _ _⟩
  · rw [hok] at hbad
    clear hoff
    have hkv := fun p h w => rtMinimal_any a b p w hcur h
    have hmc := fun p => min_curve (p := p) hcur
    rcases hj with rfl | rfl | rfl
    all_goals
      go_enter Tryd.func34, Tryd.ntmps34
      go_wp2_with fail
      generalize hW : w.alloc (.cells #[.int .i64 a, .int .i64 b] 24) = W
      obtain ⟨B0, hB0⟩ : ∃ B0, w.heap.size = B0 := ⟨_, rfl⟩
      obtain ⟨hbelW, hsz, hca, hcb⟩ : Below w.heap.size w W ∧ B0 < W.heap.size ∧ W.cell? ⟨B0, 0, none⟩ = some (.int .i64 a) ∧ W.cell? ⟨B0, 1, none⟩ = some (.int .i64 b) := by
        subst hW; subst hB0
        exact ⟨(by repeat (first | exact Below.refl _ _ | (with_reducible assumption) | refine bel_alloc ?_ _ | refine bel_drew ?_ | refine bel_drewN ?_ _ | refine Below.setCell ?_ (by dsimp only; omega) _ | refine bel_trans (by assumption) ?_)), by simp, by simp [go_sem], by simp [go_sem]⟩
      clear hW
      (try rw [hB0])
      refine (hbad _).mono ?_; rintro e w2 ⟨v, rfl, hb2, ho2⟩
      rcases ho2.shape with ⟨rfl, hnil⟩ | ⟨g, cap, rfl, hBg, hg2, hnc, hcm⟩
      · subst hnil
        go_wp2_with fail
        refine wp_loop_rounds 1 ?_; rw [rounds_succ]
        go_wp2_with fail
        go_returns
        exact ⟨.slice none 0 0, rfl, bel_trans hb2 hbelW, by rw [HX.out]; exact Own.nil _ _⟩
      · have hcell : ∀ i, i < X.length → w2.cell? ⟨g, i, none⟩ = some (.int .i64 (X.getD i 0)) := fun i hi => ho2.cellAt i hi
        have HC := Lib.hid hcell; clear hcell ho2
        have hsz2 : B0 < w2.heap.size := Nat.lt_of_lt_of_le hsz hb2.size
        have hca2 : w2.cell? ⟨B0, 0, none⟩ = some (.int .i64 a) := (hb2.cell (p := ⟨B0, 0, none⟩) hsz).trans hca
        have hcb2 : w2.cell? ⟨B0, 1, none⟩ = some (.int .i64 b) := (hb2.cell (p := ⟨B0, 1, none⟩) hsz).trans hcb
        have hbw := bel_trans hb2 hbelW
        clear hca hcb
        unfold maxLen at hcm
        go_wp2_with fail
        go_loopw [8, 22] (fun y x wr => ∃ k : Nat, x = .int .i64 k ∧ k ≤ X.length ∧ Below w2.heap.size w2 wr ∧ Own wr w2.heap.size y ((X.take k).filter P)) (fun _ x _ => X.length - (intOf x).toNat)
        case atStart => exact ⟨0, rfl, Nat.zero_le _, Below.refl _ _, Own.nil _ _⟩
        case round =>
          obtain ⟨k, rfl, hk, hbel, hown⟩ := hrel
          by_cases hlt : k < X.length
          · have hst := filt_step P hlt
            have hlen0 : ((X.take k).filter P).length ≤ k := Nat.le_trans (List.length_filter_le _ _) (List.length_take_le k X)
            have hck := (hbel.cell (p := ⟨g, k, none⟩) hg2).trans (HC.out k hlt)
            have hmem : X.getD k 0 ∈ X := by
              rw [List.getD_eq_getElem?_getD, List.getElem?_eq_getElem hlt]; exact List.getElem_mem hlt
            have hp5 := HALL.out _ hmem
            obtain ⟨p, hp⟩ : ∃ p, X.getD k 0 = p := ⟨_, rfl⟩
            rw [hp] at hst hck hp5
            clear hp hmem
            obtain ⟨acc, hacc⟩ : ∃ acc, (X.take k).filter P = acc := ⟨_, rfl⟩
            rw [hacc] at hown hst hlen0
            clear hacc
            have HST := Lib.hid hst; clear hst
            have hmin := hkv p hp5
            obtain ⟨m1, m2, m3, m4, _⟩ := curveB_true.1 (hmc p)
            have hPp := hPt p
            obtain ⟨A, hA⟩ : ∃ A, minA a b p = A := ⟨_, rfl⟩
            rw [hA] at hmin m1 m2 hPp
            clear hA
            have hca3 := (hbel.cell (p := ⟨B0, 0, none⟩) hsz2).trans hca2
            have hcb3 := (hbel.cell (p := ⟨B0, 1, none⟩) hsz2).trans hcb2
            have hk0 : (0 : Int) ≤ (k : Int) := Int.natCast_nonneg _
            have hk1 : (k : Int) < (X.length : Int) := by omega
            have HOWN := Lib.hid hown; clear hown
            go_wp2_with fail
            refine (hmin _).mono ?_; rintro e w3 ⟨rfl, hb3⟩
            have hown3 := HOWN.out.keep hb3
            have hbel3 := bel_trans hb3 hbel
            clear hb3 hbel HOWN hck hca3 hcb3
            go_wp2_with fail
            refine (rtKind_any A b p _ m1 m2 m3 m4 hp5).mono ?_; rintro e w4 ⟨rfl, hb4⟩
            have hown4 := (hown3.keep ((Below.refl _ _).alloc (Nat.le_refl _) (.cells #[.int .i64 A, .int .i64 b] 24))).keep hb4
            have hbel4 : Below w2.heap.size w2 w4 := bel_trans hb4 (bel_alloc hbel3 _)
            clear hb4 hown3 hbel3
            by_cases hkj : P p = true
            · have hx : Hid ((X.take (k + 1)).filter P = acc ++ [p]) := by unfold Hid; rw [HST.out, if_pos hkj]
              have hkk := hPp.1 hkj
              rw [hkk]
              clear hPp hkk hkj
              have hown' : w4.ownsRow w2.heap.size 3 1 _ acc.length (acc.map (Value.int .i64)) := hown4
              go_wp2_with (first | (at_builtin; refine wpList_append_own _ rfl _ _ 26 rfl w2.heap.size 3 i0 (.int .i64 0) 1 8 Tryd.underlying26 hi hz0 hz1 hz2 rfl (by decide) _ _ _ rfl (hown'.alloc _) ⟨w4.heap.size, 0, none⟩ 1 1 [.int .i64 p] rfl rfl (cell_one_new _ _ _) ?_ ?_ ?_ ?_ ?_))
              · first | rfl | (intro u hu; simp at hu; subst hu; rfl)
              · unfold maxLen; omega
              · omega
              · have := hbel4.size; simp; omega
              · intro v' w5 hown5 hgrow _
                obtain ⟨hb5, ho5⟩ := own_snoc hbel4 hown4 hown5 hgrow
                clear hown5 hgrow hown4 hown' hbel4
                go_wp2_with fail
                go_roundw
                case rel => exact ⟨k + 1, by go_num, by omega, hb5, by rw [hx.out]; exact ho5⟩
                case measure => simp [intOf]; omega
            · have hx : Hid ((X.take (k + 1)).filter P = acc) := by unfold Hid; rw [HST.out, if_neg hkj, List.append_nil]
              have hkk : ¬ kindN A b p = _ := fun h => hkj (hPp.2 h)
              have HOWN4 := Lib.hid hown4; clear hown4
              clear hPp hkj
              rcases kind_cases A b p with h | h | h | h
              all_goals first
                | exact absurd h hkk
                | (rw [h]
                   clear h hkk
                   go_wp2_with fail
                   go_roundw
                   case rel => exact ⟨k + 1, by go_num, by omega, hbel4, by rw [hx.out]; exact HOWN4.out⟩
                   case measure => simp [intOf]; omega)
          · have hkl : k = X.length := by omega
            have hfin : Own wr w2.heap.size u8 (X.filter P) := by rw [hkl, List.take_length] at hown; exact hown
            clear hown
            have HFIN := Lib.hid hfin; clear hfin
            go_wp2_with fail
            go_returns
            exact ⟨_, rfl, bel_trans hbel hbw, by rw [HX.out]; exact HFIN.out.le hbw.size⟩
noncomputable def semB (a b : Int) : Bool := bfOk a b && !((bfX a b).any (addB a b))
theorem sem_alt (a b : Int) : (bfOk a b && decide ((okX a b 1).length = 0)) = semB a b := by
  unfold semB okX
  congr 1
  rw [Bool.eq_iff_iff, decide_eq_true_eq, List.length_eq_zero_iff, List.filter_eq_nil_iff, Bool.not_eq_true', ← Bool.not_eq_true, List.any_eq_true]
  constructor
  · rintro h ⟨p, hp, hq⟩; exact h p hp hq
  · intro h p hp hq; exact h ⟨p, hp, hq⟩
theorem iIsSemistableFromFive_any (a b : Int) (w : World) :
    Calls Tryd.prog 9 #[.agg #[.int .i64 a, .int .i64 b]] w (Ret (.tuple #[.bool (curveB a b && semB a b), .bool (curveB a b && bfOk a b)]) w) := by
  cases hcur : curveB a b
  · go_enter Tryd.func9, Tryd.ntmps9
    go_wp2_with (go_at_call 24; refine (isCurve_any _ _ _).mono ?_; rintro e w' ⟨rfl, hb⟩; (try replace hb := aft2 hb (by assumption)); obtain ⟨hc, hf, hs1, hs2, hs3, hs4⟩ := aftz hb)
    go_returns
    exact ret_mk (by repeat (first | exact Below.refl _ _ | (with_reducible assumption) | refine bel_alloc ?_ _ | refine bel_drew ?_ | refine bel_drewN ?_ _ | refine Below.setCell ?_ (by dsimp only; omega) _ | refine bel_trans (by assumption) ?_))
  · have hp5 := bfX_p5 hcur
    have hbad := fun w => badFromFive_any a b w hcur
    have hsem : semB a b = (bfOk a b && !((bfX a b).any (addB a b))) := rfl
    rw [hsem]; clear hsem
    obtain ⟨X, hX⟩ : ∃ X, bfX a b = X := ⟨_, rfl⟩
    rw [hX] at hp5 hbad ⊢
    clear hX
    cases hok : bfOk a b
    all_goals
      rw [hok] at hbad
      go_enter Tryd.func9, Tryd.ntmps9
      go_wp2_with fail
      generalize hW : w.alloc (.cells #[.int .i64 a, .int .i64 b] 24) = W
      obtain ⟨B0, hB0⟩ : ∃ B0, w.heap.size = B0 := ⟨_, rfl⟩
      obtain ⟨hbelW, hsz, hca, hcb⟩ : Below w.heap.size w W ∧ B0 < W.heap.size ∧ W.cell? ⟨B0, 0, none⟩ = some (.int .i64 a) ∧ W.cell? ⟨B0, 1, none⟩ = some (.int .i64 b) := by
        subst hW; subst hB0
        exact ⟨(by repeat (first | exact Below.refl _ _ | (with_reducible assumption) | refine bel_alloc ?_ _ | refine bel_drew ?_ | refine bel_drewN ?_ _ | refine Below.setCell ?_ (by dsimp only; omega) _ | refine bel_trans (by assumption) ?_)), by simp, by simp [go_sem], by simp [go_sem]⟩
      clear hW
      (try rw [hB0])
      refine (isCurve_any _ _ _).mono ?_; rintro e w1 ⟨rfl, hb1⟩
      rw [hcur]
      have hca1 := (hb1.cell (p := ⟨B0, 0, none⟩) hsz).trans hca
      have hcb1 := (hb1.cell (p := ⟨B0, 1, none⟩) hsz).trans hcb
      go_wp2_with fail
      refine (hbad _).mono ?_; rintro e w2 ⟨v, rfl, hb2, ho2⟩
      replace hb2 := bel_trans hb2 hb1; clear hb1 hca1 hcb1
      have hcl : ∀ (w' : World) (x : Int), Below w2.heap.size w2 w' → x ∈ X → Calls Tryd.prog 32 #[.int .i64 x, .pointer (some ⟨B0, 0, none⟩)] w' (Ret (.bool (addB a b x)) w') := fun w' x hb hx => by
        have hb' : Below W.heap.size W w' := bel_trans hb hb2
        exact addClosure_any a b x B0 w' ((hb'.cell (p := ⟨B0, 0, none⟩) hsz).trans hca) ((hb'.cell (p := ⟨B0, 1, none⟩) hsz).trans hcb) hcur (hp5 x hx)
      have HCF := Lib.hid (containsFunc_any (addB a b) X v (.pointer (some ⟨B0, 0, none⟩)) w2 ho2.rd hcl)
      clear hcl hp5 hbad
      obtain ⟨ad, cap, rfl⟩ := ho2.len
      go_wp2_with (go_at_call 31; refine (HCF.out).mono ?_; rintro e w' ⟨rfl, hb⟩; (try replace hb := aft2 hb (by assumption)); obtain ⟨hc, hf⟩ := aft hb)
      go_returns
      exact ret_eq (by first | rfl | simp) (bel_trans (by repeat (first | exact Below.refl _ _ | (with_reducible assumption) | refine bel_drew ?_ | refine bel_trans (by assumption) ?_)) hbelW)
theorem sIsSemistableFromFive_any (a b : Int) (w : World) :
    Calls Tryd.prog 10 #[.agg #[.int .i64 a, .int .i64 b]] w (Ret (.tuple #[.bool (curveB a b && semB a b), .bool (curveB a b && bfOk a b)]) w) := by
  cases hcur : curveB a b
  · go_enter Tryd.func10, Tryd.ntmps10
    go_wp2_with (go_at_call 26; refine (ecGood_any _ _ _).mono ?_; rintro e w' ⟨rfl, hb⟩; (try replace hb := aft2 hb (by assumption)); obtain ⟨hc, hf, hs1, hs2, hs3, hs4⟩ := aftz hb)
    go_returns
    exact ret_mk (by repeat (first | exact Below.refl _ _ | (with_reducible assumption) | refine bel_alloc ?_ _ | refine bel_drew ?_ | refine bel_drewN ?_ _ | refine Below.setCell ?_ (by dsimp only; omega) _ | refine bel_trans (by assumption) ?_))
  · have hrt := fun w => rtOfKind_any a b 1 (.inl rfl) w hcur
    have hsem := sem_alt a b
    rw [← hsem]; clear hsem
    obtain ⟨L, hL⟩ : ∃ L, okX a b 1 = L := ⟨_, rfl⟩
    rw [hL] at hrt ⊢
    clear hL
    obtain ⟨m, hm⟩ : ∃ m, L.length = m := ⟨_, rfl⟩
    rw [hm]
    have HM := Lib.hid hm; clear hm
    simp only [kindV_1] at hrt
    by_cases hz : m = 0
    · subst hz
      cases hok : bfOk a b
      all_goals
        rw [hok] at hrt
        go_enter Tryd.func10, Tryd.ntmps10
        go_wp2_with (go_at_call 26; refine (ecGood_any _ _ _).mono ?_; rintro e w' ⟨rfl, hb⟩; (try replace hb := aft2 hb (by assumption)); obtain ⟨hc, hf, hs1, hs2, hs3, hs4⟩ := aftz hb)
        refine (hrt _).mono ?_; rintro e w2 ⟨v, rfl, hb2, ho2⟩
        obtain ⟨ad, cap, hv⟩ := ho2.len
        rw [HM.out] at hv
        subst hv
        clear ho2
        go_wp2_with fail
        go_returns
        exact ret_eq (by first | rfl | simp) (by repeat (first | exact Below.refl _ _ | (with_reducible assumption) | refine bel_alloc ?_ _ | refine bel_drew ?_ | refine bel_drewN ?_ _ | refine Below.setCell ?_ (by dsimp only; omega) _ | refine bel_trans (by assumption) ?_))
    · have hzb : ((m : Int) == 0) = false := by simp; omega
      have hzd : decide (m = 0) = false := by simp [hz]
      rw [hzd]
      clear hzd
      cases hok : bfOk a b
      all_goals
        rw [hok] at hrt
        go_enter Tryd.func10, Tryd.ntmps10
        go_wp2_with (go_at_call 26; refine (ecGood_any _ _ _).mono ?_; rintro e w' ⟨rfl, hb⟩; (try replace hb := aft2 hb (by assumption)); obtain ⟨hc, hf, hs1, hs2, hs3, hs4⟩ := aftz hb)
        refine (hrt _).mono ?_; rintro e w2 ⟨v, rfl, hb2, ho2⟩
        obtain ⟨ad, cap, hv⟩ := ho2.len
        rw [HM.out] at hv
        subst hv
        clear ho2
        go_wp2_with fail
        go_returns
        exact ret_eq (by first | rfl | simp) (by repeat (first | exact Below.refl _ _ | (with_reducible assumption) | refine bel_alloc ?_ _ | refine bel_drew ?_ | refine bel_drewN ?_ _ | refine Below.setCell ?_ (by dsimp only; omega) _ | refine bel_trans (by assumption) ?_))
end Go.Proofs.YtpjcfnjagknocaaDoor
