/- Pk: contracts: the bad primes of a kind that is asked for by its name. No conditions. -/
import Derived.Test.YtpjcfnjagknocaaDoorDf
namespace Go.Proofs.YtpjcfnjagknocaaDoor
open Go.RowKit

def splitS : ByteArray := ⟨#[115, 112, 108, 105, 116]⟩
def nonsplitS : ByteArray := ⟨#[110, 111, 110, 115, 112, 108, 105, 116]⟩
def additiveS : ByteArray := ⟨#[97, 100, 100, 105, 116, 105, 118, 101]⟩
def kindOf (s : ByteArray) : Nat := if s = splitS then 2 else if s = nonsplitS then 3 else if s = additiveS then 1 else 0
theorem kindOf_cases (s : ByteArray) : (kindOf s = 0 ∧ s ≠ splitS ∧ s ≠ nonsplitS ∧ s ≠ additiveS) ∨ ((kindOf s = 1 ∨ kindOf s = 2 ∨ kindOf s = 3) ∧ .string s = kindV (kindOf s)) := by
  unfold kindOf
  split
  · rename_i h; subst h; exact .inr ⟨.inr (.inl rfl), rfl⟩
  · split
    · rename_i h; subst h; exact .inr ⟨.inr (.inr rfl), rfl⟩
    · split
      · rename_i h; subst h; exact .inr ⟨.inl rfl, rfl⟩
      · exact .inl ⟨rfl, ‹_›, ‹_›, ‹_›⟩
theorem str_of_list {s : ByteArray} {l : List UInt8} (h : s.toList = l) : s = ⟨l.toArray⟩ := by
  rw [ByteArray.toList_eq] at h
  cases s
  subst h
  simp
/-- what is struck: the primes of another kind. -/
def delP (a b : Int) (j : Nat) (p : Int) : Bool := !(kindN (minA a b p) b p == j)
theorem okX_del (a b : Int) (j : Nat) : (bfX a b).filter (fun x => !(delP a b j x)) = okX a b j := by
  unfold okX delP; congr 1; funext p; simp
noncomputable def pkX (a b : Int) (j : Nat) : List Int := bif curveB a b && Nat.blt 0 j then okX a b j else []
noncomputable def pkOk (a b : Int) (j : Nat) : Bool := curveB a b && Nat.blt 0 j && bfOk a b
set_option maxHeartbeats 2000000 in
theorem delClosure_any (a b p : Int) (j : Nat) (hj : j = 1 ∨ j = 2 ∨ j = 3) (B B2 : Nat) (w : World) (hB : B < w.heap.size) (hB2 : B2 < w.heap.size) (c0 : w.cell? ⟨B, 0, none⟩ = some (.int .i64 a)) (c1 : w.cell? ⟨B, 1, none⟩ = some (.int .i64 b))
    (c2 : w.cell? ⟨B2, 0, none⟩ = some (kindV j)) (hcur : curveB a b = true) (hpr : p5B p = true) :
    Calls Tryd.prog 43 #[.int .i64 p, .pointer (some ⟨B, 0, none⟩), .pointer (some ⟨B2, 0, none⟩)] w (Ret (.bool (delP a b j p)) w) := by
  have hk := fun w => kindAt_any a b p w hcur hpr
  unfold delP
  rcases kind_cases (minA a b p) b p with h | h | h | h
  all_goals
    rw [h] at hk ⊢
    rcases hj with rfl | rfl | rfl
    all_goals
      simp only [kindV] at hk c2
      go_enter Tryd.func43, Tryd.ntmps43
      go_wp2_with fail
      refine wp_region_grow (by kernel_rfl) (by kernel_rfl) ?_
      repeat (go_big_quiet_step (((go_at_call 33; exact grow_ret (hk _)))))
      refine wpQuiet_nil ?_
      rintro wg hbg
      (try replace hbg := aft2 hbg (by assumption))
      obtain ⟨hcg, hfg, hg1, hg2, hg3, hg4⟩ := aftz hbg
      go_wp2_with fail
      go_ret
      exact ret_eq (by rfl) (by repeat (first | exact Below.refl _ _ | (with_reducible assumption) | refine bel_alloc ?_ _ | refine bel_drew ?_ | refine bel_drewN ?_ _ | refine Below.setCell ?_ (by dsimp only; omega) _ | refine bel_trans (by assumption) ?_))
set_option maxHeartbeats 2000000 in
theorem iPrimesOfKind_any (a b : Int) (s : ByteArray) (w : World) :
    Calls Tryd.prog 14 #[.agg #[.int .i64 a, .int .i64 b], .string s] w (RetSlB (pkX a b (kindOf s)) (pkOk a b (kindOf s)) w) := by
  unfold pkX pkOk
  cases hcur : curveB a b
  · go_enter Tryd.func14, Tryd.ntmps14
    go_wp2_with (go_at_call 24; refine (isCurve_any _ _ _).mono ?_; rintro e w' ⟨rfl, hb⟩; (try replace hb := aft2 hb (by assumption)); obtain ⟨hc, hf, hs1, hs2, hs3, hs4⟩ := aftz hb)
    go_returns
    exact ⟨_, rfl, (by repeat (first | exact Below.refl _ _ | (with_reducible assumption) | refine bel_alloc ?_ _ | refine bel_drew ?_ | refine bel_drewN ?_ _ | refine Below.setCell ?_ (by dsimp only; omega) _ | refine bel_trans (by assumption) ?_)), Own.nil _ _⟩
  · rcases kindOf_cases s with ⟨h0, h1, h2, h3⟩ | ⟨hj, hs⟩
    · rw [h0]
      have n1 : ¬ s.toList = [115, 112, 108, 105, 116] := fun h => h1 (str_of_list h)
      have n2 : ¬ s.toList = [110, 111, 110, 115, 112, 108, 105, 116] := fun h => h2 (str_of_list h)
      have n3 : ¬ s.toList = [97, 100, 100, 105, 116, 105, 118, 101] := fun h => h3 (str_of_list h)
      have m1 : (s.toList == [115, 112, 108, 105, 116]) = false := by simp [n1]
      have m2 : (s.toList == [110, 111, 110, 115, 112, 108, 105, 116]) = false := by simp [n2]
      have m3 : (s.toList == [97, 100, 100, 105, 116, 105, 118, 101]) = false := by simp [n3]
      clear h0 h1 h2 h3
      go_enter Tryd.func14, Tryd.ntmps14
      go_wp2_with (go_at_call 24; refine (isCurve_any _ _ _).mono ?_; rintro e w' ⟨rfl, hb⟩; (try replace hb := aft2 hb (by assumption)); obtain ⟨hc, hf, hs1, hs2, hs3, hs4⟩ := aftz hb)
      go_returns
      exact ⟨_, rfl, (by repeat (first | exact Below.refl _ _ | (with_reducible assumption) | refine bel_alloc ?_ _ | refine bel_drew ?_ | refine bel_drewN ?_ _ | refine Below.setCell ?_ (by dsimp only; omega) _ | refine bel_trans (by assumption) ?_)), Own.nil _ _⟩
    · have hp5 := bfX_p5 hcur
      have hbad := fun w => badFromFive_any a b w hcur
      rw [hs]
      generalize kindOf s = j at hj ⊢
      clear hs
      have hfl := okX_del a b j
      have hjb : Nat.blt 0 j = true := by rcases hj with rfl | rfl | rfl <;> rfl
      rw [hjb, Bool.true_and, Bool.true_and, cond_true]
      clear hjb
      obtain ⟨X, hX⟩ : ∃ X, bfX a b = X := ⟨_, rfl⟩
      rw [hX] at hp5 hbad hfl
      have hno : bfOk a b = false → okX a b j = [] := fun h => by rw [← hfl, ← hX]; unfold bfX; rw [h]; rfl
      clear hX
      have HFL := Lib.hid hfl; clear hfl
      have HNO := Lib.hid hno; clear hno
      obtain ⟨jj, hjj⟩ : ∃ jj, jj = j := ⟨j, rfl⟩
      have HJ := Lib.hid hjj; clear hjj
      cases hok : bfOk a b
      all_goals
        rw [hok] at hbad
        rcases hj with rfl | rfl | rfl
        all_goals
          simp only [kindV]
          go_enter Tryd.func14, Tryd.ntmps14
          go_wp2_with fail
          generalize hW : (w.alloc (.cells #[.int .i64 a, .int .i64 b] 24)).alloc (.cells #[.string _] 9) = W
          obtain ⟨B0, hB0⟩ : ∃ B0, w.heap.size = B0 := ⟨_, rfl⟩
          obtain ⟨hbelW, hsz0, hsz, hca, hcb, hcc⟩ : Below w.heap.size w W ∧ B0 < W.heap.size ∧ B0 + 1 < W.heap.size ∧ W.cell? ⟨B0, 0, none⟩ = some (.int .i64 a) ∧ W.cell? ⟨B0, 1, none⟩ = some (.int .i64 b) ∧ W.cell? ⟨B0 + 1, 0, none⟩ = some (kindV jj) := by
            rw [HJ.out]
            subst hW; subst hB0
            exact ⟨(by repeat (first | exact Below.refl _ _ | (with_reducible assumption) | refine bel_alloc ?_ _ | refine bel_drew ?_ | refine bel_drewN ?_ _ | refine Below.setCell ?_ (by dsimp only; omega) _ | refine bel_trans (by assumption) ?_)), by simp, by simp, by simp [go_sem], by simp [go_sem], by simp [go_sem]⟩
          clear hW
          (try rw [hB0])
          refine (isCurve_any _ _ _).mono ?_; rintro e w1 ⟨rfl, hb1⟩
          rw [hcur]
          have hca1 := (hb1.cell (p := ⟨B0, 0, none⟩) hsz0).trans hca
          have hcb1 := (hb1.cell (p := ⟨B0, 1, none⟩) hsz0).trans hcb
          have hcc1 := (hb1.cell (p := ⟨B0 + 1, 0, none⟩) hsz).trans hcc
          rw [HJ.out] at hcc1
          simp only [kindV] at hcc1
          go_wp2_with fail
          refine (hbad _).mono ?_; rintro e w2 ⟨v, rfl, hb2, ho2⟩
          have hz1 := hb1.size
          have hb3 := hb2
          replace hb2 := bel_trans hb2 hb1; clear hca1 hcb1 hcc1
          have hz2 := hb2.size
          have hcl : ∀ (w' : World) (x : Int), Below w1.heap.size w2 w' → x ∈ X → Calls Tryd.prog 43 #[.int .i64 x, .pointer (some ⟨B0, 0, none⟩), .pointer (some ⟨B0 + 1, 0, none⟩)] w' (Ret (.bool (delP a b jj x)) w') := fun w' x hb hx => by
            have hb' : Below W.heap.size W w' := hb2.trans (hb.mono hz1)
            have hz' := hb'.size
            exact delClosure_any a b x jj (by rw [HJ.out]; decide) B0 (B0 + 1) w' (by omega) (by omega) ((hb'.cell (p := ⟨B0, 0, none⟩) hsz0).trans hca) ((hb'.cell (p := ⟨B0, 1, none⟩) hsz0).trans hcb) ((hb'.cell (p := ⟨B0 + 1, 0, none⟩) hsz).trans hcc) hcur (hp5 x hx)
          have hfl : X.filter (fun x => !(delP a b jj x)) = okX a b jj := by rw [HJ.out]; exact HFL.out
          first
          | (have hnil := HNO.out hok
             clear hfl hcl hp5 hbad
             go_wp2_with fail
             go_returns
             exact ⟨.slice none 0 0, rfl, bel_trans hb2 hbelW, by rw [hnil]; exact Own.nil _ _⟩)
          | (have hdel := deleteFunc_any (delP a b jj) X v (.pointer (some ⟨B0, 0, none⟩)) (.pointer (some ⟨B0 + 1, 0, none⟩)) w1.heap.size w2 ho2 hb3.size hcl
             rw [hfl, HJ.out] at hdel
             have HDEL := Lib.hid hdel; clear hdel hfl hcl hp5 hbad
             have hww : w.heap.size ≤ w1.heap.size := by have := hbelW.size; omega
             go_wp2_with fail
             refine HDEL.out.mono ?_; rintro e w3 ⟨v', rfl, hb4, ho3⟩
             go_wp2_with fail
             go_returns
             exact ⟨_, rfl, bel_trans (hb2.trans (hb4.mono hz1)) hbelW, ho3.le hww⟩)
set_option maxRecDepth 4000 in
set_option maxHeartbeats 2000000 in
theorem sPrimesOfKind_any (a b : Int) (s : ByteArray) (w : World) :
    Calls Tryd.prog 15 #[.agg #[.int .i64 a, .int .i64 b], .string s] w (RetSlB (pkX a b (kindOf s)) (pkOk a b (kindOf s)) w) := by
  unfold pkX pkOk
  cases hcur : curveB a b
  · go_enter Tryd.func15, Tryd.ntmps15
    go_wp2_with (go_at_call 26; refine (ecGood_any _ _ _).mono ?_; rintro e w' ⟨rfl, hb⟩; (try replace hb := aft2 hb (by assumption)); obtain ⟨hc, hf, hs1, hs2, hs3, hs4⟩ := aftz hb)
    go_returns
    exact ⟨_, rfl, (by repeat (first | exact Below.refl _ _ | (with_reducible assumption) | refine bel_alloc ?_ _ | refine bel_drew ?_ | refine bel_drewN ?_ _ | refine Below.setCell ?_ (by dsimp only; omega) _ | refine bel_trans (by assumption) ?_)), Own.nil _ _⟩
  · rcases kindOf_cases s with ⟨h0, h1, h2, h3⟩ | ⟨hj, hs⟩
    · rw [h0]
      have n1 : ¬ s.toList = [115, 112, 108, 105, 116] := fun h => h1 (str_of_list h)
      have n2 : ¬ s.toList = [110, 111, 110, 115, 112, 108, 105, 116] := fun h => h2 (str_of_list h)
      have n3 : ¬ s.toList = [97, 100, 100, 105, 116, 105, 118, 101] := fun h => h3 (str_of_list h)
      have m1 : (s.toList == [115, 112, 108, 105, 116]) = false := by simp [n1]
      have m2 : (s.toList == [110, 111, 110, 115, 112, 108, 105, 116]) = false := by simp [n2]
      have m3 : (s.toList == [97, 100, 100, 105, 116, 105, 118, 101]) = false := by simp [n3]
      clear h0 h1 h2 h3
      go_enter Tryd.func15, Tryd.ntmps15
      go_wp2_with (go_at_call 26; refine (ecGood_any _ _ _).mono ?_; rintro e w' ⟨rfl, hb⟩; (try replace hb := aft2 hb (by assumption)); obtain ⟨hc, hf, hs1, hs2, hs3, hs4⟩ := aftz hb)
      go_returns
      exact ⟨_, rfl, (by repeat (first | exact Below.refl _ _ | (with_reducible assumption) | refine bel_alloc ?_ _ | refine bel_drew ?_ | refine bel_drewN ?_ _ | refine Below.setCell ?_ (by dsimp only; omega) _ | refine bel_trans (by assumption) ?_)), Own.nil _ _⟩
    · have hrt := fun (j : Nat) (h : j = 1 ∨ j = 2 ∨ j = 3) w => rtOfKind_any a b j h w hcur
      rw [hs]
      generalize kindOf s = j at hj ⊢
      clear hs
      have hjb : Nat.blt 0 j = true := by rcases hj with rfl | rfl | rfl <;> rfl
      rw [hjb, Bool.true_and, Bool.true_and, cond_true]
      clear hjb
      have hr := hrt j hj
      clear hrt
      rcases hj with rfl | rfl | rfl
      all_goals
        simp only [kindV] at hr ⊢
        have HR := Lib.hid hr; clear hr
        go_enter Tryd.func15, Tryd.ntmps15
        go_wp2_with (go_at_call 26; refine (ecGood_any _ _ _).mono ?_; rintro e w' ⟨rfl, hb⟩; (try replace hb := aft2 hb (by assumption)); obtain ⟨hc, hf, hs1, hs2, hs3, hs4⟩ := aftz hb)
        refine (HR.out _).mono ?_; rintro e w2 ⟨v, rfl, hb2, ho2⟩
        go_wp2_with fail
        go_returns
        exact ⟨_, rfl, (by repeat (first | exact Below.refl _ _ | (with_reducible assumption) | refine bel_alloc ?_ _ | refine bel_drew ?_ | refine bel_drewN ?_ _ | refine Below.setCell ?_ (by dsimp only; omega) _ | refine bel_trans (by assumption) ?_)), ho2.le (by have := hb.size; simp at this; omega)⟩
theorem pkX_len (a b : Int) (j : Nat) : (pkX a b j).length ≤ 10000000000 := by
  unfold pkX
  cases hcur : curveB a b
  · simp
  · cases Nat.blt 0 j
    · simp
    · rw [Bool.true_and, cond_true]
      unfold okX
      have h1 := List.length_filter_le (fun p => kindN (minA a b p) b p == j) (bfX a b)
      have h2 := bfX_len a b hcur
      omega
end Go.Proofs.YtpjcfnjagknocaaDoor
