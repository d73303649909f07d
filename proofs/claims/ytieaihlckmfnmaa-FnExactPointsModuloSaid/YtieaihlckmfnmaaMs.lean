/- Ms: contracts of the helpers that compare, mark and look at slices of slices of numbers. No conditions. -/
import Derived.Test.YtieaihlckmfnmaaSs
import Derived.Test.YtieaihlckmfnmaaMk
import Derived.Test.YtieaihlckmfnmaaFld
namespace Go.Proofs.Ytieaihlckmfnmaa
open Go.RowKit

/-- a slice of slices of numbers is read, all its blocks below n. -/
structure RowsN (n m : Nat) (w : World) (v : Value) (vs : List Value) (f : Nat → List Int) : Prop where
  le : n ≤ w.heap.size
  cap : m ≤ 1000000
  sh : (v = .slice none 0 0 ∧ m = 0) ∨ ∃ g c, v = .slice (some ⟨g, 0, none⟩) m c ∧ g < n ∧ ∀ j, j < m → w.cell? ⟨g, j, none⟩ = some (vs.getD j undef)
  rows : ∀ j, j < m → RdN n w (vs.getD j undef) (f j)
theorem RowsN.step {n m k : Nat} {w w' : World} {v : Value} {vs : List Value} {f : Nat → List Int} (h : RowsN n m w v vs f) (hb : Below k w w') (hle : n ≤ k) : RowsN n m w' v vs f := by
  refine ⟨Nat.le_trans h.le hb.size, h.cap, ?_, fun j hj => (h.rows j hj).step hb hle⟩
  rcases h.sh with h1 | ⟨g, c, hv, hg, hc⟩
  · exact .inl h1
  · exact .inr ⟨g, c, hv, hg, fun j hj => (hb.cell (p := ⟨g, j, none⟩) (Nat.lt_of_lt_of_le hg hle)).trans (hc j hj)⟩
theorem RowsN.keep {n m : Nat} {w w' : World} {v : Value} {vs : List Value} {f : Nat → List Int} (h : RowsN n m w v vs f) (hb : Below w.heap.size w w') : RowsN n m w' v vs f := h.step hb h.le
/-- the call's own slice of own slices. -/
structure RowsO (B m : Nat) (w : World) (v : Value) (vs : List Value) (f : Nat → List Int) : Prop where
  cap : m ≤ 1000000
  row : w.ownsRow B 34 1 v m vs
  len : vs.length = m
  rows : ∀ j, j < m → Own w B (vs.getD j undef) (f j)
  dis : ∀ i j g, i < j → j < m → (vs.getD i undef).ownBlock = some g → (vs.getD j undef).ownBlock ≠ some g
theorem OwnSS.o {w : World} {B : Nat} {v : Value} {xss : List (List Int)} (h : OwnSS w B v xss) (hm : xss.length ≤ 1000000) : ∃ vs, RowsO B xss.length w v vs (fun j => xss.getD j []) := by
  obtain ⟨vs, h1, h2, h3, h4⟩ := h
  exact ⟨vs, hm, h1, h2, h3, h4⟩
theorem RowsO.keep {B m : Nat} {w w' : World} {v : Value} {vs : List Value} {f : Nat → List Int} (h : RowsO B m w v vs f) (hb : Below w.heap.size w w') : RowsO B m w' v vs f :=
  ⟨h.cap, row_keep h.row hb, h.len, fun j hj => (h.rows j hj).keep hb, h.dis⟩
theorem RowsO.n {B m : Nat} {w : World} {v : Value} {vs : List Value} {f : Nat → List Int} (h : RowsO B m w v vs f) : RowsN w.heap.size m w v vs f := by
  refine ⟨Nat.le_refl _, h.cap, ?_, fun j hj => (h.rows j hj).rd.n⟩
  rcases h.row.2 with ⟨hv, hm⟩ | ⟨g, c, cur, hv, hg, hh, _⟩
  · exact .inl ⟨hv, hm⟩
  · right
    refine ⟨g, c, hv, ?_, fun j hj => ?_⟩
    · rcases Nat.lt_or_ge g w.heap.size with h' | h'
      · exact h'
      · rw [Array.getElem?_eq_none h'] at hh; cases hh
    · have h1 := h.row
      rw [hv] at h1
      rw [h1.cellAt j (by omega), List.getD_eq_getElem?_getD, List.getElem?_eq_getElem (by rw [h.len]; exact hj)]
      rfl
theorem RowsN.shape {n m : Nat} {w : World} {v : Value} {vs : List Value} {f : Nat → List Int} (h : RowsN n m w v vs f) : ∃ ad c, v = .slice ad m c := by
  rcases h.sh with ⟨h1, h2⟩ | ⟨g, c, h1, _⟩
  · exact ⟨none, 0, by rw [h1, h2]⟩
  · exact ⟨_, c, h1⟩
/-- how many numbers stand ahead of row j. -/
def totF (f : Nat → List Int) : Nat → Nat
  | 0 => 0
  | j + 1 => totF f j + (f j).length
theorem totF_mono (f : Nat → List Int) : ∀ {i j : Nat}, i ≤ j → totF f i ≤ totF f j
  | i, 0, h => by rw [show i = 0 by omega]; exact Nat.le_refl _
  | i, j + 1, h => by
    rcases Nat.lt_or_ge i (j + 1) with k | k
    · exact Nat.le_trans (totF_mono f (by omega)) (Nat.le_add_right _ _)
    · rw [show i = j + 1 by omega]; exact Nat.le_refl _
/-- the rows' marks. -/
def mksF (k : Int) (f : Nat → List Int) (j : Nat) : List Int := marks (k + (totF f j : Nat)) (f j).length
/-- nothing below B is written. -/
def Safe (B : Nat) (w w' : World) : Prop := ∀ m, m ≤ B → m ≤ w.heap.size → Below m w w'
theorem Safe.refl (B : Nat) (w : World) : Safe B w w := fun m _ _ => Below.refl m w
theorem Safe.trans {B : Nat} {a b c : World} (h : Safe B a b) (k : Safe B b c) : Safe B a c := fun m h1 h2 => by
  have h3 := h m h1 h2
  exact h3.trans (k m h1 (Nat.le_trans h2 h3.size))
set_option maxHeartbeats 1000000 in
theorem eqIntSS_same {n n' m : Nat} {v u : Value} {vs us : List Value} {f : Nat → List Int} {w : World} (h : RowsN n m w v vs f) (h' : RowsN n' m w u us f) :
    Calls Try.prog 28 #[v, u] w (Ret (.bool true) w) := by
  have hcap := h.cap
  have HV : True → RowsN n m w v vs f := fun _ => h
  have HU : True → RowsN n' m w u us f := fun _ => h'
  rcases h.sh with ⟨rfl, rfl⟩ | ⟨g, c, rfl, hg, hc⟩
  · obtain ⟨ad, c', rfl⟩ := h'.shape
    clear h h'
    go_enter Try.func28, Try.ntmps28
    go_wp2_with fail
    refine wp_loop_rounds 1 ?_; rw [rounds_succ]
    go_wp2_with fail
    go_ret
    exact ret_eq rfl (by repeat (first | exact Below.refl _ _ | (with_reducible assumption) | refine bel_alloc ?_ _ | refine bel_drew ?_ | refine bel_drewN ?_ _ | refine Below.setCell ?_ (by dsimp only; omega) _ | refine bel_trans (by assumption) ?_))
  · rcases h'.sh with ⟨rfl, hm0⟩ | ⟨g', c', rfl, hg', hc'⟩
    · subst hm0
      clear h h'
      go_enter Try.func28, Try.ntmps28
      go_wp2_with fail
      refine wp_loop_rounds 1 ?_; rw [rounds_succ]
      go_wp2_with fail
      go_ret
      exact ret_eq rfl (by repeat (first | exact Below.refl _ _ | (with_reducible assumption) | refine bel_alloc ?_ _ | refine bel_drew ?_ | refine bel_drewN ?_ _ | refine Below.setCell ?_ (by dsimp only; omega) _ | refine bel_trans (by assumption) ?_))
    · have hgw := Nat.lt_of_lt_of_le hg h.le
      have hgw' := Nat.lt_of_lt_of_le hg' h'.le
      have HC := Lib.hid hc; clear hc
      have HC' := Lib.hid hc'; clear hc'
      clear h h'
      go_enter Try.func28, Try.ntmps28
      go_wp2_with fail
      go_loopw [5] (fun x wr => ∃ j : Nat, x = .int .i64 j ∧ j ≤ m ∧ Below w.heap.size w wr) (fun x _ => m - (intOf x).toNat)
      case atStart => exact ⟨0, rfl, Nat.zero_le _, Below.refl _ _⟩
      case round =>
        obtain ⟨j, rfl, hj, hbel⟩ := hrel
        by_cases hlt : j < m
        · have e0 := (hbel.cell (p := ⟨g, j, none⟩) hgw).trans (HC.out j hlt)
          have e1 := (hbel.cell (p := ⟨g', j, none⟩) hgw').trans (HC'.out j hlt)
          have r0 := (((HV trivial).rows j hlt).rd).keep hbel
          have r1 := (((HU trivial).rows j hlt).rd).keep hbel
          have gw := Nat.lt_of_lt_of_le hgw hbel.size
          have gw' := Nat.lt_of_lt_of_le hgw' hbel.size
          obtain ⟨p, hp⟩ : ∃ p, vs.getD j undef = p := ⟨_, rfl⟩
          obtain ⟨q, hq⟩ : ∃ q, us.getD j undef = q := ⟨_, rfl⟩
          rw [hp] at e0 r0
          rw [hq] at e1 r1
          clear hp hq
          obtain ⟨ad0, c0, rfl⟩ : ∃ ad c, p = .slice ad (f j).length c := by obtain ⟨ad, c, hh, _⟩ := r0; exact ⟨ad, c, hh⟩
          obtain ⟨ad1, c1, rfl⟩ : ∃ ad c, q = .slice ad (f j).length c := by obtain ⟨ad, c, hh, _⟩ := r1; exact ⟨ad, c, hh⟩
          have R0 := Lib.hid r0; clear r0
          have R1 := Lib.hid r1; clear r1
          have hj0 : (0 : Int) ≤ (j : Int) := Int.natCast_nonneg _
          have hj1 : (j : Int) < (m : Int) := by omega
          have HBEL : True → Below w.heap.size w wr := fun _ => hbel
          clear hbel
          go_wp2_with fail
          refine wp_region_grow (by kernel_rfl) (by kernel_rfl) ?_
          repeat (go_big_quiet_step (((go_at_call 23; exact grow_ret (eqIntS_same _ _ _ _ (rd_grow R0.out) (rd_grow R1.out))))))
          refine wpQuiet_nil ?_
          rintro wg hbg
          (try replace hbg := aft2 hbg (by assumption))
          obtain ⟨hcg, hfg, hg1, hg2, hg3, hg4⟩ := aftz hbg
          have hb2 := bel_trans hbg (HBEL trivial)
          clear hbg hcg hfg hg1 hg2 hg3 hg4 R0 R1
          go_wp2_with fail
          go_roundw
          case rel => exact ⟨j + 1, by go_num, by omega, hb2⟩
          case measure => simp [intOf]; omega
        · have hjm : j = m := by omega
          subst hjm
          go_wp2_with fail
          go_ret
          exact ret_eq rfl hbel
set_option maxHeartbeats 1000000 in
theorem heldIntSS_any {n m : Nat} {v : Value} {vs : List Value} {f : Nat → List Int} {w : World} (k : Int) (h : RowsN n m w v vs (mksF k f)) (hk : 0 ≤ k) (hk2 : k ≤ 1000) (ht : totF f m ≤ 1000000000) :
    Calls Try.prog 30 #[v, .int .i64 k] w (Ret (.int .i64 (k + (totF f m : Nat))) w) := by
  have hcap := h.cap
  have HV : True → RowsN n m w v vs (mksF k f) := fun _ => h
  rcases h.sh with ⟨rfl, rfl⟩ | ⟨g, c, rfl, hg, hc⟩
  · clear h
    go_enter Try.func30, Try.ntmps30
    go_wp2_with fail
    refine wp_loop_rounds 1 ?_; rw [rounds_succ]
    go_wp2_with fail
    go_ret
    exact ret_eq (by simp [totF]) (by repeat (first | exact Below.refl _ _ | (with_reducible assumption) | refine bel_alloc ?_ _ | refine bel_drew ?_ | refine bel_drewN ?_ _ | refine Below.setCell ?_ (by dsimp only; omega) _ | refine bel_trans (by assumption) ?_))
  · have hgw := Nat.lt_of_lt_of_le hg h.le
    have HC := Lib.hid hc; clear hc
    clear h
    go_enter Try.func30, Try.ntmps30
    go_wp2_with fail
    go_loopw [1, 5] (fun y x wr => ∃ j : Nat, x = .int .i64 j ∧ y = .int .i64 (k + (totF f j : Nat)) ∧ j ≤ m ∧ Below w.heap.size w wr) (fun _ x _ => m - (intOf x).toNat)
    case atStart => exact ⟨0, rfl, by simp [totF], Nat.zero_le _, Below.refl _ _⟩
    case round =>
      obtain ⟨j, rfl, rfl, hj, hbel⟩ := hrel
      by_cases hlt : j < m
      · have e0 := (hbel.cell (p := ⟨g, j, none⟩) hgw).trans (HC.out j hlt)
        have r0 := (((HV trivial).rows j hlt).rd).keep hbel
        obtain ⟨p, hp⟩ : ∃ p, vs.getD j undef = p := ⟨_, rfl⟩
        rw [hp] at e0 r0
        clear hp
        have htj := totF_mono f (show j + 1 ≤ m from hlt)
        have hts : totF f (j + 1) = totF f j + (f j).length := rfl
        obtain ⟨t, htt⟩ : ∃ t : Int, k + (totF f j : Nat) = t := ⟨_, rfl⟩
        have hx : Hid (k + (totF f (j + 1) : Nat) = t + (f j).length) := by unfold Hid; rw [hts, ← htt]; omega
        have r1 : Rd wr p (marks t (f j).length) := by unfold mksF at r0; rw [htt] at r0; exact r0
        have htb : 0 ≤ t ∧ t + (f j).length ≤ 1000001000 := by omega
        rw [htt]
        clear r0 htt hts htj
        obtain ⟨ad0, c0, rfl⟩ : ∃ ad c, p = .slice ad (f j).length c := by obtain ⟨ad, c, hh, _⟩ := r1; rw [marks_len] at hh; exact ⟨ad, c, hh⟩
        have R1 := Lib.hid r1; clear r1
        have hj0 : (0 : Int) ≤ (j : Int) := Int.natCast_nonneg _
        have hj1 : (j : Int) < (m : Int) := by omega
        go_wp2_with fail
        refine (heldIntS_any _ (f j).length t _ R1.out htb.1 (by omega) (by omega)).mono ?_; rintro e w2 ⟨rfl, hb2⟩
        replace hb2 := bel_trans hb2 hbel
        have hneg : ¬ (t + ((f j).length : Int) < 0) := by omega
        obtain ⟨t2, ht2⟩ : ∃ t2, t + ((f j).length : Int) = t2 := ⟨_, rfl⟩
        rw [ht2] at hneg hx ⊢
        clear R1 ht2 htb
        go_wp2_with fail
        go_roundw
        case rel => exact ⟨j + 1, by go_num, by rw [hx.out], by omega, hb2⟩
        case measure => simp [intOf]; omega
      · have hjm : j = m := by omega
        subst hjm
        go_wp2_with fail
        go_ret
        exact ret_eq rfl hbel
theorem apart_symm {u v : Value} (h : u.ownBlock = none ∨ u.ownBlock ≠ v.ownBlock) : v.ownBlock = none ∨ v.ownBlock ≠ u.ownBlock := by
  rcases h with h | h
  · cases hv : v.ownBlock with
    | none => exact .inl rfl
    | some g => right; rw [h]; simp
  · exact .inr (fun e => h e.symm)
set_option maxHeartbeats 1000000 in
theorem markIntSS_any {B m : Nat} {v : Value} {vs : List Value} {f : Nat → List Int} {w : World} (k : Int) (h : RowsO B m w v vs f) (hk : 0 ≤ k) (hk2 : k ≤ 1000) (ht : totF f m ≤ 1000000000) :
    Calls Try.prog 29 #[v, .int .i64 k] w (fun e w' => e = .returned (.int .i64 (k + (totF f m : Nat))) ∧ Safe B w w' ∧ w.heap.size ≤ w'.heap.size ∧ RowsO B m w' v vs (mksF k f)) := by
  have hcap := h.cap
  have HD := Lib.hid h.dis
  have HL := Lib.hid h.len
  have HROW : Hid (w.ownsRow B 34 1 v m vs) := h.row
  have HRS : Hid (∀ j, j < m → Own w B (vs.getD j undef) (f j)) := h.rows
  rcases h.row.2 with ⟨rfl, rfl⟩ | ⟨g, c, cur, rfl, _⟩
  · clear h
    go_enter Try.func29, Try.ntmps29
    go_wp2_with fail
    refine wp_loop_rounds 1 ?_; rw [rounds_succ]
    go_wp2_with fail
    go_ret
    exact ⟨by simp [totF], Safe.refl _ _, Nat.le_refl _, hcap, HROW.out, HL.out, fun j hj => by omega, HD.out⟩
  · clear h
    go_enter Try.func29, Try.ntmps29
    go_wp2_with fail
    go_loopw [1, 5] (fun y x wr => ∃ j : Nat, x = .int .i64 j ∧ y = .int .i64 (k + (totF f j : Nat)) ∧ j ≤ m ∧ Hid (Safe B w wr) ∧ w.heap.size ≤ wr.heap.size ∧ Hid (wr.ownsRow B 34 1 (.slice (some ⟨g, 0, none⟩) m c) m vs) ∧ Hid (∀ i, i < m → Own wr B (vs.getD i undef) (if i < j then mksF k f i else f i))) (fun _ x _ => m - (intOf x).toNat)
    case atStart => exact ⟨0, rfl, by simp [totF], Nat.zero_le _, Safe.refl _ _, Nat.le_refl _, HROW, by unfold Hid; intro i hi; rw [if_neg (by omega)]; exact HRS.out i hi⟩
    case round =>
      obtain ⟨j, rfl, rfl, hj, HS, hsz, HR, HI⟩ := hrel
      by_cases hlt : j < m
      · have e0 := HR.out.cellAt j (by omega)
        rw [show vs[j]? = some (vs.getD j undef) by rw [List.getD_eq_getElem?_getD, List.getElem?_eq_getElem (by rw [HL.out]; exact hlt)]; rfl] at e0
        have o0 := HI.out j hlt
        rw [if_neg (by omega)] at o0
        have htj := totF_mono f (show j + 1 ≤ m from hlt)
        have hts : totF f (j + 1) = totF f j + (f j).length := rfl
        obtain ⟨t, htt⟩ : ∃ t : Int, k + (totF f j : Nat) = t := ⟨_, rfl⟩
        have hx : Hid (k + (totF f (j + 1) : Nat) = t + (f j).length) := by unfold Hid; rw [hts, ← htt]; omega
        have htb : 0 ≤ t ∧ t + (f j).length ≤ 1000001000 := by omega
        have hmk : Hid (mksF k f j = marks t (f j).length) := by unfold Hid mksF; rw [htt]
        rw [htt]
        clear htt hts htj
        obtain ⟨p, hp⟩ : ∃ p, vs.getD j undef = p := ⟨_, rfl⟩
        rw [hp] at e0 o0
        have HP := Lib.hid hp; clear hp
        have O0 := Lib.hid o0
        obtain ⟨ad0, c0, rfl⟩ := o0.len
        clear o0
        have hj0 : (0 : Int) ≤ (j : Int) := Int.natCast_nonneg _
        have hj1 : (j : Int) < (m : Int) := by omega
        go_wp2_with fail
        refine (markIntS_any _ (f j) t B _ O0.out htb.1 (by omega) (by omega)).mono ?_; rintro e w2 ⟨rfl, hgr, ho2⟩
        have hsafe : Hid (Safe B wr w2) := fun m' h1 h2 => Marked.below hgr O0.out h1 h2
        have hrow2 : Hid (w2.ownsRow B 34 1 (.slice (some ⟨g, 0, none⟩) m c) m vs) := World.ownsRow.kept HR.out hgr (apart_symm (rows_apart O0.out HR.out))
        have hi2 : Hid (∀ i, i < m → Own w2 B (vs.getD i undef) (if i < j + 1 then mksF k f i else f i)) := by
          intro i hi
          by_cases hij : i = j
          · subst hij
            rw [if_pos (by omega), HP.out, hmk.out]
            exact ho2
          · have h1 := HI.out i hi
            have h2 : (if i < j then mksF k f i else f i) = (if i < j + 1 then mksF k f i else f i) := by
              by_cases h3 : i < j
              · rw [if_pos h3, if_pos (by omega)]
              · rw [if_neg h3, if_neg (by omega)]
            rw [h2] at h1
            refine World.ownsRow.kept h1 hgr ?_
            cases hb : (vs.getD i undef).ownBlock with
            | none => exact .inl rfl
            | some b =>
              right
              intro e
              rcases Nat.lt_or_ge i j with h3 | h3
              · exact HD.out i j b h3 hlt hb (by rw [HP.out]; exact e.symm)
              · exact HD.out j i b (by omega) hi (by rw [HP.out]; exact e.symm) hb
        have hs2 := hgr.size
        obtain ⟨t2, ht2⟩ : ∃ t2, t + ((f j).length : Int) = t2 := ⟨_, rfl⟩
        rw [ht2] at hx ⊢
        clear ht2 htb ho2 hgr O0 e0
        go_wp2_with fail
        go_roundw
        case rel => exact ⟨j + 1, by go_num, by rw [hx.out], by omega, HS.out.trans hsafe.out, by omega, hrow2, hi2⟩
        case measure => simp [intOf]; omega
      · have hjm : j = m := by omega
        subst hjm
        have hfin : RowsO B j wr (.slice (some ⟨g, 0, none⟩) j c) vs (mksF k f) := ⟨hcap, HR.out, HL.out, fun i hi => by have := HI.out i hi; rwa [if_pos hi] at this, HD.out⟩
        have HF : True → RowsO B j wr (.slice (some ⟨g, 0, none⟩) j c) vs (mksF k f) := fun _ => hfin
        clear hfin HR HI
        go_wp2_with fail
        go_ret
        exact ⟨rfl, HS.out, hsz, HF trivial⟩
end Go.Proofs.Ytieaihlckmfnmaa
