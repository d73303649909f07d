/- Dp: contracts: drawn primes, points modulo a prime. No conditions. -/
import Derived.Test.YtpjcfnjagknocaaDc
import Derived.Test.YtpjcfnjagknocaaPm
import Derived.Test.YtpjcfnjagknocaaAd
import Derived.Test.YtpjcfnjagknocaaCo
import Derived.Test.YtpjcfnjagknocaaMs
namespace Go.Proofs.Ytpjcfnjagknocaa
open Go.RowKit

/-- a slice of whole numbers, its block M or a later one. -/
def SlB (M : Nat) (w : World) (v : Value) : Prop := ∃ xs, Rd w v xs ∧ NilZ v ∧ (∀ b off k n c, v = .slice (some ⟨b, off, k⟩) n c → M ≤ b) ∧ xs.length ≤ 1000
theorem SlB.same {M : Nat} {w w' : World} {v : Value} (h : SlB M w v) (hs : w.heap.size ≤ w'.heap.size) (g : ∀ i, i < w.heap.size → M ≤ i → w'.heap[i]? = w.heap[i]?) : SlB M w' v := by
  obtain ⟨xs, ⟨ad, cap, rfl, hl, hc⟩, hz, hb, hn⟩ := h
  refine ⟨xs, ⟨ad, cap, rfl, hl, fun hp => ?_⟩, hz, hb, hn⟩
  obtain ⟨b, off, rfl, hlt, hcell⟩ := hc hp
  exact ⟨b, off, rfl, Nat.lt_of_lt_of_le hlt hs, fun i hi => (World.cell?_of_block (g b hlt (hb _ _ _ _ _ rfl))).trans (hcell i hi)⟩
theorem SlB.keep {B M : Nat} {w w' : World} {v : Value} (h : SlB M w v) (g : w.grownBy w' (some B)) (hB : B < M) : SlB M w' v :=
  h.same g.size fun i hi hM => g.block i hi (by intro e; cases e; omega)
theorem SlB.own {M base : Nat} {w : World} {v : Value} {xs : List Int} (h : Own w base v xs) (hB : M ≤ base) (hn : xs.length ≤ 1000) : SlB M w v := by
  refine ⟨xs, h.rd, h.nilz, fun b off k n c e => ?_, hn⟩
  rcases h.shape with ⟨rfl, _⟩ | ⟨g, cap, rfl, hg, _⟩
  · cases e
  · cases e; omega
theorem SlB.lit {M : Nat} {w : World} (xs : List Int) (t : TypeId) (hM : M ≤ w.heap.size) (h1 : xs.length ≤ 1000) : SlB M (w.alloc (.cells (xs.map (Value.int .i64)).toArray t)) (.slice (some ⟨w.heap.size, 0, none⟩) xs.length xs.length) :=
  ⟨xs, ⟨_, _, rfl, by unfold maxLen; omega, fun _ => ⟨w.heap.size, 0, rfl, by simp, fun i hi => by simp [go_sem, List.getD_eq_getElem?_getD, hi]⟩⟩, (fun n c e => by cases e), (fun b off k n c e => by cases e; exact hM), h1⟩
theorem SlB.one {M b off n c : Nat} {w : World} (h : SlB M w (.slice (some ⟨b, off, none⟩) n c)) (hn : 0 < n) : SlB M w (.slice (some ⟨b, off, none⟩) 1 c) := by
  obtain ⟨xs, ⟨ad, cap, e, hl, hc⟩, hz, hb, hn'⟩ := h
  cases e
  obtain ⟨b', off', e, hlt, hcell⟩ := hc hn
  cases e
  refine ⟨[xs.getD 0 0], ⟨_, _, rfl, by simp [maxLen], fun _ => ⟨_, _, rfl, hlt, fun i hi => ?_⟩⟩, (fun n c e => by cases e), (fun b' off' k n c e => by cases e; exact hb _ _ _ _ _ rfl), by simp⟩
  have hi0 : i = 0 := by simpa using hi
  subst hi0
  exact hcell 0 hn
def RetSB (B : Nat) (lim : Int) (w : World) (e : Ending) (w' : World) : Prop := ∃ v, e = .returned v ∧ SlB w.heap.size w' v ∧ w.grownBy w' (some B) ∧ Cr w' B lim
set_option maxHeartbeats 2000000 in
theorem fieldPrime_any (B : Nat) (lim : Int) (w : World) (h : Cr w B lim) (hl : lim ≤ 1000000000000000000) :
    Calls Try.prog 97 #[.pointer (some ⟨B, 0, none⟩)] w (RetC AnyI B (lim + 4) w) := by
  have hcr := Lib.hid h; clear h
  go_enter Try.func97, Try.ntmps97
  go_wp2_with fail
  refine (amongLit_any B _ _ [2, 3, 97, 199, 211, 997, 9, 0] _ hcr.out (by omega) (by intro n hn; simp only [List.mem_cons, List.not_mem_nil, or_false] at hn; unfold I64; omega) (by simp) (by simp)).mono ?_; rintro e w1 ⟨v, rfl, ⟨a, rfl, ai⟩, hg1, hc1⟩
  have HC1 := Lib.hid hc1; have HG1 := Lib.hid hg1; clear hg1 hc1
  go_wp2_with fail
  refine (amongLit_any B _ _ [5, 7, 11, 13, 17, 19, 23, 5, 7, 11, 37, a] _ HC1.out (by omega) (by intro n hn; simp only [List.mem_cons, List.not_mem_nil, or_false] at hn; unfold I64 at ai ⊢; omega) (by simp) (by simp)).mono ?_; rintro e w2 ⟨v, rfl, ⟨b, rfl, bi⟩, hg2, hc2⟩
  have HC2 := Lib.hid hc2; have HG2 := Lib.hid (grown_trans HG1.out hg2); clear hg2 hc2
  go_wp2_with fail
  go_ret
  exact ⟨_, rfl, ⟨b, rfl, bi⟩, HG2.out, HC2.out.le (by omega)⟩
set_option maxHeartbeats 4000000 in
theorem pointModulo_any (B : Nat) (lim : Int) (a b p : Int) (w : World) (h : Cr w B lim) (hl : lim ≤ 1000000000000000000) :
    Calls Try.prog 98 #[.pointer (some ⟨B, 0, none⟩), .agg #[.int .i64 a, .int .i64 b], .int .i64 p] w (RetSB B (lim + 20) w) := by
  have hB := h.lt
  have hc0 : Cr (w.alloc (.cells #[.int .i64 a, .int .i64 b] 39)) B lim := h.keep' (below_allocD w _)
  have hg0 : w.grownBy (w.alloc (.cells #[.int .i64 a, .int .i64 b] 39)) (some B) := below_grown B (below_allocD w _)
  have hr0 := BoxC.new a b 39 hB
  have HC0 := Lib.hid hc0; have HG0 := Lib.hid hg0; have HR0 := Lib.hid hr0; clear hc0 hg0 hr0 h
  obtain ⟨r1, r2, r3, r4, r5, r6⟩ := HR0.out
  by_cases hs : smallB a b p = true
  · go_enter Try.func98, Try.ntmps98
    go_wp2_with fail
    refine (fmSmall_any a b p _).mono ?_; rintro e w1 ⟨rfl, hb1⟩
    rw [hs]
    have HC1 := Lib.hid (HC0.out.keep' hb1); have HG1 := Lib.hid (grown_trans HG0.out (below_grown B hb1)); have HR1 := Lib.hid (HR0.out.keep (below_grown B hb1)); clear hb1 r1 r2 r3 r4 r5 r6
    go_wp2_with fail
    refine (one_any B _ 16 _ HC1.out (by omega) (by omega) (by omega)).mono ?_; rintro e w2 ⟨v, rfl, ⟨bo, rfl⟩, hg2, hc2⟩
    have HC2 := Lib.hid hc2; have HG2 := Lib.hid (grown_trans HG1.out hg2); have HR2 := Lib.hid (HR1.out.keep hg2); clear hg2 hc2
    obtain ⟨r1, r2, r3, r4, r5, r6⟩ := HR2.out
    rcases bo with _ | _
    · obtain ⟨hcur, _, p1, p2⟩ := small_bd hs
      obtain ⟨h1, h2, h3, h4, _⟩ := curveB_true.1 hcur
      have hlen := ptsL_len (a := a) (b := b) p1 p2
      have hpos : 1 ≤ (ptsL a b p).length := by unfold ptsL; rw [List.length_cons]; omega
      go_wp2_with fail
      refine (fmPoints_any a b p _ h1 h2 h3 h4 p1 p2).mono ?_; rintro e w3 ⟨v, rfl, hb3, ho⟩
      have hz2 := HG2.out.size
      have hz3 := HC2.out.lt
      obtain ⟨vs, hro⟩ := ho.o (by omega)
      have hrl : ∀ j, j < (ptsL a b p).length → ((ptsL a b p).getD j []).length ≤ 1000 := fun j hj => by
        rcases onF_cases (ptsL_on (a := a) (b := b) p1 hj) with e | ⟨t0, t1, e, _⟩ <;> rw [e] <;> simp
      generalize ptsL a b p = L at hlen hpos hro hrl
      have HC3 := Lib.hid (HC2.out.keep' hb3); have HG3 := Lib.hid (grown_trans HG2.out (below_grown B hb3)); clear hb3 ho r1 r2 r3 r4 r5 r6
      rcases hro.row.2 with ⟨hv, hm⟩ | ⟨g, c, cur, hv, hg, hh, _⟩
      · omega
      have hgl : g < w3.heap.size := by
        rcases Nat.lt_or_ge g w3.heap.size with h' | h'
        · exact h'
        · rw [Array.getElem?_eq_none h'] at hh; cases hh
      have hcells : ∀ j, j < L.length → w3.cell? ⟨g, j, none⟩ = some (vs.getD j undef) := fun j hj => by
        have h1 := hro.row
        rw [hv] at h1
        rw [h1.cellAt j (by omega), List.getD_eq_getElem?_getD, List.getElem?_eq_getElem (by rw [hro.len]; exact hj)]
        rfl
      subst hv
      have hrows : ∀ j, j < L.length → SlB w.heap.size w3 (vs.getD j undef) := fun j hj => SlB.own (hro.rows j hj) hz2 (hrl j hj)
      have hcaps : ∀ j, j < L.length → ∀ ad k c, vs.getD j undef = .slice ad k c → k ≤ c := fun j hj ad k c e => by
        rcases (hro.rows j hj).shape with ⟨h1, _⟩ | ⟨g', c', h1, _, _, hn', _⟩
        · rw [h1] at e; cases e; omega
        · rw [h1] at e; cases e; exact hn'
      clear hro hh hrl
      have HCP := Lib.hid hcaps; clear hcaps
      have HCL := Lib.hid hcells; have HRW := Lib.hid hrows; clear hcells hrows
      have hgB : g ≠ B := by omega
      clear hg
      generalize L.length = n at *
      go_wp2_with fail
      refine (pick_any B _ (n : Int) _ HC3.out (by omega) (by omega) (by omega)).mono ?_; rintro e w4 ⟨v, rfl, ⟨x, rfl, x0, x1⟩, hg4, hc4⟩
      have c4 := (grown_cell hg4 (o := x.toNat) hgl hgB).trans (HCL.out x.toNat (by omega))
      have s4 := (HRW.out x.toNat (by omega)).keep hg4 hB
      have hgl4 := Nat.lt_of_lt_of_le hgl hg4.size
      have p4 := HCP.out x.toNat (by omega)
      generalize vs.getD x.toNat undef = u at c4 s4 p4
      have HC4 := Lib.hid hc4; have HG4 := Lib.hid (grown_trans HG3.out hg4); clear hg4 hc4
      obtain ⟨ad, k, cap, rfl⟩ : ∃ ad k cap, u = .slice ad k cap := by obtain ⟨xs, ⟨ad, cap, e, _⟩, _⟩ := s4; exact ⟨ad, _, cap, e⟩
      have S4 := Lib.hid s4; clear s4
      have hkc := p4 _ _ _ rfl; clear p4
      have hxn : x < (n : Int) := by omega
      by_cases hk : 0 < k
      · obtain ⟨b', off', rfl⟩ : ∃ b' off', ad = some ⟨b', off', none⟩ := by obtain ⟨xs, ⟨ad', cap', e, _, hc⟩, _⟩ := S4.out; cases e; obtain ⟨b', off', e, _⟩ := hc hk; exact ⟨b', off', e⟩
        have hk0 : (0 : Int) < (k : Int) := by omega
        have hcI : (1 : Int) ≤ (cap : Int) := by omega
        have hcN : 1 ≤ cap := by omega
        clear hkc
        go_wp2_with fail
        refine (one_any B _ 30 _ HC4.out (by omega) (by omega) (by omega)).mono ?_; rintro e w5 ⟨v, rfl, ⟨bo, rfl⟩, hg5, hc5⟩
        have S5 := Lib.hid (S4.out.keep hg5 hB); have HC5 := Lib.hid hc5; have HG5 := Lib.hid (grown_trans HG4.out hg5); clear hg5 hc5
        rcases bo with _ | _
        · go_wp2_with fail
          go_ret
          exact ⟨_, rfl, S5.out, HG5.out, HC5.out.le (by omega)⟩
        · go_wp2_with fail
          go_ret
          exact ⟨_, rfl, S5.out.one hk, HG5.out, HC5.out.le (by omega)⟩
      · have hk0 : ¬ (0 : Int) < (k : Int) := by omega
        go_wp2_with fail
        go_ret
        exact ⟨_, rfl, S4.out, HG4.out, HC4.out.le (by omega)⟩
    · go_wp2_with fail
      refine (pick_any B _ 8 _ HC2.out (by omega) (by omega) (by omega)).mono ?_; rintro e w3 ⟨v, rfl, ⟨x, rfl, x0, x1⟩, hg3, hc3⟩
      have HC3 := Lib.hid hc3; have HG3 := Lib.hid (grown_trans HG2.out hg3); clear hg3 hc3 r1 r2 r3 r4 r5 r6
      go_wp2_with fail
      refine (pick_any B _ 8 _ HC3.out (by omega) (by omega) (by omega)).mono ?_; rintro e w4 ⟨v, rfl, ⟨y, rfl, y0, y1⟩, hg4, hc4⟩
      have HC4 := Lib.hid hc4; have HG4 := Lib.hid (grown_trans HG3.out hg4); clear hg4 hc4
      go_wp2_with fail
      go_ret
      exact ⟨_, rfl, SlB.lit [x, y] _ HG4.out.size (by simp), grown_trans HG4.out (below_grown B (below_allocD _ _)), (HC4.out.keep' (below_allocD _ _)).le (by omega)⟩
  · have hs' : smallB a b p = false := by simpa using hs
    go_enter Try.func98, Try.ntmps98
    go_wp2_with fail
    refine (fmSmall_any a b p _).mono ?_; rintro e w1 ⟨rfl, hb1⟩
    rw [hs']
    have HC1 := Lib.hid (HC0.out.keep' hb1); have HG1 := Lib.hid (grown_trans HG0.out (below_grown B hb1)); clear hb1 r1 r2 r3 r4 r5 r6
    go_wp2_with fail
    refine (pick_any B _ 8 _ HC1.out (by omega) (by omega) (by omega)).mono ?_; rintro e w2 ⟨v, rfl, ⟨x, rfl, x0, x1⟩, hg2, hc2⟩
    have HC2 := Lib.hid hc2; have HG2 := Lib.hid (grown_trans HG1.out hg2); clear hg2 hc2
    go_wp2_with fail
    refine (pick_any B _ 8 _ HC2.out (by omega) (by omega) (by omega)).mono ?_; rintro e w3 ⟨v, rfl, ⟨y, rfl, y0, y1⟩, hg3, hc3⟩
    have HC3 := Lib.hid hc3; have HG3 := Lib.hid (grown_trans HG2.out hg3); clear hg3 hc3
    go_wp2_with fail
    go_ret
    exact ⟨_, rfl, SlB.lit [x, y] _ HG3.out.size (by simp), grown_trans HG3.out (below_grown B (below_allocD _ _)), (HC3.out.keep' (below_allocD _ _)).le (by omega)⟩
end Go.Proofs.Ytpjcfnjagknocaa
