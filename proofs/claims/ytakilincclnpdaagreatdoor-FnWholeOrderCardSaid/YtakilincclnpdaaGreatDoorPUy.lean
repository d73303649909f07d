/- Yj: draws of pairs of wholes, of a whole and a divisor. No conditions. -/
import Derived.Test.YtakilincclnpdaaGreatDoorYhy
import Derived.Test.YtakilincclnpdaaGreatDoorPEy
/- Yi: draws of wholes, valid or not. No conditions. -/
namespace Go.Proofs.YtakilincclnpdaaGreatDoor
open Go.RowKit

/-- v is a sign and limbs of the call's own, valid or not. -/
def RO (w : World) (base : Nat) (v : Value) (neg : Bool) (xs : List Int) : Prop := ∃ (ad : Option Addr) (cap : Nat), v = .agg #[.bool neg, .slice ad xs.length cap] ∧ Own w base (.slice ad xs.length cap) xs
theorem RO.rw {w : World} {base : Nat} {v : Value} {neg : Bool} {xs : List Int} (h : RO w base v neg xs) : RW w v neg xs := by
  obtain ⟨ad, cap, hv, ho⟩ := h
  exact ⟨ad, cap, hv, ho.rd, ho.slok⟩
theorem RO.keepG {B base : Nat} {w w' : World} {v : Value} {neg : Bool} {xs : List Int} (h : RO w base v neg xs) (g : w.grownBy w' (some B)) (hB : B < base) : RO w' base v neg xs := by
  obtain ⟨ad, cap, hv, ho⟩ := h
  exact ⟨ad, cap, hv, own_keepG ho g hB⟩
theorem RO.le {base base' : Nat} {w : World} {v : Value} {neg : Bool} {xs : List Int} (h : RO w base v neg xs) (hb : base' ≤ base) : RO w base' v neg xs := by
  obtain ⟨ad, cap, hv, ho⟩ := h
  exact ⟨ad, cap, hv, ho.le hb⟩
theorem RO.setFar {base k o : Nat} {w : World} {v u : Value} {neg : Bool} {xs : List Int} (h : RO w base v neg xs) (hk : k < base) : RO (w.setCell ⟨k, o, none⟩ u) base v neg xs := by
  obtain ⟨ad, cap, hv, ho⟩ := h
  exact ⟨ad, cap, hv, own_setFar ho hk o u⟩
/-- returned a sign and limbs of the call's own. -/
def RetAW (B : Nat) (lim : Int) (w : World) (e : Ending) (w' : World) : Prop := ∃ (v : Value) (neg : Bool) (xs : List Int), e = .returned v ∧ RO w' w.heap.size v neg xs ∧ xs.length ≤ 401 ∧ w.grownBy w' (some B) ∧ Cr w' B lim
theorem Own.setFar' {base k o : Nat} {w : World} {v u : Value} {xs : List Int} (h : Own w base v xs) (hk : k < base) : Own (w.setCell ⟨k, o, none⟩ u) base v xs := own_setFar h hk o u
theorem heap_setNe {w : World} {g m o : Nat} {u : Value} (h : g ≠ m) : (w.setCell ⟨m, o, none⟩ u).heap[g]? = w.heap[g]? := by
  have hg : (w.grownBy w (some m)) := ⟨rfl, rfl, rfl, Nat.le_refl _, fun _ _ _ => rfl⟩
  clear hg
  unfold World.setCell
  dsimp only
  split <;> simp_all [Array.getElem?_modify]
  all_goals (intro e; exact absurd e.symm h)
theorem own_setNe {w : World} {base m o : Nat} {v u : Value} {xs : List Int} (h : Own w base v xs) (hne : ∀ k, v.ownBlock = some k → k ≠ m) : Own (w.setCell ⟨m, o, none⟩ u) base v xs := by
  obtain ⟨h1, h2⟩ := h
  refine ⟨h1, ?_⟩
  rcases h2 with h2 | ⟨g, cap, cur, hv, hg, hh, r⟩
  · exact .inl h2
  · refine .inr ⟨g, cap, cur, hv, hg, ?_, r⟩
    have hgm : g ≠ m := hne g (by rw [hv]; rfl)
    rw [← hh]
    exact heap_setNe hgm
theorem own_ne_box {w : World} {B base m : Nat} {v u1 : Value} {b : Bool} {xs : List Int} (h : Own w base v xs) (hx : 0 < xs.length) (hm : BoxV B w m (.bool b) u1) : ∀ k, v.ownBlock = some k → k ≠ m := by
  intro k hk e
  subst e
  rcases h.shape with ⟨h1, _⟩ | ⟨g, cap, h1, h2, h3, _⟩
  · rw [h1] at hk; cases hk
  · subst h1
    have hgk : g = k := by injection hk
    subst hgk
    have := h.cellAt 0 hx
    rw [hm.2.2.1] at this
    cases this
theorem own_blk {w : World} {base k : Nat} {ad : Option Addr} {n c : Nat} {xs : List Int} (h : Own w base (.slice ad n c) xs) (hk : (Value.slice ad n c).ownBlock = some k) : ad = some ⟨k, 0, none⟩ := by
  rcases h.shape with ⟨h1, _⟩ | ⟨g, cap, h1, _⟩
  · cases h1; cases hk
  · cases h1; cases hk; rfl
theorem BoxV.put1 {B n : Nat} {w : World} {u0 u1 : Value} (h : BoxV B w n u0 u1) (v : Value) : BoxV B (w.setCell ⟨n, 1, none⟩ v) n u0 v := by
  obtain ⟨h1, h2, h3, h4, h5, h6⟩ := h
  exact ⟨by simpa using h1, h2, by simp [go_sem, h3], by simp [go_sem, h4], by simp [go_sem, h5], by simp [go_sem, h6]⟩
theorem boxv_app {B r : Nat} {u0 u1 v : Value} {wr w1 : World} {o : Obj} (hr : BoxV B wr r u0 u1) (hne : ∀ k, v.ownBlock = some k → k ≠ r) (hg : (wr.alloc o).grownBy w1 v.ownBlock) : BoxV B w1 r u0 u1 := by
  obtain ⟨h1, h2, h3, h4, h5, h6⟩ := hr
  have ha : wr.grownBy (wr.alloc o) (some wr.heap.size) := below_grown _ (below_allocD wr o)
  have hb : w1.heap[r]? = wr.heap[r]? := by
    rw [hg.block r (Nat.lt_of_lt_of_le h1 ha.size) (fun e => hne r e.symm rfl), ha.block r h1 (by intro e; cases e; omega)]
  exact ⟨Nat.lt_of_lt_of_le h1 (Nat.le_trans ha.size hg.size), h2, (World.cell?_of_block hb).trans h3, (World.cell?_of_block hb).trans h4, (World.frozen?_of_block hb).trans h5, (World.frozen?_of_block hb).trans h6⟩
theorem rdx_keepG {B : Nat} {x y : World} {v : Value} {xs : List Int} (h : RdX B x v xs) (g : x.grownBy y (some B)) : RdX B y v xs := by
  obtain ⟨b, off, cap, hv, h1, h2, h3, h4, h5⟩ := h
  exact ⟨b, off, cap, hv, h1, Nat.lt_of_lt_of_le h2 g.size, h3, h4, fun i hi => (grown_cell g h2 h1).trans (h5 i hi)⟩
theorem grown_refl {B : Option Nat} (x : World) : x.grownBy x B := ⟨rfl, rfl, rfl, Nat.le_refl _, fun _ _ _ => rfl⟩
theorem cr_drewY {w : World} {B : Nat} {lim : Int} (h : Cr w B lim) : Cr w.drew B lim := h
theorem run_fa1 {m i : Nat} {x : World} {d : Option Nat} {t : TypeId} {s : String} {af : Array Edge} (ρ : Operand → Value) (h : ρ (.tmp i) = .pointer (some ⟨m, 0, none⟩)) :
    (execOp ρ { dst := d, op := .fieldAddr 26 (.tmp i) 1, type := t, pos := s, after := af, guard := none }).run Tryz.prog x = .ok (.value (.pointer (some ⟨m, 1, none⟩))) x := by
  simp only [execOp, h]
  go_simp
theorem run_ldS {m o i : Nat} {x : World} {d : Option Nat} {t : TypeId} {s : String} {af : Array Edge} (ρ : Operand → Value) (h : ρ (.tmp i) = .pointer (some ⟨m, o, none⟩)) {ad : Option Addr} {n c : Nat} (hc : x.cell? ⟨m, o, none⟩ = some (.slice ad n c)) :
    (execOp ρ { dst := d, op := .load 24 (.tmp i), type := t, pos := s, after := af, guard := none }).run Tryz.prog x = .ok (.value (.slice ad n c)) x := by
  simp only [execOp, h]
  go_simp
theorem run_bs2w {x : World} {d : Option Nat} {t : TypeId} {s : String} {af : Array Edge} {a b : Int} (ρ : Operand → Value) (h1 : ρ (.const (.int .i64 a)) = .int .i64 a) (h2 : ρ (.const (.int .i64 b)) = .int .i64 b) :
    (execOp ρ { dst := d, op := .buildSlice 24 2 #[(0, .const (.int .i64 a)), (1, .const (.int .i64 b))], type := t, pos := s, after := af, guard := none }).run Tryz.prog x = .ok (.value (.slice (some ⟨x.heap.size, 0, none⟩) 2 2)) (x.alloc (.cells ([a, b].map (Value.int .i64)).toArray 3)) := by
  simp only [execOp]
  simp [h1, h2]
  go_simp
theorem run_idx0 {x : World} {d : Option Nat} {t : TypeId} {s : String} {af : Array Edge} {i n m c : Nat} (ρ : Operand → Value) (h : ρ (.tmp i) = .slice (some ⟨n, 0, none⟩) m c) (h' : ρ (.const (.int .i64 0)) = .int .i64 0) (hq : 0 < m) :
    (execOp ρ { dst := d, op := .indexAddr 24 (.tmp i) (.const (.int .i64 0)), type := t, pos := s, after := af, guard := none }).run Tryz.prog x = .ok (.value (.pointer (some ⟨n, 0, none⟩))) x := by
  have h1 : (0 : Int) < (m : Int) := by omega
  simp only [execOp, h, h']
  go_simp
theorem wp_st1 {i j n : Nat} {v u : Int} {x : World} {d : Option Nat} {t : TypeId} {s : String} {af : Array Edge} {A : Act} (h : A.eval (.tmp i) = .pointer (some ⟨n, 0, none⟩)) (h' : A.eval (.tmp j) = .int .i64 v) (hc : x.cell? ⟨n, 0, none⟩ = some (.int .i64 u)) (hf : x.frozen? ⟨n, 0, none⟩ = false) :
    OpDone Tryz.prog { dst := d, op := .store 3 (.tmp i) (.tmp j), type := t, pos := s, after := af, guard := none } A x undef (x.setCell ⟨n, 0, none⟩ (.int .i64 v)) := by
  refine ⟨fun K Q hk => ?_⟩
  unfold Oper.wp execOp
  dsimp only
  rw [h, h']
  go_simp
  exact hk
set_option maxRecDepth 100000 in
set_option maxHeartbeats 8000000 in
theorem anyWhole_any (B : Nat) (lim : Int) (w : World) (h : Cr w B lim) (hl : lim ≤ 10000000000000) :
    Calls Tryz.prog 46 #[.pointer (some ⟨B, 0, none⟩)] w (RetAW B (lim + 20000) w) := by
  obtain ⟨i0, hi, hz0, hz1, hz2⟩ := info_parts Tryz.info_int
  have hB := h.lt
  have hb0 : Below w.heap.size w (w.alloc (.cells #[.bool false, .slice none 0 0] 26)) := below_allocD _ _
  have HC := Lib.hid (h.keep' hb0)
  have HG := Lib.hid (below_grown B hb0)
  have HR := Lib.hid (BoxV.new (B := B) (.bool false) (.slice none 0 0) 26 hB)
  have hz1w : (w.alloc (.cells #[.bool false, .slice none 0 0] 26)).heap.size = w.heap.size + 1 := by simp
  have HZ1 := Lib.hid hz1w
  clear h hb0 hz1w

  go_enter Tryz.func46, Tryz.ntmps46
  go_wp2_with fail
  refine (whole_any B _ _ HC.out (by omega)).mono ?_; rintro e w1 ⟨v, z, rfl, ho, hzl, hg, hc⟩
  rw [HZ1.out] at ho
  have hdg := digs_dig z.natAbs
  obtain ⟨ad, cap, rfl, ho2⟩ := ho
  have HCa := Lib.hid hc; have HGa := Lib.hid (grown_trans HG.out hg); have HRa := Lib.hid (HR.out.keep hg)
  clear hc hg HC HG HR HZ1 hdg
  generalize decide (z < 0) = bz at *
  generalize digs z.natAbs = xs at *
  have HOa := Lib.hid ho2; clear ho2
  go_wp2_with fail
  have hb1 : Below w1.heap.size w1 (w1.alloc (.cells #[.bool bz, .slice ad xs.length cap] 26)) := below_allocD _ _
  have HM := Lib.hid (BoxV.new (B := B) (.bool bz) (.slice ad xs.length cap) 26 HCa.out.lt)
  have HC1 := Lib.hid (HCa.out.keep' hb1); have HG1 := Lib.hid (grown_trans HGa.out (below_grown B hb1)); have HR1 := Lib.hid (HRa.out.keep (below_grown B hb1)); have HO1 := Lib.hid (HOa.out.keep hb1)
  have hmR : w.heap.size < w1.heap.size := HRa.out.1
  have hgm0 : ∀ g off, ad = some ⟨g, off, none⟩ → g < w1.heap.size := fun g off e => by
    rcases HOa.out.shape with ⟨h, _⟩ | ⟨g', cap', h, _, h2, _⟩
    · injection h with h1 _ _; rw [e] at h1; cases h1
    · injection h with h1 _ _; rw [e] at h1; injection h1 with h1; injection h1 with h1 _ _; rw [h1]; exact h2
  have HGM := Lib.hid hgm0; clear hgm0
  clear HCa HGa HRa HOa
  generalize w1.alloc (.cells #[.bool bz, .slice ad xs.length cap] 26) = W1 at HM HC1 HG1 HR1 HO1 hb1 ⊢
  generalize w1.heap.size = m at HM HGM hmR hb1 ⊢
  have HM1 := Lib.hid HM.out; clear HM hb1
  refine (pick_any B _ 40 _ HC1.out (by omega) (by omega) (by omega)).mono ?_; rintro e w2 ⟨v, rfl, ⟨k, rfl, k0, k1⟩, hg, hc⟩
  have HC2 := Lib.hid hc; have HG2 := Lib.hid (grown_trans HG1.out hg); have HR2 := Lib.hid (HR1.out.keep hg); have HM2 := Lib.hid (HM1.out.keep hg); have HO2 := Lib.hid (own_keepG HO1.out hg (by omega)); clear hg hc HC1 HG1 HR1 HM1 HO1
  obtain ⟨lim2, hlim2⟩ : ∃ lim2 : Int, lim2 = lim + 12000 := ⟨_, rfl⟩
  have HC2' := Lib.hid (HC2.out.le (lim' := lim2) (by omega)); clear HC2; have HC2 := Lib.hid HC2'.out; clear HC2'
  by_cases e0 : k = 0
  · subst e0
    clear k0 k1
    have hown' : w2.ownsRow (w.heap.size + 1) 3 1 (.slice ad xs.length cap) xs.length (xs.map (Value.int .i64)) := HO2.out
    have hrl := HR2.out.1
    obtain ⟨r1, r2, r3, r4, r5, r6⟩ := HR2.out; obtain ⟨m1, m2, m3, m4, m5, m6⟩ := HM2.out
    go_wp2_with (first | (at_builtin; refine wpList_append_own _ rfl _ _ 24 rfl (w.heap.size + 1) 3 i0 (.int .i64 0) 1 8 Tryz.underlying24 hi hz0 hz1 hz2 rfl (by decide) _ _ _ rfl (hown'.alloc _) ⟨w2.heap.size, 0, none⟩ 1 1 [.int .i64 0] rfl rfl (cell_one_new _ _ _) ?_ ?_ ?_ ?_ ?_))
    · first | rfl | (intro u hu; simp at hu; subst hu; rfl)
    · unfold maxLen; omega
    · omega
    · simp; omega
    · intro v' w3 hown5 hgrow _
      have hne : ∀ k, (Value.slice ad xs.length cap).ownBlock = some k → k ≠ m := fun k hk => by
        have := own_blk HO2.out hk
        have := HGM.out k 0 this
        omega
      obtain ⟨q1, q2, q3, q4⟩ := own_snocG (r := w.heap.size) HG2.out HC2.out HR2.out (Nat.le_succ _) (by omega) (by omega) HO2.out hown5 hgrow
      have q5 := boxv_app HM2.out hne hgrow
      clear r1 r2 r3 r4 r5 r6 m1 m2 m3 m4 m5 m6
      clear hown5 hgrow hown' HC2 HG2 HO2 HR2 HM2
      obtain ⟨ad2, cap2, rfl⟩ := q4.len
      have HO3 := Lib.hid q4; have HC3 := Lib.hid q2; have HG3 := Lib.hid q1
      obtain ⟨r1, r2, r3, r4, r5, r6⟩ := q3
      clear q1 q2 q4
      have hl1 : (xs ++ [0]).length ≤ 401 := by rw [List.length_append]; simp; omega
      generalize hys : xs ++ [0] = ys at *
      have hmB : B < m := by omega
      have hmw : w.heap.size ≤ m := by omega
      have hy0 : 0 < ys.length := by rw [← hys, List.length_append]; simp
      have hne3 := own_ne_box HO3.out hy0 q5
      obtain ⟨m1, m2, m3, m4, m5, m6⟩ := q5
      go_wp2_with fail
      refine bodyPost_ret (by simp (maxDischargeDepth := 3) [results, Tryz.results46, go_sem, *]; try rfl) rfl ?_
      exact ⟨_, bz, ys, rfl, ⟨_, _, rfl, (((own_setNe HO3.out hne3).setFar' (by omega)).setFar' (by omega)).le (Nat.le_succ _)⟩, hl1, set_grown (set_grown (set_grown HG3.out hmw _) (Nat.le_refl _) _) (Nat.le_refl _) _, (set_cr (set_cr (set_cr HC3.out hmB _) (by omega) _) (by omega) _).le (by omega)⟩
  have h0b : (k == 0) = false := by simp [e0]
  by_cases e1 : k = 1
  · subst e1
    clear k0 k1 e0 h0b
    by_cases hx0 : xs.length = 0
    · have hxi : ¬ (xs.length : Int) > 0 := by omega
      obtain ⟨r1, r2, r3, r4, r5, r6⟩ := HR2.out; obtain ⟨m1, m2, m3, m4, m5, m6⟩ := HM2.out
      go_wp2_with fail
      refine bodyPost_ret (by simp (maxDischargeDepth := 3) [results, Tryz.results46, go_sem, *]; try rfl) rfl ?_
      exact ⟨_, bz, xs, rfl, ⟨ad, cap, by rw [hx0], ((HO2.out.setFar' (by omega)).setFar' (by omega)).le (Nat.le_succ _)⟩, by omega, set_grown (set_grown HG2.out (Nat.le_refl _) _) (Nat.le_refl _) _, (set_cr (set_cr HC2.out (by omega) _) (by omega) _).le (by omega)⟩
    · rcases HO2.out.shape with ⟨_, hnil⟩ | ⟨g, cap', hgv, hg1, hg2, hg3, hg4⟩
      · exfalso; rw [hnil] at hx0; exact hx0 rfl
      injection hgv with hga _ hgc
      subst hga; subst hgc
      have hgm : m ≠ g := by have := HGM.out g 0 rfl; omega
      have hgB : B < g := by omega
      have hgw : w.heap.size ≤ g := by omega
      have hgn : w.heap.size ≠ g := by omega
      have hxi : (xs.length : Int) > 0 := by omega
      obtain ⟨r1, r2, r3, r4, r5, r6⟩ := HR2.out; obtain ⟨m1, m2, m3, m4, m5, m6⟩ := HM2.out
      go_wp2_with fail
      clear r1 r2 r3 r4 r5 r6 m1 m2 m3 m4 m5 m6
      obtain ⟨LN, hLN⟩ : ∃ LN, LN = xs.length := ⟨_, rfl⟩
      rw [← hLN] at HM2 hxi hx0 hzl hg3 ⊢
      have hLN0 : 0 < LN := by omega
      have HLN := Lib.hid hLN; clear hLN
      refine wp_region_steps [21, 22, 23, 24, 25, 26] (fun x y => x.grownBy y (some B)) (look [(21, fun v _ => v = .pointer (some ⟨m, 1, none⟩)), (22, fun v _ => v = .slice (some ⟨g, 0, none⟩) LN cap), (23, fun v _ => v = .pointer (some ⟨B, 0, none⟩)), (24, fun v X => RdX B X v [-1, 10000]), (25, fun v _ => ∃ n : Int, v = .int .i64 n), (26, fun v _ => v = .pointer (some ⟨g, 0, none⟩))]) (fun k X => Cr X B (lim2 + 10 * (k : Int)) ∧ w.grownBy X (some B) ∧ BoxV B X w.heap.size (.bool false) (.slice none 0 0) ∧ BoxV B X m (.bool bz) (.slice (some ⟨g, 0, none⟩) LN cap) ∧ Own X (w.heap.size + 1) (.slice (some ⟨g, 0, none⟩) xs.length cap) xs) (by kernel_rfl) (by kernel_rfl) (by decide) (look_keep ?_) ?_ ?_
      · intro q hq v x y hv hr
        simp only [List.mem_cons, List.not_mem_nil, or_false] at hq
        rcases hq with rfl | rfl | rfl | rfl | rfl | rfl
        · exact hv
        · exact hv
        · exact hv
        · exact rdx_keepG hv hr
        · exact hv
        · exact hv
      · exact ⟨cr_drewY (HC2.out.le (by omega)), grown_drew HG2.out, HR2.out, HM2.out, HO2.out⟩
      refine Steps.cons ?_ ?_
      · refine TStep.of ?_ ?_ ?_
        · rfl
        · simp
        intro k G X hk9 hS hd
        refine ⟨_, X, wp_value_ofb (run_fa1 (m := m) _ (by rw [eval_out (by decide)]; rfl)), fun d e => ?_, ⟨hS.1.le (by push_cast; omega), hS.2⟩, grown_refl X⟩
        cases e; exact rfl
      refine Steps.cons ?_ ?_
      · refine TStep.of ?_ ?_ ?_
        · rfl
        · simp
        intro k G X hk9 hS hd
        have e1 : G 21 = .pointer (some ⟨m, 1, none⟩) := hd 21 (mem_b (by kernel_rfl))
        refine ⟨_, X, wp_value_ofb (run_ldS _ (by rw [eval_in (by decide) (by simp)]; exact e1) hS.2.2.2.1.2.2.2.1), fun d e => ?_, ⟨hS.1.le (by push_cast; omega), hS.2⟩, grown_refl X⟩
        cases e; exact rfl
      refine Steps.cons ?_ ?_
      · refine TStep.move 0 ?_ ?_ ?_ ?_ ?_ ?_
        · exact .inl rfl
        · rfl
        · simp
        · exact fun _ _ h => ⟨h.1.le (by push_cast; omega), h.2⟩
        · exact fun _ => grown_refl _
        intro G X hd d e; cases e; rw [eval_out (by decide)]; exact rfl
      refine Steps.cons ?_ ?_
      · refine TStep.of ?_ ?_ ?_
        · rfl
        · simp
        intro k G X hk9 hS hd
        have hb := below_allocD X (.cells (([-1, 10000] : List Int).map (Value.int .i64)).toArray 3)
        have hg := below_grown B hb
        refine ⟨_, _, wp_value_ofb (run_bs2w _ rfl rfl), fun d e => ?_, ⟨(hS.1.keep' hb).le (by push_cast; omega), grown_trans hS.2.1 hg, hS.2.2.1.keep hg, hS.2.2.2.1.keep hg, own_keepG hS.2.2.2.2 hg (by omega)⟩, hg⟩
        cases e; exact rdx_lit hS.1.lt [-1, 10000] 3 (by simp) (by simp)
      refine Steps.cons ?_ ?_
      · refine TStep.call ?_ ?_ ?_
        · rfl
        · simp
        intro k G X hk9 hS hd
        have e1 : G 23 = .pointer (some ⟨B, 0, none⟩) := hd 23 (mem_b (by kernel_rfl))
        have e2 : RdX B X (G 24) [-1, 10000] := hd 24 (mem_b (by kernel_rfl))
        refine ⟨_, _, wp_call_ofb (run_callAmongb _ (by rfl)), ?_⟩
        rw [eval_in (i := 23) (by decide) (by simp), eval_in (i := 24) (by decide) (by simp), e1]
        refine (among_any B _ _ _ X hS.1 (by have h9 : k < 7 := hk9; omega) e2).mono ?_
        rintro e' X' ⟨v', rfl, ⟨n, rfl, _⟩, hg, hc⟩
        refine ⟨_, rfl, fun d e => ?_, ⟨hc.le (by push_cast; omega), grown_trans hS.2.1 hg, hS.2.2.1.keep hg, hS.2.2.2.1.keep hg, own_keepG hS.2.2.2.2 hg (by omega)⟩, hg⟩
        cases e; exact ⟨_, rfl⟩
      refine Steps.cons ?_ ?_
      · refine TStep.of ?_ ?_ ?_
        · rfl
        · simp
        intro k G X hk9 hS hd
        have e1 : G 22 = .slice (some ⟨g, 0, none⟩) LN cap := hd 22 (mem_b (by kernel_rfl))
        refine ⟨_, X, wp_value_ofb (run_idx0 _ (by rw [eval_in (by decide) (by simp)]; exact e1) rfl hLN0), fun d e => ?_, ⟨hS.1.le (by push_cast; omega), hS.2⟩, grown_refl X⟩
        cases e; exact rfl
      refine Steps.one ?_
      refine LStep.of ?_ ?_
      · rfl
      intro G X hS hd
      obtain ⟨n, e1⟩ : ∃ n : Int, G 25 = .int .i64 n := hd 25 (mem_b (by kernel_rfl))
      have e2 : G 26 = .pointer (some ⟨g, 0, none⟩) := hd 26 (mem_b (by kernel_rfl))
      obtain ⟨hS1, hS2, hS3, hS4, hS5⟩ := hS
      have hck := hS5.cellAt 0 (by have := HLN.out; omega)
      have hfz := World.ownsRow.frozenAt hS5 0
      refine ⟨undef, _, wp_st1 (by rw [eval_in (by decide) (by simp)]; exact e2) (by rw [eval_in (by decide) (by simp)]; exact e1) hck hfz, ?_⟩
      have hst := (World.ownsRow.stored hS5 0 (.int .i64 n)).1
      rw [← List.map_set] at hst
      have HOz := Lib.hid (show Own (X.setCell ⟨g, 0, none⟩ (.int .i64 n)) (w.heap.size + 1) (.slice (some ⟨g, 0, none⟩) (xs.set 0 n).length cap) (xs.set 0 n) by unfold Own; rw [List.length_set]; exact hst)
      have HCz := Lib.hid (set_cr hS1 hgB (.int .i64 n) (o := 0)); have HGz := Lib.hid (set_grown hS2 hgw (.int .i64 n) (o := 0)); have HRz := Lib.hid (hS3.far1 hgn (v := .int .i64 n) (o := 0)); have HMz := Lib.hid (hS4.far1 hgm (v := .int .i64 n) (o := 0))
      have HLz := Lib.hid (show (xs.set 0 n).length = LN by rw [List.length_set]; exact HLN.out.symm)
      clear hS1 hS2 hS3 hS4 hS5 hck hfz hst hd e1 e2 HC2 HG2 HR2 HM2 HO2
      generalize X.setCell ⟨g, 0, none⟩ (.int .i64 n) = Y2 at HOz HCz HGz HRz HMz ⊢
      obtain ⟨zs, hzs⟩ : ∃ zs, xs.set 0 n = zs := ⟨_, rfl⟩
      rw [hzs] at HOz HLz
      clear hzs
      simp only [fill, Act.put, List.setIfInBounds_toArray, List.set_cons_zero, List.set_cons_succ]
      obtain ⟨r1, r2, r3, r4, r5, r6⟩ := HRz.out; obtain ⟨m1, m2, m3, m4, m5, m6⟩ := HMz.out
      go_wp2_with fail
      refine bodyPost_ret (by simp (maxDischargeDepth := 3) [results, Tryz.results46, go_sem, *]; try rfl) rfl ?_
      exact ⟨_, bz, zs, rfl, ⟨some ⟨g, 0, none⟩, cap, by rw [HLz.out], ((HOz.out.setFar' (by omega)).setFar' (by omega)).le (Nat.le_succ _)⟩, by rw [HLz.out]; omega, set_grown (set_grown HGz.out (Nat.le_refl _) _) (Nat.le_refl _) _, (set_cr (set_cr HCz.out (by omega) _) (by omega) _).le (by simp; omega)⟩
  have h1b : (k == 1) = false := by simp [e1]
  by_cases e2 : k = 2
  · subst e2
    clear k0 k1 e0 e1 h0b h1b
    have hmB : B < m := by omega
    have hmw : w.heap.size ≤ m := by omega
    obtain ⟨r1, r2, r3, r4, r5, r6⟩ := HR2.out; obtain ⟨m1, m2, m3, m4, m5, m6⟩ := HM2.out
    go_wp2_with fail
    refine bodyPost_ret (by simp (maxDischargeDepth := 3) [results, Tryz.results46, go_sem, *]; try rfl) rfl ?_
    exact ⟨_, true, [], rfl, ⟨none, 0, rfl, Own.nil _ _⟩, by simp, set_grown (set_grown (set_grown (set_grown HG2.out hmw _) hmw _) (Nat.le_refl _) _) (Nat.le_refl _) _, (set_cr (set_cr (set_cr (set_cr HC2.out hmB _) hmB _) (by omega) _) (by omega) _).le (by omega)⟩
  have h2b : (k == 2) = false := by simp [e2]
  by_cases e3 : k = 3
  · subst e3
    clear k0 k1 e0 e1 e2 h0b h1b h2b
    have hmB : B < m := by omega
    have hmw : w.heap.size ≤ m := by omega
    have hne0 : ∀ k, (Value.slice ad xs.length cap).ownBlock = some k → k ≠ m := fun k hk => by
      have := own_blk HO2.out hk
      have := HGM.out k 0 this
      omega
    obtain ⟨r1, r2, r3, r4, r5, r6⟩ := HR2.out; obtain ⟨m1, m2, m3, m4, m5, m6⟩ := HM2.out
    go_wp2_with fail
    clear r1 r2 r3 r4 r5 r6 m1 m2 m3 m4 m5 m6
    go_loopw [] (fun wr => ∃ (ys : List Int) (ad2 : Option Addr) (cap2 : Nat), ys.length ≤ 401 ∧ Hid (Cr wr B lim2) ∧ Hid (w.grownBy wr (some B)) ∧ Hid (BoxV B wr w.heap.size (.bool false) (.slice none 0 0)) ∧ Hid (BoxV B wr m (.bool bz) (.slice ad2 ys.length cap2)) ∧ Hid (Own wr (w.heap.size + 1) (.slice ad2 ys.length cap2) ys) ∧ Hid (∀ k, (Value.slice ad2 ys.length cap2).ownBlock = some k → k ≠ m)) (fun wr => 401 - slLen ((wr.cell? ⟨m, 1, none⟩).getD undef))
    case atStart => exact ⟨xs, ad, cap, by omega, HC2, HG2, HR2, HM2, HO2, hne0⟩
    case round =>
      obtain ⟨ys, ad2, cap2, hyl, HC3, HG3, HR3, HM3, HO3, HN3⟩ := hrel
      clear HC2 HG2 HR2 HM2 HO2 hne0 hzl
      have hms := HM3.out.2.2.2.1
      obtain ⟨LN, hLN0⟩ : ∃ LN, ys.length = LN := ⟨_, rfl⟩
      have HLN := Lib.hid hLN0
      have hLb : LN ≤ 401 := by omega
      by_cases hlt : LN < 401
      · have hlt' : (LN : Int) < 401 := by omega
        rw [hLN0] at HM3 hms
        clear hLN0 hyl
        have hown' : wr.ownsRow (w.heap.size + 1) 3 1 (.slice ad2 LN cap2) LN (ys.map (Value.int .i64)) := by have := HO3.out; unfold Own at this; rw [HLN.out] at this; exact this
        have hrl := HR3.out.1
        obtain ⟨r1, r2, r3, r4, r5, r6⟩ := HR3.out; obtain ⟨m1, m2, m3, m4, m5, m6⟩ := HM3.out
        go_wp2_with (first | (at_builtin; refine wpList_append_own _ rfl _ _ 24 rfl (w.heap.size + 1) 3 i0 (.int .i64 0) 1 8 Tryz.underlying24 hi hz0 hz1 hz2 rfl (by decide) _ _ _ rfl (hown'.alloc _) ⟨wr.heap.size, 0, none⟩ 1 1 [.int .i64 7] rfl rfl (cell_one_new _ _ _) ?_ ?_ ?_ ?_ ?_))
        · first | rfl | (intro u hu; simp at hu; subst hu; rfl)
        · unfold maxLen; omega
        · omega
        · simp; omega
        · intro v' w4 hown5 hgrow _
          clear r1 r2 r3 r4 r5 r6 m1 m2 m3 m4 m5 m6
          rw [← HLN.out] at hown5 hgrow HM3
          obtain ⟨q1, q2, q3, q4⟩ := own_snocG (r := w.heap.size) HG3.out HC3.out HR3.out (Nat.le_succ _) (by omega) (by omega) HO3.out hown5 hgrow
          have q5 := boxv_app HM3.out HN3.out hgrow
          have hy0 : 0 < (ys ++ [7]).length := by rw [List.length_append]; simp
          have hne3 := own_ne_box q4 hy0 q5
          clear hown5 hgrow hown' HC3 HG3 HO3 HR3 HM3 HN3
          obtain ⟨ad3, cap3, rfl⟩ := q4.len
          have HO4 := Lib.hid (own_setNe (u := .slice ad3 (ys ++ [7]).length cap3) (o := 1) q4 hne3); have HC4 := Lib.hid (set_cr q2 hmB (.slice ad3 (ys ++ [7]).length cap3) (o := 1)); have HG4 := Lib.hid (set_grown q1 hmw (.slice ad3 (ys ++ [7]).length cap3) (o := 1)); have HR4 := Lib.hid (q3.far1 (v := .slice ad3 (ys ++ [7]).length cap3) (o := 1) (show w.heap.size ≠ m by omega)); have HM4 := Lib.hid (q5.put1 (.slice ad3 (ys ++ [7]).length cap3)); have HN4 := Lib.hid hne3
          have HL4 := Lib.hid (show (ys ++ [7]).length = LN + 1 by rw [List.length_append, HLN.out]; rfl)
          generalize ys ++ [7] = zs at *
          have hms4 := HM4.out.2.2.2.1
          obtain ⟨m1, m2, m3, m4, m5, m6⟩ := q5
          clear q1 q2 q3 q4 hne3 hy0
          go_wp2_with fail
          go_roundw
          case rel => exact ⟨zs, ad3, cap3, by have := HL4.out; omega, HC4, HG4, HR4, HM4, HO4, HN4⟩
          case measure => rw [hms, hms4, HL4.out]; simp [slLen]; omega
      · have hle : ¬ (LN : Int) < 401 := by omega
        rw [hLN0] at HM3
        clear hLN0 hyl hms
        obtain ⟨r1, r2, r3, r4, r5, r6⟩ := HR3.out; obtain ⟨m1, m2, m3, m4, m5, m6⟩ := HM3.out
        go_wp2_with fail
        refine bodyPost_ret (by simp (maxDischargeDepth := 3) [results, Tryz.results46, go_sem, *]; try rfl) rfl ?_
        exact ⟨_, bz, ys, rfl, ⟨ad2, cap2, by rw [HLN.out], ((HO3.out.setFar' (by omega)).setFar' (by omega)).le (Nat.le_succ _)⟩, by have := HLN.out; omega, set_grown (set_grown HG3.out (Nat.le_refl _) _) (Nat.le_refl _) _, (set_cr (set_cr HC3.out (by omega) _) (by omega) _).le (by omega)⟩
  have h3b : (k == 3) = false := by simp [e3]
  clear k0 k1 e0 e1 e2 e3
  obtain ⟨r1, r2, r3, r4, r5, r6⟩ := HR2.out; obtain ⟨m1, m2, m3, m4, m5, m6⟩ := HM2.out
  go_wp2_with fail
  refine bodyPost_ret (by simp (maxDischargeDepth := 3) [results, Tryz.results46, go_sem, *]; try rfl) rfl ?_
  exact ⟨_, bz, xs, rfl, ⟨_, _, rfl, ((HO2.out.setFar' (by omega)).setFar' (by omega)).le (Nat.le_succ _)⟩, by omega, set_grown (set_grown HG2.out (Nat.le_refl _) _) (Nat.le_refl _) _, (set_cr (set_cr HC2.out (by omega) _) (by omega) _).le (by omega)⟩
set_option maxHeartbeats 2000000 in
theorem smallDivisor_any (B : Nat) (lim : Int) (w : World) (h : Cr w B lim) (hl : lim ≤ 1000000000000000000) :
    Calls Tryz.prog 124 #[.pointer (some ⟨B, 0, none⟩)] w (RetC AnyI B (lim + 4) w) := by
  have hcr := Lib.hid h; clear h
  go_enter Tryz.func124, Tryz.ntmps124
  go_wp2_with fail
  refine (amongLit_any B _ _ [0, -1, 1000000000001] _ hcr.out (by omega) (by intro n hn; simp only [List.mem_cons, List.not_mem_nil, or_false] at hn; unfold I64; omega) (by simp) (by simp)).mono ?_; rintro e w1 ⟨v, rfl, ⟨a, rfl, ai⟩, hg1, hc1⟩
  have HC1 := Lib.hid hc1; have HG1 := Lib.hid hg1; clear hg1 hc1
  go_wp2_with fail
  refine (amongLit_any B _ _ [1, 2, 3, 10, 1000, 4096, 10000, 10001, 26000000000, 1000000000000, a] _ HC1.out (by omega) (by intro n hn; simp only [List.mem_cons, List.not_mem_nil, or_false] at hn; unfold I64 at ai ⊢; omega) (by simp) (by simp)).mono ?_; rintro e w2 ⟨v, rfl, ⟨b, rfl, bi⟩, hg2, hc2⟩
  have HC2 := Lib.hid hc2; have HG2 := Lib.hid (grown_trans HG1.out hg2); clear hg2 hc2
  go_wp2_with fail
  go_ret
  exact ⟨_, rfl, ⟨b, rfl, bi⟩, HG2.out, HC2.out.le (by omega)⟩
end Go.Proofs.YtakilincclnpdaaGreatDoor
namespace Go.Proofs.YtakilincclnpdaaGreatDoor
open Go.RowKit

/-- returned two wholes, valid or not, each of the call's own. -/
def RetWW (w : World) (e : Ending) (w' : World) : Prop := ∃ (v u : Value) (n m : Bool) (xs ys : List Int), e = .returned (.tuple #[v, u]) ∧ RW w' v n xs ∧ RW w' u m ys ∧ xs.length ≤ 1000 ∧ ys.length ≤ 1000 ∧ Below w.heap.size w w'
def RetWn (w : World) (e : Ending) (w' : World) : Prop := ∃ (v : Value) (n : Bool) (xs : List Int) (k : Int), e = .returned (.tuple #[v, .int .i64 k]) ∧ RW w' v n xs ∧ xs.length ≤ 1000 ∧ I64 k ∧ Below w.heap.size w w'
theorem grown_bel' {w X : World} {B : Nat} (g : w.grownBy X (some B)) (hB : w.heap.size ≤ B) : Below w.heap.size w X :=
  ⟨g.os, g.tape, g.output, g.size, fun i hi => g.block i hi (by intro e; cases e; omega)⟩
def BW (B : Nat) (X : World) (n : Nat) : Prop := ∃ (b : Bool) (ad : Option Addr) (c : Nat) (ys : List Int), BoxV B X n (.bool b) (.slice ad ys.length c) ∧ Own X (B + 1) (.slice ad ys.length c) ys ∧ ys.length ≤ 1000
theorem BW.keep {B n : Nat} {X Y : World} (h : BW B X n) (g : X.grownBy Y (some B)) : BW B Y n := by
  obtain ⟨b, ad, c, ys, h1, h2, h3⟩ := h
  exact ⟨b, ad, c, ys, h1.keep g, own_keepG h2 g (Nat.lt_succ_self _), h3⟩
theorem BoxV.put0 {B n : Nat} {w : World} {u0 u1 : Value} (h : BoxV B w n u0 u1) (v : Value) : BoxV B (w.setCell ⟨n, 0, none⟩ v) n v u1 := by
  obtain ⟨h1, h2, h3, h4, h5, h6⟩ := h
  exact ⟨by simpa using h1, h2, by simp [go_sem, h3], by simp [go_sem, h4], by simp [go_sem, h5], by simp [go_sem, h6]⟩
theorem BW.far2 {B n k : Nat} {X : World} (h : BW B X n) (hne : n ≠ k) (hk : k < B + 1) (v u : Value) : BW B ((X.setCell ⟨k, 0, none⟩ v).setCell ⟨k, 1, none⟩ u) n := by
  obtain ⟨b, ad, c, ys, h1, h2, h3⟩ := h
  exact ⟨b, ad, c, ys, (h1.far1 hne).far1 hne, own_setFar (own_setFar h2 hk _ _) hk _ _, h3⟩
theorem BW.zero {B n : Nat} {X : World} (h : BoxV B X n (.bool false) (.slice none 0 0)) : BW B X n := ⟨false, none, 0, [], h, Own.nil _ _, by simp⟩
theorem cr_putG {B n o : Nat} {V : World} {lim : Int} {u : Value} (h : Cr V B lim) (hn : n ≠ B) (h0 : V.cell? ⟨n, o, none⟩ = some u) (hu : ∀ c, u ≠ .int .u8 c) (v : Value) : Cr (V.setCell ⟨n, o, none⟩ v) B lim := by
  obtain ⟨h1, h2, h3, ad, len, cap, at_, seed, c0, c1, c2, a0, a1, s0, s1, hl, hc⟩ := h
  have far : ∀ i, (V.setCell ⟨n, o, none⟩ v).cell? ⟨B, i, none⟩ = V.cell? ⟨B, i, none⟩ := fun i => World.cell?_setCell_other _ _ _ _ (by intro e; injection e with e1; exact hn e1)
  refine ⟨by simpa using h1, by simp [go_sem, h2], by simp [go_sem, h3], ad, len, cap, at_, seed, (far 0).trans c0, (far 1).trans c1, (far 2).trans c2, a0, a1, s0, s1, hl, fun hp => ?_⟩
  obtain ⟨b, off, ha, hlt, hcell⟩ := hc hp
  refine ⟨b, off, ha, hlt, fun i hi => ?_⟩
  obtain ⟨c, q0, q1, q2⟩ := hcell i hi
  refine ⟨c, q0, q1, (World.cell?_setCell_other _ _ _ _ fun e => ?_).trans q2⟩
  rw [← e, h0] at q2
  injection q2 with q2
  exact hu _ q2
theorem cr_boxW {B n : Nat} {V : World} {lim : Int} {b : Bool} {ad : Option Addr} {l c : Nat} (h : Cr V B lim) (hb : BoxV B V n (.bool b) (.slice ad l c)) (b2 : Bool) (ad2 : Option Addr) (l2 c2 : Nat) : Cr ((V.setCell ⟨n, 0, none⟩ (.bool b2)).setCell ⟨n, 1, none⟩ (.slice ad2 l2 c2)) B lim :=
  cr_putG (cr_putG h hb.2.1 hb.2.2.1 (by intro c e; cases e) _) hb.2.1 (hb.put0 (.bool b2)).2.2.2.1 (by intro c e; cases e) _
/-- blocks from b on stay. -/
def RWk (b : Nat) (x y : World) : Prop := x.heap.size ≤ y.heap.size ∧ ∀ i, i < x.heap.size → b ≤ i → y.heap[i]? = x.heap[i]?
theorem RWk.refl (b : Nat) (x : World) : RWk b x x := ⟨Nat.le_refl _, fun _ _ _ => rfl⟩
theorem RWk.grown {b B : Nat} {x y : World} (g : x.grownBy y (some B)) (hB : B < b) : RWk b x y := ⟨g.size, fun i hi hb => g.block i hi (by intro e; cases e; omega)⟩
theorem RWk.set2 {b k : Nat} {x : World} (hk : k < b) (v u : Value) : RWk b x ((x.setCell ⟨k, 0, none⟩ v).setCell ⟨k, 1, none⟩ u) := ⟨by simp, fun i _ hb => by rw [heap_setNe (by omega), heap_setNe (by omega)]⟩
theorem RO.keepR {base : Nat} {x y : World} {v : Value} {neg : Bool} {xs : List Int} (h : RO x base v neg xs) (r : RWk base x y) : RO y base v neg xs := by
  obtain ⟨ad, cap, hv, h1, h2⟩ := h
  refine ⟨ad, cap, hv, h1, ?_⟩
  rcases h2 with h2 | ⟨k, cap', cur, hv', hg, hh, rr⟩
  · exact .inl h2
  · have hlt : k < x.heap.size := by
      rcases Nat.lt_or_ge k x.heap.size with h' | h'
      · exact h'
      · rw [Array.getElem?_eq_none h'] at hh; cases hh
    exact .inr ⟨k, cap', cur, hv', hg, (r.2 k hlt hg).trans hh, rr⟩
theorem wp_ldW {B n i : Nat} {b : Bool} {ad : Option Addr} {l c : Nat} {x : World} {d : Option Nat} {t : TypeId} {s : String} {af : Array Edge} {A : Act} (r : BoxV B x n (.bool b) (.slice ad l c)) (h : A.eval (.tmp i) = .pointer (some ⟨n, 0, none⟩)) :
    OpDone Tryz.prog { dst := d, op := .load 26 (.tmp i), type := t, pos := s, after := af, guard := none } A x (.agg #[.bool b, .slice ad l c]) x := by
  refine ⟨fun K Q hk => ?_⟩
  obtain ⟨r1, r2, r3, r4, r5, r6⟩ := r
  unfold Oper.wp execOp
  dsimp only
  rw [h]
  go_simp
  exact hk
theorem wp_stW {B n i j : Nat} {b b2 : Bool} {ad ad2 : Option Addr} {l c l2 c2 : Nat} {x : World} {d : Option Nat} {t : TypeId} {s : String} {af : Array Edge} {A : Act} (r : BoxV B x n (.bool b) (.slice ad l c)) (h : A.eval (.tmp i) = .pointer (some ⟨n, 0, none⟩)) (h' : A.eval (.tmp j) = .agg #[.bool b2, .slice ad2 l2 c2]) :
    OpDone Tryz.prog { dst := d, op := .store 26 (.tmp i) (.tmp j), type := t, pos := s, after := af, guard := none } A x undef ((x.setCell ⟨n, 0, none⟩ (.bool b2)).setCell ⟨n, 1, none⟩ (.slice ad2 l2 c2)) := by
  refine ⟨fun K Q hk => ?_⟩
  obtain ⟨r1, r2, r3, r4, r5, r6⟩ := r
  unfold Oper.wp execOp
  dsimp only
  rw [h, h']
  go_simp
  exact hk
theorem run_callMi {i : Nat} {x : World} {d : Option Nat} {t : TypeId} {ts : Array TypeId} {s : String} {af : Array Edge} (ρ : Operand → Value) (hf : ρ (.func 113) = .func (.func 113) #[] #[]) :
    (execOp ρ { dst := d, op := .call { callee := .value (.func 113), args := #[.tmp i], argTypes := ts }, type := t, pos := s, after := af, guard := none }).run Tryz.prog x = .ok (.enter 113 #[ρ (.tmp i)]) x := by
  simp only [execOp, resolve, hf]
  go_simp
theorem run_callAW {i : Nat} {x : World} {d : Option Nat} {t : TypeId} {ts : Array TypeId} {s : String} {af : Array Edge} (ρ : Operand → Value) (hf : ρ (.func 46) = .func (.func 46) #[] #[]) :
    (execOp ρ { dst := d, op := .call { callee := .value (.func 46), args := #[.tmp i], argTypes := ts }, type := t, pos := s, after := af, guard := none }).run Tryz.prog x = .ok (.enter 46 #[ρ (.tmp i)]) x := by
  simp only [execOp, resolve, hf]
  go_simp
set_option maxHeartbeats 8000000 in
set_option maxRecDepth 100000 in
theorem drawDivideWhole_any (ad : Option Addr) (len cap : Nat) (zs : List Int) (w : World) (h : IsRow .u8 w ad len cap zs) (hl : len ≤ 1048576) :
    Calls Tryz.prog 72 #[.slice ad len cap] w (RetWn w) := by
  have h0 : Below w.heap.size w (w.alloc (.cells #[.bool false, .slice none 0 0] 26)) := below_allocD _ _
  have hc0 := cr_startb h (by omega) h0 75
  have hz0 : (w.alloc (.cells #[.bool false, .slice none 0 0] 26)).heap.size = w.heap.size + 1 := by simp
  have hr0 : BoxV (w.heap.size + 1) ((w.alloc (.cells #[.bool false, .slice none 0 0] 26)).alloc (.cells #[.slice ad len cap, .int .i64 0, .int .u64 0] 75)) (w.heap.size) (.bool false) (.slice none 0 0) := ⟨by simp <;> omega, by omega, by simp [go_sem], by simp [go_sem], by simp [go_sem], by simp [go_sem]⟩
  have hl1 : Below w.heap.size w ((w.alloc (.cells #[.bool false, .slice none 0 0] 26)).alloc (.cells #[.slice ad len cap, .int .i64 0, .int .u64 0] 75)) := bel_alloc h0 _
  have HC0 := Lib.hid hc0; have HL0 := Lib.hid hl1; have HZ0 := Lib.hid hz0; have HR0 := Lib.hid hr0
  clear hc0 h0 hl1 hz0 h hr0
  go_enter Tryz.func72, Tryz.ntmps72
  go_wp2_with fail
  have hc0 := HC0.out; have hl0 := HL0.out; have hr0 := HR0.out
  rw [HZ0.out] at hc0
  clear HC0 HL0 HZ0 HR0
  generalize (w.alloc (.cells #[.bool false, .slice none 0 0] 26)).alloc (.cells #[.slice ad len cap, .int .i64 0, .int .u64 0] 75) = V at hc0 hl0 hr0 ⊢
  obtain ⟨B, hB⟩ : ∃ N, N = w.heap.size + 1 := ⟨_, rfl⟩
  rw [← hB] at hc0 hr0 ⊢
  have HN := Lib.hid hB
  clear hB
  have hg0 := below_grown B hl0; clear hl0
  refine (anyWhole_any B _ _ hc0 (by omega)).mono ?_; rintro e w1 ⟨v, neg, xs, rfl, hro, hxl, hg1, hc1⟩
  have HC1 := Lib.hid hc1; have HG1 := Lib.hid (grown_trans hg0 hg1); have HR1 := Lib.hid (hr0.keep hg1)
  have hVB : B < V.heap.size := hc0.lt
  have HRO := Lib.hid (hro.le (base' := B + 1) (by omega))
  clear hg0 hg1 hc0 hc1 hr0 hro hVB
  go_wp2_with fail
  refine (smallDivisor_any B _ _ HC1.out (by omega)).mono ?_; rintro e w2 ⟨v2, rfl, ⟨k, rfl, kI⟩, hg, hc⟩
  have HC2 := Lib.hid hc; have HG2 := Lib.hid (grown_trans HG1.out hg); have HR2 := Lib.hid (HR1.out.keep hg); have HRO2 := Lib.hid (HRO.out.keepG hg (by omega))
  clear hg hc HC1 HG1 HR1 HRO
  obtain ⟨ad0, cap0, hv0, _⟩ := HRO2.out
  subst hv0
  obtain ⟨r1, r2, r3, r4, r5, r6⟩ := HR2.out
  go_wp2_with fail
  refine bodyPost_ret (by simp (maxDischargeDepth := 3) [results, Tryz.results72, go_sem, *]; try rfl) rfl ?_
  exact ⟨_, neg, xs, k, rfl, ((HRO2.out.setFar (by have := HN.out; omega)).setFar (by have := HN.out; omega)).rw, by omega, kI, grown_bel' (set_grown (set_grown HG2.out (Nat.le_refl _) _) (Nat.le_refl _) _) (by have := HN.out; omega)⟩
end Go.Proofs.YtakilincclnpdaaGreatDoor
