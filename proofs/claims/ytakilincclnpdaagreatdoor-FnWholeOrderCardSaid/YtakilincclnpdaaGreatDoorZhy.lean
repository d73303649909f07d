/- Zh: wholes drawn for the order of wholes. No conditions. -/
import Derived.Test.YtakilincclnpdaaGreatDoorPUy
import Derived.Test.YtakilincclnpdaaGreatDoorZey
import Derived.Test.YtakilincclnpdaaGreatDoorSpy
namespace Go.Proofs.YtakilincclnpdaaGreatDoor
open Go.RowKit

def RetRW (w : World) (e : Ending) (w' : World) : Prop := ∃ (v : Value) (n : Bool) (xs : List Int), e = .returned v ∧ RW w' v n xs ∧ xs.length ≤ 1000 ∧ Below w.heap.size w w'
theorem run_fa0 {m i : Nat} {x : World} {d : Option Nat} {t : TypeId} {s : String} {af : Array Edge} (ρ : Operand → Value) (h : ρ (.tmp i) = .pointer (some ⟨m, 0, none⟩)) :
    (execOp ρ { dst := d, op := .fieldAddr 26 (.tmp i) 0, type := t, pos := s, after := af, guard := none }).run Tryz.prog x = .ok (.value (.pointer (some ⟨m, 0, none⟩))) x := by
  simp only [execOp, h]
  go_simp
theorem run_ldB {m o i : Nat} {x : World} {d : Option Nat} {t : TypeId} {s : String} {af : Array Edge} (ρ : Operand → Value) (h : ρ (.tmp i) = .pointer (some ⟨m, o, none⟩)) {b : Bool} (hc : x.cell? ⟨m, o, none⟩ = some (.bool b)) :
    (execOp ρ { dst := d, op := .load 4 (.tmp i), type := t, pos := s, after := af, guard := none }).run Tryz.prog x = .ok (.value (.bool b)) x := by
  simp only [execOp, h]
  go_simp
theorem run_bdW {i j : Nat} {x : World} {d : Option Nat} {t : TypeId} {s : String} {af : Array Edge} {b : Bool} {ad : Option Addr} {l c : Nat} (ρ : Operand → Value) (h : ρ (.tmp i) = .bool b) (h' : ρ (.tmp j) = .slice ad l c) :
    (execOp ρ { dst := d, op := .build 26 #[(0, .tmp i), (1, .tmp j)], type := t, pos := s, after := af, guard := none }).run Tryz.prog x = .ok (.value (.agg #[.bool b, .slice ad l c])) x := by
  simp only [execOp]
  go_simp
theorem run_callOw {i : Nat} {x : World} {d : Option Nat} {t : TypeId} {ts : Array TypeId} {s : String} {af : Array Edge} (ρ : Operand → Value) (hf : ρ (.func 48) = .func (.func 48) #[] #[]) :
    (execOp ρ { dst := d, op := .call { callee := .value (.func 48), args := #[.tmp i], argTypes := ts }, type := t, pos := s, after := af, guard := none }).run Tryz.prog x = .ok (.enter 48 #[ρ (.tmp i)]) x := by
  simp only [execOp, resolve, hf]
  go_simp
set_option maxHeartbeats 8000000 in
set_option maxRecDepth 100000 in
theorem drawCompareWholes_any (ad : Option Addr) (len cap : Nat) (zs : List Int) (w : World) (h : IsRow .u8 w ad len cap zs) (hl : len ≤ 1048576) :
    Calls Tryz.prog 6 #[.slice ad len cap] w (RetWW w) := by
  have h0 : Below w.heap.size w ((w.alloc (.cells #[.bool false, .slice none 0 0] 26)).alloc (.cells #[.bool false, .slice none 0 0] 26)) := bel_alloc (below_allocD _ _) _
  have hc0 := cr_startb h (by omega) h0 75
  have hz0 : ((w.alloc (.cells #[.bool false, .slice none 0 0] 26)).alloc (.cells #[.bool false, .slice none 0 0] 26)).heap.size = w.heap.size + 1 + 1 := by simp
  have hr0 : BoxV (w.heap.size + 1 + 1) (((w.alloc (.cells #[.bool false, .slice none 0 0] 26)).alloc (.cells #[.bool false, .slice none 0 0] 26)).alloc (.cells #[.slice ad len cap, .int .i64 0, .int .u64 0] 75)) (w.heap.size) (.bool false) (.slice none 0 0) := ⟨by simp <;> omega, by omega, by simp [go_sem], by simp [go_sem], by simp [go_sem], by simp [go_sem]⟩
  have hr1 : BoxV (w.heap.size + 1 + 1) (((w.alloc (.cells #[.bool false, .slice none 0 0] 26)).alloc (.cells #[.bool false, .slice none 0 0] 26)).alloc (.cells #[.slice ad len cap, .int .i64 0, .int .u64 0] 75)) (w.heap.size + 1) (.bool false) (.slice none 0 0) := ⟨by simp <;> omega, by omega, by simp [go_sem], by simp [go_sem], by simp [go_sem], by simp [go_sem]⟩
  have hl1 : Below w.heap.size w (((w.alloc (.cells #[.bool false, .slice none 0 0] 26)).alloc (.cells #[.bool false, .slice none 0 0] 26)).alloc (.cells #[.slice ad len cap, .int .i64 0, .int .u64 0] 75)) := bel_alloc h0 _
  have HC0 := Lib.hid hc0; have HL0 := Lib.hid hl1; have HZ0 := Lib.hid hz0; have HR0 := Lib.hid hr0; have HR1 := Lib.hid hr1
  clear hc0 h0 hl1 hz0 h hr0 hr1
  go_enter Tryz.func6, Tryz.ntmps6
  go_wp2_with fail
  have hc0 := HC0.out; have hl0 := HL0.out; have hr0 := HR0.out; have hr1 := HR1.out
  rw [HZ0.out] at hc0
  clear HC0 HL0 HZ0 HR0 HR1
  generalize ((w.alloc (.cells #[.bool false, .slice none 0 0] 26)).alloc (.cells #[.bool false, .slice none 0 0] 26)).alloc (.cells #[.slice ad len cap, .int .i64 0, .int .u64 0] 75) = V at hc0 hl0 hr0 hr1 ⊢
  obtain ⟨N1, hN1⟩ : ∃ N, N = w.heap.size + 1 := ⟨_, rfl⟩
  obtain ⟨B, hB⟩ : ∃ N, N = w.heap.size + 1 + 1 := ⟨_, rfl⟩
  rw [← hB] at hc0 hr0 hr1 ⊢
  rw [← hN1] at hr1 ⊢
  have HN := Lib.hid (show N1 = w.heap.size + 1 ∧ B = w.heap.size + 1 + 1 from ⟨hN1, hB⟩)
  clear hN1 hB
  have hg0 := below_grown B hl0; clear hl0
  refine (anyWhole_any B _ _ hc0 (by omega)).mono ?_; rintro e w1 ⟨v, neg, xs, rfl, hro, hxl, hg1, hc1⟩
  have HCa := Lib.hid hc1; have HGa := Lib.hid (grown_trans hg0 hg1); have HRa := Lib.hid (hr0.keep hg1); have HSa := Lib.hid (hr1.keep hg1)
  have hVB : B < V.heap.size := hc0.lt
  have HXL := Lib.hid (show xs.length ≤ 1000 by omega)
  obtain ⟨ad0, cap0, rfl, ho⟩ := hro
  have HOa := Lib.hid (ho.le (base' := B + 1) (by omega))
  clear hg0 hg1 hc0 hc1 hr0 hr1 ho hVB
  go_wp2_with fail
  have hb1 : Below w1.heap.size w1 (w1.alloc (.cells #[.bool neg, .slice ad0 xs.length cap0] 26)) := below_allocD _ _
  have HM := Lib.hid (BoxV.new (B := B) (.bool neg) (.slice ad0 xs.length cap0) 26 HCa.out.lt)
  have HC1 := Lib.hid (HCa.out.keep' hb1); have HG1 := Lib.hid (grown_trans HGa.out (below_grown B hb1)); have HR1 := Lib.hid (HRa.out.keep (below_grown B hb1)); have HS1 := Lib.hid (HSa.out.keep (below_grown B hb1)); have HO1 := Lib.hid (HOa.out.keep hb1)
  have HNB := Lib.hid (show N1 = w.heap.size + 1 ∧ B = w.heap.size + 1 + 1 ∧ B < w1.heap.size by have := HN.out; have := HCa.out.lt; omega)
  clear HCa HGa HRa HSa HOa
  generalize w1.alloc (.cells #[.bool neg, .slice ad0 xs.length cap0] 26) = W1 at HM HC1 HG1 HR1 HS1 HO1 hb1 ⊢
  generalize w1.heap.size = n at HM HNB hb1 ⊢
  have HM1 := Lib.hid HM.out; clear HM hb1 hxl
  refine (one_any B _ 4 _ HC1.out (by omega) (by omega) (by omega)).mono ?_; rintro e w2 ⟨v, rfl, ⟨bo, rfl⟩, hg, hc⟩
  have HC2 := Lib.hid hc; have HG2 := Lib.hid (grown_trans HG1.out hg); have HR2 := Lib.hid (HR1.out.keep hg); have HS2 := Lib.hid (HS1.out.keep hg); have HM2 := Lib.hid (HM1.out.keep hg); have HO2 := Lib.hid (own_keepG HO1.out hg (by omega)); clear hg hc HC1 HG1 HR1 HS1 HM1 HO1
  cases bo
  · obtain ⟨r1, r2, r3, r4, r5, r6⟩ := HR2.out; obtain ⟨s1, s2, s3, s4, s5, s6⟩ := HS2.out; obtain ⟨m1, m2, m3, m4, m5, m6⟩ := HM2.out
    go_wp2_with fail
    clear r1 r2 r3 r4 r5 r6 s1 s2 s3 s4 s5 s6 m1 m2 m3 m4 m5 m6
    obtain ⟨lim, hlim⟩ : ∃ lim : Int, lim = 100000 := ⟨_, rfl⟩; have HY := Lib.hid (show Cr w2.drew B lim ∧ w.grownBy w2.drew (some B) ∧ BW B w2.drew w.heap.size ∧ BW B w2.drew N1 ∧ BoxV B w2.drew n (.bool neg) (.slice ad0 xs.length cap0) ∧ Own w2.drew (B + 1) (.slice ad0 xs.length cap0) xs from ⟨cr_drewY (HC2.out.le (by omega)), grown_drew HG2.out, BW.zero HR2.out, BW.zero HS2.out, HM2.out, HO2.out⟩); clear HC2 HG2 HR2 HS2 HM2 HO2
    refine wp_region_steps [20, 21, 22] (RWk (B + 1)) (look [(20, fun v _ => v = (.agg #[.bool neg, .slice ad0 xs.length cap0])), (21, fun v _ => v = .pointer (some ⟨B, 0, none⟩)), (22, fun v X => ∃ neg xs, RO X (B + 1) v neg xs ∧ xs.length ≤ 1000)]) (fun k X => Cr X B (lim + 30000 * (k : Int)) ∧ w.grownBy X (some B) ∧ BW B X w.heap.size ∧ BW B X N1 ∧ BoxV B X n (.bool neg) (.slice ad0 xs.length cap0) ∧ Own X (B + 1) (.slice ad0 xs.length cap0) xs) (by kernel_rfl) (by kernel_rfl) (by decide) (look_keep ?_) ?_ ?_
    · intro q hq v x y hv hr
      simp only [List.mem_cons, List.not_mem_nil, or_false] at hq
      rcases hq with rfl | rfl | rfl
      · exact hv
      · exact hv
      · obtain ⟨nn, ys, h1, h2⟩ := hv; exact ⟨nn, ys, RO.keepR h1 hr, h2⟩
    · exact ⟨(HY.out.1.le (by omega) : Cr _ B _), HY.out.2⟩
    refine Steps.cons ?_ ?_
    · refine TStep.of ?_ ?_ ?_
      · rfl
      · simp
      intro k g X hk9 hS hd
      refine ⟨_, X, wp_ldW hS.2.2.2.2.1 (by rw [eval_out (by decide)]; rfl), fun d e => ?_, ⟨hS.1.le (by push_cast; omega), hS.2⟩, RWk.refl _ X⟩
      cases e; exact rfl
    refine Steps.cons ?_ ?_
    · refine TStep.move 4 ?_ ?_ ?_ ?_ ?_ ?_
      · exact .inl rfl
      · rfl
      · simp
      · exact fun _ _ h => ⟨h.1.le (by push_cast; omega), h.2⟩
      · exact fun _ => RWk.refl _ _
      intro G X hd d e; cases e; rw [eval_out (by decide)]; exact rfl
    refine Steps.cons ?_ ?_
    · refine TStep.call ?_ ?_ ?_
      · rfl
      · simp
      intro k g X hk9 hS hd
      have e1 : g 21 = .pointer (some ⟨B, 0, none⟩) := hd 21 (mem_b (by kernel_rfl))
      refine ⟨_, _, wp_call_ofb (run_callAW _ (by rfl)), ?_⟩
      rw [eval_in (i := 21) (by decide) (by simp), e1]
      refine (anyWhole_any B _ X hS.1 (by have h9 : k < 5 := hk9; omega)).mono ?_
      rintro e' X' ⟨v', n', ys, rfl, hro, hyl, hg, hc⟩
      refine ⟨_, rfl, fun d e => ?_, ⟨hc.le (by push_cast; omega), grown_trans hS.2.1 hg, hS.2.2.1.keep hg, hS.2.2.2.1.keep hg, hS.2.2.2.2.1.keep hg, own_keepG hS.2.2.2.2.2 hg (by omega)⟩, RWk.grown hg (by omega)⟩
      cases e; exact ⟨_, _, hro.le (by have := hS.1.lt; omega), by omega⟩
    refine Steps.cons ?_ ?_
    · refine TStep.of ?_ ?_ ?_
      · rfl
      · simp
      intro k g X hk9 hS hd
      have e1 : g 20 = (.agg #[.bool neg, .slice ad0 xs.length cap0]) := hd 20 (mem_b (by kernel_rfl))
      obtain ⟨u0, u1, u2, us, h, hos, hls⟩ := hS.2.2.1
      refine ⟨undef, _, wp_stW h (by rw [eval_out (by decide)]; rfl) (by rw [eval_in (by decide) (by simp)]; exact e1), (by simp), ⟨(cr_boxW hS.1 h neg ad0 xs.length cap0).le (by push_cast; omega), set_grown (set_grown hS.2.1 (Nat.le_refl _) _) (Nat.le_refl _) _, ⟨neg, ad0, cap0, xs, (h.put0 _).put1 _, own_setFar (own_setFar hS.2.2.2.2.2 (by have := HNB.out; omega) _ _) (by have := HNB.out; omega) _ _, HXL.out⟩, hS.2.2.2.1.far2 (by have := HNB.out; omega) (by have := HNB.out; omega) _ _, (hS.2.2.2.2.1.far1 (by have := HNB.out; omega)).far1 (by have := HNB.out; omega), own_setFar (own_setFar hS.2.2.2.2.2 (by have := HNB.out; omega) _ _) (by have := HNB.out; omega) _ _⟩, RWk.set2 (by have := HNB.out; omega) _ _⟩
    refine Steps.one ?_
    refine LStep.of ?_ ?_
    · rfl
    intro g X hS hd
    obtain ⟨nn, ys, hro, hyl⟩ : ∃ nn ys, RO X (B + 1) (g 22) nn ys ∧ ys.length ≤ 1000 := hd 22 (mem_b (by kernel_rfl))
    obtain ⟨ad9, cap9, hv9, ho9⟩ := hro
    obtain ⟨hS1, hS2, h1, ⟨u4, u5, u6, us, h2, ho2, hl2⟩, -, -⟩ := hS
    refine ⟨undef, _, wp_stW h2 (by rw [eval_out (by decide)]; rfl) (by rw [eval_in (by decide) (by simp)]; exact hv9), ?_⟩
    have HRR := Lib.hid (h1.far2 (k := N1) (by have := HNB.out; omega) (by have := HNB.out; omega) (.bool nn) (.slice ad9 ys.length cap9))
    have HR1 := Lib.hid ((h2.put0 (.bool nn)).put1 (.slice ad9 ys.length cap9))
    have HO1 := Lib.hid (own_setFar (own_setFar ho9 (k := N1) (by have := HNB.out; omega) 0 (.bool nn)) (k := N1) (by have := HNB.out; omega) 1 (.slice ad9 ys.length cap9))
    have HG1 := Lib.hid (set_grown (set_grown hS2 (n := N1) (o := 0) (by have := HNB.out; omega) (.bool nn)) (n := N1) (o := 1) (by have := HNB.out; omega) (.slice ad9 ys.length cap9))
    clear hS1 hS2 h1 h2 ho2 ho9 hd HY hv9
    generalize (X.setCell ⟨N1, 0, none⟩ (.bool nn)).setCell ⟨N1, 1, none⟩ (.slice ad9 ys.length cap9) = Y2 at HRR HR1 HO1 HG1 ⊢
    obtain ⟨nb, adb, cb, zs, hbz, hoz, hlz⟩ := HRR.out
    have HOZ := Lib.hid hoz; have HLZ := Lib.hid hlz; have HLY := Lib.hid hyl
    obtain ⟨r1, r2, r3, r4, r5, r6⟩ := hbz; obtain ⟨m1, m2, m3, m4, m5, m6⟩ := HR1.out
    clear hoz hlz hyl
    simp only [fill, Act.put, List.setIfInBounds_toArray, List.set_cons_zero, List.set_cons_succ]
    go_wp2_with fail
    refine bodyPost_ret (by simp (maxDischargeDepth := 3) [results, Tryz.results6, go_sem, *]; try rfl) rfl ?_
    exact ⟨_, _, nb, nn, zs, ys, rfl, ⟨adb, cb, rfl, HOZ.out.rd, HOZ.out.slok⟩, ⟨ad9, cap9, rfl, HO1.out.rd, HO1.out.slok⟩, HLZ.out, HLY.out, grown_bel' HG1.out (by have := HNB.out; omega)⟩
  · obtain ⟨r1, r2, r3, r4, r5, r6⟩ := HR2.out; obtain ⟨s1, s2, s3, s4, s5, s6⟩ := HS2.out; obtain ⟨m1, m2, m3, m4, m5, m6⟩ := HM2.out
    go_wp2_with fail
    clear r1 r2 r3 r4 r5 r6 s1 s2 s3 s4 s5 s6 m1 m2 m3 m4 m5 m6
    obtain ⟨lim, hlim⟩ : ∃ lim : Int, lim = 100000 := ⟨_, rfl⟩; have HY := Lib.hid (show Cr w2.drew B lim ∧ w.grownBy w2.drew (some B) ∧ BW B w2.drew w.heap.size ∧ BW B w2.drew N1 ∧ BoxV B w2.drew n (.bool neg) (.slice ad0 xs.length cap0) ∧ Own w2.drew (B + 1) (.slice ad0 xs.length cap0) xs from ⟨cr_drewY (HC2.out.le (by omega)), grown_drew HG2.out, BW.zero HR2.out, BW.zero HS2.out, HM2.out, HO2.out⟩); clear HC2 HG2 HR2 HS2 HM2 HO2
    refine wp_region_steps [13, 14, 15, 16, 17, 18, 19] (RWk (B + 1)) (look [(13, fun v _ => v = (.agg #[.bool neg, .slice ad0 xs.length cap0])), (14, fun v _ => v = .pointer (some ⟨n, 0, none⟩)), (15, fun v _ => v = .bool neg), (16, fun v _ => v = .pointer (some ⟨n, 1, none⟩)), (17, fun v _ => v = .slice ad0 xs.length cap0), (18, fun v X => ∃ ys, RO X (B + 1) (.agg #[.bool neg, v]) neg ys ∧ ys.length ≤ 1000), (19, fun v X => ∃ neg xs, RO X (B + 1) v neg xs ∧ xs.length ≤ 1000)]) (fun k X => Cr X B (lim + 30000 * (k : Int)) ∧ w.grownBy X (some B) ∧ BW B X w.heap.size ∧ BW B X N1 ∧ BoxV B X n (.bool neg) (.slice ad0 xs.length cap0) ∧ Own X (B + 1) (.slice ad0 xs.length cap0) xs) (by kernel_rfl) (by kernel_rfl) (by decide) (look_keep ?_) ?_ ?_
    · intro q hq v x y hv hr
      simp only [List.mem_cons, List.not_mem_nil, or_false] at hq
      rcases hq with rfl | rfl | rfl | rfl | rfl | rfl | rfl
      · exact hv
      · exact hv
      · exact hv
      · exact hv
      · exact hv
      · obtain ⟨ys, h1, h2⟩ := hv; exact ⟨ys, RO.keepR h1 hr, h2⟩
      · obtain ⟨nn, ys, h1, h2⟩ := hv; exact ⟨nn, ys, RO.keepR h1 hr, h2⟩
    · exact ⟨(HY.out.1.le (by omega) : Cr _ B _), HY.out.2⟩
    refine Steps.cons ?_ ?_
    · refine TStep.of ?_ ?_ ?_
      · rfl
      · simp
      intro k g X hk9 hS hd
      refine ⟨_, X, wp_ldW hS.2.2.2.2.1 (by rw [eval_out (by decide)]; rfl), fun d e => ?_, ⟨hS.1.le (by push_cast; omega), hS.2⟩, RWk.refl _ X⟩
      cases e; exact rfl
    refine Steps.cons ?_ ?_
    · refine TStep.of ?_ ?_ ?_
      · rfl
      · simp
      intro k g X hk9 hS hd
      refine ⟨_, X, wp_value_ofb (run_fa0 (m := n) _ (by rw [eval_out (by decide)]; rfl)), fun d e => ?_, ⟨hS.1.le (by push_cast; omega), hS.2⟩, RWk.refl _ X⟩
      cases e; exact rfl
    refine Steps.cons ?_ ?_
    · refine TStep.of ?_ ?_ ?_
      · rfl
      · simp
      intro k g X hk9 hS hd
      have e1 : g 14 = .pointer (some ⟨n, 0, none⟩) := hd 14 (mem_b (by kernel_rfl))
      refine ⟨_, X, wp_value_ofb (run_ldB _ (by rw [eval_in (by decide) (by simp)]; exact e1) hS.2.2.2.2.1.2.2.1), fun d e => ?_, ⟨hS.1.le (by push_cast; omega), hS.2⟩, RWk.refl _ X⟩
      cases e; exact rfl
    refine Steps.cons ?_ ?_
    · refine TStep.of ?_ ?_ ?_
      · rfl
      · simp
      intro k g X hk9 hS hd
      refine ⟨_, X, wp_value_ofb (run_fa1 (m := n) _ (by rw [eval_out (by decide)]; rfl)), fun d e => ?_, ⟨hS.1.le (by push_cast; omega), hS.2⟩, RWk.refl _ X⟩
      cases e; exact rfl
    refine Steps.cons ?_ ?_
    · refine TStep.of ?_ ?_ ?_
      · rfl
      · simp
      intro k g X hk9 hS hd
      have e1 : g 16 = .pointer (some ⟨n, 1, none⟩) := hd 16 (mem_b (by kernel_rfl))
      refine ⟨_, X, wp_value_ofb (run_ldS _ (by rw [eval_in (by decide) (by simp)]; exact e1) hS.2.2.2.2.1.2.2.2.1), fun d e => ?_, ⟨hS.1.le (by push_cast; omega), hS.2⟩, RWk.refl _ X⟩
      cases e; exact rfl
    refine Steps.cons ?_ ?_
    · refine TStep.call ?_ ?_ ?_
      · rfl
      · simp
      intro k g X hk9 hS hd
      have e1 : g 17 = .slice ad0 xs.length cap0 := hd 17 (mem_b (by kernel_rfl))
      refine ⟨_, _, wp_call_ofb (run_callOw _ (by rfl)), ?_⟩
      rw [eval_in (i := 17) (by decide) (by simp), e1]
      refine (l1Own_any _ xs X hS.2.2.2.2.2.rd hS.2.2.2.2.2.nilz (by have := HXL.out; omega)).mono ?_
      rintro e' X' ⟨v', rfl, hb, ho⟩
      have hg := below_grown B hb
      refine ⟨_, rfl, fun d e => ?_, ⟨(hS.1.keep' hb).le (by push_cast; omega), grown_trans hS.2.1 hg, hS.2.2.1.keep hg, hS.2.2.2.1.keep hg, hS.2.2.2.2.1.keep hg, hS.2.2.2.2.2.keep hb⟩, RWk.grown hg (by omega)⟩
      cases e
      obtain ⟨a9, c9, hv9⟩ : ∃ a c, v' = .slice a xs.length c := by obtain ⟨a, c, h, _⟩ := ho.rd; exact ⟨a, c, h⟩
      subst hv9
      exact ⟨xs, ⟨a9, c9, rfl, ho.le (by have := hS.1.lt; omega)⟩, HXL.out⟩
    refine Steps.cons ?_ ?_
    · refine TStep.of ?_ ?_ ?_
      · rfl
      · simp
      intro k g X hk9 hS hd
      have e1 : g 15 = .bool neg := hd 15 (mem_b (by kernel_rfl))
      obtain ⟨ys, hro, hyl⟩ : ∃ ys, RO X (B + 1) (.agg #[.bool neg, g 18]) neg ys ∧ ys.length ≤ 1000 := hd 18 (mem_b (by kernel_rfl))
      obtain ⟨a9, c9, hv9, ho9⟩ := hro
      have e2 : g 18 = .slice a9 ys.length c9 := by
        have h := congrArg (fun u => match u with | .agg a => a[1]? | _ => none) hv9
        simpa using h
      refine ⟨_, X, wp_value_ofb (run_bdW (b := neg) (ad := a9) (l := ys.length) (c := c9) _ (by rw [eval_in (by decide) (by simp)]; exact e1) (by rw [eval_in (by decide) (by simp)]; exact e2)), fun d e => ?_, ⟨hS.1.le (by push_cast; omega), hS.2⟩, RWk.refl _ X⟩
      cases e; exact ⟨neg, ys, ⟨a9, c9, rfl, ho9⟩, hyl⟩
    refine Steps.cons ?_ ?_
    · refine TStep.of ?_ ?_ ?_
      · rfl
      · simp
      intro k g X hk9 hS hd
      have e1 : g 13 = (.agg #[.bool neg, .slice ad0 xs.length cap0]) := hd 13 (mem_b (by kernel_rfl))
      obtain ⟨u0, u1, u2, us, h, hos, hls⟩ := hS.2.2.1
      refine ⟨undef, _, wp_stW h (by rw [eval_out (by decide)]; rfl) (by rw [eval_in (by decide) (by simp)]; exact e1), (by simp), ⟨(cr_boxW hS.1 h neg ad0 xs.length cap0).le (by push_cast; omega), set_grown (set_grown hS.2.1 (Nat.le_refl _) _) (Nat.le_refl _) _, ⟨neg, ad0, cap0, xs, (h.put0 _).put1 _, own_setFar (own_setFar hS.2.2.2.2.2 (by have := HNB.out; omega) _ _) (by have := HNB.out; omega) _ _, HXL.out⟩, hS.2.2.2.1.far2 (by have := HNB.out; omega) (by have := HNB.out; omega) _ _, (hS.2.2.2.2.1.far1 (by have := HNB.out; omega)).far1 (by have := HNB.out; omega), own_setFar (own_setFar hS.2.2.2.2.2 (by have := HNB.out; omega) _ _) (by have := HNB.out; omega) _ _⟩, RWk.set2 (by have := HNB.out; omega) _ _⟩
    refine Steps.one ?_
    refine LStep.of ?_ ?_
    · rfl
    intro g X hS hd
    obtain ⟨nn, ys, hro, hyl⟩ : ∃ nn ys, RO X (B + 1) (g 19) nn ys ∧ ys.length ≤ 1000 := hd 19 (mem_b (by kernel_rfl))
    obtain ⟨ad9, cap9, hv9, ho9⟩ := hro
    obtain ⟨hS1, hS2, h1, ⟨u4, u5, u6, us, h2, ho2, hl2⟩, -, -⟩ := hS
    refine ⟨undef, _, wp_stW h2 (by rw [eval_out (by decide)]; rfl) (by rw [eval_in (by decide) (by simp)]; exact hv9), ?_⟩
    have HRR := Lib.hid (h1.far2 (k := N1) (by have := HNB.out; omega) (by have := HNB.out; omega) (.bool nn) (.slice ad9 ys.length cap9))
    have HR1 := Lib.hid ((h2.put0 (.bool nn)).put1 (.slice ad9 ys.length cap9))
    have HO1 := Lib.hid (own_setFar (own_setFar ho9 (k := N1) (by have := HNB.out; omega) 0 (.bool nn)) (k := N1) (by have := HNB.out; omega) 1 (.slice ad9 ys.length cap9))
    have HG1 := Lib.hid (set_grown (set_grown hS2 (n := N1) (o := 0) (by have := HNB.out; omega) (.bool nn)) (n := N1) (o := 1) (by have := HNB.out; omega) (.slice ad9 ys.length cap9))
    clear hS1 hS2 h1 h2 ho2 ho9 hd HY hv9
    generalize (X.setCell ⟨N1, 0, none⟩ (.bool nn)).setCell ⟨N1, 1, none⟩ (.slice ad9 ys.length cap9) = Y2 at HRR HR1 HO1 HG1 ⊢
    obtain ⟨nb, adb, cb, zs, hbz, hoz, hlz⟩ := HRR.out
    have HOZ := Lib.hid hoz; have HLZ := Lib.hid hlz; have HLY := Lib.hid hyl
    obtain ⟨r1, r2, r3, r4, r5, r6⟩ := hbz; obtain ⟨m1, m2, m3, m4, m5, m6⟩ := HR1.out
    clear hoz hlz hyl
    simp only [fill, Act.put, List.setIfInBounds_toArray, List.set_cons_zero, List.set_cons_succ]
    go_wp2_with fail
    refine bodyPost_ret (by simp (maxDischargeDepth := 3) [results, Tryz.results6, go_sem, *]; try rfl) rfl ?_
    exact ⟨_, _, nb, nn, zs, ys, rfl, ⟨adb, cb, rfl, HOZ.out.rd, HOZ.out.slok⟩, ⟨ad9, cap9, rfl, HO1.out.rd, HO1.out.slok⟩, HLZ.out, HLY.out, grown_bel' HG1.out (by have := HNB.out; omega)⟩
set_option maxHeartbeats 4000000 in
set_option maxRecDepth 100000 in
theorem drawIsWhole_any (ad : Option Addr) (len cap : Nat) (zs : List Int) (w : World) (h : IsRow .u8 w ad len cap zs) (hl : len ≤ 1048576) :
    Calls Tryz.prog 59 #[.slice ad len cap] w (RetRW w) := by
  have h0 : Below w.heap.size w (w.alloc (.cells #[.bool false, .slice none 0 0] 26)) := below_allocD _ _
  have hc0 := cr_startb h (by omega) h0 75
  have hz0 : (w.alloc (.cells #[.bool false, .slice none 0 0] 26)).heap.size = w.heap.size + 1 := by simp
  have hr0 : BoxV (w.heap.size + 1) ((w.alloc (.cells #[.bool false, .slice none 0 0] 26)).alloc (.cells #[.slice ad len cap, .int .i64 0, .int .u64 0] 75)) (w.heap.size) (.bool false) (.slice none 0 0) := ⟨by simp <;> omega, by omega, by simp [go_sem], by simp [go_sem], by simp [go_sem], by simp [go_sem]⟩
  have hl1 : Below w.heap.size w ((w.alloc (.cells #[.bool false, .slice none 0 0] 26)).alloc (.cells #[.slice ad len cap, .int .i64 0, .int .u64 0] 75)) := bel_alloc h0 _
  have HC0 := Lib.hid hc0; have HL0 := Lib.hid hl1; have HZ0 := Lib.hid hz0; have HR0 := Lib.hid hr0
  clear hc0 h0 hl1 hz0 h hr0
  go_enter Tryz.func59, Tryz.ntmps59
  go_wp2_with fail
  have hc0 := HC0.out; have hl0 := HL0.out; have hr0 := HR0.out
  rw [HZ0.out] at hc0
  clear HC0 HL0 HZ0 HR0
  generalize (w.alloc (.cells #[.bool false, .slice none 0 0] 26)).alloc (.cells #[.slice ad len cap, .int .i64 0, .int .u64 0] 75) = V at hc0 hl0 hr0 ⊢
  obtain ⟨B, hB⟩ : ∃ N, N = w.heap.size + 1 := ⟨_, rfl⟩
  rw [← hB] at hc0 hr0 ⊢
  have HN := Lib.hid hB
  clear hB
  have hg0 := below_grown B hl0; clear hl0
  refine (anyWhole_any B _ _ hc0 (by omega)).mono ?_; rintro e w1 ⟨v, neg, xs, rfl, hro, hxl, hg1, hc1⟩
  have HC1 := Lib.hid hc1; have HG1 := Lib.hid (grown_trans hg0 hg1); have HR1 := Lib.hid (hr0.keep hg1)
  have hVB : B < V.heap.size := hc0.lt
  have HRO := Lib.hid (hro.le (base' := B + 1) (by omega))
  clear hg0 hg1 hc0 hc1 hr0 hro hVB
  obtain ⟨ad0, cap0, hv0, _⟩ := HRO.out
  subst hv0
  obtain ⟨r1, r2, r3, r4, r5, r6⟩ := HR1.out
  go_wp2_with fail
  refine bodyPost_ret (by simp (maxDischargeDepth := 3) [results, Tryz.results59, go_sem, *]; try rfl) rfl ?_
  exact ⟨_, neg, xs, rfl, ((HRO.out.setFar (by have := HN.out; omega)).setFar (by have := HN.out; omega)).rw, by omega, grown_bel' (set_grown (set_grown HG1.out (Nat.le_refl _) _) (Nat.le_refl _) _) (by have := HN.out; omega)⟩
theorem rw_set {w : World} {v u0 : Value} {n : Bool} {xs : List Int} {r o : Nat} (h : RW w v n xs) (hp : w.cell? ⟨r, o, none⟩ = some u0) (hu : ∀ c, u0 ≠ .int .i64 c) (u : Value) : RW (w.setCell ⟨r, o, none⟩ u) v n xs := by
  obtain ⟨ad, cap, hv, ⟨ad', cap', e, hl, hc⟩, hs⟩ := h
  refine ⟨ad, cap, hv, ⟨ad', cap', e, hl, fun h0 => ?_⟩, hs⟩
  obtain ⟨b, off, ha, hb, hcell⟩ := hc h0
  refine ⟨b, off, ha, by simpa using hb, fun i hi => ?_⟩
  rw [World.cell?_setCell_other _ _ _ _ (fun e => ?_)]
  · exact hcell i hi
  · have h1 := hcell i hi
    rw [← e, hp] at h1
    injection h1 with h1
    exact hu _ h1
theorem rw_set2 {w : World} {v : Value} {neg : Bool} {xs : List Int} {r : Nat} {b : Bool} {ad : Option Addr} {l c : Nat} (h : RW w v neg xs) (h0 : w.cell? ⟨r, 0, none⟩ = some (.bool b)) (h1 : w.cell? ⟨r, 1, none⟩ = some (.slice ad l c)) (u u' : Value) : RW ((w.setCell ⟨r, 0, none⟩ u).setCell ⟨r, 1, none⟩ u') v neg xs :=
  rw_set (rw_set h h0 (by intro c e; cases e) u) (u0 := .slice ad l c) (by rw [World.cell?_setCell_other _ _ _ _ (by intro e; injection e with _ e; cases e)]; exact h1) (by intro c e; cases e) u'
set_option maxHeartbeats 2000000 in
theorem drawWholeText_any (ad : Option Addr) (len cap : Nat) (zs : List Int) (w : World) (h : IsRow .u8 w ad len cap zs) (hl : len ≤ 1048576) :
    Calls Tryz.prog 12 #[.slice ad len cap] w (RetRW w) := by
  have hdr := fun w' (hb : Below w.heap.size w w') => drawIsWhole_any ad len cap zs w' (isRow_keepDb h hb) hl
  have HDR := Lib.hid hdr; clear hdr h
  go_enter Tryz.func12, Tryz.ntmps12
  go_wp2_with fail
  refine (HDR.out _ (by repeat (first | exact Below.refl _ _ | (with_reducible assumption) | refine bel_alloc ?_ _ | refine bel_drew ?_ | refine bel_drewN ?_ _ | refine Below.setCell ?_ (by dsimp only; omega) _ | refine bel_trans (by assumption) ?_))).mono ?_; rintro e w1 ⟨v, n, xs, rfl, hw, hxl, hb1⟩
  obtain ⟨ad1, cap1, rfl, hr, hs⟩ := hw
  have r0 : w1.cell? ⟨w.heap.size, 0, none⟩ = some (.bool false) := (hb1.cell (p := ⟨w.heap.size, 0, none⟩) (by simp)).trans (by simp [go_sem])
  have r1 : w1.cell? ⟨w.heap.size, 1, none⟩ = some (.slice none 0 0) := (hb1.cell (p := ⟨w.heap.size, 1, none⟩) (by simp)).trans (by simp [go_sem])
  have HW := Lib.hid (rw_set2 (neg := n) ⟨ad1, cap1, rfl, hr, hs⟩ r0 r1 (.bool n) (.slice ad1 xs.length cap1)); clear hr hs
  obtain ⟨hc1, hf1⟩ := aft hb1
  have HXL := Lib.hid hxl; clear hxl
  go_wp2_with fail
  refine bodyPost_ret (by simp (maxDischargeDepth := 3) [results, Tryz.results12, go_sem, *]; try rfl) rfl ?_
  exact ⟨_, n, xs, rfl, HW.out, HXL.out, (by repeat (first | exact Below.refl _ _ | (with_reducible assumption) | refine bel_alloc ?_ _ | refine bel_drew ?_ | refine bel_drewN ?_ _ | refine Below.setCell ?_ (by dsimp only; omega) _ | refine bel_trans (by assumption) ?_))⟩
set_option maxHeartbeats 2000000 in
theorem drawDivisorWith_any (ad : Option Addr) (len cap : Nat) (zs : List Int) (w : World) (h : IsRow .u8 w ad len cap zs) (hl : len ≤ 1048576) :
    Calls Tryz.prog 23 #[.slice ad len cap] w (RetWn w) := by
  have hdr := fun w' (hb : Below w.heap.size w w') => drawDivideWhole_any ad len cap zs w' (isRow_keepDb h hb) hl
  have HDR := Lib.hid hdr; clear hdr h
  go_enter Tryz.func23, Tryz.ntmps23
  go_wp2_with fail
  refine (HDR.out _ (by repeat (first | exact Below.refl _ _ | (with_reducible assumption) | refine bel_alloc ?_ _ | refine bel_drew ?_ | refine bel_drewN ?_ _ | refine Below.setCell ?_ (by dsimp only; omega) _ | refine bel_trans (by assumption) ?_))).mono ?_; rintro e w1 ⟨v, n, xs, k, rfl, hw, hxl, hk, hb1⟩
  obtain ⟨ad1, cap1, rfl, hr, hs⟩ := hw
  have r0 : w1.cell? ⟨w.heap.size, 0, none⟩ = some (.bool false) := (hb1.cell (p := ⟨w.heap.size, 0, none⟩) (by simp)).trans (by simp [go_sem])
  have r1 : w1.cell? ⟨w.heap.size, 1, none⟩ = some (.slice none 0 0) := (hb1.cell (p := ⟨w.heap.size, 1, none⟩) (by simp)).trans (by simp [go_sem])
  have HW := Lib.hid (rw_set2 (neg := n) ⟨ad1, cap1, rfl, hr, hs⟩ r0 r1 (.bool n) (.slice ad1 xs.length cap1)); clear hr hs
  obtain ⟨hc1, hf1⟩ := aft hb1
  have HXL := Lib.hid hxl; have HK := Lib.hid hk; clear hxl hk
  go_wp2_with fail
  refine bodyPost_ret (by simp (maxDischargeDepth := 3) [results, Tryz.results23, go_sem, *]; try rfl) rfl ?_
  exact ⟨_, n, xs, k, rfl, HW.out, HXL.out, HK.out, (by repeat (first | exact Below.refl _ _ | (with_reducible assumption) | refine bel_alloc ?_ _ | refine bel_drew ?_ | refine bel_drewN ?_ _ | refine Below.setCell ?_ (by dsimp only; omega) _ | refine bel_trans (by assumption) ?_))⟩
set_option maxHeartbeats 8000000 in
set_option maxRecDepth 100000 in
theorem drawPowerOfWhole_any (ad : Option Addr) (len cap : Nat) (zs : List Int) (w : World) (h : IsRow .u8 w ad len cap zs) (hl : len ≤ 1048576) :
    Calls Tryz.prog 19 #[.slice ad len cap] w (RetWn w) := by
  have h0 : Below w.heap.size w (w.alloc (.cells #[.bool false, .slice none 0 0] 26)) := below_allocD _ _
  have hc0 := cr_startb h (by omega) h0 75
  have hz0 : (w.alloc (.cells #[.bool false, .slice none 0 0] 26)).heap.size = w.heap.size + 1 := by simp
  have hr0 : BoxV (w.heap.size + 1) ((w.alloc (.cells #[.bool false, .slice none 0 0] 26)).alloc (.cells #[.slice ad len cap, .int .i64 0, .int .u64 0] 75)) (w.heap.size) (.bool false) (.slice none 0 0) := ⟨by simp <;> omega, by omega, by simp [go_sem], by simp [go_sem], by simp [go_sem], by simp [go_sem]⟩
  have hl1 : Below w.heap.size w ((w.alloc (.cells #[.bool false, .slice none 0 0] 26)).alloc (.cells #[.slice ad len cap, .int .i64 0, .int .u64 0] 75)) := bel_alloc h0 _
  have HC0 := Lib.hid hc0; have HL0 := Lib.hid hl1; have HZ0 := Lib.hid hz0; have HR0 := Lib.hid hr0
  clear hc0 h0 hl1 hz0 h hr0
  go_enter Tryz.func19, Tryz.ntmps19
  go_wp2_with fail
  have hc0 := HC0.out; have hl0 := HL0.out; have hr0 := HR0.out
  rw [HZ0.out] at hc0
  clear HC0 HL0 HZ0 HR0
  generalize (w.alloc (.cells #[.bool false, .slice none 0 0] 26)).alloc (.cells #[.slice ad len cap, .int .i64 0, .int .u64 0] 75) = V at hc0 hl0 hr0 ⊢
  obtain ⟨B, hB⟩ : ∃ N, N = w.heap.size + 1 := ⟨_, rfl⟩
  rw [← hB] at hc0 hr0 ⊢
  have HN := Lib.hid hB
  clear hB
  have hg0 := below_grown B hl0; clear hl0
  refine (anyWhole_any B _ _ hc0 (by omega)).mono ?_; rintro e w1 ⟨v, neg, xs, rfl, hro, hxl, hg1, hc1⟩
  have HC1 := Lib.hid hc1; have HG1 := Lib.hid (grown_trans hg0 hg1); have HR1 := Lib.hid (hr0.keep hg1)
  have hVB : B < V.heap.size := hc0.lt
  have HRO := Lib.hid (hro.le (base' := B + 1) (by omega))
  clear hg0 hg1 hc0 hc1 hr0 hro hVB
  go_wp2_with fail
  refine (amongLit_any B _ _ [65, -1] _ HC1.out (by omega) (by intro n hn; simp only [List.mem_cons, List.not_mem_nil, or_false] at hn; unfold I64; omega) (by simp) (by simp)).mono ?_; rintro e w8 ⟨v8, rfl, ⟨a, rfl, ai⟩, hg, hc⟩
  have HC8 := Lib.hid hc; have HG8 := Lib.hid (grown_trans HG1.out hg); have HR8 := Lib.hid (HR1.out.keep hg); have HRO8 := Lib.hid (HRO.out.keepG hg (by omega))
  clear hg hc HC1 HG1 HR1 HRO
  go_wp2_with fail
  refine (amongLit_any B _ _ [0, 1, 2, 3, 5, 8, 64, a] _ HC8.out (by omega) (by intro n hn; simp only [List.mem_cons, List.not_mem_nil, or_false] at hn; unfold I64 at ai ⊢; omega) (by simp) (by simp)).mono ?_; rintro e w2 ⟨v2, rfl, ⟨k, rfl, kI⟩, hg, hc⟩
  have HC2 := Lib.hid hc; have HG2 := Lib.hid (grown_trans HG8.out hg); have HR2 := Lib.hid (HR8.out.keep hg); have HRO2 := Lib.hid (HRO8.out.keepG hg (by omega))
  clear hg hc HC8 HG8 HR8 HRO8
  obtain ⟨ad0, cap0, hv0, _⟩ := HRO2.out
  subst hv0
  obtain ⟨r1, r2, r3, r4, r5, r6⟩ := HR2.out
  go_wp2_with fail
  refine bodyPost_ret (by simp (maxDischargeDepth := 3) [results, Tryz.results19, go_sem, *]; try rfl) rfl ?_
  exact ⟨_, neg, xs, k, rfl, ((HRO2.out.setFar (by have := HN.out; omega)).setFar (by have := HN.out; omega)).rw, by omega, kI, grown_bel' (set_grown (set_grown HG2.out (Nat.le_refl _) _) (Nat.le_refl _) _) (by have := HN.out; omega)⟩
def RetI (w : World) (e : Ending) (w' : World) : Prop := ∃ k : Int, e = .returned (.int .i64 k) ∧ I64 k ∧ Below w.heap.size w w'
set_option maxHeartbeats 8000000 in
set_option maxRecDepth 100000 in
theorem drawWholeOf_any (ad : Option Addr) (len cap : Nat) (zs : List Int) (w : World) (h : IsRow .u8 w ad len cap zs) (hl : len ≤ 1048576) :
    Calls Tryz.prog 29 #[.slice ad len cap] w (RetI w) := by
  have hc0 := cr_startb h (by omega) (Below.refl w.heap.size w) 75
  have hl0 : Below w.heap.size w (w.alloc (.cells #[.slice ad len cap, .int .i64 0, .int .u64 0] 75)) := below_allocD _ _
  have HC0 := Lib.hid hc0; have HL0 := Lib.hid hl0
  clear hc0 h hl0
  go_enter Tryz.func29, Tryz.ntmps29
  go_wp2_with fail
  have hc0 := HC0.out; have hl0 := HL0.out
  clear HC0 HL0
  generalize w.alloc (.cells #[.slice ad len cap, .int .i64 0, .int .u64 0] 75) = V at hc0 hl0 ⊢
  obtain ⟨B, hB⟩ : ∃ N, N = w.heap.size := ⟨_, rfl⟩
  rw [← hB] at hc0 ⊢
  have HN := Lib.hid hB
  clear hB
  have HG0 := Lib.hid (below_grown B hl0); clear hl0
  refine (pick_any B _ 60000 _ hc0 (by omega) (by omega) (by omega)).mono ?_; rintro e w1 ⟨v, rfl, ⟨c, rfl, c0, c1⟩, hg, hc⟩
  have HC1 := Lib.hid hc; have HG1 := Lib.hid (grown_trans HG0.out hg); clear hg hc hc0 HG0
  go_wp2_with fail
  refine (amongLit_any B _ _ [1000000000000001, -1000000000000001, -9223372036854775808, 9223372036854775807] _ HC1.out (by omega) (by intro n hn; simp only [List.mem_cons, List.not_mem_nil, or_false] at hn; unfold I64; omega) (by simp) (by simp)).mono ?_; rintro e w2 ⟨v, rfl, ⟨a, rfl, ai⟩, hg, hc⟩
  have HC2 := Lib.hid hc; have HG2 := Lib.hid (grown_trans HG1.out hg); clear hg hc HC1 HG1
  go_wp2_with fail
  refine (amongLit_any B _ _ [0, 1, -1, 9999, 10000, -123456, c, 1000000000000000, -1000000000000000, a] _ HC2.out (by omega) (by intro n hn; simp only [List.mem_cons, List.not_mem_nil, or_false] at hn; unfold I64 at ai ⊢; omega) (by simp) (by simp)).mono ?_; rintro e w3 ⟨v, rfl, ⟨k, rfl, kI⟩, hg, hc⟩
  have HG3 := Lib.hid (grown_trans HG2.out hg); clear hg hc HC2 HG2
  go_wp2_with fail
  go_ret
  exact ⟨k, rfl, kI, grown_bel' HG3.out (by have := HN.out; omega)⟩
def RetStrD (w : World) (e : Ending) (w' : World) : Prop := ∃ s : ByteArray, e = .returned (.string s) ∧ s.size ≤ 2000 ∧ Below w.heap.size w w'
set_option maxHeartbeats 8000000 in
set_option maxRecDepth 100000 in
theorem drawParseWhole_any (ad : Option Addr) (len cap : Nat) (zs : List Int) (w : World) (h : IsRow .u8 w ad len cap zs) (hl : len ≤ 1048576) :
    Calls Tryz.prog 27 #[.slice ad len cap] w (RetStrD w) := by
  have hc0 := cr_startb h (by omega) (Below.refl w.heap.size w) 75
  have hl0 : Below w.heap.size w (w.alloc (.cells #[.slice ad len cap, .int .i64 0, .int .u64 0] 75)) := below_allocD _ _
  have HC0 := Lib.hid hc0; have HL0 := Lib.hid hl0
  clear hc0 h hl0
  go_enter Tryz.func27, Tryz.ntmps27
  go_wp2_with fail
  have hc0 := HC0.out; have hl0 := HL0.out
  clear HC0 HL0
  generalize w.alloc (.cells #[.slice ad len cap, .int .i64 0, .int .u64 0] 75) = V at hc0 hl0 ⊢
  obtain ⟨B, hB⟩ : ∃ N, N = w.heap.size := ⟨_, rfl⟩
  rw [← hB] at hc0 ⊢
  have HN := Lib.hid hB
  clear hB
  have HG0 := Lib.hid (below_grown B hl0); clear hl0
  refine (whole_any B _ _ hc0 (by omega)).mono ?_; rintro e w1 ⟨v, z, rfl, ho, hzl, hg, hc⟩
  have hwv := ho.wv
  have htx := bgText_any v z w1 hwv hzl
  have hts : (wtxt z).size ≤ 1601 := by have := wtxt_size z; omega
  obtain ⟨ad0, cap0, rfl, _⟩ := ho
  generalize decide (z < 0) = bz at *
  generalize (digs z.natAbs).length = l0 at *
  generalize wtxt z = t at *
  have HC1 := Lib.hid hc; have HG1 := Lib.hid (grown_trans HG0.out hg); have HTX := Lib.hid htx; clear hg hc hc0 HG0 htx hwv
  go_wp2_with fail
  refine (HTX.out).mono ?_; rintro e w2 ⟨rfl, hb⟩
  have HC2 := Lib.hid (HC1.out.keep' hb); have HG2 := Lib.hid (grown_trans HG1.out (below_grown B hb)); clear hb HC1 HG1 HTX
  go_wp2_with fail
  refine (pick_any B _ 8 _ HC2.out (by omega) (by omega) (by omega)).mono ?_; rintro e w3 ⟨v, rfl, ⟨c, rfl, c0, c1⟩, hg, hc⟩
  have HC3 := Lib.hid hc; have HG3 := Lib.hid (grown_trans HG2.out hg); clear hg hc HC2 HG2
  by_cases h01 : c = 0 ∨ c = 1
  · rcases h01 with rfl | rfl
    all_goals
      go_wp2_with fail
      refine (spoilt_any B _ t ⟨#[45, 48, 49, 57, 32]⟩ 1601 _ HC3.out (by omega) (by decide) (by decide) hts (by omega)).mono ?_; rintro e w4 ⟨v, rfl, ⟨s, rfl, hs⟩, hg, hc⟩
      have HG4 := Lib.hid (grown_trans HG3.out hg); clear hg hc HC3 HG3
      go_wp2_with fail
      go_ret
      exact ⟨s, rfl, by omega, grown_bel' HG4.out (by have := HN.out; omega)⟩
  have e0 : (c == 0) = false := by simp; omega
  have e1 : (c == 1) = false := by simp; omega
  by_cases h2 : c = 2
  · subst h2
    go_wp2_with fail
    go_ret
    exact ⟨_, rfl, by rw [ByteArray.size_append]; show 1 + t.size ≤ 2000; omega, grown_bel' HG3.out (by have := HN.out; omega)⟩
  have e2 : (c == 2) = false := by simp; omega
  go_wp2_with fail
  go_ret
  exact ⟨t, rfl, by omega, grown_bel' HG3.out (by have := HN.out; omega)⟩
end Go.Proofs.YtakilincclnpdaaGreatDoor
