/- Do: contracts: a text drawn out of a list, DrawPrimesOfKind. No conditions. -/
import Derived.Test.YtpjcfnjagknocaaDoorDe
namespace Go.Proofs.YtpjcfnjagknocaaDoor
open Go.RowKit

def AnyS (v : Value) : Prop := ∃ s : ByteArray, v = .string s
theorem ofG_any (B : Nat) (lim : Int) (w : World) (b n : Nat) (h : Cr w B lim) (hl : lim ≤ 3000000000000000000) (hb : b < w.heap.size) (hbB : b ≠ B) (h0 : 0 < n) (h1 : n ≤ 1000) (hx : ∀ i, i < n → ∃ s, w.cell? ⟨b, i, none⟩ = some (.string s)) :
    Calls Tryd.prog 41 #[.pointer (some ⟨B, 0, none⟩), .slice (some ⟨b, 0, none⟩) n n] w (RetC AnyS B (lim + 2) w) := by
  have HC := Lib.hid h; have HX := Lib.hid hx
  clear h hx
  go_enter Tryd.func41, Tryd.ntmps41
  go_wp2_with fail
  refine (pick_any B lim (n : Int) _ HC.out (by omega) (by omega) (by omega)).mono ?_; rintro e w1 ⟨v, rfl, ⟨x, rfl, x0, x1⟩, hg1, hc1⟩
  obtain ⟨s, hs⟩ := HX.out x.toNat (by omega)
  have hck := (grown_cell hg1 (o := x.toNat) hb hbB).trans hs
  have HG1 := Lib.hid hg1; have HC1 := Lib.hid hc1; clear hg1 hc1 HC HX hs
  have hxl : x < (n : Int) := by omega
  have e0 : 0 + x.toNat = x.toNat := by omega
  go_wp2_with fail
  go_ret
  exact ⟨_, rfl, ⟨_, rfl⟩, HG1.out, HC1.out⟩
theorem of_two {P : Nat → Prop} (h0 : P 0) (h1 : P 1) : ∀ i, i < 2 → P i := fun i hi => by
  rcases (by omega : i = 0 ∨ i = 1) with rfl | rfl <;> assumption
theorem of_four {P : Nat → Prop} (h0 : P 0) (h1 : P 1) (h2 : P 2) (h3 : P 3) : ∀ i, i < 4 → P i := fun i hi => by
  rcases (by omega : i = 0 ∨ i = 1 ∨ i = 2 ∨ i = 3) with rfl | rfl | rfl | rfl <;> assumption
def RetCS (w : World) (e : Ending) (w' : World) : Prop := ∃ (a b : Int) (s : ByteArray), e = .returned (.tuple #[.agg #[.int .i64 a, .int .i64 b], .string s]) ∧ I64 a ∧ I64 b ∧ Below w.heap.size w w'
theorem wp_genD {P : Program} {c : Code} {Q : Exit → Act → World → Prop} {a : Act} {w : World} (h : ∀ V, w = V → c.wp P Q a V) : c.wp P Q a w := h w rfl
theorem grown_undrew {a b : World} {B : Option Nat} (h : a.drew.grownBy b B) : a.grownBy b B := ⟨h.os, h.tape, h.output, h.size, h.block⟩
theorem cr_drewD {w : World} {B : Nat} {lim : Int} (h : Cr w B lim) : Cr w.drew B lim := h
set_option maxHeartbeats 4000000 in
theorem drawPrimesOfKind_any (ad : Option Addr) (len cap : Nat) (zs : List Int) (w : World) (h : IsRow .u8 w ad len cap zs) (hl : len ≤ 1048576) :
    Calls Tryd.prog 13 #[.slice ad len cap] w (RetCS w) := by
  have h0 : Below w.heap.size w (w.alloc (.cells #[.int .i64 0, .int .i64 0] 24)) := below_allocD _ _
  have hc0 := cr_start h (by omega) h0 46
  have hz0 : (w.alloc (.cells #[.int .i64 0, .int .i64 0] 24)).heap.size = w.heap.size + 1 := by simp
  have hr0 : BoxC (w.alloc (.cells #[.int .i64 0, .int .i64 0] 24)).heap.size ((w.alloc (.cells #[.int .i64 0, .int .i64 0] 24)).alloc (.cells #[.slice ad len cap, .int .i64 0, .int .u64 0] 46)) w.heap.size 0 0 :=
    ⟨by simp, by simp, by simp [go_sem], by simp [go_sem], by simp [go_sem], by simp [go_sem]⟩
  have hl1 : Below w.heap.size w ((w.alloc (.cells #[.int .i64 0, .int .i64 0] 24)).alloc (.cells #[.slice ad len cap, .int .i64 0, .int .u64 0] 46)) := bel_alloc h0 _
  have HC0 := Lib.hid hc0; have HL0 := Lib.hid hl1; have HR0 := Lib.hid hr0; have HZ0 := Lib.hid hz0; clear hc0 h0 hr0 hl1 hz0 h
  go_enter Tryd.func13, Tryd.ntmps13
  go_wp2_with fail
  have hc0 := HC0.out; have hr0 := HR0.out; have hl0 := HL0.out
  rw [HZ0.out] at hc0 hr0
  clear HC0 HR0 HL0 HZ0
  generalize (w.alloc (.cells #[.int .i64 0, .int .i64 0] 24)).alloc (.cells #[.slice ad len cap, .int .i64 0, .int .u64 0] 46) = V at hc0 hr0 hl0 ⊢
  obtain ⟨N, hN⟩ : ∃ N, N = w.heap.size := ⟨_, rfl⟩
  obtain ⟨B, hB⟩ : ∃ B, B = w.heap.size + 1 := ⟨_, rfl⟩
  rw [← hB] at hc0 hr0 ⊢
  rw [← hN] at hr0 ⊢
  have HN := Lib.hid hN; have HB0 := Lib.hid hB; clear hN hB
  have HC0 := Lib.hid hc0; have HR0 := Lib.hid hr0; have HL0 := Lib.hid hl0; clear hc0 hr0 hl0
  have hVn := HC0.out.lt
  refine (reduced_any B _ _ HC0.out (by omega)).mono ?_; rintro e w1 ⟨v, rfl, ⟨a, b, p, rfl, aI, bI, pI⟩, hg1, hc1⟩
  have HG := Lib.hid hg1; have HR1 := Lib.hid (HR0.out.keep hg1); have HC := Lib.hid hc1; clear hg1 hc1 HC0 HR0
  obtain ⟨r1, r2, r3, r4, r5, r6⟩ := HR1.out
  have rB := HC.out.lt
  go_wp2_with fail
  have hBn := HC.out.lt
  have hGn := HG.out.size
  refine wp_genD ?_; intro W hW
  have hb2 : Below w1.heap.size w1 W := by rw [← hW]; exact below_allocD _ _
  have HB := Lib.hid (boxc_eq hW (BoxC.new a b 24 hBn))
  have HC2 := Lib.hid (HC.out.keep' hb2); have HG2 := Lib.hid (grown_belowD HG.out hb2); have HR := Lib.hid (HR1.out.keep (below_grown B hb2))
  have hne : ¬ N = w1.heap.size := by omega
  have hne' : ¬ w1.heap.size = N := by omega
  clear hb2 hW HC HG HR1 r1 r2 r3 r4 r5 r6 rB
  have HC := Lib.hid HC2.out; have HG := Lib.hid HG2.out
  clear HC2 HG2
  generalize w1.heap.size = n at *
  obtain ⟨HR_1, HR_2, HR_3, HR_4, HR_5, HR_6⟩ := HR.out
  obtain ⟨HB_1, HB_2, HB_3, HB_4, HB_5, HB_6⟩ := HB.out
  go_region_held3 (fun w' => w'.cell? ⟨n, 0, none⟩ = some (.int .i64 a) ∧ w'.cell? ⟨n, 1, none⟩ = some (.int .i64 b)) ((go_split_ands; first | assumption | (simp [go_sem, *]; done))) ((go_at_call 41; refine (ofG_any _ _ _ _ _ (by repeat' (first | exact HC.out | refine' Cr.keep' ?_ (below_allocD _ _) | refine' cr_drewD ?_)) (by omega) (by simp) (by omega) (by decide) (by decide) (by first | exact of_two ⟨_, by simp [go_sem]; rfl⟩ ⟨_, by simp [go_sem]; rfl⟩ | exact of_four ⟨_, by simp [go_sem]; rfl⟩ ⟨_, by simp [go_sem]; rfl⟩ ⟨_, by simp [go_sem]; rfl⟩ ⟨_, by simp [go_sem]; rfl⟩)).mono ?_; rintro e w' ⟨v, rfl, ⟨s, rfl⟩, hg, hc⟩; (try replace hg := grown_undrew hg); have HGn := Lib.hid (grown_transN HG.out (by repeat' (first | exact HG.out | refine' set_grown ?_ (by omega) _ | refine' grown_belowD ?_ (below_allocD _ _) | refine' grown_drew ?_)) hg); (try clear HR_1 HR_2 HR_3 HR_4 HR_5 HR_6); have HRn := Lib.hid (BoxC.keepN HR.out (by repeat' (first | exact HR.out | refine' BoxC.keep ?_ (below_grown _ (below_allocD _ _)) | refine' BoxP.keep ?_ (below_grown _ (below_allocD _ _)) | refine' BoxC.far1 ?_ (by omega) | refine' BoxP.far1 ?_ (by omega) | refine' BoxC.put0 ?_ _ | refine' BoxC.put1 ?_ _ | refine' BoxP.put0 ?_ _ | refine' BoxP.put1 ?_ _ | refine' BoxP.put2 ?_ _)) hg); (try clear HB_1 HB_2 HB_3 HB_4 HB_5 HB_6); have HBn := Lib.hid (BoxC.keepN HB.out (by repeat' (first | exact HB.out | refine' BoxC.keep ?_ (below_grown _ (below_allocD _ _)) | refine' BoxP.keep ?_ (below_grown _ (below_allocD _ _)) | refine' BoxC.far1 ?_ (by omega) | refine' BoxP.far1 ?_ (by omega) | refine' BoxC.put0 ?_ _ | refine' BoxC.put1 ?_ _ | refine' BoxP.put0 ?_ _ | refine' BoxP.put1 ?_ _ | refine' BoxP.put2 ?_ _)) hg); clear HC HG HR HB; have HC := Lib.hid hc; have HG := Lib.hid HGn.out; have HR := Lib.hid HRn.out; obtain ⟨HR_1, HR_2, HR_3, HR_4, HR_5, HR_6⟩ := HR.out; clear HRn; have HB := Lib.hid HBn.out; obtain ⟨HB_1, HB_2, HB_3, HB_4, HB_5, HB_6⟩ := HB.out; clear HBn; clear HGn hc hg))
  all_goals go_wp2_with fail
  all_goals refine bodyPost_ret (by simp (maxDischargeDepth := 3) [results, Tryd.results13, go_sem, *]; try rfl) rfl ?_
  all_goals exact ⟨_, _, _, rfl, aI, bI, draw_end HL0.out HG.out HN.out HB0.out⟩
end Go.Proofs.YtpjcfnjagknocaaDoor
