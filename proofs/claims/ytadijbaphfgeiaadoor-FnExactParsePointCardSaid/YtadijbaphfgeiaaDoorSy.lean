/- Sy: contracts: decimal numerals of the reference. No conditions. -/
import Derived.Test.YtadijbaphfgeiaaDoorMk
import Derived.Test.YtadijbaphfgeiaaDoorDg
import Derived.Laws.BytesArg
import Derived.Lib.ItoaNum
namespace Go.Proofs.YtadijbaphfgeiaaDoor
open Go.RowKit

theorem conv_one {x : World} {b : Nat} {c : Int} (h : x.cell? ⟨b, 0, none⟩ = some (.int .u8 c)) :
    (convert 75 9 (.slice (some ⟨b, 0, none⟩) 1 1)).run Tryd.prog x = .ok (.string ⟨#[UInt8.ofNat c.toNat]⟩) x := by
  have := run_convert_bytes_arg (P := Tryd.prog) x 75 5 Tryd.underlying75 Tryd.underlying5 b 0 1 1 [c] rfl (by intro i hi; obtain rfl : i = 0 := (by omega); simpa using h) 9 Tryd.underlying9
  rw [this]
  simp [strOfNums]
theorem u8_wrap {r : Int} (h0 : 0 ≤ r) (h1 : r < 10) : IntKind.u8.wrap (48 + r) = 48 + r := by rw [IntKind.wrap]; simp [IntKind.bits, IntKind.signed]; omega
theorem i64_wrap {r : Int} (h0 : -4000000000000000000 ≤ r) (h1 : r ≤ 4000000000000000000) : IntKind.i64.wrap r = r := by rw [IntKind.wrap]; simp [IntKind.bits, IntKind.signed]; omega
theorem wp_value_of {P : Program} {o : Oper} {v : Value} {A : Act} {x x' : World} (hr : (execOp A.eval o).run P x = .ok (.value v) x') : OpDone P o A x v x' := by
  refine ⟨fun K Q hk => ?_⟩
  unfold Oper.wp
  rw [hr, Oper.upon_value]
  exact hk
theorem wp_call_of {P : Program} {o : Oper} {f : FuncId} {vs : Array Value} {A : Act} {x : World} (hr : (execOp A.eval o).run P x = .ok (.enter f vs) x) : OpCall P o A x f vs := by
  refine ⟨fun K Q hk => ?_⟩
  unfold Oper.wp
  rw [hr, Oper.upon_enter]
  refine hk.mono ?_
  rintro e x' ⟨v, rfl, hk⟩
  exact hk
section
variable {x : World} {d : Option Nat} {t t' : TypeId} {s : String} {af : Array Edge} {i j : Nat} {n : Int} (ρ : Operand → Value)
theorem run_quo10 (h : ρ (.tmp i) = .int .i64 n) (hc : ∀ v, ρ (.const v) = v) (h0 : 0 ≤ n) (h1 : n ≤ 4000000000000000000) :
    (execOp ρ { dst := d, op := .binOp .quo 3 (.tmp i) (.const (.int .i64 10)) t', type := t, pos := s, after := af, guard := none }).run Tryd.prog x = .ok (.value (.int .i64 (n.tdiv 10))) x := by
  have hw : IntKind.i64.wrap (n.tdiv 10) = n.tdiv 10 := by rw [Int.tdiv_eq_ediv_of_nonneg h0]; exact i64_wrap (by omega) (by omega)
  simp only [execOp, h, hc]
  go_simp
theorem run_rem10 (h : ρ (.tmp i) = .int .i64 n) (hc : ∀ v, ρ (.const v) = v) (h0 : 0 ≤ n) :
    (execOp ρ { dst := d, op := .binOp .rem 3 (.tmp i) (.const (.int .i64 10)) t', type := t, pos := s, after := af, guard := none }).run Tryd.prog x = .ok (.value (.int .i64 (n.tmod 10))) x := by
  have hw : IntKind.i64.wrap (n.tmod 10) = n.tmod 10 := by rw [Int.tmod_eq_emod_of_nonneg h0]; exact i64_wrap (by omega) (by omega)
  simp only [execOp, h, hc]
  go_simp
theorem run_add48 (h : ρ (.tmp i) = .int .i64 n) (hc : ∀ v, ρ (.const v) = v) (h0 : 0 ≤ n) (h1 : n < 10) :
    (execOp ρ { dst := d, op := .binOp .add 3 (.const (.int .i64 48)) (.tmp i) t', type := t, pos := s, after := af, guard := none }).run Tryd.prog x = .ok (.value (.int .i64 (48 + n))) x := by
  have hw : IntKind.i64.wrap (48 + n) = 48 + n := i64_wrap (by omega) (by omega)
  simp only [execOp, h, hc]
  go_simp
theorem run_conv8 (h : ρ (.tmp i) = .int .i64 (48 + n)) (h0 : 0 ≤ n) (h1 : n < 10) :
    (execOp ρ { dst := d, op := .convert 3 5 (.tmp i), type := t, pos := s, after := af, guard := none }).run Tryd.prog x = .ok (.value (.int .u8 (48 + n))) x := by
  have hw := u8_wrap h0 h1
  simp only [execOp, h]
  go_simp
theorem run_bs1 (h : ρ (.tmp i) = .int .u8 n) :
    (execOp ρ { dst := d, op := .buildSlice 75 1 #[(0, .tmp i)], type := t, pos := s, after := af, guard := none }).run Tryd.prog x = .ok (.value (.slice (some ⟨x.heap.size, 0, none⟩) 1 1)) (x.alloc (.cells #[.int .u8 n] 5)) := by
  simp only [execOp]
  simp [h]
  go_simp
theorem run_convS {b : Nat} {c : Int} (h : ρ (.tmp i) = .slice (some ⟨b, 0, none⟩) 1 1) (hc : x.cell? ⟨b, 0, none⟩ = some (.int .u8 c)) :
    (execOp ρ { dst := d, op := .convert 75 9 (.tmp i), type := t, pos := s, after := af, guard := none }).run Tryd.prog x = .ok (.value (.string ⟨#[UInt8.ofNat c.toNat]⟩)) x := by
  have hk := conv_one hc
  simp only [execOp, h]
  go_simp
theorem run_cat {s1 s2 : ByteArray} (h : ρ (.tmp i) = .string s1) (h' : ρ (.tmp j) = .string s2) (hsz : s1.size + s2.size ≤ 9223372036854775807) :
    (execOp ρ { dst := d, op := .binOp .add 9 (.tmp i) (.tmp j) t', type := t, pos := s, after := af, guard := none }).run Tryd.prog x = .ok (.value (.string (s1 ++ s2))) x := by
  simp only [execOp, h, h']
  go_simp
theorem run_callNum {ts : Array TypeId} (hf : ρ (.func 60) = .func (.func 60) #[] #[]) :
    (execOp ρ { dst := d, op := .call { callee := .value (.func 60), args := #[.tmp i], argTypes := ts }, type := t, pos := s, after := af, guard := none }).run Tryd.prog x = .ok (.enter 60 #[ρ (.tmp i)]) x := by
  simp only [execOp, resolve, hf]
  go_simp
end
def numS (n : Nat) : ByteArray := ⟨(Lib.decDigits n).toArray⟩
theorem numS_dig {n : Nat} (h : n < 10) : numS n = ⟨#[UInt8.ofNat (48 + n)]⟩ := by unfold numS; rw [Lib.decDigits, dif_pos h]
theorem numS_step {n : Nat} (h : ¬ n < 10) : numS n = numS (n / 10) ++ ⟨#[UInt8.ofNat (48 + n % 10)]⟩ := by
  unfold numS
  rw [Lib.decDigits, dif_neg h]
  apply ByteArray.ext
  simp
theorem numS_size : ∀ n : Nat, (numS n).size ≤ n + 1 := by
  intro n
  induction n using Nat.strongRecOn with
  | ind n ih =>
    by_cases h : n < 10
    · rw [numS_dig h]; show 1 ≤ n + 1; omega
    · rw [numS_step h, ByteArray.size_append]
      have := ih (n / 10) (by omega)
      show (numS (n / 10)).size + 1 ≤ n + 1
      omega
theorem l1Num_dig (n : Nat) (w : World) (h1 : n < 10) :
    Calls Tryd.prog 60 #[.int .i64 n] w (Ret (.string (numS n)) w) := by
  have h2 : IntKind.i64.wrap (48 + (n : Int)) = 48 + n := i64_wrap (by omega) (by omega)
  have h3 : IntKind.u8.wrap (48 + (n : Int)) = 48 + n := u8_wrap (by omega) (by omega)
  have kc := conv_one (x := w.alloc (.cells #[.int .u8 (48 + (n : Int))] 5)) (b := w.heap.size) (c := 48 + (n : Int)) (by simp [go_sem])
  have e : UInt8.ofNat (48 + (n : Int)).toNat = UInt8.ofNat (48 + n) := by congr 1
  rw [e] at kc
  rw [numS_dig h1]
  have hn : (n : Int) < 10 := by omega
  go_enter Tryd.func60, Tryd.ntmps60
  go_wp2_with fail
  go_ret
  exact ret_eq (by first | rfl | simp) (by repeat (first | exact Below.refl _ _ | (with_reducible assumption) | refine bel_alloc ?_ _ | refine bel_drew ?_ | refine bel_drewN ?_ _ | refine Below.setCell ?_ (by dsimp only; omega) _ | refine bel_trans (by assumption) ?_))
def valN (n q r : Int) (s1 s2 : ByteArray) : Nat → Value
  | 10 => .int .i64 n
  | 11 => .int .i64 q
  | 12 => .string s1
  | 13 => .int .i64 n
  | 14 => .int .i64 r
  | 15 => .int .i64 (48 + r)
  | 16 => .int .u8 (48 + r)
  | 18 => .string s2
  | 19 => .string (s1 ++ s2)
  | _ => undef
def TN (n q r : Int) (s1 s2 : ByteArray) (d : Nat) (u : Value) (x : World) : Prop := (d ≠ 17 → u = valN n q r s1 s2 d) ∧ (d = 17 → ∃ b, u = .slice (some ⟨b, 0, none⟩) 1 1 ∧ b < x.heap.size ∧ x.cell? ⟨b, 0, none⟩ = some (.int .u8 (48 + r)))
theorem TN.keep {n q r : Int} {s1 s2 : ByteArray} {d : Nat} {u : Value} {x y : World} (h : TN n q r s1 s2 d u x) (hb : Below x.heap.size x y) : TN n q r s1 s2 d u y :=
  ⟨h.1, fun e => by
    obtain ⟨b, h1, h2, h3⟩ := h.2 e
    exact ⟨b, h1, Nat.lt_of_lt_of_le h2 hb.size, (hb.cell (p := ⟨b, 0, none⟩) h2).trans h3⟩⟩
theorem TN.of {n q r : Int} {s1 s2 : ByteArray} {d : Nat} {u : Value} {x : World} (h : u = valN n q r s1 s2 d) (hd : d ≠ 17) : TN n q r s1 s2 d u x := ⟨fun _ => h, fun e => absurd e hd⟩
set_option maxHeartbeats 2000000 in
theorem l1Num_any : ∀ (n : Nat) (w : World), n ≤ 1000000000000000000 → Calls Tryd.prog 60 #[.int .i64 n] w (Ret (.string (numS n)) w) := by
  intro n
  induction n using Nat.strongRecOn with
  | ind n ih =>
    intro w hn
    by_cases h1 : n < 10
    · exact l1Num_dig n w h1
    have ih1 := ih (n / 10) (by omega)
    have HIH := Lib.hid ih1; clear ih ih1
    have hz := numS_size (n / 10)
    have hst := numS_step h1
    have HST := Lib.hid hst; clear hst
    obtain ⟨q, hq⟩ : ∃ q : Int, (n : Int).tdiv 10 = q := ⟨_, rfl⟩
    obtain ⟨r, hr⟩ : ∃ r : Int, (n : Int).tmod 10 = r := ⟨_, rfl⟩
    have hqn : q = ((n / 10 : Nat) : Int) := by rw [← hq, Int.tdiv_eq_ediv_of_nonneg (by omega)]; omega
    have hrn : r = ((n % 10 : Nat) : Int) := by rw [← hr, Int.tmod_eq_emod_of_nonneg (by omega)]; omega
    have hn10 : ¬ (n : Int) < 10 := by omega
    have HN10 := Lib.hid h1; clear h1
    go_enter Tryd.func60, Tryd.ntmps60
    go_wp2_with fail
    have hq0 : q = (n : Int).tdiv 10 := hq.symm
    have hr0 : r = (n : Int).tmod 10 := hr.symm
    have hrb : 0 ≤ r ∧ r < 10 := by omega
    refine wp_region_steps [10, 11, 12, 13, 14, 15, 16, 17, 18, 19] (fun x y => Below x.heap.size x y) (TN n q r (numS (n / 10)) ⟨#[UInt8.ofNat (48 + r).toNat]⟩) (fun _ x => Below w.heap.size w x) (by kernel_rfl) (by kernel_rfl) (by decide) (fun d u x y hT hR => hT.keep hR) (bel_drew (Below.refl _ _)) ?_
    refine Steps.cons ?_ ?_
    · refine TStep.move 0 ?_ ?_ ?_ ?_ ?_ ?_
      · exact .inl rfl
      · rfl
      · simp
      · exact fun _ _ h => h
      · exact fun x => Below.refl _ x
      intro g x hd d e; cases e; rw [eval_out (by decide)]; exact TN.of rfl (by decide)
    refine Steps.cons ?_ ?_
    · refine TStep.of ?_ ?_ ?_
      · rfl
      · simp
      intro k g x hk9 hS hd
      refine ⟨_, _, wp_value_of (run_quo10 (n := n) _ (by rw [eval_in (by decide) (by simp)]; exact (hd 10 (mem_b (by kernel_rfl))).1 (by decide)) (by intro v; rfl) (by omega) (by omega)), fun d e => ?_, hS, Below.refl _ _⟩
      cases e; exact TN.of (by rw [hq]; rfl) (by decide)
    refine Steps.cons ?_ ?_
    · refine TStep.call ?_ ?_ ?_
      · rfl
      · simp
      intro k g x hk9 hS hd
      refine ⟨_, _, wp_call_of (run_callNum _ (by rfl)), ?_⟩
      rw [eval_in (i := 11) (by decide) (by simp), (hd 11 (mem_b (by kernel_rfl))).1 (by decide)]
      show Calls Tryd.prog 60 #[.int .i64 q] x _
      rw [hqn]
      refine (HIH.out x (by omega)).mono ?_
      rintro e x' ⟨rfl, hb'⟩
      refine ⟨_, rfl, fun d e => ?_, bel_trans hb' hS, hb'⟩
      cases e; exact TN.of rfl (by decide)
    refine Steps.cons ?_ ?_
    · refine TStep.move 0 ?_ ?_ ?_ ?_ ?_ ?_
      · exact .inl rfl
      · rfl
      · simp
      · exact fun _ _ h => h
      · exact fun x => Below.refl _ x
      intro g x hd d e; cases e; rw [eval_out (by decide)]; exact TN.of rfl (by decide)
    refine Steps.cons ?_ ?_
    · refine TStep.of ?_ ?_ ?_
      · rfl
      · simp
      intro k g x hk9 hS hd
      refine ⟨_, _, wp_value_of (run_rem10 (n := n) _ (by rw [eval_in (by decide) (by simp)]; exact (hd 13 (mem_b (by kernel_rfl))).1 (by decide)) (by intro v; rfl) (by omega)), fun d e => ?_, hS, Below.refl _ _⟩
      cases e; exact TN.of (by rw [hr]; rfl) (by decide)
    refine Steps.cons ?_ ?_
    · refine TStep.of ?_ ?_ ?_
      · rfl
      · simp
      intro k g x hk9 hS hd
      refine ⟨_, _, wp_value_of (run_add48 (n := r) _ (by rw [eval_in (by decide) (by simp)]; exact (hd 14 (mem_b (by kernel_rfl))).1 (by decide)) (by intro v; rfl) hrb.1 hrb.2), fun d e => ?_, hS, Below.refl _ _⟩
      cases e; exact TN.of rfl (by decide)
    refine Steps.cons ?_ ?_
    · refine TStep.of ?_ ?_ ?_
      · rfl
      · simp
      intro k g x hk9 hS hd
      refine ⟨_, _, wp_value_of (run_conv8 (n := r) _ (by rw [eval_in (by decide) (by simp)]; exact (hd 15 (mem_b (by kernel_rfl))).1 (by decide)) hrb.1 hrb.2), fun d e => ?_, hS, Below.refl _ _⟩
      cases e; exact TN.of rfl (by decide)
    refine Steps.cons ?_ ?_
    · refine TStep.of ?_ ?_ ?_
      · rfl
      · simp
      intro k g x hk9 hS hd
      refine ⟨_, _, wp_value_of (run_bs1 (n := 48 + r) _ (by rw [eval_in (by decide) (by simp)]; exact (hd 16 (mem_b (by kernel_rfl))).1 (by decide))), fun d e => ?_, bel_alloc hS _, Below.alloc (Below.refl _ _) (Nat.le_refl _) _⟩
      cases e; exact ⟨fun h => absurd rfl h, fun _ => ⟨_, rfl, by simp, by simp [go_sem]⟩⟩
    refine Steps.cons ?_ ?_
    · refine TStep.of ?_ ?_ ?_
      · rfl
      · simp
      intro k g x hk9 hS hd
      obtain ⟨b, h1, h2, h3⟩ := (hd 17 (mem_b (by kernel_rfl))).2 rfl
      refine ⟨_, _, wp_value_of (run_convS _ (by rw [eval_in (by decide) (by simp)]; exact h1) h3), fun d e => ?_, hS, Below.refl _ _⟩
      cases e; exact TN.of rfl (by decide)
    refine Steps.cons ?_ ?_
    · refine TStep.of ?_ ?_ ?_
      · rfl
      · simp
      intro k g x hk9 hS hd
      refine ⟨_, _, wp_value_of (run_cat (s1 := numS (n / 10)) (s2 := ⟨#[UInt8.ofNat (48 + r).toNat]⟩) _ (by rw [eval_in (by decide) (by simp)]; exact (hd 12 (mem_b (by kernel_rfl))).1 (by decide)) (by rw [eval_in (by decide) (by simp)]; exact (hd 18 (mem_b (by kernel_rfl))).1 (by decide)) (by show (numS (n / 10)).size + 1 ≤ _; omega)), fun d e => ?_, hS, Below.refl _ _⟩
      cases e; exact TN.of rfl (by decide)
    refine Steps.one ?_
    refine LStep.move 19 ?_ ?_ ?_
    · exact .inr rfl
    · rfl
    intro g x hS hd
    have gq := (hd 19 (mem_b (by kernel_rfl))).1 (by decide)
    have hr1 : (48 + r).toNat = 48 + n % 10 := by omega
    have gq2 : g 19 = .string (numS n) := by rw [gq, HST.out, ← hr1]; rfl
    rw [eval_in (by decide) (by simp), gq2]
    clear hd gq gq2 hq hr hq0 hr0 hqn hrn hrb hr1 hz HIH HST
    simp only [fill, Act.put, List.setIfInBounds_toArray, List.set_cons_zero, List.set_cons_succ]
    go_wp2_with fail
    go_ret
    exact ret_eq (by rfl) hS
end Go.Proofs.YtadijbaphfgeiaaDoor
