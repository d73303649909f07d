/- Dw: contracts: points drawn: whatever the bytes are, a curve and a point come out. No conditions. -/
import Derived.Test.YtakilincclnpdaaGreatDoorPEz
import Derived.Test.YtakilincclnpdaaGreatDoorSuz
namespace Go.Proofs.YtakilincclnpdaaGreatDoor
open Go.RowKit

def VV (u : Value) (v : Value) (_ : World) : Prop := v = u
def VTp (Z : Int → Int → Int → Prop) (v : Value) (_ : World) : Prop := ∃ (x y e : Int) (o : Bool), v = .tuple #[.agg #[.int .i64 x, .int .i64 y, .int .i64 e], .bool o] ∧ Z x y e
def VPe (Z : Int → Int → Int → Prop) (v : Value) (_ : World) : Prop := ∃ x y e : Int, v = .agg #[.int .i64 x, .int .i64 y, .int .i64 e] ∧ Z x y e
/-- a pointer to a box of three numbers that the region itself has laid. -/
def VFp (B M : Nat) (Z : Int → Int → Int → Prop) (v : Value) (x : World) : Prop := ∃ m, v = .pointer (some ⟨m, 0, none⟩) ∧ M ≤ m ∧ ∃ p q r, BoxP B x m p q r ∧ Z p q r
def RP (B M : Nat) (Z : Int → Int → Int → Prop) (x y : World) : Prop := ∀ m, M ≤ m → (∃ p q r, BoxP B x m p q r ∧ Z p q r) → ∃ p q r, BoxP B y m p q r ∧ Z p q r
theorem BoxP.put {B n : Nat} {w : World} {x y e : Int} (h : BoxP B w n x y e) (a b c : Int) : BoxP B (((w.setCell ⟨n, 0, none⟩ (.int .i64 a)).setCell ⟨n, 1, none⟩ (.int .i64 b)).setCell ⟨n, 2, none⟩ (.int .i64 c)) n a b c := ((h.put0 a).put1 b).put2 c
theorem BoxP.far3 {B n m : Nat} {w : World} {x y e : Int} {u v z : Value} (h : BoxP B w n x y e) (hne : n ≠ m) : BoxP B (((w.setCell ⟨m, 0, none⟩ u).setCell ⟨m, 1, none⟩ v).setCell ⟨m, 2, none⟩ z) n x y e := ((h.far1 (v := u) hne).far1 (v := v) hne).far1 (v := z) hne
theorem RP.refl (B M : Nat) (Z : Int → Int → Int → Prop) (x : World) : RP B M Z x x := fun _ _ h => h
theorem RP.grown {B M : Nat} {Z : Int → Int → Int → Prop} {x y : World} (g : x.grownBy y (some B)) : RP B M Z x y := fun _ _ ⟨a, b, c, h, z⟩ => ⟨a, b, c, h.keep g, z⟩
theorem RP.put {B M n : Nat} {Z : Int → Int → Int → Prop} {x : World} {a0 b0 c0 : Int} (h0 : BoxP B x n a0 b0 c0) (a b c : Int) (hz : Z a b c) : RP B M Z x (((x.setCell ⟨n, 0, none⟩ (.int .i64 a)).setCell ⟨n, 1, none⟩ (.int .i64 b)).setCell ⟨n, 2, none⟩ (.int .i64 c)) := fun m _ ⟨p, q, r, h, z⟩ => by
  by_cases e : m = n
  · subst e; exact ⟨a, b, c, h0.put a b c, hz⟩
  · exact ⟨p, q, r, h.far3 e, z⟩
theorem VFp.keep {B M : Nat} {Z : Int → Int → Int → Prop} {v : Value} {x y : World} (h : VFp B M Z v x) (r : RP B M Z x y) : VFp B M Z v y := by
  obtain ⟨m, hv, hm, hb⟩ := h
  exact ⟨m, hv, hm, r m hm hb⟩
theorem wp_ldP {B n i : Nat} {a b c : Int} {x : World} {d : Option Nat} {t : TypeId} {s : String} {af : Array Edge} {A : Act} (r : BoxP B x n a b c) (h : A.eval (.tmp i) = .pointer (some ⟨n, 0, none⟩)) :
    OpDone Tryz.prog { dst := d, op := .load 52 (.tmp i), type := t, pos := s, after := af, guard := none } A x (.agg #[.int .i64 a, .int .i64 b, .int .i64 c]) x := by
  refine ⟨fun K Q hk => ?_⟩
  obtain ⟨r1, r2, r3, r4, r5, r6, r7, r8⟩ := r
  unfold Oper.wp execOp
  dsimp only
  rw [h]
  go_simp
  exact hk
theorem wp_stP {B n i j : Nat} {a b c a' b' c' : Int} {x : World} {d : Option Nat} {t : TypeId} {s : String} {af : Array Edge} {A : Act} (r : BoxP B x n a' b' c') (h : A.eval (.tmp i) = .pointer (some ⟨n, 0, none⟩)) (h' : A.eval (.tmp j) = .agg #[.int .i64 a, .int .i64 b, .int .i64 c]) :
    OpDone Tryz.prog { dst := d, op := .store 52 (.tmp i) (.tmp j), type := t, pos := s, after := af, guard := none } A x undef (((x.setCell ⟨n, 0, none⟩ (.int .i64 a)).setCell ⟨n, 1, none⟩ (.int .i64 b)).setCell ⟨n, 2, none⟩ (.int .i64 c)) := by
  refine ⟨fun K Q hk => ?_⟩
  obtain ⟨r1, r2, r3, r4, r5, r6, r7, r8⟩ := r
  unfold Oper.wp execOp
  dsimp only
  rw [h, h']
  go_simp
  exact hk
theorem wp_ldCat {n o i : Nat} {a b : Int} {x : World} {d : Option Nat} {t : TypeId} {s : String} {af : Array Edge} {A : Act} (r0 : x.cell? ⟨n, o, none⟩ = some (.int .i64 a)) (r1 : x.cell? ⟨n, o + 1, none⟩ = some (.int .i64 b)) (h : A.eval (.tmp i) = .pointer (some ⟨n, o, none⟩)) :
    OpDone Tryz.prog { dst := d, op := .load 50 (.tmp i), type := t, pos := s, after := af, guard := none } A x (.agg #[.int .i64 a, .int .i64 b]) x := by
  refine ⟨fun K Q hk => ?_⟩
  unfold Oper.wp execOp
  dsimp only
  rw [h]
  go_simp
  exact hk
theorem wp_ldPat {n o i : Nat} {a b c : Int} {x : World} {d : Option Nat} {t : TypeId} {s : String} {af : Array Edge} {A : Act} (r0 : x.cell? ⟨n, o, none⟩ = some (.int .i64 a)) (r1 : x.cell? ⟨n, o + 1, none⟩ = some (.int .i64 b)) (r2 : x.cell? ⟨n, o + 2, none⟩ = some (.int .i64 c)) (h : A.eval (.tmp i) = .pointer (some ⟨n, o, none⟩)) :
    OpDone Tryz.prog { dst := d, op := .load 52 (.tmp i), type := t, pos := s, after := af, guard := none } A x (.agg #[.int .i64 a, .int .i64 b, .int .i64 c]) x := by
  refine ⟨fun K Q hk => ?_⟩
  unfold Oper.wp execOp
  dsimp only
  rw [h]
  go_simp
  exact hk
theorem run_allocP {x : World} {d : Option Nat} {t : TypeId} {s : String} {af : Array Edge} (ρ : Operand → Value) :
    (execOp ρ { dst := d, op := .alloc 52, type := t, pos := s, after := af, guard := none }).run Tryz.prog x = .ok (.value (.pointer (some ⟨x.heap.size, 0, none⟩))) (x.alloc (.cells #[.int .i64 0, .int .i64 0, .int .i64 0] 52)) := by
  simp only [execOp]
  go_simp
theorem run_idxC {x : World} {d : Option Nat} {t : TypeId} {s : String} {af : Array Edge} {i j n q m c : Nat} (ρ : Operand → Value) (h : ρ (.tmp i) = .slice (some ⟨n, 0, none⟩) m c) (h' : ρ (.tmp j) = .int .i64 q) (hq : q < m) :
    (execOp ρ { dst := d, op := .indexAddr 127 (.tmp i) (.tmp j), type := t, pos := s, after := af, guard := none }).run Tryz.prog x = .ok (.value (.pointer (some ⟨n, q * 2, none⟩))) x := by
  have h0 : (0 : Int) ≤ (q : Int) := Int.natCast_nonneg _
  have h1 : (q : Int) < (m : Int) := by omega
  simp only [execOp, h, h']
  go_simp
theorem run_idxP {x : World} {d : Option Nat} {t : TypeId} {s : String} {af : Array Edge} {i j n q m c : Nat} (ρ : Operand → Value) (h : ρ (.tmp i) = .slice (some ⟨n, 0, none⟩) m c) (h' : ρ (.tmp j) = .int .i64 q) (hq : q < m) :
    (execOp ρ { dst := d, op := .indexAddr 65 (.tmp i) (.tmp j), type := t, pos := s, after := af, guard := none }).run Tryz.prog x = .ok (.value (.pointer (some ⟨n, q * 3, none⟩))) x := by
  have h0 : (0 : Int) ≤ (q : Int) := Int.natCast_nonneg _
  have h1 : (q : Int) < (m : Int) := by omega
  simp only [execOp, h, h']
  go_simp
theorem run_callTim {i j k : Nat} {x : World} {d : Option Nat} {t : TypeId} {ts : Array TypeId} {s : String} {af : Array Edge} (ρ : Operand → Value) (hf : ρ (.func 91) = .func (.func 91) #[] #[]) :
    (execOp ρ { dst := d, op := .call { callee := .value (.func 91), args := #[.tmp i, .tmp j, .tmp k], argTypes := ts }, type := t, pos := s, after := af, guard := none }).run Tryz.prog x = .ok (.enter 91 #[ρ (.tmp i), ρ (.tmp j), ρ (.tmp k)]) x := by
  simp only [execOp, resolve, hf]
  go_simp
/-- a multiple of a point is a point, or nothing at all. -/
theorem tim_tp {a b x y e n : Int} (hp : onB a b x y e = true) (w : World) : VTp (fun p q r => onB a b p q r = true) (ptO (mulT a x (if n < 0 then -y else y) e n.natAbs)) w := by
  have hp2 : onB a b x (if n < 0 then -y else y) e = true := by
    split
    · exact onB_true.2 (by
        rcases onB_true.1 hp with ⟨h1, h2, h3⟩ | ⟨h1, h2, h3, h4, h5, h6⟩
        · exact .inl ⟨h1, by omega, h3⟩
        · exact .inr ⟨h1, h2, h3, h4, h5, by rw [Int.neg_mul_neg]; exact h6⟩)
    · exact hp
  cases hm : mulT a x (if n < 0 then -y else y) e n.natAbs with
  | none => exact ⟨0, 0, 0, false, rfl, on_zero a b⟩
  | some t => exact ⟨t.1, t.2.1, t.2.2, true, rfl, mulT_on hp2 _ t hm⟩
def SGp (W : World) (B : Nat) (lim : Int) (k : Nat) (x : World) : Prop := Cr x B (lim + 300 * (k : Int)) ∧ W.grownBy x (some B)
theorem SGp.same {W x : World} {B k : Nat} {lim : Int} (h : SGp W B lim k x) : SGp W B lim (k + 1) x := ⟨h.1.le (by push_cast; omega), h.2⟩
theorem SGp.step {W x y : World} {B k : Nat} {lim : Int} (h : SGp W B lim k x) (g : x.grownBy y (some B)) (hc : Cr y B (lim + 300 * (k : Int) + 300)) : SGp W B lim (k + 1) y := ⟨hc.le (by push_cast; omega), grown_trans h.2 g⟩
def PtV (v : Value) : Prop := ∃ a b x y e : Int, v = .tuple #[.agg #[.int .i64 a, .int .i64 b], .agg #[.int .i64 x, .int .i64 y, .int .i64 e]] ∧ pointB a b x y e = true
def PtA (v : Value) : Prop := ∃ a b x y e : Int, v = .tuple #[.agg #[.int .i64 a, .int .i64 b], .agg #[.int .i64 x, .int .i64 y, .int .i64 e]]
theorem drawn_on {x y a : Int} (hx : -10 ≤ x ∧ x ≤ 10) (hc : curveB a (y * y - x * x * x - a * x) = true) : pointB a (y * y - x * x * x - a * x) x y 1 = true := by
  unfold pointB
  rw [hc, Bool.true_and]
  refine onB_true.2 (.inr ⟨by omega, by omega, by omega, by omega, ?_, ?_⟩)
  · unfold gcdI
    rw [Int.gcd_one_right]
    rfl
  · unfold valI
    grind
/-- the world of the region that returns the q-th pair of two lists. -/
structure SP (w : World) (B R N n q : Nat) (a b u v e lim : Int) (x : World) : Prop where
  cr : Cr x B lim
  gr : w.grownBy x (some B)
  r : ∃ c d, BoxC B x R c d
  p : ∃ c d f, BoxP B x N c d f
  e0 : x.cell? ⟨n, q * 2, none⟩ = some (.int .i64 a)
  e1 : x.cell? ⟨n, q * 2 + 1, none⟩ = some (.int .i64 b)
  f0 : x.cell? ⟨n + 1, q * 3, none⟩ = some (.int .i64 u)
  f1 : x.cell? ⟨n + 1, q * 3 + 1, none⟩ = some (.int .i64 v)
  f2 : x.cell? ⟨n + 1, q * 3 + 2, none⟩ = some (.int .i64 e)
theorem st5 {w X : World} {B R N : Nat} {lim : Int} {c d p q r : Int} (hc : Cr X B lim) (hg : w.grownBy X (some B)) (hr : BoxC B X R c d) (hp : BoxP B X N p q r) (h1 : w.heap.size ≤ R) (h2 : w.heap.size ≤ N) (hne : N ≠ R) (a b x y e : Int) :
    w.grownBy (((((X.setCell ⟨R, 0, none⟩ (.int .i64 a)).setCell ⟨R, 1, none⟩ (.int .i64 b)).setCell ⟨N, 0, none⟩ (.int .i64 x)).setCell ⟨N, 1, none⟩ (.int .i64 y)).setCell ⟨N, 2, none⟩ (.int .i64 e)) (some B) ∧ Cr (((((X.setCell ⟨R, 0, none⟩ (.int .i64 a)).setCell ⟨R, 1, none⟩ (.int .i64 b)).setCell ⟨N, 0, none⟩ (.int .i64 x)).setCell ⟨N, 1, none⟩ (.int .i64 y)).setCell ⟨N, 2, none⟩ (.int .i64 e)) B lim := by
  have k1 := cr_putb (cr_putb hc hr.2.1 hr.2.2.1 (.int .i64 a)) hr.2.1 (hr.put0 a).2.2.2.1 (.int .i64 b)
  have hp2 : BoxP B ((X.setCell ⟨R, 0, none⟩ (.int .i64 a)).setCell ⟨R, 1, none⟩ (.int .i64 b)) N p q r := (hp.far1 (v := .int .i64 a) hne).far1 hne
  exact ⟨set_grown (set_grown (set_grown (set_grown (set_grown hg h1 _) h1 _) h2 _) h2 _) h2 _, cr_putb (cr_putb (cr_putb k1 hp2.2.1 hp2.2.2.1 _) hp2.2.1 (hp2.put0 x).2.2.2.1 _) hp2.2.1 ((hp2.put0 x).put1 y).2.2.2.2.1 _⟩
theorem wrapkb {u : Int} (h0 : -4000000000000000000 ≤ u) (h1 : u ≤ 4000000000000000000) : IntKind.i64.wrap u = u := by rw [IntKind.wrap]; simp [IntKind.bits, IntKind.signed]; omega
theorem drawn_wraps {X Y A : Int} (X1 : -10 ≤ X) (X2 : X ≤ 10) (Y1 : -15 ≤ Y) (Y2 : Y ≤ 15) (A1 : -15 ≤ A) (A2 : A ≤ 15) :
    IntKind.i64.wrap (Y * Y) = Y * Y ∧ IntKind.i64.wrap (X * X) = X * X ∧ IntKind.i64.wrap (X * X * X) = X * X * X ∧ IntKind.i64.wrap (Y * Y - X * X * X) = Y * Y - X * X * X ∧ IntKind.i64.wrap (A * X) = A * X ∧ IntKind.i64.wrap (Y * Y - X * X * X - A * X) = Y * Y - X * X * X - A * X ∧ True := by
  have b1 := mul_bd (a := Y) (b := Y) (A := 15) (B := 15) (by omega) (by omega) (by omega) (by omega)
  have b2 := mul_bd (a := X) (b := X) (A := 10) (B := 10) (by omega) (by omega) (by omega) (by omega)
  have b3 := mul_bd (a := X * X) (b := X) (A := 100) (B := 10) (by omega) (by omega) (by omega) (by omega)
  have b4 := mul_bd (a := A) (b := X) (A := 15) (B := 10) (by omega) (by omega) (by omega) (by omega)
  exact ⟨wrapkb (by omega) (by omega), wrapkb (by omega) (by omega), wrapkb (by omega) (by omega), wrapkb (by omega) (by omega), wrapkb (by omega) (by omega), wrapkb (by omega) (by omega), trivial⟩
theorem cell_far2 {w : World} {m n o : Nat} {u v : Value} (h : n ≠ m) : ((w.setCell ⟨m, 0, none⟩ u).setCell ⟨m, 1, none⟩ v).cell? ⟨n, o, none⟩ = w.cell? ⟨n, o, none⟩ := by
  rw [World.cell?_setCell_other _ _ _ _ (by intro e; injection e with e1; exact h e1.symm), World.cell?_setCell_other _ _ _ _ (by intro e; injection e with e1; exact h e1.symm)]
set_option maxHeartbeats 80000000 in
set_option maxRecDepth 100000 in
theorem pointed_any (B : Nat) (lim : Int) (w : World) (h : Cr w B lim) (hl : lim ≤ 1000000000000000) :
    Calls Tryz.prog 90 #[.pointer (some ⟨B, 0, none⟩)] w (RetC PtV B (lim + 50) w) := by
  have hB := h.lt
  have hz : (w.alloc (.cells #[.int .i64 0, .int .i64 0] 50)).heap.size = w.heap.size + 1 := by simp
  have HC := Lib.hid ((h.keep' (below_allocD w (.cells #[.int .i64 0, .int .i64 0] 50))).keep' (below_allocD _ (.cells #[.int .i64 0, .int .i64 0, .int .i64 0] 52)))
  have HG := Lib.hid (grown_belowD (below_grown B (below_allocD w (.cells #[.int .i64 0, .int .i64 0] 50))) (below_allocD _ (.cells #[.int .i64 0, .int .i64 0, .int .i64 0] 52)))
  have HR := Lib.hid ((BoxC.new 0 0 50 hB).keep (below_grown B (below_allocD _ (.cells #[.int .i64 0, .int .i64 0, .int .i64 0] 52))))
  have HP := Lib.hid (BoxP.new (B := B) (w := w.alloc (.cells #[.int .i64 0, .int .i64 0] 50)) 0 0 0 52 (by omega))
  clear h
  go_enter Tryz.func90, Tryz.ntmps90
  go_wp2_with fail
  rw [hz] at HP
  clear hz
  generalize (w.alloc (.cells #[.int .i64 0, .int .i64 0] 50)).alloc (.cells #[.int .i64 0, .int .i64 0, .int .i64 0] 52) = W at *
  have hn1 : w.heap.size ≤ w.heap.size := Nat.le_refl _
  obtain ⟨N, hN⟩ : ∃ N, w.heap.size + 1 = N := ⟨_, rfl⟩
  have hNl : w.heap.size < N := by omega
  have hNb : B < N := by omega
  have hne : ¬ N = w.heap.size := by omega
  have hne' : ¬ w.heap.size = N := by omega
  rw [hN] at HP ⊢
  clear hN
  (go_at_call 79; refine (pick_any _ _ _ _ (by repeat' (first | exact HC.out | refine' set_cr ?_ (by omega) _ | refine' Cr.keep' ?_ (below_allocD _ _) | refine' cr_drewK ?_)) (by omega) (by omega) (by omega)).mono ?_; rintro e w' ⟨v, rfl, ⟨x, rfl, x0, x1⟩, hg, hc⟩; have HGn := Lib.hid (grown_transN HG.out (by repeat' (first | exact HG.out | refine' set_grown ?_ (by omega) _ | refine' grown_belowD ?_ (below_allocD _ _) | refine' grown_drew ?_)) hg); (try clear HR_1 HR_2 HR_3 HR_4 HR_5 HR_6); have HRn := Lib.hid (BoxC.keepN HR.out (by repeat' (first | exact HR.out | refine' BoxC.keep ?_ (below_grown _ (below_allocD _ _)) | refine' BoxP.keep ?_ (below_grown _ (below_allocD _ _)) | refine' BoxC.far1 ?_ (by omega) | refine' BoxP.far1 ?_ (by omega) | refine' BoxC.put0 ?_ _ | refine' BoxC.put1 ?_ _ | refine' BoxP.put0 ?_ _ | refine' BoxP.put1 ?_ _ | refine' BoxP.put2 ?_ _)) hg); (try clear HP_1 HP_2 HP_3 HP_4 HP_5 HP_6 HP_7 HP_8); have HPn := Lib.hid (BoxP.keepN HP.out (by repeat' (first | exact HP.out | refine' BoxC.keep ?_ (below_grown _ (below_allocD _ _)) | refine' BoxP.keep ?_ (below_grown _ (below_allocD _ _)) | refine' BoxC.far1 ?_ (by omega) | refine' BoxP.far1 ?_ (by omega) | refine' BoxC.put0 ?_ _ | refine' BoxC.put1 ?_ _ | refine' BoxP.put0 ?_ _ | refine' BoxP.put1 ?_ _ | refine' BoxP.put2 ?_ _)) hg); clear HC HG HR HP; have HC := Lib.hid hc; have HG := Lib.hid HGn.out; have HR := Lib.hid HRn.out; obtain ⟨HR_1, HR_2, HR_3, HR_4, HR_5, HR_6⟩ := HR.out; clear HRn; have HP := Lib.hid HPn.out; obtain ⟨HP_1, HP_2, HP_3, HP_4, HP_5, HP_6, HP_7, HP_8⟩ := HP.out; clear HPn; clear HGn hc hg)
  rcases (by omega : x = 0 ∨ x = 1 ∨ x = 2 ∨ 3 ≤ x) with rfl | rfl | rfl | hx3
  · go_wp2_with fail
    have hBn := HC.out.lt
    have hNw := HP_1
    have hNw2 := HR_1
    refine calls_gen ?_; intro V hV
    have hb2 : Below w'.heap.size w' V := by rw [← hV]; exact bel_alloc (below_allocD _ _) _
    have HC2 := Lib.hid (HC.out.keep' hb2); have HG2 := Lib.hid (grown_belowD HG.out hb2); have HR2 := Lib.hid (HR.out.keep (below_grown B hb2)); have HP2 := Lib.hid (HP.out.keep (below_grown B hb2))
    clear hb2 HC HG HR HP HR_1 HR_2 HR_3 HR_4 HR_5 HR_6 HP_1 HP_2 HP_3 HP_4 HP_5 HP_6 HP_7 HP_8
    have HC := Lib.hid HC2.out; have HG := Lib.hid HG2.out; have HR := Lib.hid HR2.out; have HP := Lib.hid HP2.out
    clear HC2 HG2 HR2 HP2
    have hVs : V.heap.size = w'.heap.size + 2 := by rw [← hV]; simp
    have hcv : V.cell? ⟨w'.heap.size, 0, none⟩ = some (.int .i64 0) ∧ V.cell? ⟨w'.heap.size, 1, none⟩ = some (.int .i64 4) ∧ V.cell? ⟨w'.heap.size, 2, none⟩ = some (.int .i64 0) ∧ V.cell? ⟨w'.heap.size, 3, none⟩ = some (.int .i64 1) ∧ V.cell? ⟨w'.heap.size, 4, none⟩ = some (.int .i64 4) ∧ V.cell? ⟨w'.heap.size, 5, none⟩ = some (.int .i64 0) ∧ V.cell? ⟨w'.heap.size, 6, none⟩ = some (.int .i64 (-1)) ∧ V.cell? ⟨w'.heap.size, 7, none⟩ = some (.int .i64 0) ∧ V.cell? ⟨w'.heap.size, 8, none⟩ = some (.int .i64 (-43)) ∧ V.cell? ⟨w'.heap.size, 9, none⟩ = some (.int .i64 166) ∧ V.cell? ⟨w'.heap.size, 10, none⟩ = some (.int .i64 0) ∧ V.cell? ⟨w'.heap.size, 11, none⟩ = some (.int .i64 (-432)) := by
      rw [← hV]; simp [go_sem]
    have hpt : V.cell? ⟨w'.heap.size + 1, 0, none⟩ = some (.int .i64 0) ∧ V.cell? ⟨w'.heap.size + 1, 1, none⟩ = some (.int .i64 2) ∧ V.cell? ⟨w'.heap.size + 1, 2, none⟩ = some (.int .i64 1) ∧ V.cell? ⟨w'.heap.size + 1, 3, none⟩ = some (.int .i64 2) ∧ V.cell? ⟨w'.heap.size + 1, 4, none⟩ = some (.int .i64 3) ∧ V.cell? ⟨w'.heap.size + 1, 5, none⟩ = some (.int .i64 1) ∧ V.cell? ⟨w'.heap.size + 1, 6, none⟩ = some (.int .i64 2) ∧ V.cell? ⟨w'.heap.size + 1, 7, none⟩ = some (.int .i64 4) ∧ V.cell? ⟨w'.heap.size + 1, 8, none⟩ = some (.int .i64 1) ∧ V.cell? ⟨w'.heap.size + 1, 9, none⟩ = some (.int .i64 1) ∧ V.cell? ⟨w'.heap.size + 1, 10, none⟩ = some (.int .i64 0) ∧ V.cell? ⟨w'.heap.size + 1, 11, none⟩ = some (.int .i64 1) ∧ V.cell? ⟨w'.heap.size + 1, 12, none⟩ = some (.int .i64 3) ∧ V.cell? ⟨w'.heap.size + 1, 13, none⟩ = some (.int .i64 8) ∧ V.cell? ⟨w'.heap.size + 1, 14, none⟩ = some (.int .i64 1) ∧ V.cell? ⟨w'.heap.size + 1, 15, none⟩ = some (.int .i64 12) ∧ V.cell? ⟨w'.heap.size + 1, 16, none⟩ = some (.int .i64 36) ∧ V.cell? ⟨w'.heap.size + 1, 17, none⟩ = some (.int .i64 1) := by
      rw [← hV]; simp [go_sem]
    clear hV
    generalize w'.heap.size = n at *
    have HCV := Lib.hid hcv; have HPT := Lib.hid hpt; clear hcv hpt
    go_at_call 79
    refine (pick_any _ _ _ _ HC.out (by omega) (by omega) (by omega)).mono ?_; rintro e w2 ⟨v, rfl, ⟨k, rfl, k0, k1⟩, hg, hc⟩
    have hgc := fun (m o : Nat) (hm : m < V.heap.size) (hne : m ≠ B) => grown_cell (o := o) hg hm hne
    have g1 := fun o => hgc n o (by omega) (by omega)
    have g2 := fun o => hgc (n + 1) o (by omega) (by omega)
    have HG2 := Lib.hid (grown_trans HG.out hg); have HR2 := Lib.hid (HR.out.keep hg); have HP2 := Lib.hid (HP.out.keep hg); have HC2 := Lib.hid hc
    have hsz2 := hg.size
    clear hg hc hgc HG HR HP HC
    have HG := Lib.hid HG2.out; have HR := Lib.hid HR2.out; have HP := Lib.hid HP2.out; have HC := Lib.hid HC2.out
    clear HG2 HR2 HP2 HC2
    obtain ⟨HR_1, HR_2, HR_3, HR_4, HR_5, HR_6⟩ := HR.out
    obtain ⟨HP_1, HP_2, HP_3, HP_4, HP_5, HP_6, HP_7, HP_8⟩ := HP.out
    obtain ⟨q, rfl⟩ : ∃ q : Nat, k = q := ⟨k.toNat, by omega⟩
    obtain ⟨a, b, x, y, e, hpt, e0, e1, f0, f1, f2⟩ : ∃ a b x y e : Int, pointB a b x y e = true ∧ w2.cell? ⟨n, q * 2, none⟩ = some (.int .i64 a) ∧ w2.cell? ⟨n, q * 2 + 1, none⟩ = some (.int .i64 b) ∧ w2.cell? ⟨n + 1, q * 3, none⟩ = some (.int .i64 x) ∧ w2.cell? ⟨n + 1, q * 3 + 1, none⟩ = some (.int .i64 y) ∧ w2.cell? ⟨n + 1, q * 3 + 2, none⟩ = some (.int .i64 e) := by
      obtain ⟨c0, c1, c2, c3, c4, c5, c6, c7, c8, c9, c10, c11⟩ := HCV.out
      obtain ⟨d0, d1, d2, d3, d4, d5, d6, d7, d8, d9, d10, d11, d12, d13, d14, d15, d16, d17⟩ := HPT.out
      rcases (by omega : q = 0 ∨ q = 1 ∨ q = 2 ∨ q = 3 ∨ q = 4 ∨ q = 5) with rfl | rfl | rfl | rfl | rfl | rfl
      · exact ⟨0, 4, 0, 2, 1, by decide, (g1 0).trans c0, (g1 1).trans c1, (g2 0).trans d0, (g2 1).trans d1, (g2 2).trans d2⟩
      · exact ⟨0, 1, 2, 3, 1, by decide, (g1 2).trans c2, (g1 3).trans c3, (g2 3).trans d3, (g2 4).trans d4, (g2 5).trans d5⟩
      · exact ⟨4, 0, 2, 4, 1, by decide, (g1 4).trans c4, (g1 5).trans c5, (g2 6).trans d6, (g2 7).trans d7, (g2 8).trans d8⟩
      · exact ⟨-1, 0, 1, 0, 1, by decide, (g1 6).trans c6, (g1 7).trans c7, (g2 9).trans d9, (g2 10).trans d10, (g2 11).trans d11⟩
      · exact ⟨-43, 166, 3, 8, 1, by decide, (g1 8).trans c8, (g1 9).trans c9, (g2 12).trans d12, (g2 13).trans d13, (g2 14).trans d14⟩
      · exact ⟨0, -432, 12, 36, 1, by decide, (g1 10).trans c10, (g1 11).trans c11, (g2 15).trans d15, (g2 16).trans d16, (g2 17).trans d17⟩
    clear g1 g2 HCV HPT
    have HQ := Lib.hid (show q < 6 by omega)
    have HNE := Lib.hid (show N ≠ w.heap.size ∧ n ≠ w.heap.size ∧ n + 1 ≠ w.heap.size by omega)
    have HNW := Lib.hid (show w.heap.size ≤ N by omega)
    have HSP : Hid (SP w B w.heap.size N n q a b x y e (lim + 20) w2.drew) := ⟨HC.out.le (by omega), grown_drew HG.out, ⟨_, _, HR.out⟩, ⟨_, _, _, HP.out⟩, e0, e1, f0, f1, f2⟩
    have hq6 : (q : Int) < 6 := by omega
    go_wp2_with fail
    clear HC HG HR HP HR_1 HR_2 HR_3 HR_4 HR_5 HR_6 HP_1 HP_2 HP_3 HP_4 HP_5 HP_6 HP_7 HP_8 e0 e1 f0 f1 f2
    refine wp_region_steps2 [33, 34, 35, 36, 37, 38, 39, 40] (fun x y => BoxC B x w.heap.size a b → BoxC B y w.heap.size a b) (look [(33, VV (.slice (some ⟨n, 0, none⟩) 6 6)), (34, VV (.int .i64 q)), (35, VV (.pointer (some ⟨n, q * 2, none⟩))), (36, VC a b), (37, VV (.slice (some ⟨n + 1, 0, none⟩) 6 6)), (38, VV (.int .i64 q)), (39, VV (.pointer (some ⟨n + 1, q * 3, none⟩))), (40, VV (.agg #[.int .i64 x, .int .i64 y, .int .i64 e]))]) (fun i X => i = 8 → BoxC B X w.heap.size a b) (fun _ X => SP w B w.heap.size N n q a b x y e (lim + 20) X) (by kernel_rfl) (by kernel_rfl) (by decide) (look_keep ?_) (fun i X Y h r hi => r (h hi)) ?_ ?_
    · intro p hp v X Y hv hr
      simp only [List.mem_cons, List.not_mem_nil, or_false] at hp
      rcases hp with rfl | rfl | rfl | rfl | rfl | rfl | rfl | rfl
      all_goals exact hv
    · exact HSP.out
    refine Steps2.cons ?_ ?_
    · refine TStep2.one 33 ?_ ?_
      · rfl
      refine TStep.move 4 ?_ ?_ ?_ ?_ ?_ ?_
      · exact .inl rfl
      · rfl
      · simp
      · exact fun _ _ h => h
      · exact fun _ h => h
      intro g x hd d e; cases e; rw [eval_out (by decide)]; exact rfl
    refine Steps2.cons ?_ ?_
    · refine TStep2.one 34 ?_ ?_
      · rfl
      refine TStep.move 6 ?_ ?_ ?_ ?_ ?_ ?_
      · exact .inl rfl
      · rfl
      · simp
      · exact fun _ _ h => h
      · exact fun _ h => h
      intro g x hd d e; cases e; rw [eval_out (by decide)]; exact rfl
    refine Steps2.cons ?_ ?_
    · refine TStep2.of ?_ ?_ ?_
      · rfl
      · simp
      intro k g x hk9 hS hd
      have e33 : g 33 = .slice (some ⟨n, 0, none⟩) 6 6 := hd 33 (mem_b (by kernel_rfl))
      have e34 : g 34 = .int .i64 q := hd 34 (mem_b (by kernel_rfl))
      refine ⟨_, x, wp_value_ofb (run_idxC (q := q) _ (by rw [eval_in (by decide) (by simp)]; exact e33) (by rw [eval_in (by decide) (by simp)]; exact e34) HQ.out), fun d e => ?_, fun e => (by cases e), hS, fun h => h⟩
      cases e; exact rfl
    refine Steps2.cons ?_ ?_
    · refine TStep2.of ?_ ?_ ?_
      · rfl
      · simp
      intro k g x hk9 hS hd
      have e35 : g 35 = .pointer (some ⟨n, q * 2, none⟩) := hd 35 (mem_b (by kernel_rfl))
      refine ⟨_, x, wp_ldCat hS.e0 hS.e1 (by rw [eval_in (by decide) (by simp)]; exact e35), fun d e => ?_, fun e => (by cases e), hS, fun h => h⟩
      cases e; exact rfl
    refine Steps2.cons ?_ ?_
    · refine TStep2.one 37 ?_ ?_
      · rfl
      refine TStep.move 5 ?_ ?_ ?_ ?_ ?_ ?_
      · exact .inl rfl
      · rfl
      · simp
      · exact fun _ _ h => h
      · exact fun _ h => h
      intro g x hd d e; cases e; rw [eval_out (by decide)]; exact rfl
    refine Steps2.cons ?_ ?_
    · refine TStep2.one 38 ?_ ?_
      · rfl
      refine TStep.move 6 ?_ ?_ ?_ ?_ ?_ ?_
      · exact .inl rfl
      · rfl
      · simp
      · exact fun _ _ h => h
      · exact fun _ h => h
      intro g x hd d e; cases e; rw [eval_out (by decide)]; exact rfl
    refine Steps2.cons ?_ ?_
    · refine TStep2.of ?_ ?_ ?_
      · rfl
      · simp
      intro k g x hk9 hS hd
      have e37 : g 37 = .slice (some ⟨n + 1, 0, none⟩) 6 6 := hd 37 (mem_b (by kernel_rfl))
      have e38 : g 38 = .int .i64 q := hd 38 (mem_b (by kernel_rfl))
      refine ⟨_, x, wp_value_ofb (run_idxP (q := q) _ (by rw [eval_in (by decide) (by simp)]; exact e37) (by rw [eval_in (by decide) (by simp)]; exact e38) HQ.out), fun d e => ?_, fun e => (by cases e), hS, fun h => h⟩
      cases e; exact rfl
    refine Steps2.cons ?_ ?_
    · refine TStep2.of ?_ ?_ ?_
      · rfl
      · simp
      intro k g x hk9 hS hd
      have e39 : g 39 = .pointer (some ⟨n + 1, q * 3, none⟩) := hd 39 (mem_b (by kernel_rfl))
      refine ⟨_, x, wp_ldPat hS.f0 hS.f1 hS.f2 (by rw [eval_in (by decide) (by simp)]; exact e39), fun d e => ?_, fun e => (by cases e), hS, fun h => h⟩
      cases e; exact rfl
    refine Steps2.cons ?_ ?_
    · refine TStep2.of ?_ ?_ ?_
      · rfl
      · simp
      intro k g X hk9 hS hd
      have e36 : g 36 = .agg #[.int .i64 a, .int .i64 b] := hd 36 (mem_b (by kernel_rfl))
      obtain ⟨c, d, hr⟩ := hS.r
      obtain ⟨c', d', f', hp⟩ := hS.p
      have h1 := hr.put a b
      refine ⟨undef, _, wp_stCb hr (by rw [eval_out (by decide)]; rfl) (by rw [eval_in (by decide) (by simp)]; exact e36), (by simp), fun _ _ => h1, ⟨?_, ?_, ⟨_, _, h1⟩, ⟨_, _, _, (hp.far1 (v := .int .i64 a) HNE.out.1).far1 HNE.out.1⟩, ?_, ?_, ?_, ?_, ?_⟩, fun _ => h1⟩
      · exact cr_putb (cr_putb hS.cr hr.2.1 hr.2.2.1 _) hr.2.1 (hr.put0 a).2.2.2.1 _
      · exact set_grown (set_grown hS.gr (Nat.le_refl _) _) (Nat.le_refl _) _
      · exact (cell_far2 HNE.out.2.1).trans hS.e0
      · exact (cell_far2 HNE.out.2.1).trans hS.e1
      · exact (cell_far2 HNE.out.2.2).trans hS.f0
      · exact (cell_far2 HNE.out.2.2).trans hS.f1
      · exact (cell_far2 HNE.out.2.2).trans hS.f2
    refine Steps2.last1 ?_
    refine LStep2.of ?_ ?_
    · rfl
    intro g X hS hd hu
    have e40 : g 40 = .agg #[.int .i64 x, .int .i64 y, .int .i64 e] := hd 40 (mem_b (by kernel_rfl))
    have hr : BoxC B X w.heap.size a b := hu 8 _ (by decide) rfl rfl rfl
    obtain ⟨c', d', f', hp⟩ := hS.p
    refine ⟨undef, _, wp_stP hp (by rw [eval_out (by decide)]; rfl) (by rw [eval_in (by decide) (by simp)]; exact e40), ?_⟩
    have hp2 := hp.put x y e
    have hr2 := (((hr.far1 (v := .int .i64 x) (o := 0) HNE.out.1.symm).far1 (v := .int .i64 y) (o := 1) HNE.out.1.symm).far1 (v := .int .i64 e) (o := 2) HNE.out.1.symm)
    have hc2 := cr_putb (cr_putb (cr_putb hS.cr hp.2.1 hp.2.2.1 (.int .i64 x)) hp.2.1 (hp.put0 x).2.2.2.1 (.int .i64 y)) hp.2.1 ((hp.put0 x).put1 y).2.2.2.2.1 (.int .i64 e)
    have hg2 := set_grown (o := 2) (set_grown (o := 1) (set_grown (o := 0) hS.gr HNW.out (.int .i64 x)) HNW.out (.int .i64 y)) HNW.out (.int .i64 e)
    generalize ((X.setCell ⟨N, 0, none⟩ (.int .i64 x)).setCell ⟨N, 1, none⟩ (.int .i64 y)).setCell ⟨N, 2, none⟩ (.int .i64 e) = Y at hp2 hr2 hc2 hg2 ⊢
    obtain ⟨s1, s2, s3, s4, s5, s6⟩ := hr2
    obtain ⟨t1, t2, t3, t4, t5, t6, t7, t8⟩ := hp2
    have HC2 := Lib.hid hc2; have HG2 := Lib.hid hg2; have HPT := Lib.hid hpt; clear hc2 hg2 hr hp hS hd hu e40 HNE HNW HQ HSP hpt
    simp only [fill, Act.put, List.setIfInBounds_toArray, List.set_cons_zero, List.set_cons_succ]
    go_wp2_with fail
    refine bodyPost_ret (by simp (maxDischargeDepth := 3) [results, Tryz.results90, go_sem, *]; try rfl) rfl ?_
    exact ⟨_, rfl, ⟨a, b, x, y, e, rfl, HPT.out⟩, HG2.out, HC2.out.le (by omega)⟩
  · have HNE := Lib.hid (show N ≠ w.heap.size by omega)
    have HNW := Lib.hid (show w.heap.size ≤ N by omega)
    go_wp2_with fail
    refine bodyPost_ret (by simp (maxDischargeDepth := 3) [results, Tryz.results90, go_sem, *]; try rfl) rfl ?_
    exact ⟨_, rfl, ⟨-16, 16, 0, 4, 1, rfl, by decide⟩, (st5 HC.out HG.out HR.out HP.out (Nat.le_refl _) HNW.out HNE.out (-16) 16 0 4 1).1, (st5 HC.out HG.out HR.out HP.out (Nat.le_refl _) HNW.out HNE.out (-16) 16 0 4 1).2.le (by omega)⟩
  · have HNE := Lib.hid (show N ≠ w.heap.size by omega)
    have HNW := Lib.hid (show w.heap.size ≤ N by omega)
    go_wp2_with fail
    refine bodyPost_ret (by simp (maxDischargeDepth := 3) [results, Tryz.results90, go_sem, *]; try rfl) rfl ?_
    exact ⟨_, rfl, ⟨-25, 0, -4, 6, 1, rfl, by decide⟩, (st5 HC.out HG.out HR.out HP.out (Nat.le_refl _) HNW.out HNE.out (-25) 0 (-4) 6 1).1, (st5 HC.out HG.out HR.out HP.out (Nat.le_refl _) HNW.out HNE.out (-25) 0 (-4) 6 1).2.le (by omega)⟩
  · have HNE := Lib.hid (show N ≠ w.heap.size by omega)
    have HNW := Lib.hid (show w.heap.size ≤ N by omega)
    have hk0 : ¬ x = 0 := by omega
    have hk1 : ¬ x = 1 := by omega
    have hk2 : ¬ x = 2 := by omega
    clear hx3
    go_wp2_with fail
    go_at_call 79
    refine (pick_any _ _ 21 _ (by repeat' (first | exact HC.out | refine' set_cr ?_ (by omega) _ | refine' Cr.keep' ?_ (below_allocD _ _) | refine' cr_drewK ?_)) (by omega) (by omega) (by omega)).mono ?_; rintro e w' ⟨v, rfl, ⟨x', rfl, a0, a1⟩, hg, hc⟩
    have HGn := Lib.hid (grown_transN HG.out (by repeat' (first | exact HG.out | refine' set_grown ?_ (by omega) _ | refine' grown_belowD ?_ (below_allocD _ _) | refine' grown_drew ?_)) hg); (try clear HR_1 HR_2 HR_3 HR_4 HR_5 HR_6); have HRn := Lib.hid (BoxC.keepN HR.out (by repeat' (first | exact HR.out | refine' BoxC.keep ?_ (below_grown _ (below_allocD _ _)) | refine' BoxP.keep ?_ (below_grown _ (below_allocD _ _)) | refine' BoxC.far1 ?_ (by omega) | refine' BoxP.far1 ?_ (by omega) | refine' BoxC.put0 ?_ _ | refine' BoxC.put1 ?_ _ | refine' BoxP.put0 ?_ _ | refine' BoxP.put1 ?_ _ | refine' BoxP.put2 ?_ _)) hg); (try clear HP_1 HP_2 HP_3 HP_4 HP_5 HP_6 HP_7 HP_8); have HPn := Lib.hid (BoxP.keepN HP.out (by repeat' (first | exact HP.out | refine' BoxC.keep ?_ (below_grown _ (below_allocD _ _)) | refine' BoxP.keep ?_ (below_grown _ (below_allocD _ _)) | refine' BoxC.far1 ?_ (by omega) | refine' BoxP.far1 ?_ (by omega) | refine' BoxC.put0 ?_ _ | refine' BoxC.put1 ?_ _ | refine' BoxP.put0 ?_ _ | refine' BoxP.put1 ?_ _ | refine' BoxP.put2 ?_ _)) hg); clear HC HG HR HP; have HC := Lib.hid hc; have HG := Lib.hid HGn.out; have HR := Lib.hid HRn.out; obtain ⟨HR_1, HR_2, HR_3, HR_4, HR_5, HR_6⟩ := HR.out; clear HRn; have HP := Lib.hid HPn.out; obtain ⟨HP_1, HP_2, HP_3, HP_4, HP_5, HP_6, HP_7, HP_8⟩ := HP.out; clear HPn; clear HGn hc hg
    obtain ⟨X, hX⟩ : ∃ X, x' - 10 = X := ⟨_, rfl⟩
    have X1 : -10 ≤ X := by omega
    have X2 : X ≤ 10 := by omega
    have hwX : IntKind.i64.wrap (x' - 10) = X := by rw [hX]; exact wrapkb (by omega) (by omega)
    clear hX
    go_wp2_with fail
    go_at_call 79
    refine (pick_any _ _ 31 _ (by repeat' (first | exact HC.out | refine' set_cr ?_ (by omega) _ | refine' Cr.keep' ?_ (below_allocD _ _) | refine' cr_drewK ?_)) (by omega) (by omega) (by omega)).mono ?_; rintro e w' ⟨v, rfl, ⟨y', rfl, b0, b1⟩, hg, hc⟩
    have HGn := Lib.hid (grown_transN HG.out (by repeat' (first | exact HG.out | refine' set_grown ?_ (by omega) _ | refine' grown_belowD ?_ (below_allocD _ _) | refine' grown_drew ?_)) hg); (try clear HR_1 HR_2 HR_3 HR_4 HR_5 HR_6); have HRn := Lib.hid (BoxC.keepN HR.out (by repeat' (first | exact HR.out | refine' BoxC.keep ?_ (below_grown _ (below_allocD _ _)) | refine' BoxP.keep ?_ (below_grown _ (below_allocD _ _)) | refine' BoxC.far1 ?_ (by omega) | refine' BoxP.far1 ?_ (by omega) | refine' BoxC.put0 ?_ _ | refine' BoxC.put1 ?_ _ | refine' BoxP.put0 ?_ _ | refine' BoxP.put1 ?_ _ | refine' BoxP.put2 ?_ _)) hg); (try clear HP_1 HP_2 HP_3 HP_4 HP_5 HP_6 HP_7 HP_8); have HPn := Lib.hid (BoxP.keepN HP.out (by repeat' (first | exact HP.out | refine' BoxC.keep ?_ (below_grown _ (below_allocD _ _)) | refine' BoxP.keep ?_ (below_grown _ (below_allocD _ _)) | refine' BoxC.far1 ?_ (by omega) | refine' BoxP.far1 ?_ (by omega) | refine' BoxC.put0 ?_ _ | refine' BoxC.put1 ?_ _ | refine' BoxP.put0 ?_ _ | refine' BoxP.put1 ?_ _ | refine' BoxP.put2 ?_ _)) hg); clear HC HG HR HP; have HC := Lib.hid hc; have HG := Lib.hid HGn.out; have HR := Lib.hid HRn.out; obtain ⟨HR_1, HR_2, HR_3, HR_4, HR_5, HR_6⟩ := HR.out; clear HRn; have HP := Lib.hid HPn.out; obtain ⟨HP_1, HP_2, HP_3, HP_4, HP_5, HP_6, HP_7, HP_8⟩ := HP.out; clear HPn; clear HGn hc hg
    obtain ⟨Y, hY⟩ : ∃ Y, y' - 15 = Y := ⟨_, rfl⟩
    have Y1 : -15 ≤ Y := by omega
    have Y2 : Y ≤ 15 := by omega
    have hwY : IntKind.i64.wrap (y' - 15) = Y := by rw [hY]; exact wrapkb (by omega) (by omega)
    clear hY
    go_wp2_with fail
    go_at_call 79
    refine (pick_any _ _ 31 _ (by repeat' (first | exact HC.out | refine' set_cr ?_ (by omega) _ | refine' Cr.keep' ?_ (below_allocD _ _) | refine' cr_drewK ?_)) (by omega) (by omega) (by omega)).mono ?_; rintro e w' ⟨v, rfl, ⟨c', rfl, d0, d1⟩, hg, hc⟩
    have HGn := Lib.hid (grown_transN HG.out (by repeat' (first | exact HG.out | refine' set_grown ?_ (by omega) _ | refine' grown_belowD ?_ (below_allocD _ _) | refine' grown_drew ?_)) hg); (try clear HR_1 HR_2 HR_3 HR_4 HR_5 HR_6); have HRn := Lib.hid (BoxC.keepN HR.out (by repeat' (first | exact HR.out | refine' BoxC.keep ?_ (below_grown _ (below_allocD _ _)) | refine' BoxP.keep ?_ (below_grown _ (below_allocD _ _)) | refine' BoxC.far1 ?_ (by omega) | refine' BoxP.far1 ?_ (by omega) | refine' BoxC.put0 ?_ _ | refine' BoxC.put1 ?_ _ | refine' BoxP.put0 ?_ _ | refine' BoxP.put1 ?_ _ | refine' BoxP.put2 ?_ _)) hg); (try clear HP_1 HP_2 HP_3 HP_4 HP_5 HP_6 HP_7 HP_8); have HPn := Lib.hid (BoxP.keepN HP.out (by repeat' (first | exact HP.out | refine' BoxC.keep ?_ (below_grown _ (below_allocD _ _)) | refine' BoxP.keep ?_ (below_grown _ (below_allocD _ _)) | refine' BoxC.far1 ?_ (by omega) | refine' BoxP.far1 ?_ (by omega) | refine' BoxC.put0 ?_ _ | refine' BoxC.put1 ?_ _ | refine' BoxP.put0 ?_ _ | refine' BoxP.put1 ?_ _ | refine' BoxP.put2 ?_ _)) hg); clear HC HG HR HP; have HC := Lib.hid hc; have HG := Lib.hid HGn.out; have HR := Lib.hid HRn.out; obtain ⟨HR_1, HR_2, HR_3, HR_4, HR_5, HR_6⟩ := HR.out; clear HRn; have HP := Lib.hid HPn.out; obtain ⟨HP_1, HP_2, HP_3, HP_4, HP_5, HP_6, HP_7, HP_8⟩ := HP.out; clear HPn; clear HGn hc hg
    obtain ⟨A, hA⟩ : ∃ A, c' - 15 = A := ⟨_, rfl⟩
    have A1 : -15 ≤ A := by omega
    have A2 : A ≤ 15 := by omega
    have hwA : IntKind.i64.wrap (c' - 15) = A := by rw [hA]; exact wrapkb (by omega) (by omega)
    clear hA
    obtain ⟨v1, v2, v3, v4, v5, v6, v7⟩ := drawn_wraps X1 X2 Y1 Y2 A1 A2
    go_wp2_with fail
    have hon : curveB A (Y * Y - X * X * X - A * X) = true → pointB A (Y * Y - X * X * X - A * X) X Y 1 = true := fun h => drawn_on ⟨X1, X2⟩ h
    generalize Y * Y - X * X * X - A * X = E at *
    have hBn := HC.out.lt
    have hR1 := HR_1
    have hP1 := HP_1
    (refine calls_gen ?_; intro V hV; have HCn := Lib.hid (cr_eq (B := B) hV (by repeat' (first | exact HC.out | refine' set_cr ?_ (by omega) _ | refine' Cr.keep' ?_ (below_allocD _ _) | refine' cr_drewK ?_))); have HGn := Lib.hid (gr_eqN HG.out hV (by repeat' (first | exact HG.out | refine' set_grown ?_ (by omega) _ | refine' grown_belowD ?_ (below_allocD _ _) | refine' grown_drew ?_))); have HRn := Lib.hid (boxc_eqN HR.out hV (by repeat' (first | exact HR.out | refine' BoxC.keep ?_ (below_grown _ (below_allocD _ _)) | refine' BoxP.keep ?_ (below_grown _ (below_allocD _ _)) | refine' BoxC.far1 ?_ (by omega) | refine' BoxP.far1 ?_ (by omega) | refine' BoxC.put0 ?_ _ | refine' BoxC.put1 ?_ _ | refine' BoxP.put0 ?_ _ | refine' BoxP.put1 ?_ _ | refine' BoxP.put2 ?_ _))); have HPn := Lib.hid (boxp_eqN HP.out hV (by repeat' (first | exact HP.out | refine' BoxC.keep ?_ (below_grown _ (below_allocD _ _)) | refine' BoxP.keep ?_ (below_grown _ (below_allocD _ _)) | refine' BoxC.far1 ?_ (by omega) | refine' BoxP.far1 ?_ (by omega) | refine' BoxC.put0 ?_ _ | refine' BoxC.put1 ?_ _ | refine' BoxP.put0 ?_ _ | refine' BoxP.put1 ?_ _ | refine' BoxP.put2 ?_ _))); clear HC HG HR HP; have HC := Lib.hid HCn.out; have HG := Lib.hid HGn.out; clear HCn HGn; (try clear HR_1 HR_2 HR_3 HR_4 HR_5 HR_6); have HR := Lib.hid HRn.out; obtain ⟨HR_1, HR_2, HR_3, HR_4, HR_5, HR_6⟩ := HR.out; clear HRn; (try clear HP_1 HP_2 HP_3 HP_4 HP_5 HP_6 HP_7 HP_8); have HP := Lib.hid HPn.out; obtain ⟨HP_1, HP_2, HP_3, HP_4, HP_5, HP_6, HP_7, HP_8⟩ := HP.out; clear HPn)
    have HB := Lib.hid (boxc_eq (B := B) hV (BoxC.new (B := B) A E 50 hBn))
    obtain ⟨HB_1, HB_2, HB_3, HB_4, HB_5, HB_6⟩ := HB.out
    clear hV
    have hz1 : ¬ w'.heap.size = w.heap.size := by omega
    have hz2 : ¬ w'.heap.size = N := by omega
    have hz3 : ¬ w.heap.size = w'.heap.size := by omega
    have hz4 : ¬ N = w'.heap.size := by omega
    generalize w'.heap.size = m at *
    have HON := Lib.hid hon; clear hon v1 v2 v3 v4 v5 v6 v7 hwX hwY hwA
    go_at_call 95
    refine (ecGood_any _ _ _).mono ?_; rintro e w' ⟨rfl, hb⟩
    have hg := below_grown B hb
    have hc := HC.out.keep' hb
    clear hb
    have HGn := Lib.hid (grown_transN HG.out (by repeat' (first | exact HG.out | refine' set_grown ?_ (by omega) _ | refine' grown_belowD ?_ (below_allocD _ _) | refine' grown_drew ?_)) hg); (try clear HR_1 HR_2 HR_3 HR_4 HR_5 HR_6); have HRn := Lib.hid (BoxC.keepN HR.out (by repeat' (first | exact HR.out | refine' BoxC.keep ?_ (below_grown _ (below_allocD _ _)) | refine' BoxP.keep ?_ (below_grown _ (below_allocD _ _)) | refine' BoxC.far1 ?_ (by omega) | refine' BoxP.far1 ?_ (by omega) | refine' BoxC.put0 ?_ _ | refine' BoxC.put1 ?_ _ | refine' BoxP.put0 ?_ _ | refine' BoxP.put1 ?_ _ | refine' BoxP.put2 ?_ _)) hg); (try clear HP_1 HP_2 HP_3 HP_4 HP_5 HP_6 HP_7 HP_8); have HPn := Lib.hid (BoxP.keepN HP.out (by repeat' (first | exact HP.out | refine' BoxC.keep ?_ (below_grown _ (below_allocD _ _)) | refine' BoxP.keep ?_ (below_grown _ (below_allocD _ _)) | refine' BoxC.far1 ?_ (by omega) | refine' BoxP.far1 ?_ (by omega) | refine' BoxC.put0 ?_ _ | refine' BoxC.put1 ?_ _ | refine' BoxP.put0 ?_ _ | refine' BoxP.put1 ?_ _ | refine' BoxP.put2 ?_ _)) hg); (try clear HB_1 HB_2 HB_3 HB_4 HB_5 HB_6); have HBn := Lib.hid (BoxC.keepN HB.out (by repeat' (first | exact HB.out | refine' BoxC.keep ?_ (below_grown _ (below_allocD _ _)) | refine' BoxP.keep ?_ (below_grown _ (below_allocD _ _)) | refine' BoxC.far1 ?_ (by omega) | refine' BoxP.far1 ?_ (by omega) | refine' BoxC.put0 ?_ _ | refine' BoxC.put1 ?_ _ | refine' BoxP.put0 ?_ _ | refine' BoxP.put1 ?_ _ | refine' BoxP.put2 ?_ _)) hg); clear HC HG HR HP HB; have HC := Lib.hid hc; have HG := Lib.hid HGn.out; have HR := Lib.hid HRn.out; obtain ⟨HR_1, HR_2, HR_3, HR_4, HR_5, HR_6⟩ := HR.out; clear HRn; have HP := Lib.hid HPn.out; obtain ⟨HP_1, HP_2, HP_3, HP_4, HP_5, HP_6, HP_7, HP_8⟩ := HP.out; clear HPn; have HB := Lib.hid HBn.out; obtain ⟨HB_1, HB_2, HB_3, HB_4, HB_5, HB_6⟩ := HB.out; clear HBn; clear HGn hc hg
    cases hq : curveB A E
    · go_wp2_with fail
      refine bodyPost_ret (by simp (maxDischargeDepth := 3) [results, Tryz.results90, go_sem, *]; try rfl) rfl ?_
      exact ⟨_, rfl, ⟨-2, 1, 0, 1, 1, rfl, by decide⟩, (st5 HC.out HG.out HR.out HP.out (Nat.le_refl _) HNW.out HNE.out (-2) 1 0 1 1).1, (st5 HC.out HG.out HR.out HP.out (Nat.le_refl _) HNW.out HNE.out (-2) 1 0 1 1).2.le (by omega)⟩
    · have HPT := Lib.hid (HON.out hq)
      clear HON hq
      go_wp2_with fail
      refine bodyPost_ret (by simp (maxDischargeDepth := 3) [results, Tryz.results90, go_sem, *]; try rfl) rfl ?_
      exact ⟨_, rfl, ⟨A, E, X, Y, 1, rfl, HPT.out⟩, (st5 HC.out HG.out HR.out HP.out (Nat.le_refl _) HNW.out HNE.out A E X Y 1).1, (st5 HC.out HG.out HR.out HP.out (Nat.le_refl _) HNW.out HNE.out A E X Y 1).2.le (by omega)⟩
end Go.Proofs.YtakilincclnpdaaGreatDoor
