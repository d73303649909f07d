/- Yl: contracts: wholes divided, laid out of numbers, compared by the laws. No conditions. -/
import Derived.Test.YtakilincclnpdaaGreatDoorYgy
import Derived.Test.YtakilincclnpdaaGreatDoorLswy
import Derived.Test.YtakilincclnpdaaGreatDoorYfy
/- Yk: contracts: the exported functions of wholes. No conditions. -/
namespace Go.Proofs.YtakilincclnpdaaGreatDoor
open Go.RowKit

def len4 (z : Int) : Bool := decide ((digs z.natAbs).length ≤ 400)
/-- returned a whole and whether there is one. -/
def RetOk (ok : Bool) (z : Int) (w : World) (e : Ending) (w' : World) : Prop := ∃ v, e = .returned (.tuple #[v, .bool ok]) ∧ Below w.heap.size w w' ∧ WV w' v (if ok = true then z else 0)
theorem len4_ok {z : Int} {w : World} {v : Value} : WV w v (if (digs z.natAbs).length ≤ 400 then z else 0) = WV w v (if len4 z = true then z else 0) := by
  unfold len4
  by_cases h : (digs z.natAbs).length ≤ 400
  · rw [if_pos h, decide_eq_true h, if_pos rfl]
  · rw [if_neg h, decide_eq_false h, if_neg (by decide)]
theorem wv_set {w : World} {v u0 : Value} {z : Int} {r o : Nat} (h : WV w v z) (hp : w.cell? ⟨r, o, none⟩ = some u0) (hu : ∀ c, u0 ≠ .int .i64 c) (u : Value) : WV (w.setCell ⟨r, o, none⟩ u) v z := by
  obtain ⟨ad, cap, hv, ⟨ad', cap', e, hl, hc⟩, hs⟩ := h
  refine ⟨ad, cap, hv, ⟨ad', cap', e, hl, fun h0 => ?_⟩, hs⟩
  obtain ⟨b, off, ha, hb, hcell⟩ := hc h0
  refine ⟨b, off, ha, by simpa using hb, fun i hi => ?_⟩
  rw [World.cell?_setCell_other _ _ _ _ (fun e => ?_)]
  · exact hcell i hi
  · have h1 := hcell i hi
    rw [← e, hp] at h1
    injection h1 with h1
    exact hu _ h1
theorem wv_set2 {w : World} {v : Value} {z : Int} {r : Nat} {b : Bool} {ad : Option Addr} {l c : Nat} (h : WV w v z) (h0 : w.cell? ⟨r, 0, none⟩ = some (.bool b)) (h1 : w.cell? ⟨r, 1, none⟩ = some (.slice ad l c)) (u u' : Value) : WV ((w.setCell ⟨r, 0, none⟩ u).setCell ⟨r, 1, none⟩ u') v z :=
  wv_set (wv_set h h0 (by intro c e; cases e) u) (u0 := .slice ad l c) (by rw [World.cell?_setCell_other _ _ _ _ (by intro e; injection e with _ e; cases e)]; exact h1) (by intro c e; cases e) u'
theorem kt_call {W a b : World} {B0 : Nat} {u0 u1 u2 u3 : Value} (hb : Below a.heap.size a b) (h : Below (B0 + 2) W a ∧ B0 + 2 < a.heap.size ∧ a.cell? ⟨B0, 0, none⟩ = some u0 ∧ a.cell? ⟨B0, 1, none⟩ = some u1 ∧ a.cell? ⟨B0 + 1, 0, none⟩ = some u2 ∧ a.cell? ⟨B0 + 1, 1, none⟩ = some u3 ∧ (∃ q9 : Bool, a.cell? ⟨B0 + 1 + 1, 0, none⟩ = some (.bool q9)) ∧ (∃ (q1 : Option Addr) (q2 q3 : Nat), a.cell? ⟨B0 + 1 + 1, 1, none⟩ = some (.slice q1 q2 q3)) ∧ a.frozen? ⟨B0 + 1 + 1, 0, none⟩ = false ∧ a.frozen? ⟨B0 + 1 + 1, 1, none⟩ = false) : Below (B0 + 2) W b ∧ B0 + 2 < b.heap.size ∧ b.cell? ⟨B0, 0, none⟩ = some u0 ∧ b.cell? ⟨B0, 1, none⟩ = some u1 ∧ b.cell? ⟨B0 + 1, 0, none⟩ = some u2 ∧ b.cell? ⟨B0 + 1, 1, none⟩ = some u3 ∧ (∃ q9 : Bool, b.cell? ⟨B0 + 1 + 1, 0, none⟩ = some (.bool q9)) ∧ (∃ (q1 : Option Addr) (q2 q3 : Nat), b.cell? ⟨B0 + 1 + 1, 1, none⟩ = some (.slice q1 q2 q3)) ∧ b.frozen? ⟨B0 + 1 + 1, 0, none⟩ = false ∧ b.frozen? ⟨B0 + 1 + 1, 1, none⟩ = false := by
  obtain ⟨h1, h2, h3, h4, h5, h6, ⟨x, h7⟩, ⟨y1, y2, y3, h8⟩, h9, h10⟩ := h
  have k := fun (i o : Nat) (hi : i ≤ B0 + 2) => hb.cell (p := ⟨i, o, none⟩) (show i < a.heap.size by omega)
  have kf := fun (i o : Nat) (hi : i ≤ B0 + 2) => hb.frozen (p := ⟨i, o, none⟩) (show i < a.heap.size by omega)
  exact ⟨h1.trans (hb.mono (by omega)), Nat.lt_of_lt_of_le h2 hb.size, (k _ _ (by omega)).trans h3, (k _ _ (by omega)).trans h4, (k _ _ (by omega)).trans h5, (k _ _ (by omega)).trans h6, ⟨x, (k _ _ (by omega)).trans h7⟩, ⟨y1, y2, y3, (k _ _ (by omega)).trans h8⟩, (kf _ _ (by omega)).trans h9, (kf _ _ (by omega)).trans h10⟩
theorem kt_store {W a : World} {B0 l c : Nat} {b : Bool} {ad : Option Addr} {u0 u1 u2 u3 : Value} (h : Below (B0 + 2) W a ∧ B0 + 2 < a.heap.size ∧ a.cell? ⟨B0, 0, none⟩ = some u0 ∧ a.cell? ⟨B0, 1, none⟩ = some u1 ∧ a.cell? ⟨B0 + 1, 0, none⟩ = some u2 ∧ a.cell? ⟨B0 + 1, 1, none⟩ = some u3 ∧ (∃ q9 : Bool, a.cell? ⟨B0 + 1 + 1, 0, none⟩ = some (.bool q9)) ∧ (∃ (q1 : Option Addr) (q2 q3 : Nat), a.cell? ⟨B0 + 1 + 1, 1, none⟩ = some (.slice q1 q2 q3)) ∧ a.frozen? ⟨B0 + 1 + 1, 0, none⟩ = false ∧ a.frozen? ⟨B0 + 1 + 1, 1, none⟩ = false) : Below (B0 + 2) W ((a.setCell ⟨B0 + 1 + 1, 0, none⟩ (.bool b)).setCell ⟨B0 + 1 + 1, 1, none⟩ (.slice ad l c)) ∧ B0 + 2 < ((a.setCell ⟨B0 + 1 + 1, 0, none⟩ (.bool b)).setCell ⟨B0 + 1 + 1, 1, none⟩ (.slice ad l c)).heap.size ∧ ((a.setCell ⟨B0 + 1 + 1, 0, none⟩ (.bool b)).setCell ⟨B0 + 1 + 1, 1, none⟩ (.slice ad l c)).cell? ⟨B0, 0, none⟩ = some u0 ∧ ((a.setCell ⟨B0 + 1 + 1, 0, none⟩ (.bool b)).setCell ⟨B0 + 1 + 1, 1, none⟩ (.slice ad l c)).cell? ⟨B0, 1, none⟩ = some u1 ∧ ((a.setCell ⟨B0 + 1 + 1, 0, none⟩ (.bool b)).setCell ⟨B0 + 1 + 1, 1, none⟩ (.slice ad l c)).cell? ⟨B0 + 1, 0, none⟩ = some u2 ∧ ((a.setCell ⟨B0 + 1 + 1, 0, none⟩ (.bool b)).setCell ⟨B0 + 1 + 1, 1, none⟩ (.slice ad l c)).cell? ⟨B0 + 1, 1, none⟩ = some u3 ∧ (∃ q9 : Bool, ((a.setCell ⟨B0 + 1 + 1, 0, none⟩ (.bool b)).setCell ⟨B0 + 1 + 1, 1, none⟩ (.slice ad l c)).cell? ⟨B0 + 1 + 1, 0, none⟩ = some (.bool q9)) ∧ (∃ (q1 : Option Addr) (q2 q3 : Nat), ((a.setCell ⟨B0 + 1 + 1, 0, none⟩ (.bool b)).setCell ⟨B0 + 1 + 1, 1, none⟩ (.slice ad l c)).cell? ⟨B0 + 1 + 1, 1, none⟩ = some (.slice q1 q2 q3)) ∧ ((a.setCell ⟨B0 + 1 + 1, 0, none⟩ (.bool b)).setCell ⟨B0 + 1 + 1, 1, none⟩ (.slice ad l c)).frozen? ⟨B0 + 1 + 1, 0, none⟩ = false ∧ ((a.setCell ⟨B0 + 1 + 1, 0, none⟩ (.bool b)).setCell ⟨B0 + 1 + 1, 1, none⟩ (.slice ad l c)).frozen? ⟨B0 + 1 + 1, 1, none⟩ = false := by
  obtain ⟨h1, h2, h3, h4, h5, h6, ⟨x, h7⟩, ⟨y1, y2, y3, h8⟩, h9, h10⟩ := h
  refine ⟨(h1.setCell (Nat.le_refl _) _).setCell (Nat.le_refl _) _, by simpa using h2, ?_, ?_, ?_, ?_, ⟨b, ?_⟩, ⟨ad, l, c, ?_⟩, by simpa using h9, by simpa using h10⟩
  · rw [World.cell?_setCell_other _ _ _ _ (by intro e; injection e; omega), World.cell?_setCell_other _ _ _ _ (by intro e; injection e; omega)]; exact h3
  · rw [World.cell?_setCell_other _ _ _ _ (by intro e; injection e; omega), World.cell?_setCell_other _ _ _ _ (by intro e; injection e; omega)]; exact h4
  · rw [World.cell?_setCell_other _ _ _ _ (by intro e; injection e; omega), World.cell?_setCell_other _ _ _ _ (by intro e; injection e; omega)]; exact h5
  · rw [World.cell?_setCell_other _ _ _ _ (by intro e; injection e; omega), World.cell?_setCell_other _ _ _ _ (by intro e; injection e; omega)]; exact h6
  · rw [World.cell?_setCell_other _ _ _ _ (by intro e; injection e with _ e; cases e)]; exact World.cell?_setCell_same _ _ _ h7
  · exact World.cell?_setCell_same _ _ _ ((World.cell?_setCell_other _ _ _ _ (by intro e; injection e with _ e; cases e)).trans h8)
theorem kt_start {W : World} {B0 l c : Nat} {b : Bool} {ad : Option Addr} {u0 u1 u2 u3 : Value} (h2 : B0 + 2 < W.heap.size) (c0 : W.cell? ⟨B0, 0, none⟩ = some u0) (c1 : W.cell? ⟨B0, 1, none⟩ = some u1) (c2 : W.cell? ⟨B0 + 1, 0, none⟩ = some u2) (c3 : W.cell? ⟨B0 + 1, 1, none⟩ = some u3) (c4 : W.cell? ⟨B0 + 1 + 1, 0, none⟩ = some (.bool b)) (c5 : W.cell? ⟨B0 + 1 + 1, 1, none⟩ = some (.slice ad l c))
    (f4 : W.frozen? ⟨B0 + 1 + 1, 0, none⟩ = false) (f5 : W.frozen? ⟨B0 + 1 + 1, 1, none⟩ = false) : Below (B0 + 2) W W.drew ∧ B0 + 2 < W.drew.heap.size ∧ W.drew.cell? ⟨B0, 0, none⟩ = some u0 ∧ W.drew.cell? ⟨B0, 1, none⟩ = some u1 ∧ W.drew.cell? ⟨B0 + 1, 0, none⟩ = some u2 ∧ W.drew.cell? ⟨B0 + 1, 1, none⟩ = some u3 ∧ (∃ q9 : Bool, W.drew.cell? ⟨B0 + 1 + 1, 0, none⟩ = some (.bool q9)) ∧ (∃ (q1 : Option Addr) (q2 q3 : Nat), W.drew.cell? ⟨B0 + 1 + 1, 1, none⟩ = some (.slice q1 q2 q3)) ∧ W.drew.frozen? ⟨B0 + 1 + 1, 0, none⟩ = false ∧ W.drew.frozen? ⟨B0 + 1 + 1, 1, none⟩ = false :=
  ⟨(Below.refl _ _).drew, h2, c0, c1, c2, c3, ⟨b, c4⟩, ⟨ad, l, c, c5⟩, f4, f5⟩
theorem kt_cells {W a b : World} {B0 : Nat} {u0 u1 u2 u3 : Value} (hb : Below a.heap.size a b) (h : Below (B0 + 2) W a ∧ B0 + 2 < a.heap.size ∧ a.cell? ⟨B0, 0, none⟩ = some u0 ∧ a.cell? ⟨B0, 1, none⟩ = some u1 ∧ a.cell? ⟨B0 + 1, 0, none⟩ = some u2 ∧ a.cell? ⟨B0 + 1, 1, none⟩ = some u3 ∧ (∃ q9 : Bool, a.cell? ⟨B0 + 1 + 1, 0, none⟩ = some (.bool q9)) ∧ (∃ (q1 : Option Addr) (q2 q3 : Nat), a.cell? ⟨B0 + 1 + 1, 1, none⟩ = some (.slice q1 q2 q3)) ∧ a.frozen? ⟨B0 + 1 + 1, 0, none⟩ = false ∧ a.frozen? ⟨B0 + 1 + 1, 1, none⟩ = false) : (∃ x : Bool, b.cell? ⟨B0 + 1 + 1, 0, none⟩ = some (.bool x)) ∧ (∃ (q1 : Option Addr) (q2 q3 : Nat), b.cell? ⟨B0 + 1 + 1, 1, none⟩ = some (.slice q1 q2 q3)) := ⟨(kt_call hb h).2.2.2.2.2.2.1, (kt_call hb h).2.2.2.2.2.2.2.1⟩
theorem retok_of {P : Program} {f : FuncId} {args : Array Value} {w : World} {S : Int} (h : Calls P f args w (RetWO S w)) : Calls P f args w (RetOk (len4 S) S w) :=
  h.mono fun _ _ ⟨v, he, hb, hv⟩ => ⟨v, he, hb, by rw [← len4_ok]; exact hv⟩
theorem sum_len {z y : Int} (h1 : (digs z.natAbs).length ≤ 400) (h2 : (digs y.natAbs).length ≤ 400) : (digs (z + y).natAbs).length ≤ 1000 := by
  have h := digs_add_len (k := 400) h1 h2
  have h3 := digs_mono (m := (z + y).natAbs) (n := z.natAbs + y.natAbs) (by omega)
  omega
theorem sub_len {z y : Int} (h1 : (digs z.natAbs).length ≤ 400) (h2 : (digs y.natAbs).length ≤ 400) : (digs (z - y).natAbs).length ≤ 1000 := by
  have h := digs_add_len (k := 400) h1 h2
  have h3 := digs_mono (m := (z - y).natAbs) (n := z.natAbs + y.natAbs) (by omega)
  omega
theorem mul_len {z y : Int} (h1 : (digs z.natAbs).length ≤ 400) (h2 : (digs y.natAbs).length ≤ 400) : (digs (z * y).natAbs).length ≤ 1000 := by
  rw [Int.natAbs_mul]
  have := digs_mul_len z.natAbs y.natAbs
  omega
set_option maxHeartbeats 4000000 in
theorem iMulWholes_any (v u : Value) (n m : Bool) (xs ys : List Int) (w : World) (hv : RW w v n xs) (hu : RW w u m ys) (hl : xs.length ≤ 1000) (hl' : ys.length ≤ 1000) :
    Calls Tryz.prog 22 #[v, u] w (RetOk (goodW n xs && goodW m ys && len4 (valW n xs * valW m ys)) (valW n xs * valW m ys) w) := by
  have hg1 := fun w' (hb : Below w.heap.size w w') => isWhole_any v n xs w' (hv.keep hb) (by omega)
  have hg2 := fun w' (hb : Below w.heap.size w w') => isWhole_any u m ys w' (hu.keep hb) (by omega)
  have hwv := fun (h : goodW n xs = true) => hv.wv h
  have hwu := fun (h : goodW m ys = true) => hu.wv h
  have hlv := fun (h : goodW n xs = true) => (good_val h).2.2
  have hlu := fun (h : goodW m ys = true) => (good_val h).2.2
  generalize valW n xs = z at *
  generalize valW m ys = y at *
  generalize goodW n xs = g1 at *
  generalize goodW m ys = g2 at *
  obtain ⟨ad, cap, rfl, _, _⟩ := hv
  obtain ⟨ad', cap', rfl, _, _⟩ := hu
  generalize xs.length = la at *
  generalize ys.length = lb at *
  have HG1 := Lib.hid hg1; have HG2 := Lib.hid hg2; have HWV := Lib.hid hwv; have HWU := Lib.hid hwu; have HLV := Lib.hid hlv; have HLU := Lib.hid hlu
  clear hg1 hg2 hwv hwu hlv hlu
  cases g1
  · go_enter Tryz.func22, Tryz.ntmps22
    go_wp2_with fail
    refine (HG1.out _ (by repeat (first | exact Below.refl _ _ | (with_reducible assumption) | refine bel_alloc ?_ _ | refine bel_drew ?_ | refine bel_drewN ?_ _ | refine Below.setCell ?_ (by dsimp only; omega) _ | refine bel_trans (by assumption) ?_))).mono ?_; rintro e w1 ⟨rfl, hb1⟩
    obtain ⟨hc1, hf1⟩ := aft hb1
    go_wp2_with fail
    refine bodyPost_ret (by simp (maxDischargeDepth := 3) [results, Tryz.results22, go_sem, *]; try rfl) rfl ?_
    exact ⟨_, rfl, (by repeat (first | exact Below.refl _ _ | (with_reducible assumption) | refine bel_alloc ?_ _ | refine bel_drew ?_ | refine bel_drewN ?_ _ | refine Below.setCell ?_ (by dsimp only; omega) _ | refine bel_trans (by assumption) ?_)), (zero_wo _ 0).wv⟩
  cases g2
  · go_enter Tryz.func22, Tryz.ntmps22
    go_wp2_with fail
    refine (HG1.out _ (by repeat (first | exact Below.refl _ _ | (with_reducible assumption) | refine bel_alloc ?_ _ | refine bel_drew ?_ | refine bel_drewN ?_ _ | refine Below.setCell ?_ (by dsimp only; omega) _ | refine bel_trans (by assumption) ?_))).mono ?_; rintro e w1 ⟨rfl, hb1⟩
    obtain ⟨hc1, hf1⟩ := aft hb1
    go_wp2_with fail
    refine (HG2.out _ (by repeat (first | exact Below.refl _ _ | (with_reducible assumption) | refine bel_alloc ?_ _ | refine bel_drew ?_ | refine bel_drewN ?_ _ | refine Below.setCell ?_ (by dsimp only; omega) _ | refine bel_trans (by assumption) ?_))).mono ?_; rintro e w2 ⟨rfl, hb2⟩
    replace hb2 := aft2 hb2 hb1; clear hb1 hc1 hf1
    obtain ⟨hc2, hf2⟩ := aft hb2
    go_wp2_with fail
    refine bodyPost_ret (by simp (maxDischargeDepth := 3) [results, Tryz.results22, go_sem, *]; try rfl) rfl ?_
    exact ⟨_, rfl, (by repeat (first | exact Below.refl _ _ | (with_reducible assumption) | refine bel_alloc ?_ _ | refine bel_drew ?_ | refine bel_drewN ?_ _ | refine Below.setCell ?_ (by dsimp only; omega) _ | refine bel_trans (by assumption) ?_)), (zero_wo _ 0).wv⟩
  rw [Bool.true_and, Bool.true_and]
  have hz := HLV.out rfl
  have hy := HLU.out rfl
  have hop := fun w' (hb : Below w.heap.size w w') => mulWholes_any _ _ z y w' ((HWV.out rfl).keep hb) ((HWU.out rfl).keep hb) (by omega) (by omega)
  obtain ⟨S, hS⟩ : ∃ S, z * y = S := ⟨_, rfl⟩
  rw [hS] at hop ⊢
  have hsl : (digs S.natAbs).length ≤ 1000 := by rw [← hS]; exact mul_len hz hy
  have HOP := Lib.hid hop; have HSL := Lib.hid hsl
  clear hop hsl hS HWV HWU HLV HLU
  go_enter Tryz.func22, Tryz.ntmps22
  go_wp2_with fail
  refine (HG1.out _ (by repeat (first | exact Below.refl _ _ | (with_reducible assumption) | refine bel_alloc ?_ _ | refine bel_drew ?_ | refine bel_drewN ?_ _ | refine Below.setCell ?_ (by dsimp only; omega) _ | refine bel_trans (by assumption) ?_))).mono ?_; rintro e w1 ⟨rfl, hb1⟩
  obtain ⟨hc1, hf1⟩ := aft hb1
  go_wp2_with fail
  refine (HG2.out _ (by repeat (first | exact Below.refl _ _ | (with_reducible assumption) | refine bel_alloc ?_ _ | refine bel_drew ?_ | refine bel_drewN ?_ _ | refine Below.setCell ?_ (by dsimp only; omega) _ | refine bel_trans (by assumption) ?_))).mono ?_; rintro e w2 ⟨rfl, hb2⟩
  replace hb2 := aft2 hb2 hb1; clear hb1 hc1 hf1
  obtain ⟨hc2, hf2⟩ := aft hb2
  go_wp2_with fail
  refine (HOP.out _ (by repeat (first | exact Below.refl _ _ | (with_reducible assumption) | refine bel_alloc ?_ _ | refine bel_drew ?_ | refine bel_drewN ?_ _ | refine Below.setCell ?_ (by dsimp only; omega) _ | refine bel_trans (by assumption) ?_))).mono ?_; rintro e w3 ⟨v3, rfl, hb3, ho3⟩
  replace hb3 := aft2 hb3 hb2; clear hb2 hc2 hf2
  have HWS := Lib.hid ho3.wv
  obtain ⟨ad3, cap3, hv3, _⟩ := ho3
  generalize decide (S < 0) = b3 at hv3
  generalize (digs S.natAbs).length = l3 at hv3
  subst hv3
  obtain ⟨hc3, hf3⟩ := aft hb3
  go_wp2_with fail
  refine (retok_of (wholeResult_any _ S _ HWS.out (by have := HSL.out; omega))).mono ?_; rintro e w4 ⟨v4, rfl, hb4, ho4⟩
  replace hb4 := aft2 hb4 hb3; clear hb3 hc3 hf3
  obtain ⟨hc4, hf4⟩ := aft hb4
  generalize len4 S = ok at *
  obtain ⟨S4, hS4⟩ : ∃ S4, (if ok = true then S else 0) = S4 := ⟨_, rfl⟩
  rw [hS4] at ho4
  have HS4 := Lib.hid hS4; clear hS4
  have HW4 := Lib.hid ho4
  obtain ⟨ad4, cap4, hv4, _⟩ := ho4
  generalize decide (S4 < 0) = b4 at hv4
  generalize (digs S4.natAbs).length = l4 at hv4
  subst hv4
  have q0 := (hb4.cell (p := ⟨w.heap.size + 1 + 1, 0, none⟩) (by simp)).trans (show _ = some (.bool false) by simp [go_sem])
  have q1 := (hb4.cell (p := ⟨w.heap.size + 1 + 1, 1, none⟩) (by simp)).trans (show _ = some (.slice none 0 0) by simp [go_sem])
  have HWF := Lib.hid (wv_set2 HW4.out q0 q1 (.bool b4) (.slice ad4 l4 cap4))
  clear q0 q1
  go_wp2_with fail
  refine bodyPost_ret (by simp (maxDischargeDepth := 3) [results, Tryz.results22, go_sem, *]; try rfl) rfl ?_
  exact ⟨_, rfl, (by repeat (first | exact Below.refl _ _ | (with_reducible assumption) | refine bel_alloc ?_ _ | refine bel_drew ?_ | refine bel_drewN ?_ _ | refine Below.setCell ?_ (by dsimp only; omega) _ | refine bel_trans (by assumption) ?_)), by rw [HS4.out]; exact HWF.out⟩
set_option maxHeartbeats 4000000 in
theorem sSubWholes_any (v u : Value) (n m : Bool) (xs ys : List Int) (w : World) (hv : RW w v n xs) (hu : RW w u m ys) (hl : xs.length ≤ 1000) (hl' : ys.length ≤ 1000) :
    Calls Tryz.prog 10 #[v, u] w (RetOk (goodW n xs && goodW m ys && len4 (valW n xs - valW m ys)) (valW n xs - valW m ys) w) := by
  have hg1 := fun w' (hb : Below w.heap.size w w') => bgGood_any v n xs w' (hv.keep hb) (by omega)
  have hg2 := fun w' (hb : Below w.heap.size w w') => bgGood_any u m ys w' (hu.keep hb) (by omega)
  have hwv := fun (h : goodW n xs = true) => hv.wv h
  have hwu := fun (h : goodW m ys = true) => hu.wv h
  have hlv := fun (h : goodW n xs = true) => (good_val h).2.2
  have hlu := fun (h : goodW m ys = true) => (good_val h).2.2
  generalize valW n xs = z at *
  generalize valW m ys = y at *
  generalize goodW n xs = g1 at *
  generalize goodW m ys = g2 at *
  obtain ⟨ad, cap, rfl, _, _⟩ := hv
  obtain ⟨ad', cap', rfl, _, _⟩ := hu
  generalize xs.length = la at *
  generalize ys.length = lb at *
  have HG1 := Lib.hid hg1; have HG2 := Lib.hid hg2; have HWV := Lib.hid hwv; have HWU := Lib.hid hwu; have HLV := Lib.hid hlv; have HLU := Lib.hid hlu
  clear hg1 hg2 hwv hwu hlv hlu
  cases g1
  · go_enter Tryz.func10, Tryz.ntmps10
    go_wp2_with fail
    refine (HG1.out _ (by repeat (first | exact Below.refl _ _ | (with_reducible assumption) | refine bel_alloc ?_ _ | refine bel_drew ?_ | refine bel_drewN ?_ _ | refine Below.setCell ?_ (by dsimp only; omega) _ | refine bel_trans (by assumption) ?_))).mono ?_; rintro e w1 ⟨rfl, hb1⟩
    obtain ⟨hc1, hf1⟩ := aft hb1
    go_wp2_with fail
    refine bodyPost_ret (by simp (maxDischargeDepth := 3) [results, Tryz.results10, go_sem, *]; try rfl) rfl ?_
    exact ⟨_, rfl, (by repeat (first | exact Below.refl _ _ | (with_reducible assumption) | refine bel_alloc ?_ _ | refine bel_drew ?_ | refine bel_drewN ?_ _ | refine Below.setCell ?_ (by dsimp only; omega) _ | refine bel_trans (by assumption) ?_)), (zero_wo _ 0).wv⟩
  cases g2
  · go_enter Tryz.func10, Tryz.ntmps10
    go_wp2_with fail
    refine (HG1.out _ (by repeat (first | exact Below.refl _ _ | (with_reducible assumption) | refine bel_alloc ?_ _ | refine bel_drew ?_ | refine bel_drewN ?_ _ | refine Below.setCell ?_ (by dsimp only; omega) _ | refine bel_trans (by assumption) ?_))).mono ?_; rintro e w1 ⟨rfl, hb1⟩
    obtain ⟨hc1, hf1⟩ := aft hb1
    go_wp2_with fail
    refine (HG2.out _ (by repeat (first | exact Below.refl _ _ | (with_reducible assumption) | refine bel_alloc ?_ _ | refine bel_drew ?_ | refine bel_drewN ?_ _ | refine Below.setCell ?_ (by dsimp only; omega) _ | refine bel_trans (by assumption) ?_))).mono ?_; rintro e w2 ⟨rfl, hb2⟩
    replace hb2 := aft2 hb2 hb1; clear hb1 hc1 hf1
    obtain ⟨hc2, hf2⟩ := aft hb2
    go_wp2_with fail
    refine bodyPost_ret (by simp (maxDischargeDepth := 3) [results, Tryz.results10, go_sem, *]; try rfl) rfl ?_
    exact ⟨_, rfl, (by repeat (first | exact Below.refl _ _ | (with_reducible assumption) | refine bel_alloc ?_ _ | refine bel_drew ?_ | refine bel_drewN ?_ _ | refine Below.setCell ?_ (by dsimp only; omega) _ | refine bel_trans (by assumption) ?_)), (zero_wo _ 0).wv⟩
  rw [Bool.true_and, Bool.true_and]
  have hz := HLV.out rfl
  have hy := HLU.out rfl
  have hop := fun w' (hb : Below w.heap.size w w') => bgSub_any _ _ z y w' ((HWV.out rfl).keep hb) ((HWU.out rfl).keep hb) (by omega) (by omega)
  obtain ⟨S, hS⟩ : ∃ S, z - y = S := ⟨_, rfl⟩
  rw [hS] at hop ⊢
  have hsl : (digs S.natAbs).length ≤ 1000 := by rw [← hS]; exact sub_len hz hy
  have HOP := Lib.hid hop; have HSL := Lib.hid hsl
  clear hop hsl hS HWV HWU HLV HLU
  go_enter Tryz.func10, Tryz.ntmps10
  go_wp2_with fail
  refine (HG1.out _ (by repeat (first | exact Below.refl _ _ | (with_reducible assumption) | refine bel_alloc ?_ _ | refine bel_drew ?_ | refine bel_drewN ?_ _ | refine Below.setCell ?_ (by dsimp only; omega) _ | refine bel_trans (by assumption) ?_))).mono ?_; rintro e w1 ⟨rfl, hb1⟩
  obtain ⟨hc1, hf1⟩ := aft hb1
  go_wp2_with fail
  refine (HG2.out _ (by repeat (first | exact Below.refl _ _ | (with_reducible assumption) | refine bel_alloc ?_ _ | refine bel_drew ?_ | refine bel_drewN ?_ _ | refine Below.setCell ?_ (by dsimp only; omega) _ | refine bel_trans (by assumption) ?_))).mono ?_; rintro e w2 ⟨rfl, hb2⟩
  replace hb2 := aft2 hb2 hb1; clear hb1 hc1 hf1
  obtain ⟨hc2, hf2⟩ := aft hb2
  go_wp2_with fail
  refine (HOP.out _ (by repeat (first | exact Below.refl _ _ | (with_reducible assumption) | refine bel_alloc ?_ _ | refine bel_drew ?_ | refine bel_drewN ?_ _ | refine Below.setCell ?_ (by dsimp only; omega) _ | refine bel_trans (by assumption) ?_))).mono ?_; rintro e w3 ⟨v3, rfl, hb3, ho3⟩
  replace hb3 := aft2 hb3 hb2; clear hb2 hc2 hf2
  have HWS := Lib.hid ho3.wv
  obtain ⟨ad3, cap3, hv3, _⟩ := ho3
  generalize decide (S < 0) = b3 at hv3
  generalize (digs S.natAbs).length = l3 at hv3
  subst hv3
  obtain ⟨hc3, hf3⟩ := aft hb3
  go_wp2_with fail
  refine (retok_of (bgIf_any _ S _ HWS.out (by have := HSL.out; omega))).mono ?_; rintro e w4 ⟨v4, rfl, hb4, ho4⟩
  replace hb4 := aft2 hb4 hb3; clear hb3 hc3 hf3
  obtain ⟨hc4, hf4⟩ := aft hb4
  generalize len4 S = ok at *
  obtain ⟨S4, hS4⟩ : ∃ S4, (if ok = true then S else 0) = S4 := ⟨_, rfl⟩
  rw [hS4] at ho4
  have HS4 := Lib.hid hS4; clear hS4
  have HW4 := Lib.hid ho4
  obtain ⟨ad4, cap4, hv4, _⟩ := ho4
  generalize decide (S4 < 0) = b4 at hv4
  generalize (digs S4.natAbs).length = l4 at hv4
  subst hv4
  have q0 := (hb4.cell (p := ⟨w.heap.size + 1 + 1, 0, none⟩) (by simp)).trans (show _ = some (.bool false) by simp [go_sem])
  have q1 := (hb4.cell (p := ⟨w.heap.size + 1 + 1, 1, none⟩) (by simp)).trans (show _ = some (.slice none 0 0) by simp [go_sem])
  have HWF := Lib.hid (wv_set2 HW4.out q0 q1 (.bool b4) (.slice ad4 l4 cap4))
  clear q0 q1
  go_wp2_with fail
  refine bodyPost_ret (by simp (maxDischargeDepth := 3) [results, Tryz.results10, go_sem, *]; try rfl) rfl ?_
  exact ⟨_, rfl, (by repeat (first | exact Below.refl _ _ | (with_reducible assumption) | refine bel_alloc ?_ _ | refine bel_drew ?_ | refine bel_drewN ?_ _ | refine Below.setCell ?_ (by dsimp only; omega) _ | refine bel_trans (by assumption) ?_)), by rw [HS4.out]; exact HWF.out⟩
set_option maxHeartbeats 4000000 in
theorem iSubWholes_any (v u : Value) (n m : Bool) (xs ys : List Int) (w : World) (hv : RW w v n xs) (hu : RW w u m ys) (hl : xs.length ≤ 1000) (hl' : ys.length ≤ 1000) :
    Calls Tryz.prog 9 #[v, u] w (RetOk (goodW n xs && goodW m ys && len4 (valW n xs - valW m ys)) (valW n xs - valW m ys) w) := by
  have hg1 := fun w' (hb : Below w.heap.size w w') => isWhole_any v n xs w' (hv.keep hb) (by omega)
  have hg2 := fun w' (hb : Below w.heap.size w w') => isWhole_any u m ys w' (hu.keep hb) (by omega)
  have hwv := fun (h : goodW n xs = true) => hv.wv h
  have hwu := fun (h : goodW m ys = true) => hu.wv h
  have hlv := fun (h : goodW n xs = true) => (good_val h).2.2
  have hlu := fun (h : goodW m ys = true) => (good_val h).2.2
  generalize valW n xs = z at *
  generalize valW m ys = y at *
  generalize goodW n xs = g1 at *
  generalize goodW m ys = g2 at *
  obtain ⟨ad, cap, rfl, _, _⟩ := hv
  obtain ⟨ad', cap', rfl, _, _⟩ := hu
  generalize xs.length = la at *
  generalize ys.length = lb at *
  have HG1 := Lib.hid hg1; have HG2 := Lib.hid hg2; have HWV := Lib.hid hwv; have HWU := Lib.hid hwu; have HLV := Lib.hid hlv; have HLU := Lib.hid hlu
  clear hg1 hg2 hwv hwu hlv hlu
  cases g1
  · go_enter Tryz.func9, Tryz.ntmps9
    go_wp2_with fail
    refine (HG1.out _ (by repeat (first | exact Below.refl _ _ | (with_reducible assumption) | refine bel_alloc ?_ _ | refine bel_drew ?_ | refine bel_drewN ?_ _ | refine Below.setCell ?_ (by dsimp only; omega) _ | refine bel_trans (by assumption) ?_))).mono ?_; rintro e w1 ⟨rfl, hb1⟩
    obtain ⟨hc1, hf1⟩ := aft hb1
    go_wp2_with fail
    refine bodyPost_ret (by simp (maxDischargeDepth := 3) [results, Tryz.results9, go_sem, *]; try rfl) rfl ?_
    exact ⟨_, rfl, (by repeat (first | exact Below.refl _ _ | (with_reducible assumption) | refine bel_alloc ?_ _ | refine bel_drew ?_ | refine bel_drewN ?_ _ | refine Below.setCell ?_ (by dsimp only; omega) _ | refine bel_trans (by assumption) ?_)), (zero_wo _ 0).wv⟩
  cases g2
  · go_enter Tryz.func9, Tryz.ntmps9
    go_wp2_with fail
    refine (HG1.out _ (by repeat (first | exact Below.refl _ _ | (with_reducible assumption) | refine bel_alloc ?_ _ | refine bel_drew ?_ | refine bel_drewN ?_ _ | refine Below.setCell ?_ (by dsimp only; omega) _ | refine bel_trans (by assumption) ?_))).mono ?_; rintro e w1 ⟨rfl, hb1⟩
    obtain ⟨hc1, hf1⟩ := aft hb1
    go_wp2_with fail
    refine (HG2.out _ (by repeat (first | exact Below.refl _ _ | (with_reducible assumption) | refine bel_alloc ?_ _ | refine bel_drew ?_ | refine bel_drewN ?_ _ | refine Below.setCell ?_ (by dsimp only; omega) _ | refine bel_trans (by assumption) ?_))).mono ?_; rintro e w2 ⟨rfl, hb2⟩
    replace hb2 := aft2 hb2 hb1; clear hb1 hc1 hf1
    obtain ⟨hc2, hf2⟩ := aft hb2
    go_wp2_with fail
    refine bodyPost_ret (by simp (maxDischargeDepth := 3) [results, Tryz.results9, go_sem, *]; try rfl) rfl ?_
    exact ⟨_, rfl, (by repeat (first | exact Below.refl _ _ | (with_reducible assumption) | refine bel_alloc ?_ _ | refine bel_drew ?_ | refine bel_drewN ?_ _ | refine Below.setCell ?_ (by dsimp only; omega) _ | refine bel_trans (by assumption) ?_)), (zero_wo _ 0).wv⟩
  rw [Bool.true_and, Bool.true_and]
  have hz := HLV.out rfl
  have hy := HLU.out rfl
  have hneg := fun w' (hb : Below w.heap.size w w') => negated_any _ y w' ((HWU.out rfl).keep hb) (by omega)
  have hadd := fun u' w' (hb : Below w.heap.size w w') (h : WV w' u' (-y)) => addWholes_any _ u' z (-y) w' ((HWV.out rfl).keep hb) h (by omega) (by rw [Int.natAbs_neg]; omega)
  obtain ⟨S, hS⟩ : ∃ S, z - y = S := ⟨_, rfl⟩
  rw [show z + -y = S by omega] at hadd
  rw [hS]
  have hsl : (digs S.natAbs).length ≤ 1000 := by rw [← hS]; exact sub_len hz hy
  have HNEG := Lib.hid hneg; have HADD := Lib.hid hadd; have HSL := Lib.hid hsl
  clear hneg hadd hsl hS HWV HWU HLV HLU
  go_enter Tryz.func9, Tryz.ntmps9
  go_wp2_with fail
  refine (HG1.out _ (by repeat (first | exact Below.refl _ _ | (with_reducible assumption) | refine bel_alloc ?_ _ | refine bel_drew ?_ | refine bel_drewN ?_ _ | refine Below.setCell ?_ (by dsimp only; omega) _ | refine bel_trans (by assumption) ?_))).mono ?_; rintro e w1 ⟨rfl, hb1⟩
  obtain ⟨hc1, hf1⟩ := aft hb1
  go_wp2_with fail
  refine (HG2.out _ (by repeat (first | exact Below.refl _ _ | (with_reducible assumption) | refine bel_alloc ?_ _ | refine bel_drew ?_ | refine bel_drewN ?_ _ | refine Below.setCell ?_ (by dsimp only; omega) _ | refine bel_trans (by assumption) ?_))).mono ?_; rintro e w2 ⟨rfl, hb2⟩
  replace hb2 := aft2 hb2 hb1; clear hb1 hc1 hf1
  obtain ⟨hc2, hf2⟩ := aft hb2
  go_wp2_with fail
  have hbw2 : Below w.heap.size w w2 := (by repeat (first | exact Below.refl _ _ | (with_reducible assumption) | refine bel_alloc ?_ _ | refine bel_drew ?_ | refine bel_drewN ?_ _ | refine Below.setCell ?_ (by dsimp only; omega) _ | refine bel_trans (by assumption) ?_))
  have q0 := (hb2.cell (p := ⟨w.heap.size + 1 + 1, 0, none⟩) (by simp)).trans (show _ = some (.bool false) by simp [go_sem])
  have q1 := (hb2.cell (p := ⟨w.heap.size + 1 + 1, 1, none⟩) (by simp)).trans (show _ = some (.slice none 0 0) by simp [go_sem])
  have q2 := (hb2.frozen (p := ⟨w.heap.size + 1 + 1, 0, none⟩) (by simp)).trans (show _ = false by simp [go_sem])
  have q3 := (hb2.frozen (p := ⟨w.heap.size + 1 + 1, 1, none⟩) (by simp)).trans (show _ = false by simp [go_sem])
  have p0 := (hb2.cell (p := ⟨w.heap.size, 0, none⟩) (by simp)).trans (show _ = some (.bool n) by simp [go_sem])
  have p1 := (hb2.cell (p := ⟨w.heap.size, 1, none⟩) (by simp)).trans (show _ = some (.slice ad la cap) by simp [go_sem])
  have s0 := (hb2.cell (p := ⟨w.heap.size + 1, 0, none⟩) (by simp)).trans (show _ = some (.bool m) by simp [go_sem])
  have s1 := (hb2.cell (p := ⟨w.heap.size + 1, 1, none⟩) (by simp)).trans (show _ = some (.slice ad' lb cap') by simp [go_sem])
  have hz2 : w.heap.size + 2 < w2.heap.size := by have := hb2.size; simp at this; omega
  clear hc2 hf2 hb2 HG1 HG2
  obtain ⟨B0, hB0⟩ : ∃ B0, w.heap.size = B0 := ⟨_, rfl⟩
  have hwB : w.heap.size ≤ B0 + 2 := by omega
  rw [hB0] at q0 q1 q2 q3 p0 p1 s0 s1 hz2 ⊢
  have hm2 := fun w' (hb : Below (B0 + 2) w2 w') => HNEG.out w' (hbw2.trans (hb.mono hwB))
  have hm3 := fun u' w' (hb : Below (B0 + 2) w2 w') => HADD.out u' w' (hbw2.trans (hb.mono hwB))
  have HN2 := Lib.hid hm2; have HA2 := Lib.hid hm3; clear hm2 hm3 HNEG HADD
  go_region_held3 (fun w' => Below (B0 + 2) w2 w' ∧ B0 + 2 < w'.heap.size ∧ w'.cell? ⟨B0, 0, none⟩ = some (.bool n) ∧ w'.cell? ⟨B0, 1, none⟩ = some (.slice ad la cap) ∧ w'.cell? ⟨B0 + 1, 0, none⟩ = some (.bool m) ∧ w'.cell? ⟨B0 + 1, 1, none⟩ = some (.slice ad' lb cap') ∧ (∃ q9 : Bool, w'.cell? ⟨B0 + 1 + 1, 0, none⟩ = some (.bool q9)) ∧ (∃ (q1 : Option Addr) (q2 q3 : Nat), w'.cell? ⟨B0 + 1 + 1, 1, none⟩ = some (.slice q1 q2 q3)) ∧ w'.frozen? ⟨B0 + 1 + 1, 0, none⟩ = false ∧ w'.frozen? ⟨B0 + 1 + 1, 1, none⟩ = false) ((first | exact kt_start hz2 p0 p1 s0 s1 q0 q1 q2 q3 | exact kt_call (by assumption) (by assumption) | exact kt_store (by assumption))) ((first | (go_at_call 55; refine (HN2.out _ (And.left (by assumption))).mono ?_; rintro e w4 ⟨u1, rfl, hb, ho⟩; have HO := Lib.hid ho.wv; obtain ⟨ad1, cap1, hu1, _⟩ := ho; generalize decide (-y < 0) = b9 at hu1; generalize (digs (-y).natAbs).length = l9 at hu1; subst hu1) | (go_at_call 54; refine (HA2.out _ _ (And.left (by assumption)) HO.out).mono ?_; rintro e w5 ⟨v3, rfl, hb5, hv5⟩; have HWS := Lib.hid hv5.wv; obtain ⟨ad3, cap3, hv3', _⟩ := hv5; generalize decide (S < 0) = b3 at hv3'; generalize (digs S.natAbs).length = l3 at hv3'; subst hv3') | (go_at_call 53; refine (retok_of (wholeResult_any _ S _ HWS.out (by have := HSL.out; omega))).mono ?_; rintro e w6 ⟨v4, rfl, hb6, ho4⟩; generalize len4 S = ok at *; obtain ⟨S4, hS4⟩ : ∃ S4, (if ok = true then S else 0) = S4 := ⟨_, rfl⟩; rw [hS4] at ho4; have HS4 := Lib.hid hS4; clear hS4; obtain ⟨⟨x0, hx0⟩, x1, x2, x3, hx1⟩ := kt_cells hb6 (by assumption); have HW4 := Lib.hid ho4; obtain ⟨ad4, cap4, hv4, _⟩ := ho4; generalize decide (S4 < 0) = b4 at hv4; generalize (digs S4.natAbs).length = l4 at hv4; subst hv4)))
  all_goals
    rename_i hHeld
    have hbf := hbw2.trans (hHeld.1.mono hwB)
    have HWF := Lib.hid (wv_set2 HW4.out hx0 hx1 (.bool b4) (.slice ad4 l4 cap4))
    clear hHeld
    go_wp2_with fail
    refine bodyPost_ret (by simp (maxDischargeDepth := 3) [results, Tryz.results9, go_sem, *]; try rfl) rfl ?_
    exact ⟨_, rfl, hbf, by rw [HS4.out]; exact HWF.out⟩
end Go.Proofs.YtakilincclnpdaaGreatDoor
namespace Go.Proofs.YtakilincclnpdaaGreatDoor
open Go.RowKit

theorem iIsWhole_any (v : Value) (n : Bool) (xs : List Int) (w : World) (hv : RW w v n xs) (hl : xs.length ≤ 1000) :
    Calls Tryz.prog 17 #[v] w (Ret (.bool (goodW n xs)) w) := by
  have hg := fun w' (hb : Below w.heap.size w w') => isWhole_any v n xs w' (hv.keep hb) (by omega)
  generalize goodW n xs = g at *
  obtain ⟨ad, cap, rfl, _, _⟩ := hv
  have HG := Lib.hid hg; clear hg
  go_enter Tryz.func17, Tryz.ntmps17
  go_wp2_with fail
  refine (HG.out _ (by repeat (first | exact Below.refl _ _ | (with_reducible assumption) | refine bel_alloc ?_ _ | refine bel_drew ?_ | refine bel_drewN ?_ _ | refine Below.setCell ?_ (by dsimp only; omega) _ | refine bel_trans (by assumption) ?_))).mono ?_; rintro e w1 ⟨rfl, hb1⟩
  obtain ⟨hc1, hf1⟩ := aft hb1
  go_wp2_with fail
  go_ret
  exact ret_eq rfl (by repeat (first | exact Below.refl _ _ | (with_reducible assumption) | refine bel_alloc ?_ _ | refine bel_drew ?_ | refine bel_drewN ?_ _ | refine Below.setCell ?_ (by dsimp only; omega) _ | refine bel_trans (by assumption) ?_))
set_option maxHeartbeats 2000000 in
theorem pSame_yes (v u : Value) (z : Int) (w : World) (hv : WV w v z) (hu : WV w u z) :
    Calls Tryz.prog 11 #[v, u] w (Ret (.bool true) w) := by
  obtain ⟨ad, cap, rfl, hr, _⟩ := hv
  obtain ⟨ad', cap', rfl, hr', _⟩ := hu
  have hs := fun w' (hb : Below w.heap.size w w') => sameInts_any _ _ _ _ w' (hr.keep hb) (hr'.keep hb)
  rw [decide_eq_true rfl] at hs
  have HS := Lib.hid hs; clear hs hr hr'
  generalize decide (z < 0) = b
  generalize (digs z.natAbs).length = l at *
  have hbb : (b == b) = true := by cases b <;> rfl
  go_enter Tryz.func11, Tryz.ntmps11
  go_wp2_with fail
  refine (HS.out _ (by repeat (first | exact Below.refl _ _ | (with_reducible assumption) | refine bel_alloc ?_ _ | refine bel_drew ?_ | refine bel_drewN ?_ _ | refine Below.setCell ?_ (by dsimp only; omega) _ | refine bel_trans (by assumption) ?_))).mono ?_; rintro e w1 ⟨rfl, hb1⟩
  obtain ⟨hc1, hf1⟩ := aft hb1
  go_wp2_with fail
  go_ret
  exact ret_eq rfl (by repeat (first | exact Below.refl _ _ | (with_reducible assumption) | refine bel_alloc ?_ _ | refine bel_drew ?_ | refine bel_drewN ?_ _ | refine Below.setCell ?_ (by dsimp only; omega) _ | refine bel_trans (by assumption) ?_))
set_option maxHeartbeats 2000000 in
theorem sWholeOf_any (k : Int) (w : World) :
    Calls Tryz.prog 31 #[.int .i64 k] w (RetOk (inB k (-1000000000000000) 1000000000000000) k w) := by
  cases hin : inB k (-1000000000000000) 1000000000000000
  · go_enter Tryz.func31, Tryz.ntmps31
    go_wp2_with (go_at_call 68; refine (l1In_any _ _ _ _).mono ?_; rintro e w' ⟨rfl, rfl⟩)
    refine bodyPost_ret (by simp (maxDischargeDepth := 3) [results, Tryz.results31, go_sem, *]; try rfl) rfl ?_
    exact ⟨_, rfl, (by repeat (first | exact Below.refl _ _ | (with_reducible assumption) | refine bel_alloc ?_ _ | refine bel_drew ?_ | refine bel_drewN ?_ _ | refine Below.setCell ?_ (by dsimp only; omega) _ | refine bel_trans (by assumption) ?_)), (zero_wo _ 0).wv⟩
  · obtain ⟨k0, k1⟩ := inB_true.1 hin
    have hof := fun w => bgOf_any k w (by omega) (by omega)
    have HOF := Lib.hid hof; clear hof
    go_enter Tryz.func31, Tryz.ntmps31
    go_wp2_with (go_at_call 68; refine (l1In_any _ _ _ _).mono ?_; rintro e w' ⟨rfl, rfl⟩)
    refine (HOF.out _).mono ?_; rintro e w1 ⟨v, rfl, hb1, ho⟩
    have HV := Lib.hid ho
    obtain ⟨ad1, cap1, hv, _⟩ := ho
    generalize decide (k < 0) = b1 at hv
    generalize (digs k.natAbs).length = l1 at hv
    subst hv
    obtain ⟨hc1, hf1⟩ := aft hb1
    go_wp2_with fail
    refine bodyPost_ret (by simp (maxDischargeDepth := 3) [results, Tryz.results31, go_sem, *]; try rfl) rfl ?_
    exact ⟨_, rfl, (by repeat (first | exact Below.refl _ _ | (with_reducible assumption) | refine bel_alloc ?_ _ | refine bel_drew ?_ | refine bel_drewN ?_ _ | refine Below.setCell ?_ (by dsimp only; omega) _ | refine bel_trans (by assumption) ?_)), by rw [if_pos rfl]; exact ((HV.out.setFar (by simp) _ _).setFar (by simp) _ _).wv⟩
/-- returned a quotient, a rest and whether there is one. -/
def RetDiv (ok : Bool) (q r : Int) (w : World) (e : Ending) (w' : World) : Prop := ∃ v, e = .returned (.tuple #[v, .int .i64 (if ok = true then r else 0), .bool ok]) ∧ Below w.heap.size w w' ∧ WV w' v (if ok = true then q else 0)
theorem bgSmall_any (k : Int) (w : World) : Calls Tryz.prog 74 #[.int .i64 k] w fun e w' => e = .returned (.bool (inB k 1 1000000000000)) ∧ w = w' := by
  go_enter Tryz.func74, Tryz.ntmps74
  go_wp2_with (go_at_call 68; refine (l1In_any _ _ _ _).mono ?_; rintro e w' ⟨rfl, rfl⟩)
  go_ret
  exact ⟨rfl, rfl⟩
theorem div_len {z k : Int} (h : (digs z.natAbs).length ≤ 400) : (digs (z / k).natAbs).length ≤ 400 := Nat.le_trans (digs_mono (Int.natAbs_ediv_le_natAbs z k)) h
set_option maxHeartbeats 4000000 in
theorem iDivideWhole_any (v : Value) (n : Bool) (xs : List Int) (k : Int) (w : World) (hv : RW w v n xs) (hl : xs.length ≤ 1000) :
    Calls Tryz.prog 26 #[v, .int .i64 k] w (RetDiv (goodW n xs && inB k 1 1000000000000) (valW n xs / k) (valW n xs % k) w) := by
  have hg := fun w' (hb : Below w.heap.size w w') => isWhole_any v n xs w' (hv.keep hb) (by omega)
  have hwv := fun (h : goodW n xs = true) => hv.wv h
  have hlv := fun (h : goodW n xs = true) => (good_val h).2.2
  generalize valW n xs = z at *
  generalize goodW n xs = g at *
  obtain ⟨ad, cap, rfl, _, _⟩ := hv
  generalize xs.length = la at *
  have HG := Lib.hid hg; clear hg
  cases g
  · clear hwv hlv
    go_enter Tryz.func26, Tryz.ntmps26
    go_wp2_with fail
    refine (HG.out _ (by repeat (first | exact Below.refl _ _ | (with_reducible assumption) | refine bel_alloc ?_ _ | refine bel_drew ?_ | refine bel_drewN ?_ _ | refine Below.setCell ?_ (by dsimp only; omega) _ | refine bel_trans (by assumption) ?_))).mono ?_; rintro e w1 ⟨rfl, hb1⟩
    obtain ⟨hc1, hf1⟩ := aft hb1
    go_wp2_with fail
    refine bodyPost_ret (by simp (maxDischargeDepth := 3) [results, Tryz.results26, go_sem, *]; try rfl) rfl ?_
    exact ⟨_, rfl, (by repeat (first | exact Below.refl _ _ | (with_reducible assumption) | refine bel_alloc ?_ _ | refine bel_drew ?_ | refine bel_drewN ?_ _ | refine Below.setCell ?_ (by dsimp only; omega) _ | refine bel_trans (by assumption) ?_)), (zero_wo _ 0).wv⟩
  cases hin : inB k 1 1000000000000
  · clear hwv hlv
    go_enter Tryz.func26, Tryz.ntmps26
    go_wp2_with fail
    refine (HG.out _ (by repeat (first | exact Below.refl _ _ | (with_reducible assumption) | refine bel_alloc ?_ _ | refine bel_drew ?_ | refine bel_drewN ?_ _ | refine Below.setCell ?_ (by dsimp only; omega) _ | refine bel_trans (by assumption) ?_))).mono ?_; rintro e w1 ⟨rfl, hb1⟩
    obtain ⟨hc1, hf1⟩ := aft hb1
    go_wp2_with (go_at_call 66; refine (inside_any _ _ _ _).mono ?_; rintro e w' ⟨rfl, rfl⟩)
    refine bodyPost_ret (by simp (maxDischargeDepth := 3) [results, Tryz.results26, go_sem, *]; try rfl) rfl ?_
    exact ⟨_, rfl, (by repeat (first | exact Below.refl _ _ | (with_reducible assumption) | refine bel_alloc ?_ _ | refine bel_drew ?_ | refine bel_drewN ?_ _ | refine Below.setCell ?_ (by dsimp only; omega) _ | refine bel_trans (by assumption) ?_)), (zero_wo _ 0).wv⟩
  obtain ⟨k0, k1⟩ := inB_true.1 hin
  have hdv := fun w' (hb : Below w.heap.size w w') => divWhole_any _ z k w' ((hwv rfl).keep hb) (by have := hlv rfl; omega) k0 k1
  generalize z / k = q at hdv ⊢
  generalize z % k = r at hdv ⊢
  have HDV := Lib.hid hdv; clear hdv hwv hlv
  go_enter Tryz.func26, Tryz.ntmps26
  go_wp2_with fail
  refine (HG.out _ (by repeat (first | exact Below.refl _ _ | (with_reducible assumption) | refine bel_alloc ?_ _ | refine bel_drew ?_ | refine bel_drewN ?_ _ | refine Below.setCell ?_ (by dsimp only; omega) _ | refine bel_trans (by assumption) ?_))).mono ?_; rintro e w1 ⟨rfl, hb1⟩
  obtain ⟨hc1, hf1⟩ := aft hb1
  go_wp2_with (go_at_call 66; refine (inside_any _ _ _ _).mono ?_; rintro e w' ⟨rfl, rfl⟩)
  refine (HDV.out _ (by repeat (first | exact Below.refl _ _ | (with_reducible assumption) | refine bel_alloc ?_ _ | refine bel_drew ?_ | refine bel_drewN ?_ _ | refine Below.setCell ?_ (by dsimp only; omega) _ | refine bel_trans (by assumption) ?_))).mono ?_; rintro e w2 ⟨v2, rfl, hb2, ho⟩
  have hz1 := hb1.size
  replace hb2 := aft2 hb2 hb1; clear hb1 hc1 hf1
  have HV := Lib.hid ho
  obtain ⟨ad1, cap1, hv1, _⟩ := ho
  generalize decide (q < 0) = b1 at hv1
  generalize (digs q.natAbs).length = l1 at hv1
  subst hv1
  obtain ⟨hc2, hf2, hs1, hs2, hs3, hs4⟩ := aftz hb2
  simp at hz1
  go_wp2_with fail
  refine bodyPost_ret (by simp (maxDischargeDepth := 3) [results, Tryz.results26, go_sem, *]; try rfl) rfl ?_
  exact ⟨_, rfl, (by repeat (first | exact Below.refl _ _ | (with_reducible assumption) | refine bel_alloc ?_ _ | refine bel_drew ?_ | refine bel_drewN ?_ _ | refine Below.setCell ?_ (by dsimp only; omega) _ | refine bel_trans (by assumption) ?_)), by show WV _ _ q; exact (((HV.out.setFar (by omega) _ _).setFar (by omega) _ _).keep (below_allocC _ _)).wv⟩
end Go.Proofs.YtakilincclnpdaaGreatDoor
