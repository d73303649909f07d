/- Px: contracts: the points with a given x, both sides. No conditions. -/
import Derived.Test.YtnhlcgbknkdbiaaMk
import Derived.Test.YtnhlcgbknkdbiaaPt
import Derived.Test.YtnhlcgbknkdbiaaEr
import Derived.Test.YtnhlcgbknkdbiaaFr
/- Mp: rows of points: what a walk is told of one; contracts of the helpers that compare, mark and look at them. No conditions. -/


namespace Go.Proofs.Ytnhlcgbknkdbiaa
open Go.RowKit
set_option linter.unusedVariables false

/-- the call's own row of points, its numbers one after another. -/
def OwnP (w : World) (B : Nat) (v : Value) (xs : List Int) : Prop := ∃ n, xs.length = 3 * n ∧ w.ownsRow B 41 3 v n (xs.map (Value.int .i64))
/-- reads as the numbers xs, its block below n. -/
def RdPN (n : Nat) (w : World) (v : Value) (xs : List Int) : Prop :=
  n ≤ w.heap.size ∧ ∃ (ad : Option Addr) (m cap : Nat), v = .slice ad m cap ∧ xs.length = 3 * m ∧ m ≤ maxLen ∧
    (0 < m → ∃ b off, ad = some ⟨b, off, none⟩ ∧ b < n ∧ ∀ i, i < xs.length → w.cell? ⟨b, off + i, none⟩ = some (.int .i64 (xs.getD i 0)))
theorem RdPN.step {n m : Nat} {w w' : World} {v : Value} {xs : List Int} (h : RdPN n w v xs) (hb : Below m w w') (hle : n ≤ m) : RdPN n w' v xs := by
  obtain ⟨h0, ad, l, cap, hv, hl, hm, hc⟩ := h
  refine ⟨Nat.le_trans h0 hb.size, ad, l, cap, hv, hl, hm, fun hp => ?_⟩
  obtain ⟨b, off, ha, hlt, hcell⟩ := hc hp
  exact ⟨b, off, ha, hlt, fun i hi => (hb.cell (p := ⟨b, off + i, none⟩) (Nat.lt_of_lt_of_le hlt hle)).trans (hcell i hi)⟩
theorem RdPN.keep {n : Nat} {w w' : World} {v : Value} {xs : List Int} (h : RdPN n w v xs) (hb : Below w.heap.size w w') : RdPN n w' v xs := h.step hb h.1
theorem OwnP.le {w : World} {B B' : Nat} {v : Value} {xs : List Int} (h : OwnP w B v xs) (hb : B' ≤ B) : OwnP w B' v xs := by
  obtain ⟨n, h1, h2⟩ := h
  exact ⟨n, h1, Joins.ownsRow_le h2 hb⟩
theorem OwnP.nil (w : World) (B : Nat) : OwnP w B (.slice none 0 0) [] := ⟨0, rfl, World.ownsRow_nil _ _ _ _⟩
theorem OwnP.keep {w w' : World} {B : Nat} {v : Value} {xs : List Int} (h : OwnP w B v xs) (hb : Below w.heap.size w w') : OwnP w' B v xs := by
  obtain ⟨n, h0, h1, h2⟩ := h
  refine ⟨n, h0, h1, ?_⟩
  rcases h2 with h2 | ⟨g, cap, cur, hv, hg, hh, r⟩
  · exact .inl h2
  · have hlt : g < w.heap.size := by
      rcases Nat.lt_or_ge g w.heap.size with h' | h'
      · exact h'
      · rw [Array.getElem?_eq_none h'] at hh; cases hh
    exact .inr ⟨g, cap, cur, hv, hg, (hb.block g hlt).trans hh, r⟩
theorem OwnP.shape {w : World} {B : Nat} {v : Value} {xs : List Int} (h : OwnP w B v xs) :
    (v = .slice none 0 0 ∧ xs = []) ∨ ∃ g n cap, v = .slice (some ⟨g, 0, none⟩) n cap ∧ xs.length = 3 * n ∧ B ≤ g ∧ g < w.heap.size ∧ n ≤ cap ∧ cap ≤ maxLen ∧ w.ownsRow B 41 3 (.slice (some ⟨g, 0, none⟩) n cap) n (xs.map (Value.int .i64)) := by
  obtain ⟨n, h0, h1, h2⟩ := h
  rcases h2 with ⟨h3, h4⟩ | ⟨g, cap, cur, hv, hg, hh, hn, hm, hs⟩
  · exact .inl ⟨h3, List.eq_nil_of_length_eq_zero (by omega)⟩
  · have hlt : g < w.heap.size := by
      rcases Nat.lt_or_ge g w.heap.size with h' | h'
      · exact h'
      · rw [Array.getElem?_eq_none h'] at hh; cases hh
    refine .inr ⟨g, n, cap, hv, h0, hg, hlt, hn, hm, ?_⟩
    rw [← hv]
    exact ⟨h1, .inr ⟨g, cap, cur, hv, hg, hh, hn, hm, hs⟩⟩
theorem OwnP.rd {w : World} {B : Nat} {v : Value} {xs : List Int} (h : OwnP w B v xs) : RdPN w.heap.size w v xs := by
  rcases h.shape with ⟨rfl, rfl⟩ | ⟨g, n, cap, rfl, h0, hg, hlt, hn, hm, ho⟩
  · exact ⟨Nat.le_refl _, none, 0, 0, rfl, rfl, Nat.zero_le _, fun h => by omega⟩
  · refine ⟨Nat.le_refl _, _, n, cap, rfl, h0, by omega, fun _ => ⟨g, 0, rfl, hlt, fun i hi => ?_⟩⟩
    rw [Nat.zero_add, World.ownsRow.cellAt ho i (by omega), getD_map_int xs i hi]
/-- the call's own points are written, and nothing besides. -/
def MarkedP (v : Value) (m : Nat) (k : Int) (B : Nat) (w : World) (e : Ending) (w' : World) : Prop :=
  e = .returned (.int .i64 (k + m)) ∧ w.grownBy w' v.ownBlock ∧ OwnP w' B v (marks k m)
theorem OwnP.lt {w : World} {B : Nat} {v : Value} {xs : List Int} (h : OwnP w B v xs) {k : Nat} (hk : v.ownBlock = some k) : B ≤ k := by
  obtain ⟨n, _, h2⟩ := h
  exact (World.ownsRow.lt h2 k hk).1
theorem MarkedP.below {v : Value} {B m : Nat} {w w' : World} {xs : List Int} (hg : w.grownBy w' v.ownBlock) (ho : OwnP w B v xs) (hm : m ≤ B) (hs : m ≤ w.heap.size) : Below m w w' :=
  (Below.refl m w).grown hg hs (fun k hk => Nat.le_trans hm (ho.lt hk))
theorem mark_set3 (k : Int) (xs : List Int) (j : Nat) (hj : j * 3 + 2 < xs.length) :
    ((((marks k (j * 3) ++ xs.drop (j * 3)).map (Value.int .i64)).set (j * 3) (.int .i64 (k + 3 * (j : Int)))).set (j * 3 + 1) (.int .i64 (k + 3 * (j : Int) + 1))).set (j * 3 + 2) (.int .i64 (k + 3 * (j : Int) + 1 + 1)) = (marks k ((j + 1) * 3) ++ xs.drop ((j + 1) * 3)).map (Value.int .i64) := by
  have e0 : k + 3 * (j : Int) = k + ((j * 3 : Nat) : Int) := by omega
  have e1 : k + 3 * (j : Int) + 1 = k + ((j * 3 + 1 : Nat) : Int) := by omega
  have e2 : k + 3 * (j : Int) + 1 + 1 = k + ((j * 3 + 2 : Nat) : Int) := by omega
  rw [e2, e1, e0, mark_set k xs (j * 3) (by omega), mark_set k xs (j * 3 + 1) (by omega), mark_set k xs (j * 3 + 2) (by omega), show (j + 1) * 3 = j * 3 + 2 + 1 by omega]
end Go.Proofs.Ytnhlcgbknkdbiaa
namespace Go.Proofs.Ytnhlcgbknkdbiaa
open Go.RowKit
set_option linter.unusedVariables false

/-- returned the call's own points and a truth value. -/
def RetPx (xs : List Int) (ok : Bool) (w : World) (e : Ending) (w' : World) : Prop := ∃ v, e = .returned (.tuple #[v, .bool ok]) ∧ Below w.heap.size w w' ∧ OwnP w' w.heap.size v xs
theorem retPx_nil {w w' : World} {ok : Bool} (h : Below w.heap.size w w') : RetPx [] ok w (.returned (.tuple #[.slice none 0 0, .bool ok])) w' := ⟨_, rfl, h, OwnP.nil _ _⟩
/-- the points with an x and an e, as numbers. -/
inductive AtX (a b x e : Int) : List Int → Prop
  | neg (h : valI a b x e < 0) : AtX a b x e []
  | no (k : Int) (h : 0 ≤ valI a b x e) (k0 : 0 ≤ k) (h1 : k * k ≤ valI a b x e) (h2 : valI a b x e < (k + 1) * (k + 1)) (h3 : k * k ≠ valI a b x e) : AtX a b x e []
  | zero (h : valI a b x e = 0) : AtX a b x e [x, 0, e]
  | two (k : Int) (k0 : 1 ≤ k) (h : k * k = valI a b x e) : AtX a b x e [x, -k, e, x, k, e]
theorem atX_ex (a b x e : Int) : ∃ l, AtX a b x e l := by
  rcases Int.lt_or_le (valI a b x e) 0 with h | h
  · exact ⟨_, .neg h⟩
  · obtain ⟨k, k0, h1, h2⟩ := root_exI h
    by_cases h3 : k * k = valI a b x e
    · by_cases hk : k = 0
      · subst hk; exact ⟨_, .zero (by omega)⟩
      · exact ⟨_, .two k (by omega) h3⟩
    · exact ⟨_, .no k h k0 h1 h2 h3⟩
theorem AtX.len {a b x e : Int} {l : List Int} (h : AtX a b x e l) : l.length ≤ 6 := by cases h <;> simp
/-- what PointsAtX answers. -/
inductive PxIs (a b n d : Int) : List Int → Bool → Prop
  | bad (h : curveB a b = false ∨ fracB n d = false ∨ inB n (-10000) 10000 = false) : PxIs a b n d [] false
  | root (k : Int) (hc : curveB a b = true) (hf : fracB n d = true) (hn : inB n (-10000) 10000 = true) (k0 : 0 ≤ k) (h1 : k * k ≤ d) (h2 : d < (k + 1) * (k + 1)) (h3 : ¬ (k * k = d ∧ k ≤ 20)) : PxIs a b n d [] false
  | good (k : Int) (l : List Int) (hc : curveB a b = true) (hf : fracB n d = true) (hn : inB n (-10000) 10000 = true) (k0 : 1 ≤ k) (h1 : k * k = d) (h2 : k ≤ 20) (h3 : AtX a b n k l) : PxIs a b n d l true
theorem pxIs_ex (a b n d : Int) : ∃ p : List Int × Bool, PxIs a b n d p.1 p.2 := by
  cases hc : curveB a b
  · exact ⟨([], false), .bad (.inl hc)⟩
  cases hf : fracB n d
  · exact ⟨([], false), .bad (.inr (.inl hf))⟩
  cases hn : inB n (-10000) 10000
  · exact ⟨([], false), .bad (.inr (.inr hn))⟩
  obtain ⟨d1, _⟩ := frac_bd hf
  obtain ⟨k, k0, h1, h2⟩ := root_exI (n := d) (by omega)
  by_cases h3 : k * k = d ∧ k ≤ 20
  · obtain ⟨l, hl⟩ := atX_ex a b n k
    have hk : k ≠ 0 := by rintro rfl; omega
    exact ⟨(l, true), .good k l hc hf hn (by omega) h3.1 h3.2 hl⟩
  · exact ⟨([], false), .root k hc hf hn k0 h1 h2 h3⟩
noncomputable def atxV (a b n d : Int) : List Int := (pxIs_ex a b n d).choose.1
noncomputable def atxB (a b n d : Int) : Bool := (pxIs_ex a b n d).choose.2
theorem atx_is (a b n d : Int) : PxIs a b n d (atxV a b n d) (atxB a b n d) := (pxIs_ex a b n d).choose_spec
theorem PxIs.len {a b n d : Int} {l : List Int} {ok : Bool} (h : PxIs a b n d l ok) : l.length ≤ 6 := by
  cases h with
  | bad => simp
  | root => simp
  | good k l _ _ _ _ _ _ h => exact h.len
theorem atxV_len (a b n d : Int) : (atxV a b n d).length ≤ 6 := (atx_is a b n d).len
/-- a literal of points is the call's own row. -/
theorem ownP_lit (w : World) (B n : Nat) (xs : List Int) (hB : B ≤ w.heap.size) (hl : xs.length = 3 * n) (hn : n ≤ maxLen) : OwnP (w.alloc (.cells (xs.map (Value.int .i64)).toArray 41)) B (.slice (some ⟨w.heap.size, 0, none⟩) n n) xs := by
  refine ⟨n, hl, ?_⟩
  have h := World.ownsRow_lit (base := B) (e := 41) (size := 3) w (xs.map (Value.int .i64)).toArray n hB hn (by simp; omega)
  simpa using h
theorem sq_succ_lt {k : Int} (k0 : 0 ≤ k) : k * k < (k + 1) * (k + 1) := by
  have : (k + 1) * (k + 1) = k * k + 2 * k + 1 := by grind
  omega
theorem sq_lt {k B : Int} (k0 : 0 ≤ k) (hB : 0 ≤ B) (h : k * k < B * B) : k < B := by
  rcases Int.lt_or_le k B with g | g
  · exact g
  · have := Int.mul_le_mul g g hB k0; omega
set_option maxHeartbeats 4000000 in
theorem ptAtX_any {a b n k : Int} {l : List Int} (h : AtX a b n k l) (w : World) (c1 : -1000 ≤ a) (c2 : a ≤ 1000) (c3 : -10000 ≤ b) (c4 : b ≤ 10000) (x0 : -10000 ≤ n) (x1 : n ≤ 10000) (k0 : 0 ≤ k) (k1 : k ≤ 20) :
    Calls Try.prog 85 #[.agg #[.int .i64 a, .int .i64 b], .int .i64 n, .int .i64 k] w (fun e w' => ∃ v, e = .returned v ∧ Below w.heap.size w w' ∧ OwnP w' w.heap.size v l) := by
  have hcv := fun w => ptValue_any a b n k w c1 c2 c3 c4 x0 x1 (by omega) (by omega)
  have hvb := val_bd (e := k) c1 c2 c3 c4 x0 x1 (by omega) (by omega)
  cases h with
  | neg h =>
    generalize valI a b n k = v at *
    go_enter Try.func85, Try.ntmps85
    go_wp2_with (go_at_call 105; refine (hcv _).mono ?_; rintro e w' ⟨rfl, hb⟩; (try replace hb := aft2 hb (by assumption)); obtain ⟨hc, hf, hs1, hs2, hs3, hs4⟩ := aftz hb)
    go_ret
    exact ⟨_, rfl, (by repeat (first | exact Below.refl _ _ | (with_reducible assumption) | refine bel_alloc ?_ _ | refine bel_drew ?_ | refine bel_drewN ?_ _ | refine Below.setCell ?_ (by dsimp only; omega) _ | refine bel_trans (by assumption) ?_)), OwnP.nil _ _⟩
  | no q h q0 q1 q2 q3 =>
    have hsq := fun w => frSquare_any (valI a b n k) q w h (by omega) q0 q1 q2
    have hqb : (q * q == valI a b n k) = false := by simp [q3]
    rw [hqb] at hsq
    generalize valI a b n k = v at *
    clear q1 q2 q3
    go_enter Try.func85, Try.ntmps85
    go_wp2_with (first | (go_at_call 105; refine (hcv _).mono ?_; rintro e w' ⟨rfl, hb⟩; (try replace hb := aft2 hb (by assumption)); obtain ⟨hc, hf, hs1, hs2, hs3, hs4⟩ := aftz hb) | (go_at_call 106; refine (hsq _).mono ?_; rintro e w' ⟨rfl, hb⟩; (try replace hb := aft2 hb (by assumption)); obtain ⟨hc, hf, hs1, hs2, hs3, hs4⟩ := aftz hb))
    go_ret
    exact ⟨_, rfl, (by repeat (first | exact Below.refl _ _ | (with_reducible assumption) | refine bel_alloc ?_ _ | refine bel_drew ?_ | refine bel_drewN ?_ _ | refine Below.setCell ?_ (by dsimp only; omega) _ | refine bel_trans (by assumption) ?_)), OwnP.nil _ _⟩
  | zero h =>
    rw [h] at hcv
    have hsq := fun w => frSquare_any 0 0 w (by omega) (by omega) (by omega) (by omega) (by omega)
    rw [show ((0 : Int) * 0 == 0) = true by rfl] at hsq
    clear hvb h
    go_enter Try.func85, Try.ntmps85
    go_wp2_with (first | (go_at_call 105; refine (hcv _).mono ?_; rintro e w' ⟨rfl, hb⟩; (try replace hb := aft2 hb (by assumption)); obtain ⟨hc, hf, hs1, hs2, hs3, hs4⟩ := aftz hb) | (go_at_call 106; refine (hsq _).mono ?_; rintro e w' ⟨rfl, hb⟩; (try replace hb := aft2 hb (by assumption)); obtain ⟨hc, hf, hs1, hs2, hs3, hs4⟩ := aftz hb))
    go_ret
    exact ⟨_, rfl, (by repeat (first | exact Below.refl _ _ | (with_reducible assumption) | refine bel_alloc ?_ _ | refine bel_drew ?_ | refine bel_drewN ?_ _ | refine Below.setCell ?_ (by dsimp only; omega) _ | refine bel_trans (by assumption) ?_)), ownP_lit _ _ 1 [n, 0, k] (by have := hb.size; simp at this ⊢; omega) rfl (by simp [maxLen])⟩
  | two q q0 h =>
    have hv0 : 0 ≤ valI a b n k := by rw [← h]; exact Int.mul_nonneg (by omega) (by omega)
    have hsl : valI a b n k < (q + 1) * (q + 1) := by rw [← h]; exact sq_succ_lt (by omega)
    have hsq := fun w => frSquare_any (valI a b n k) q w hv0 (by omega) (by omega) (by omega) hsl
    have hrt := fun w => frRoot_any (valI a b n k) q w hv0 (by omega) (by omega) (by omega) hsl
    have hqb : (q * q == valI a b n k) = true := by simp [h]
    rw [hqb] at hsq
    have qb : q < 2000000 := sq_lt (by omega) (by omega) (by omega)
    have hvn : 0 < valI a b n k := by rw [← h]; exact Int.mul_pos (by omega) (by omega)
    generalize valI a b n k = v at *
    have hv0 : (v == 0) = false := by simp; omega
    clear h hsl hqb
    go_enter Try.func85, Try.ntmps85
    go_wp2_with (first | (go_at_call 105; refine (hcv _).mono ?_; rintro e w' ⟨rfl, hb⟩; (try replace hb := aft2 hb (by assumption)); obtain ⟨hc, hf, hs1, hs2, hs3, hs4⟩ := aftz hb) | (go_at_call 106; refine (hsq _).mono ?_; rintro e w' ⟨rfl, hb⟩; (try replace hb := aft2 hb (by assumption)); obtain ⟨hc, hf, hs1, hs2, hs3, hs4⟩ := aftz hb) | (go_at_call 94; refine (hrt _).mono ?_; rintro e w' ⟨rfl, hb⟩; (try replace hb := aft2 hb (by assumption)); obtain ⟨hc, hf, hs1, hs2, hs3, hs4⟩ := aftz hb))
    go_ret
    exact ⟨_, rfl, (by repeat (first | exact Below.refl _ _ | (with_reducible assumption) | refine bel_alloc ?_ _ | refine bel_drew ?_ | refine bel_drewN ?_ _ | refine Below.setCell ?_ (by dsimp only; omega) _ | refine bel_trans (by assumption) ?_)), ownP_lit _ _ 2 [n, -q, k, n, q, k] (by have := hb.size; simp at this ⊢; omega) rfl (by simp [maxLen])⟩
end Go.Proofs.Ytnhlcgbknkdbiaa
