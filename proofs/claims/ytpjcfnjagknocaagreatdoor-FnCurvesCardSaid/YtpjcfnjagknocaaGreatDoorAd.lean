/- Ad: contracts: copies of a list, the sum of two points modulo a prime. No conditions. -/
import Derived.Test.YtpjcfnjagknocaaGreatDoorOp
import Derived.Test.YtpjcfnjagknocaaGreatDoorPw
import Derived.Test.YtpjcfnjagknocaaGreatDoorFm
import Derived.Test.YtpjcfnjagknocaaGreatDoorOe
import Derived.Laws.AppendOwnNone
namespace Go.Proofs.YtpjcfnjagknocaaGreatDoor
open Go.RowKit

/-- no row without cells claims room. -/
def NilZ (v : Value) : Prop := ∀ n c, v = .slice none n c → c = 0
theorem Own.nilz {w : World} {B : Nat} {v : Value} {xs : List Int} (h : Own w B v xs) : NilZ v := by
  rcases h.shape with ⟨rfl, _⟩ | ⟨g, cap, rfl, _⟩
  · intro n c h; cases h; rfl
  · intro n c h; cases h
set_option maxRecDepth 4000 in
theorem clone_any (v : Value) (xs : List Int) (w : World) (hrd : Rd w v xs) (hz : NilZ v) (hsm : xs.length ≤ 1048576) :
    Calls Tryz.prog 189 #[v] w (RetSl xs w) := by
  obtain ⟨i0, hi, hz0, hz1, hz2⟩ := info_parts Tryz.info_int
  obtain ⟨ad, cap, rfl, hl, hcs⟩ := hrd
  cases ad with
  | none =>
    obtain rfl := hz _ _ rfl
    have hx : xs = [] := by
      cases xs with
      | nil => rfl
      | cons x r => obtain ⟨_, _, h, _⟩ := hcs (by simp); cases h
    subst hx
    have he : ∀ w : World, (binOp .eql 46 (.slice none 0 0) (.slice none 0 0)).run Tryz.prog w = .ok (.bool true) w := fun _ => rfl
    go_enter Tryz.func189, Tryz.ntmps189
    go_wp2_with fail
    go_ret
    exact ⟨_, rfl, (by repeat (first | exact Below.refl _ _ | (with_reducible assumption) | refine bel_alloc ?_ _ | refine bel_drew ?_ | refine bel_drewN ?_ _ | refine Below.setCell ?_ (by dsimp only; omega) _ | refine bel_trans (by assumption) ?_)), Own.nil _ _⟩
  | some ad =>
    have hown : (w.alloc (.cells #[] 3)).ownsRow w.heap.size 3 1 (.slice (some ⟨w.heap.size, 0, none⟩) 0 0) 0 [] := by
      simpa using World.ownsRow_lit (base := w.heap.size) (e := 3) (size := 1) w #[] 0 (Nat.le_refl _) (by unfold maxLen; omega) (by simp)
    have hnews : ∀ (j : Nat) (u : Value), (xs.map (Value.int .i64))[j]? = some u → (w.alloc (.cells #[] 3)).cell? (ad.add j) = some u := by
      intro j u hj
      have hjl : j < xs.length := by
        have := (List.getElem?_eq_some_iff.1 hj).1
        simpa using this
      obtain ⟨b, off, ha, hb, hc⟩ := hcs (by omega)
      simp only [Option.some.injEq] at ha
      subst ha
      have e : ((⟨b, off, none⟩ : Addr).add j) = ⟨b, off + j, none⟩ := by unfold Addr.add; split <;> simp_all
      rw [e, (below_alloc w (.cells #[] 3)).cell (p := ⟨b, off + j, none⟩) hb, hc j hjl, ← hj, getD_map_int xs j hjl]
    clear hcs hz
    have he : ∀ w : World, (binOp .eql 46 (.slice (some ad) xs.length cap) (.slice none 0 0)).run Tryz.prog w = .ok (.bool false) w := fun _ => rfl
    go_enter Tryz.func189, Tryz.ntmps189
    go_wp2_with (first | (at_builtin; refine wpList_append_own _ rfl _ _ 46 rfl w.heap.size 3 i0 (.int .i64 0) 1 8 Tryz.underlying46 hi hz0 hz1 hz2 rfl (by decide) _ _ _ rfl hown ad xs.length cap (xs.map (Value.int .i64)) rfl (by simp) hnews ?_ ?_ ?_ ?_ ?_))
    · intro u hu
      obtain ⟨n, _, rfl⟩ := List.mem_map.1 hu
      rfl
    · unfold maxLen; omega
    · omega
    · simp
    · intro v' w1 hown1 hgrow _
      have hb1 : Below w.heap.size w w1 := (below_alloc w (.cells #[] 3)).grown hgrow (by simp) (fun k hk => by
        simp only [Value.ownBlock, Option.some.injEq] at hk
        omega)
      have ho : Own w1 w.heap.size v' xs := by unfold Own; simpa using hown1
      clear hown hown1 hgrow hnews
      go_wp2_with fail
      go_ret
      exact ⟨_, rfl, hb1, ho⟩
set_option maxRecDepth 4000 in
theorem l1Own_any (v : Value) (xs : List Int) (w : World) (hrd : Rd w v xs) (hz : NilZ v) (hsm : xs.length ≤ 1048576) :
    Calls Tryz.prog 92 #[v] w (RetSl xs w) := by
  obtain ⟨i0, hi, hz0, hz1, hz2⟩ := info_parts Tryz.info_int
  obtain ⟨ad, cap, rfl, hl, hcs⟩ := hrd
  cases ad with
  | none =>
    obtain rfl := hz _ _ rfl
    have hx : xs = [] := by
      cases xs with
      | nil => rfl
      | cons x r => obtain ⟨_, _, h, _⟩ := hcs (by simp); cases h
    subst hx
    have hown : (w.alloc (.cells #[] 3)).ownsRow w.heap.size 3 1 (.slice (some ⟨w.heap.size, 0, none⟩) 0 0) 0 [] := by
      simpa using World.ownsRow_lit (base := w.heap.size) (e := 3) (size := 1) w #[] 0 (Nat.le_refl _) (by unfold maxLen; omega) (by simp)
    go_enter Tryz.func92, Tryz.ntmps92
    go_wp2_with (first | (at_builtin; refine wpList_append_own_none rfl _ _ 46 rfl w.heap.size 3 i0 1 Tryz.underlying46 hi _ _ _ rfl hown rfl ?_))
    go_wp2_with fail
    go_ret
    exact ⟨_, rfl, (by repeat (first | exact Below.refl _ _ | (with_reducible assumption) | refine bel_alloc ?_ _ | refine bel_drew ?_ | refine bel_drewN ?_ _ | refine Below.setCell ?_ (by dsimp only; omega) _ | refine bel_trans (by assumption) ?_)), by simpa [Own] using hown⟩
  | some ad =>
    have hown : (w.alloc (.cells #[] 3)).ownsRow w.heap.size 3 1 (.slice (some ⟨w.heap.size, 0, none⟩) 0 0) 0 [] := by
      simpa using World.ownsRow_lit (base := w.heap.size) (e := 3) (size := 1) w #[] 0 (Nat.le_refl _) (by unfold maxLen; omega) (by simp)
    have hnews : ∀ (j : Nat) (u : Value), (xs.map (Value.int .i64))[j]? = some u → (w.alloc (.cells #[] 3)).cell? (ad.add j) = some u := by
      intro j u hj
      have hjl : j < xs.length := by
        have := (List.getElem?_eq_some_iff.1 hj).1
        simpa using this
      obtain ⟨b, off, ha, hb, hc⟩ := hcs (by omega)
      simp only [Option.some.injEq] at ha
      subst ha
      have e : ((⟨b, off, none⟩ : Addr).add j) = ⟨b, off + j, none⟩ := by unfold Addr.add; split <;> simp_all
      rw [e, (below_alloc w (.cells #[] 3)).cell (p := ⟨b, off + j, none⟩) hb, hc j hjl, ← hj, getD_map_int xs j hjl]
    clear hcs hz
    go_enter Tryz.func92, Tryz.ntmps92
    go_wp2_with (first | (at_builtin; refine wpList_append_own _ rfl _ _ 46 rfl w.heap.size 3 i0 (.int .i64 0) 1 8 Tryz.underlying46 hi hz0 hz1 hz2 rfl (by decide) _ _ _ rfl hown ad xs.length cap (xs.map (Value.int .i64)) rfl (by simp) hnews ?_ ?_ ?_ ?_ ?_))
    · intro u hu
      obtain ⟨n, _, rfl⟩ := List.mem_map.1 hu
      rfl
    · unfold maxLen; omega
    · omega
    · simp
    · intro v' w1 hown1 hgrow _
      have hb1 : Below w.heap.size w w1 := (below_alloc w (.cells #[] 3)).grown hgrow (by simp) (fun k hk => by
        simp only [Value.ownBlock, Option.some.injEq] at hk
        omega)
      have ho : Own w1 w.heap.size v' xs := by unfold Own; simpa using hown1
      clear hown hown1 hgrow hnews
      go_wp2_with fail
      go_ret
      exact ⟨_, rfl, hb1, ho⟩

theorem wrapb {u : Int} (h0 : -4000000000000000000 ≤ u) (h1 : u ≤ 4000000000000000000) : IntKind.i64.wrap u = u := by
  simp only [IntKind.wrap, IntKind.bits, IntKind.signed]
  simp
  omega
theorem pr_odd {p : Int} (hp : Pr p) (h5 : 5 ≤ p) : p % 2 = 1 := by
  have := hp.2 2 (by omega) (by omega)
  omega
/-- the slope's numerator and denominator, for a chord and for a tangent. -/
def numI (a s0 s1 t0 t1 : Int) : Int := if s0 = t0 then 3 * s0 * s0 + a else t1 - s1
def denI (s0 s1 t0 : Int) : Int := if s0 = t0 then 2 * s1 else t0 - s0
def slopeI (a p s0 s1 t0 t1 : Int) : Int := numI a s0 s1 t0 t1 % p * powI (denI s0 s1 t0) (p - 2) p % p
def sumX (m p s0 t0 : Int) : Int := (m * m - s0 - t0) % p
def sumY (m p s0 s1 x : Int) : Int := (m * (s0 - x) - s1) % p
/-- the sum. -/
def addI (a p : Int) : List Int → List Int → List Int
  | [], t => t
  | s, [] => s
  | [s0, s1], [t0, t1] => if s0 = t0 ∧ (s1 + t1) % p = 0 then [] else
      [sumX (slopeI a p s0 s1 t0 t1) p s0 t0, sumY (slopeI a p s0 s1 t0 t1) p s0 s1 (sumX (slopeI a p s0 s1 t0 t1) p s0 t0)]
  | _, _ => []
theorem addI_nil (a p : Int) (t : List Int) : addI a p [] t = t := by simp [addI]
theorem addI_nil' (a p : Int) (s : List Int) : addI a p s [] = s := by cases s <;> simp [addI]
theorem sum_zero {p s1 t1 : Int} (hp : Pr p) (h5 : 5 ≤ p) (s0 : 0 ≤ s1) (s2 : s1 < p) (t0 : 0 ≤ t1) (t2 : t1 < p) (h : s1 * s1 % p = t1 * t1 % p) : (s1 + t1) % p = 0 ∨ (t1 = s1 ∧ s1 ≠ 0) := by
  have hd : p ∣ (s1 - t1) * (s1 + t1) := by
    have h2 : p ∣ s1 * s1 - t1 * t1 := Int.dvd_of_emod_eq_zero (by rw [Int.sub_emod, h, Int.sub_self, Int.zero_emod])
    have e : (s1 - t1) * (s1 + t1) = s1 * s1 - t1 * t1 := by grind
    rw [e]; exact h2
  rcases pr_dvd_mul hp hd with k | k
  · obtain ⟨c, hc⟩ := k
    have hc0 : c = 0 := by
      rcases Int.lt_trichotomy c 0 with g | g | g
      · have : p * c ≤ p * (-1) := Int.mul_le_mul_of_nonneg_left (by omega) (by omega)
        omega
      · exact g
      · have : p * 1 ≤ p * c := Int.mul_le_mul_of_nonneg_left (by omega) (by omega)
        omega
    subst hc0
    by_cases hz : s1 = 0
    · left
      rw [show s1 + t1 = 0 by omega]
      exact Int.zero_emod p
    · right; omega
  · left; exact Int.emod_eq_zero_of_dvd k
theorem sum_zero' {p s1 t1 : Int} (hp : Pr p) (h5 : 5 ≤ p) (s0 : 0 ≤ s1) (s2 : s1 < p) (h : (s1 + t1) % p = 0) : s1 ≠ t1 ∨ s1 = 0 := by
  by_cases he : s1 = t1
  · right
    subst he
    have ho := pr_odd hp h5
    obtain ⟨c, hc⟩ := Int.dvd_of_emod_eq_zero h
    rcases Int.lt_trichotomy c 1 with g | g | g
    · have : p * c ≤ p * 0 := Int.mul_le_mul_of_nonneg_left (by omega) (by omega)
      omega
    · subst g; omega
    · have : p * 2 ≤ p * c := Int.mul_le_mul_of_nonneg_left (by omega) (by omega)
      omega
  · exact .inl he
end Go.Proofs.YtpjcfnjagknocaaGreatDoor
