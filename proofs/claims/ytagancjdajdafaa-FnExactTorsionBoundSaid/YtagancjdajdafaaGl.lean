/- Gl: plain: every curve has eight good primes up to 61; the list of the first k. No conditions. -/
import Derived.Test.YtagancjdajdafaaRed
import Derived.Test.YtagancjdajdafaaFm
namespace Go.Proofs.Ytagancjdajdafaa

def sm : List Int := [5, 7, 11, 13, 17, 19, 23, 29, 31, 37, 41, 43, 47, 53, 59, 61]
def bigMost : Int := 6700000000
/-- no choice of nine of the primes has a product that is not too big. -/
def chk : List Int → Nat → Int → Bool
  | [], c, P => decide (c ≤ 8) || decide (bigMost < P)
  | x :: r, c, P => decide (bigMost < P) || (chk r (c + 1) (P * x) && chk r c P)
def prodL : List Int → Int
  | [] => 1
  | x :: r => x * prodL r
theorem prodL_pos : ∀ (l : List Int), (∀ x ∈ l, 1 ≤ x) → 1 ≤ prodL l
  | [], _ => by simp [prodL]
  | x :: r, h => by
    have h1 := h x (by simp)
    have h2 := prodL_pos r (fun y hy => h y (by simp [hy]))
    have := Int.mul_le_mul h1 h2 (by omega) (by omega)
    simpa [prodL] using this
theorem chk_sound (bad : Int → Bool) : ∀ (L : List Int) (c : Nat) (P : Int), (∀ x ∈ L, 1 ≤ x) → 1 ≤ P → chk L c P = true → P * prodL (L.filter bad) ≤ bigMost → c + (L.filter bad).length ≤ 8
  | [], c, P, _, _, h, hp => by
    simp only [List.filter_nil, prodL, Int.mul_one, List.length_nil, chk, Bool.or_eq_true, decide_eq_true_eq] at *
    omega
  | x :: r, c, P, hL, hP, h, hp => by
    have hpos := prodL_pos ((x :: r).filter bad) (fun y hy => hL y (List.mem_filter.1 hy).1)
    have hPle : P ≤ P * prodL ((x :: r).filter bad) := by
      have := Int.mul_le_mul_of_nonneg_left hpos (show 0 ≤ P by omega)
      omega
    have hx := hL x (by simp)
    have hr : ∀ y ∈ r, 1 ≤ y := fun y hy => hL y (by simp [hy])
    simp only [chk, Bool.or_eq_true, decide_eq_true_eq, Bool.and_eq_true] at h
    rcases h with h | ⟨h1, h2⟩
    · omega
    · cases hb : bad x
      · rw [List.filter_cons, hb] at hp ⊢
        exact chk_sound bad r c P hr hP h2 (by simpa using hp)
      · rw [List.filter_cons, hb] at hp ⊢
        simp only [if_true, prodL, List.length_cons] at hp ⊢
        have hPx : 1 ≤ P * x := by
          have := Int.mul_le_mul hP hx (by omega) (by omega)
          omega
        have := chk_sound bad r (c + 1) (P * x) hr hPx h1 (by rw [Int.mul_assoc]; exact hp)
        omega
theorem chk_sm : chk sm 0 1 = true := by decide +kernel
theorem sm_pr (x : Int) (hx : x ∈ sm) : Pr x := by
  have h1 : ∀ x ∈ sm, 2 ≤ x ∧ x ≤ 61 ∧ ∀ d : Nat, d < 61 → 2 ≤ d → (d : Int) < x → x % (d : Int) ≠ 0 := by decide +kernel
  obtain ⟨h2, h3, h4⟩ := h1 x hx
  refine ⟨h2, fun d k1 k2 => ?_⟩
  have := h4 d.toNat (by omega) (by omega) (by omega)
  rwa [Int.toNat_of_nonneg (by omega)] at this
theorem prodL_dvd {D : Int} : ∀ (l : List Int), Inc l → (∀ x ∈ l, Pr x ∧ x ∣ D) → prodL l ∣ D
  | [], _, _ => by simp [prodL]
  | x :: r, hi, h => by
    unfold Inc at hi
    rw [List.pairwise_cons] at hi
    obtain ⟨q, hq⟩ := prodL_dvd r hi.2 (fun y hy => h y (by simp [hy]))
    obtain ⟨hx, hxd⟩ := h x (by simp)
    have hno : ∀ l : List Int, (∀ y ∈ l, Pr y ∧ x < y) → ¬ x ∣ prodL l := by
      intro l
      induction l with
      | nil => intro _ hd; have := Int.le_of_dvd (by simp [prodL]) hd; have := hx.1; simp [prodL] at *; omega
      | cons y s ih =>
        intro hy hd
        rcases pr_dvd_mul hx hd with k | k
        · have := hy y (by simp)
          have e := pr_dvd_pr this.1 hx k
          omega
        · exact ih (fun z hz => hy z (by simp [hz])) k
    rw [hq] at hxd
    rcases pr_dvd_mul hx hxd with k | k
    · exact absurd k (hno r fun y hy => ⟨(h y (by simp [hy])).1, hi.1 y hy⟩)
    · obtain ⟨u, hu⟩ := k
      exact ⟨u, by rw [hq, hu]; simp only [prodL]; rw [Int.mul_comm x (prodL r), Int.mul_assoc]⟩
theorem filter_split (f g : Int → Bool) (hfg : ∀ x, g x = !f x) : ∀ l : List Int, (l.filter f).length + (l.filter g).length = l.length
  | [] => rfl
  | x :: r => by
    have ih := filter_split f g hfg r
    have h := hfg x
    cases hf : f x <;> rw [hf] at h <;> simp only [List.filter_cons, hf, h, List.length_cons] <;> simp <;> omega
/-- the good ones among 5, 6 .. n + 4. -/
noncomputable def gl (a b : Int) (n : Nat) : List Int := ((List.range n).map fun i : Nat => (i : Int) + 5).filter (goodB a b)
theorem gl_zero (a b : Int) : gl a b 0 = [] := rfl
theorem gl_succ (a b : Int) (n : Nat) : gl a b (n + 1) = gl a b n ++ (if goodB a b ((n : Int) + 5) = true then [(n : Int) + 5] else []) := by
  unfold gl
  rw [List.range_succ, List.map_append, List.filter_append]
  congr 1
  simp [List.filter_cons]
theorem gl_prefix (a b : Int) (n k : Nat) : gl a b n <+: gl a b (n + k) := by
  induction k with
  | zero => exact List.prefix_refl _
  | succ k ih => rw [← Nat.add_assoc, gl_succ]; exact ih.trans (List.prefix_append _ _)
theorem gl_len (a b : Int) (n : Nat) : (gl a b n).length ≤ n := by
  unfold gl; refine Nat.le_trans (List.length_filter_le _ _) (by simp)
theorem sm_sub : sm.Sublist ((List.range 57).map fun i : Nat => (i : Int) + 5) := by decide
theorem gl_many {a b : Int} (h : curveB a b = true) : 8 ≤ (gl a b 57).length := by
  obtain ⟨h1, h2, h3, h4, h5⟩ := curveB_true.1 h
  have hd := disc_bd h1 h2 h3 h4
  have hsub : (sm.filter (goodB a b)).Sublist (gl a b 57) := sm_sub.filter _
  have hlen := hsub.length_le
  have hs := filter_split (goodB a b) (fun x => !goodB a b x) (fun _ => rfl) sm
  have hbadp : ∀ x ∈ sm.filter (fun x => !goodB a b x), Pr x ∧ x ∣ discI a b := by
    intro x hx
    rw [List.mem_filter] at hx
    have hp := sm_pr x hx.1
    have hr : 5 ≤ x ∧ x ≤ 997 := by
      have := hx.1; revert this; generalize x = y; revert y; decide
    refine ⟨hp, ?_⟩
    have hg := hx.2
    unfold goodB p5B at hg
    rw [inB_true.2 hr, primeB_true.2 hp] at hg
    simp at hg
    exact Int.dvd_of_emod_eq_zero hg
  have hinc : Inc (sm.filter (fun x => !goodB a b x)) := by
    have : Inc sm := by unfold Inc sm; decide
    exact List.Pairwise.filter _ this
  have hdv := prodL_dvd _ hinc hbadp
  have hle : prodL (sm.filter (fun x => !goodB a b x)) ≤ bigMost := by
    have hdv' : prodL (sm.filter (fun x => !goodB a b x)) ∣ ((discI a b).natAbs : Int) := Int.dvd_natAbs.2 hdv
    have := Int.le_of_dvd (by omega) hdv'
    unfold bigMost; omega
  have hc := chk_sound (fun x => !goodB a b x) sm 0 1 (by decide) (by omega) chk_sm (by omega)
  have hl : sm.length = 16 := rfl
  omega
/-- the first k good primes. -/
noncomputable def goodK (a b : Int) (k : Nat) : List Int := (gl a b 57).take k
theorem gl_done {a b : Int} {n k : Nat} (hn : n ≤ 57) (h : (gl a b n).length = k) : gl a b n = goodK a b k := by
  obtain ⟨t, ht⟩ := gl_prefix a b n (57 - n)
  rw [show n + (57 - n) = 57 by omega] at ht
  unfold goodK
  rw [← ht, ← h, List.take_left]
theorem gl_less {a b : Int} {n k : Nat} (h : curveB a b = true) (hk : k ≤ 8) (hlt : (gl a b n).length < k) : n < 57 := by
  rcases Nat.lt_or_ge n 57 with h' | h'
  · exact h'
  · exfalso
    obtain ⟨t, ht⟩ := gl_prefix a b 57 (n - 57)
    rw [show 57 + (n - 57) = n by omega] at ht
    have := gl_many h
    have e : (gl a b n).length = (gl a b 57).length + t.length := by rw [← ht, List.length_append]
    omega
theorem goodK_len {a b : Int} {k : Nat} (h : curveB a b = true) (hk : k ≤ 8) : (goodK a b k).length = k := by
  have := gl_many h
  unfold goodK; rw [List.length_take]; omega
theorem goodK_good {a b : Int} {k : Nat} {p : Int} (h : p ∈ goodK a b k) : goodB a b p = true := by
  have := List.mem_of_mem_take h
  unfold gl at this
  exact (List.mem_filter.1 this).2
end Go.Proofs.Ytagancjdajdafaa
