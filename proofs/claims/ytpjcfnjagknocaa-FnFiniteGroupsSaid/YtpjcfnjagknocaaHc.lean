/- Hc: plain: the points modulo a prime are a commutative group; its greatest order, and the points of order two. No conditions. -/
import Derived.Test.YtpjcfnjagknocaaHb
import Derived.Test.YtpjcfnjagknocaaGs
import Derived.Test.YtpjcfnjagknocaaCo
namespace Go.Proofs.Ytpjcfnjagknocaa.Hs
open Go.Proofs.Ytpjcfnjagknocaa

theorem pts_mem {a b p : Int} (hp : p5B p = true) {s : List Int} : s ∈ ptsL a b p ↔ onF a b p s = true := by
  have hbd := p5_bd hp
  obtain ⟨q, rfl⟩ : ∃ q : Nat, p = q := ⟨p.toNat, by omega⟩
  have hq : 0 < q := by omega
  unfold ptsL
  rw [Int.toNat_natCast, List.mem_cons]
  constructor
  · rintro (rfl | h)
    · rfl
    · exact ptsN_on hq _ (Nat.le_refl _) _ h
  · intro h
    rcases onF_cases h with rfl | ⟨x, y, rfl, x0, x1, y0, y1, hxy⟩
    · exact .inl rfl
    · right
      obtain ⟨x, rfl⟩ : ∃ k : Nat, x = k := ⟨x.toNat, by omega⟩
      obtain ⟨y, rfl⟩ : ∃ k : Nat, y = k := ⟨y.toNat, by omega⟩
      have hy : y < q := by omega
      have d1 : (y + x * q) / q = x := by rw [Nat.add_mul_div_right _ _ hq, Nat.div_eq_of_lt hy]; omega
      have d2 : (y + x * q) % q = y := by rw [Nat.add_mul_mod_self_right, Nat.mod_eq_of_lt hy]
      rw [ptsN_map, List.mem_map]
      refine ⟨y + x * q, List.mem_filter.2 ⟨List.mem_range.2 ?_, ?_⟩, by rw [d1, d2]⟩
      · have : (x + 1) * q ≤ q * q := Nat.mul_le_mul_right q (by omega)
        rw [Nat.add_mul] at this
        omega
      · unfold ptC
        rw [d1, d2]
        simpa using hxy
theorem pts_nodup (a b p : Int) (hp : p5B p = true) : (ptsL a b p).Nodup := by
  have hbd := p5_bd hp
  unfold ptsL
  rw [List.nodup_cons, ptsN_map]
  refine ⟨fun h => ?_, nodup_map (List.Nodup.sublist List.filter_sublist List.nodup_range) fun x _ y _ e => ?_⟩
  · obtain ⟨k, _, e⟩ := List.mem_map.1 h
    cases e
  · simp only [List.cons.injEq, and_true] at e
    rw [← Nat.div_add_mod x p.toNat, ← Nat.div_add_mod y p.toNat]
    have e1 := Int.ofNat.inj e.1
    have e2 := Int.ofNat.inj e.2
    rw [e1, e2]
theorem pts_group {a b p : Int} (hp : p5B p = true) (hd : discI a b % p ≠ 0) : AbL (ptsL a b p) (addI a p) [] (negL p) where
  nd := pts_nodup a b p hp
  zero := (pts_mem hp).2 rfl
  closed := fun _ hx _ hy => (pts_mem hp).2 (on_add hp ((pts_mem hp).1 hx) ((pts_mem hp).1 hy))
  negc := fun _ hx => (pts_mem hp).2 (on_neg2 hp ((pts_mem hp).1 hx))
  assoc := fun _ hx _ hy _ hz => add_assoc_pt hp hd ((pts_mem hp).1 hx) ((pts_mem hp).1 hy) ((pts_mem hp).1 hz)
  comm := fun _ hx _ hy => add_comm_pt hp ((pts_mem hp).1 hx) ((pts_mem hp).1 hy)
  oadd := fun x => addI_nil _ _ x
  addneg := fun _ hx => add_self_neg hp ((pts_mem hp).1 hx)
theorem sq_seq (a p : Int) (s : List Int) : ∀ k, sq (addI a p) [] s k = seqI a p s k
  | 0 => rfl
  | k + 1 => by
    show addI a p (sq (addI a p) [] s k) s = addI a p (seqI a p s k) s
    rw [sq_seq a p s k]
theorem isOr_of {a p : Int} {s : List Int} {K : Nat} (h : IsOrd a p s K) : IsOr (addI a p) [] s K :=
  ⟨h.1, by rw [sq_seq]; exact h.2.2.1, fun j h1 h2 => by rw [sq_seq]; exact h.2.2.2 j h1 h2⟩
/-- the order of a point divides the number of points. -/
theorem ord_dvd {a b p : Int} {s : List Int} {K : Nat} (hp : p5B p = true) (hd : discI a b % p ≠ 0) (hs : onF a b p s = true) (hK : IsOrd a p s K) : (K : Int) ∣ cntI a b p := by
  have h := (pts_group hp hd).or_len ((pts_mem hp).2 hs) (isOr_of hK)
  rw [← pts_cnt hp]
  exact Int.natCast_dvd_natCast.2 h
theorem foldl_max {α : Type} (f : α → Nat) : ∀ (l : List α) (m : Nat), (∀ x ∈ l, f x ≤ l.foldl (fun m s => max m (f s)) m) ∧ m ≤ l.foldl (fun m s => max m (f s)) m ∧ (l.foldl (fun m s => max m (f s)) m = m ∨ ∃ x ∈ l, f x = l.foldl (fun m s => max m (f s)) m)
  | [], m => ⟨(fun x h => by cases h), Nat.le_refl _, .inl rfl⟩
  | y :: l, m => by
    obtain ⟨h1, h2, h3⟩ := foldl_max f l (max m (f y))
    rw [List.foldl_cons]
    refine ⟨fun x hx => ?_, by omega, ?_⟩
    · rcases List.mem_cons.1 hx with rfl | hx
      · omega
      · exact h1 x hx
    · rcases h3 with h3 | ⟨x, hx, h3⟩
      · by_cases hm : f y ≤ m
        · left; rw [h3]; omega
        · right; exact ⟨y, List.mem_cons_self .., by rw [h3]; omega⟩
      · right; exact ⟨x, List.mem_cons_of_mem _ hx, h3⟩
/-- the greatest order: a point has it, and every order divides it. -/
theorem max_ord {a b p : Int} (hp : p5B p = true) (hd : discI a b % p ≠ 0) : ∃ s M : _, onF a b p s = true ∧ IsOrd a p s M ∧ shM a b p = (M : Nat) ∧ ∀ r, onF a b p r = true → ordN a p r ∣ M := by
  have hG := pts_group hp hd
  obtain ⟨h1, h2, h3⟩ := foldl_max (ordN a p) (ptsL a b p) 0
  have ho : ∀ r, onF a b p r = true → IsOrd a p r (ordN a p r) := fun r hr => ordN_is hp hd hr
  have hz := h1 [] ((pts_mem hp).2 rfl)
  have h0 := (ho [] rfl).1
  obtain ⟨s, hs, e⟩ : ∃ x ∈ ptsL a b p, ordN a p x = moL a p (ptsL a b p) := by
    rcases h3 with h3 | h3
    · omega
    · exact h3
  have hs' := (pts_mem hp).1 hs
  have hM : IsOrd a p s (moL a p (ptsL a b p)) := by rw [← e]; exact ho s hs'
  refine ⟨s, moL a p (ptsL a b p), hs', hM, rfl, fun r hr => ?_⟩
  refine hG.max_or hs (isOr_of hM) (fun y hy K hK => ?_) r ((pts_mem hp).2 hr) _ (isOr_of (ho r hr))
  have := hG.or_unique hy hK (isOr_of (ho y ((pts_mem hp).1 hy)))
  rw [this]
  exact h1 y hy
theorem times_seq {a b p : Int} (hp : p5B p = true) (hd : discI a b % p ≠ 0) {s : List Int} (hs : onF a b p s = true) (n : Nat) : timesL a p n s = seqI a p s n := by
  unfold timesL
  rw [if_neg (by omega), Int.natAbs_natCast, tim_seq hp hd n [] s rfl hs, addI_nil]
theorem seq_ord {a b p : Int} (hp : p5B p = true) (hd : discI a b % p ≠ 0) {s : List Int} (hs : onF a b p s = true) (n : Nat) : seqI a p s n = [] ↔ ordN a p s ∣ n := by
  rw [← sq_seq]
  exact (pts_group hp hd).or_dvd ((pts_mem hp).2 hs) (isOr_of (ordN_is hp hd hs))
/-- the greatest order ends every point. -/
theorem cnt_all {a b p : Int} (hp : p5B p = true) (hd : discI a b % p ≠ 0) {M : Nat} (hM : ∀ r, onF a b p r = true → ordN a p r ∣ M) : coV a b p M = cntI a b p := by
  rw [← pts_cnt hp]
  unfold coV cntL
  have : (ptsL a b p).filter (fun r => decide (timesL a p M r = [])) = ptsL a b p := by
    rw [List.filter_eq_self]
    intro r hr
    have hr' := (pts_mem hp).1 hr
    rw [decide_eq_true_eq, times_seq hp hd hr', seq_ord hp hd hr']
    exact hM r hr'
  rw [this]
/-- roots of the cubic. -/
def rtL (a b p : Int) : List Nat := (List.range p.toNat).filter fun x => decide (rsI a b p (x : Int) = 0)
theorem mem_rtL {a b p : Int} {x : Nat} : x ∈ rtL a b p ↔ x < p.toNat ∧ rsI a b p (x : Int) = 0 := by unfold rtL; rw [List.mem_filter, List.mem_range, decide_eq_true_eq]
theorem rtL_nodup (a b p : Int) : (rtL a b p).Nodup := List.Nodup.sublist List.filter_sublist List.nodup_range
theorem times_two {a b p : Int} (hp : p5B p = true) (hd : discI a b % p ≠ 0) {s : List Int} (hs : onF a b p s = true) : timesL a p 2 s = addI a p s s := by
  rw [show (2 : Int) = ((2 : Nat) : Int) by rfl, times_seq hp hd hs]
  show addI a p (addI a p [] s) s = addI a p s s
  rw [addI_nil]
theorem two_iff {a p x y : Int} (hp : p5B p = true) (y0 : 0 ≤ y) (y1 : y < p) : addI a p [x, y] [x, y] = [] ↔ y = 0 := by
  have hbd := p5_bd hp
  have ho : p % 2 = 1 := by have := (p5_pr hp).2 2 (by omega) (by omega); omega
  rw [addI_pair2]
  constructor
  · intro h
    by_cases hc : x = x ∧ (y + y) % p = 0
    · obtain ⟨k, hk⟩ := Int.dvd_of_emod_eq_zero hc.2
      rcases Int.lt_trichotomy k 0 with q | q | q
      · have : p * k ≤ p * (-1) := Int.mul_le_mul_of_nonneg_left (by omega) (by omega)
        omega
      · rw [q] at hk; omega
      · rcases Int.lt_trichotomy k 1 with r | r | r
        · omega
        · rw [r] at hk; omega
        · have : p * 2 ≤ p * k := Int.mul_le_mul_of_nonneg_left (by omega) (by omega)
          omega
    · rw [if_neg hc] at h; cases h
  · rintro rfl
    rw [if_pos ⟨rfl, by simp⟩]
theorem two_cnt {a b p : Int} (hp : p5B p = true) (hd : discI a b % p ≠ 0) : coV a b p 2 = 1 + (rtL a b p).length := by
  have hbd := p5_bd hp
  unfold coV cntL
  have e : ((ptsL a b p).filter fun r => decide (timesL a p 2 r = [])).length = ([] :: (rtL a b p).map fun x : Nat => [(x : Int), 0]).length := by
    refine nodup_eq (List.Nodup.sublist List.filter_sublist (pts_nodup a b p hp)) ?_ fun s => ?_
    · rw [List.nodup_cons]
      refine ⟨fun h => ?_, nodup_map (rtL_nodup a b p) fun x _ y _ e => ?_⟩
      · obtain ⟨k, _, e⟩ := List.mem_map.1 h
        cases e
      · simp only [List.cons.injEq, and_true] at e
        omega
    · rw [List.mem_filter, pts_mem hp, decide_eq_true_eq, List.mem_cons, List.mem_map]
      constructor
      · rintro ⟨hs, h2⟩
        rw [times_two hp hd hs] at h2
        rcases onF_cases hs with rfl | ⟨x, y, rfl, x0, x1, y0, y1, hxy⟩
        · exact .inl rfl
        · right
          have := (two_iff hp y0 y1).1 h2
          subst this
          refine ⟨x.toNat, mem_rtL.2 ⟨by omega, ?_⟩, by rw [Int.toNat_of_nonneg x0]⟩
          rw [Int.toNat_of_nonneg x0, ← hxy]
          simp
      · rintro (rfl | ⟨x, hx, rfl⟩)
        · exact ⟨rfl, by rw [times_two hp hd rfl, addI_nil]⟩
        · obtain ⟨x1, hx⟩ := mem_rtL.1 hx
          have hs : onF a b p [(x : Int), 0] = true := on_pair (by omega) (by omega) (by omega) (by omega) (by rw [hx]; simp)
          exact ⟨hs, by rw [times_two hp hd hs]; exact (two_iff hp (by omega) (by omega)).2 rfl⟩
  rw [e, List.length_cons, List.length_map]
  omega
end Go.Proofs.Ytpjcfnjagknocaa.Hs
