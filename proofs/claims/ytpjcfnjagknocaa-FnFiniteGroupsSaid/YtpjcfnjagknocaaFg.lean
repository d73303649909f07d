/- Fg: plain: finite commutative groups given by a list: orders divide the number of elements, and the greatest order. No conditions. -/
namespace Go.Proofs.Ytpjcfnjagknocaa.Hs

theorem nodup_le {α : Type} [DecidableEq α] : ∀ (l m : List α), l.Nodup → (∀ x ∈ l, x ∈ m) → l.length ≤ m.length
  | [], _, _, _ => Nat.zero_le _
  | x :: t, m, h, hs => by
    rw [List.nodup_cons] at h
    have h1 := nodup_le t (m.erase x) h.2 (fun y hy => by
      have hne : y ≠ x := fun e => h.1 (e ▸ hy)
      exact (List.mem_erase_of_ne hne).2 (hs y (List.mem_cons_of_mem _ hy)))
    have hx := hs x (List.mem_cons_self ..)
    have h2 := List.length_erase_of_mem hx
    have h3 : 0 < m.length := List.length_pos_of_mem hx
    rw [List.length_cons]
    omega
theorem nodup_eq {α : Type} [DecidableEq α] {l m : List α} (h : l.Nodup) (k : m.Nodup) (hs : ∀ x, x ∈ l ↔ x ∈ m) : l.length = m.length :=
  Nat.le_antisymm (nodup_le l m h fun x hx => (hs x).1 hx) (nodup_le m l k fun x hx => (hs x).2 hx)
theorem nodup_map {α β : Type} {f : α → β} : ∀ {l : List α}, l.Nodup → (∀ x ∈ l, ∀ y ∈ l, f x = f y → x = y) → (l.map f).Nodup
  | [], _, _ => List.nodup_nil
  | x :: t, h, hi => by
    rw [List.nodup_cons] at h
    rw [List.map_cons, List.nodup_cons]
    refine ⟨fun hm => ?_, nodup_map h.2 fun a ha b hb => hi a (List.mem_cons_of_mem _ ha) b (List.mem_cons_of_mem _ hb)⟩
    obtain ⟨y, hy, e⟩ := List.mem_map.1 hm
    exact h.1 (hi y (List.mem_cons_of_mem _ hy) x (List.mem_cons_self ..) e ▸ hy)
theorem filter_split {α : Type} (p : α → Bool) : ∀ l : List α, (l.filter p).length + (l.filter fun x => !p x).length = l.length
  | [] => rfl
  | x :: t => by
    have := filter_split p t
    cases h : p x <;> simp [h] <;> omega

/-- a commutative group whose elements are those of a list. -/
structure AbL {α : Type} (L : List α) (add : α → α → α) (o : α) (neg : α → α) : Prop where
  nd : L.Nodup
  zero : o ∈ L
  closed : ∀ x ∈ L, ∀ y ∈ L, add x y ∈ L
  negc : ∀ x ∈ L, neg x ∈ L
  assoc : ∀ x ∈ L, ∀ y ∈ L, ∀ z ∈ L, add (add x y) z = add x (add y z)
  comm : ∀ x ∈ L, ∀ y ∈ L, add x y = add y x
  oadd : ∀ x, add o x = x
  addneg : ∀ x ∈ L, add x (neg x) = o

section
variable {α : Type} {L : List α} {add : α → α → α} {o : α} {neg : α → α}
def sq (add : α → α → α) (o : α) (x : α) : Nat → α
  | 0 => o
  | k + 1 => add (sq add o x k) x
theorem AbL.sqc (h : AbL L add o neg) {x : α} (hx : x ∈ L) : ∀ k, sq add o x k ∈ L
  | 0 => h.zero
  | k + 1 => h.closed _ (h.sqc hx k) _ hx
theorem AbL.addo (h : AbL L add o neg) {x : α} (hx : x ∈ L) : add x o = x := by rw [h.comm _ hx _ h.zero, h.oadd]
theorem AbL.cancel (h : AbL L add o neg) {x y z : α} (hx : x ∈ L) (hy : y ∈ L) (hz : z ∈ L) (e : add x y = add x z) : y = z := by
  have k : ∀ u ∈ L, add (neg x) (add x u) = u := fun u hu => by
    rw [← h.assoc _ (h.negc _ hx) _ hx _ hu, h.comm _ (h.negc _ hx) _ hx, h.addneg _ hx, h.oadd]
  rw [← k y hy, e, k z hz]
theorem AbL.sq_add (h : AbL L add o neg) {x : α} (hx : x ∈ L) (m : Nat) : ∀ n, sq add o x (m + n) = add (sq add o x m) (sq add o x n)
  | 0 => by rw [Nat.add_zero]; exact (h.addo (h.sqc hx m)).symm
  | n + 1 => by
    show add (sq add o x (m + n)) x = add (sq add o x m) (add (sq add o x n) x)
    rw [h.sq_add hx m n, h.assoc _ (h.sqc hx m) _ (h.sqc hx n) _ hx]
theorem AbL.sq_o (h : AbL L add o neg) : ∀ k, sq add o o k = o
  | 0 => rfl
  | k + 1 => by show add (sq add o o k) o = o; rw [h.sq_o k, h.oadd]
theorem AbL.sq_mul (h : AbL L add o neg) {x : α} (hx : x ∈ L) (m : Nat) : ∀ n, sq add o (sq add o x m) n = sq add o x (m * n)
  | 0 => rfl
  | n + 1 => by
    show add (sq add o (sq add o x m) n) (sq add o x m) = _
    rw [h.sq_mul hx m n, ← h.sq_add hx, Nat.mul_succ]
theorem AbL.sq_sum (h : AbL L add o neg) {x y : α} (hx : x ∈ L) (hy : y ∈ L) : ∀ n, sq add o (add x y) n = add (sq add o x n) (sq add o y n)
  | 0 => (h.oadd o).symm
  | n + 1 => by
    show add (sq add o (add x y) n) (add x y) = add (add (sq add o x n) x) (add (sq add o y n) y)
    have a := h.sqc hx n
    have b := h.sqc hy n
    rw [h.sq_sum hx hy n, h.assoc _ a _ b _ (h.closed _ hx _ hy), ← h.assoc _ b _ hx _ hy, h.comm _ b _ hx, h.assoc _ hx _ b _ hy, ← h.assoc _ a _ hx _ (h.closed _ b _ hy)]
/-- the order of an element. -/
def IsOr (add : α → α → α) (o x : α) (K : Nat) : Prop := 1 ≤ K ∧ sq add o x K = o ∧ ∀ j, 1 ≤ j → j < K → sq add o x j ≠ o
theorem AbL.or_dvd (h : AbL L add o neg) {x : α} (hx : x ∈ L) {K : Nat} (hK : IsOr add o x K) {n : Nat} : sq add o x n = o ↔ K ∣ n := by
  have key : sq add o x n = sq add o x (n % K) := by
    conv => lhs; rw [← Nat.div_add_mod n K]
    rw [h.sq_add hx, ← h.sq_mul hx, hK.2.1, h.sq_o, h.oadd]
  constructor
  · intro e
    rw [key] at e
    rcases Nat.eq_zero_or_pos (n % K) with z | z
    · exact Nat.dvd_of_mod_eq_zero z
    · exact absurd e (hK.2.2 _ z (Nat.mod_lt _ hK.1))
  · intro e
    rw [key, Nat.mod_eq_zero_of_dvd e]
    rfl
theorem AbL.or_unique (h : AbL L add o neg) {x : α} (hx : x ∈ L) {K M : Nat} (hK : IsOr add o x K) (hM : IsOr add o x M) : K = M :=
  Nat.dvd_antisymm ((h.or_dvd hx hK).1 hM.2.1) ((h.or_dvd hx hM).1 hK.2.1)
theorem or_of (add : α → α → α) (o x : α) : ∀ n, 1 ≤ n → sq add o x n = o → ∃ K, IsOr add o x K := by
  intro n
  induction n using Nat.strongRecOn with
  | ind n ih =>
    intro h1 h2
    by_cases h3 : ∃ j, 1 ≤ j ∧ j < n ∧ sq add o x j = o
    · obtain ⟨j, a, b, c⟩ := h3
      exact ih j b a c
    · exact ⟨n, h1, h2, fun j a b c => h3 ⟨j, a, b, c⟩⟩
/-- lists closed under a subgroup: its number of elements divides theirs. -/
theorem AbL.coset [DecidableEq α] (h : AbL L add o neg) {H : List α} (hn : H.Nodup) (hL : ∀ x ∈ H, x ∈ L) (h0 : o ∈ H) (hc : ∀ x ∈ H, ∀ y ∈ H, add x y ∈ H) (hg : ∀ x ∈ H, neg x ∈ H) :
    ∀ (k : Nat) (R : List α), R.length ≤ k → R.Nodup → (∀ x ∈ R, x ∈ L) → (∀ x ∈ R, ∀ y ∈ H, add x y ∈ R) → H.length ∣ R.length
  | 0, R, hk, _, _, _ => by rw [show R.length = 0 by omega]; exact Nat.dvd_zero _
  | k + 1, [], _, _, _, _ => Nat.dvd_zero _
  | k + 1, x :: t, hk, hR, hRL, hRc => by
    have hx : x ∈ L := hRL x (List.mem_cons_self ..)
    have hC : (H.map (add x)).Nodup := nodup_map hn fun a ha b hb e => h.cancel hx (hL a ha) (hL b hb) e
    have hmem : ∀ y, y ∈ H.map (add x) → y ∈ x :: t := fun y hy => by
      obtain ⟨a, ha, rfl⟩ := List.mem_map.1 hy
      exact hRc x (List.mem_cons_self ..) a ha
    have hs := filter_split (fun y => decide (y ∈ H.map (add x))) (x :: t)
    have e1 : ((x :: t).filter (fun y => decide (y ∈ H.map (add x)))).length = (H.map (add x)).length :=
      nodup_eq (List.Nodup.sublist List.filter_sublist hR) hC fun y => by
        rw [List.mem_filter, decide_eq_true_eq]
        exact ⟨fun q => q.2, fun q => ⟨hmem y q, q⟩⟩
    have hxC : x ∈ H.map (add x) := List.mem_map.2 ⟨o, h0, h.addo hx⟩
    have hpos : 0 < H.length := List.length_pos_of_mem h0
    rw [e1, List.length_map] at hs
    have ih := AbL.coset h hn hL h0 hc hg k ((x :: t).filter (fun y => !decide (y ∈ H.map (add x)))) (by omega) (List.Nodup.sublist List.filter_sublist hR)
      (fun y hy => hRL y (List.mem_filter.1 hy).1) (fun y hy z hz => by
        rw [List.mem_filter] at hy ⊢
        refine ⟨hRc y hy.1 z hz, ?_⟩
        have h2 := hy.2
        simp only [Bool.not_eq_true', decide_eq_false_iff_not] at h2 ⊢
        intro hm
        obtain ⟨a, ha, e⟩ := List.mem_map.1 hm
        apply h2
        refine List.mem_map.2 ⟨add a (neg z), hc a ha _ (hg z hz), ?_⟩
        have hy' := hRL y hy.1
        rw [← h.assoc _ hx _ (hL a ha) _ (h.negc _ (hL z hz)), e, h.assoc _ hy' _ (hL z hz) _ (h.negc _ (hL z hz)), h.addneg _ (hL z hz), h.addo hy'])
    rw [← hs]
    exact Nat.dvd_add (Nat.dvd_refl _) ih
theorem AbL.neg_o (h : AbL L add o neg) : neg o = o := by
  have := h.addneg o h.zero
  rwa [h.oadd] at this
theorem AbL.sq_inj (h : AbL L add o neg) {x : α} (hx : x ∈ L) {K : Nat} (hK : IsOr add o x K) {i j : Nat} (hi : i < K) (hj : j < K) (e : sq add o x i = sq add o x j) : i = j := by
  have key : ∀ i j : Nat, i ≤ j → j < K → sq add o x i = sq add o x j → i = j := fun i j hij hj e => by
    have e2 : sq add o x j = add (sq add o x i) (sq add o x (j - i)) := by rw [← h.sq_add hx, show i + (j - i) = j by omega]
    have e3 : sq add o x (j - i) = o := h.cancel (h.sqc hx i) (h.sqc hx _) h.zero (by rw [← e2, ← e, h.addo (h.sqc hx i)])
    have := (h.or_dvd hx hK).1 e3
    have := Nat.eq_zero_of_dvd_of_lt this (by omega)
    omega
  rcases Nat.le_total i j with q | q
  · exact key i j q hj e
  · exact (key j i q hi e.symm).symm
/-- the multiples of an element. -/
def cyc (add : α → α → α) (o x : α) (K : Nat) : List α := (List.range K).map (sq add o x)
theorem mem_cyc {x y : α} {K : Nat} : y ∈ cyc add o x K ↔ ∃ k, k < K ∧ sq add o x k = y := by unfold cyc; simp
theorem AbL.cyc_mem (h : AbL L add o neg) {x : α} (hx : x ∈ L) {K : Nat} (hK : IsOr add o x K) (n : Nat) : sq add o x n ∈ cyc add o x K := by
  rw [mem_cyc]
  refine ⟨n % K, Nat.mod_lt _ hK.1, ?_⟩
  conv => rhs; rw [← Nat.div_add_mod n K]
  rw [h.sq_add hx, ← h.sq_mul hx, hK.2.1, h.sq_o, h.oadd]
theorem AbL.cyc_nodup (h : AbL L add o neg) {x : α} (hx : x ∈ L) {K : Nat} (hK : IsOr add o x K) : (cyc add o x K).Nodup :=
  nodup_map List.nodup_range fun _ hi _ hj e => h.sq_inj hx hK (List.mem_range.1 hi) (List.mem_range.1 hj) e
theorem AbL.cyc_neg (h : AbL L add o neg) {x : α} (hx : x ∈ L) {K : Nat} (hK : IsOr add o x K) {y : α} (hy : y ∈ cyc add o x K) : neg y ∈ cyc add o x K := by
  obtain ⟨k, hk, rfl⟩ := mem_cyc.1 hy
  have e : neg (sq add o x k) = sq add o x (K - k) := by
    refine h.cancel (h.sqc hx k) (h.negc _ (h.sqc hx k)) (h.sqc hx _) ?_
    rw [h.addneg _ (h.sqc hx k), ← h.sq_add hx, show k + (K - k) = K by omega, hK.2.1]
  rw [e]
  exact h.cyc_mem hx hK _
theorem AbL.or_len [DecidableEq α] (h : AbL L add o neg) {x : α} (hx : x ∈ L) {K : Nat} (hK : IsOr add o x K) : K ∣ L.length := by
  have := h.coset (h.cyc_nodup hx hK) (fun y hy => by obtain ⟨k, _, rfl⟩ := mem_cyc.1 hy; exact h.sqc hx k) (h.cyc_mem hx hK 0)
    (fun y hy z hz => by
      obtain ⟨i, _, rfl⟩ := mem_cyc.1 hy
      obtain ⟨j, _, rfl⟩ := mem_cyc.1 hz
      rw [← h.sq_add hx]
      exact h.cyc_mem hx hK _)
    (fun y hy => h.cyc_neg hx hK hy) _ L (Nat.le_refl _) h.nd (fun _ h => h) (fun y hy z hz => h.closed _ hy _ (by obtain ⟨k, _, rfl⟩ := mem_cyc.1 hz; exact h.sqc hx k))
  rwa [cyc, List.length_map, List.length_range] at this
/-- an element of order two beside the multiples of another one: twice its order divides the number of elements. -/
theorem AbL.two_len [DecidableEq α] (h : AbL L add o neg) {x t : α} (hx : x ∈ L) (ht : t ∈ L) {K : Nat} (hK : IsOr add o x K) (h2 : add t t = o) (hnt : t ∉ cyc add o x K) : 2 * K ∣ L.length := by
  have hcm : ∀ y ∈ cyc add o x K, y ∈ L := fun y hy => by obtain ⟨k, _, rfl⟩ := mem_cyc.1 hy; exact h.sqc hx k
  have hcc : ∀ y ∈ cyc add o x K, ∀ z ∈ cyc add o x K, add y z ∈ cyc add o x K := fun y hy z hz => by
    obtain ⟨i, _, rfl⟩ := mem_cyc.1 hy
    obtain ⟨j, _, rfl⟩ := mem_cyc.1 hz
    rw [← h.sq_add hx]
    exact h.cyc_mem hx hK _
  have hneg : neg t = t := h.cancel ht (h.negc _ ht) ht (by rw [h.addneg _ ht, h2])
  have hmem : ∀ y, y ∈ cyc add o x K ++ (cyc add o x K).map (add t) ↔ y ∈ cyc add o x K ∨ ∃ z ∈ cyc add o x K, add t z = y := fun y => by rw [List.mem_append, List.mem_map]
  have hN : (cyc add o x K ++ (cyc add o x K).map (add t)).Nodup := by
    rw [List.nodup_append]
    refine ⟨h.cyc_nodup hx hK, nodup_map (h.cyc_nodup hx hK) fun a ha b hb e => h.cancel ht (hcm a ha) (hcm b hb) e, fun a ha b hb e => ?_⟩
    subst e
    obtain ⟨z, hz, e⟩ := List.mem_map.1 hb
    apply hnt
    have hz' := hcm z hz
    have e2 : t = add a (neg z) := by rw [← e, h.assoc _ ht _ hz' _ (h.negc _ hz'), h.addneg _ hz', h.addo ht]
    rw [e2]
    exact hcc a ha _ (h.cyc_neg hx hK hz)
  have hsw : ∀ a ∈ L, ∀ b ∈ L, add a (add t b) = add t (add a b) := fun a ha b hb => by rw [← h.assoc _ ha _ ht _ hb, h.comm _ ha _ ht, h.assoc _ ht _ ha _ hb]
  have := h.coset hN (fun y hy => by
      rcases (hmem y).1 hy with hy | ⟨z, hz, rfl⟩
      · exact hcm y hy
      · exact h.closed _ ht _ (hcm z hz)) ((hmem o).2 (.inl (h.cyc_mem hx hK 0)))
    (fun y hy z hz => (hmem _).2 (by
      rcases (hmem y).1 hy with hy | ⟨y', hy', rfl⟩ <;> rcases (hmem z).1 hz with hz | ⟨z', hz', rfl⟩
      · exact .inl (hcc y hy z hz)
      · exact .inr ⟨add y z', hcc y hy z' hz', (hsw y (hcm y hy) z' (hcm z' hz')).symm⟩
      · exact .inr ⟨add y' z, hcc y' hy' z hz, (h.assoc _ ht _ (hcm y' hy') _ (hcm z hz)).symm⟩
      · refine .inl ?_
        rw [hsw _ (h.closed _ ht _ (hcm y' hy')) _ (hcm z' hz'), h.assoc _ ht _ (hcm y' hy') _ (hcm z' hz'), ← h.assoc _ ht _ ht _ (h.closed _ (hcm y' hy') _ (hcm z' hz')), h2, h.oadd]
        exact hcc y' hy' z' hz'))
    (fun y hy => (hmem _).2 (by
      rcases (hmem y).1 hy with hy | ⟨z, hz, rfl⟩
      · exact .inl (h.cyc_neg hx hK hy)
      · refine .inr ⟨neg z, h.cyc_neg hx hK hz, ?_⟩
        have hz' := hcm z hz
        have hn' := h.negc _ hz'
        refine h.cancel (h.closed _ ht _ hz') (h.closed _ ht _ hn') (h.negc _ (h.closed _ ht _ hz')) ?_
        rw [h.addneg _ (h.closed _ ht _ hz'), h.comm _ ht _ hz', h.assoc _ hz' _ ht _ (h.closed _ ht _ hn'), ← h.assoc _ ht _ ht _ hn', h2, h.oadd, h.addneg _ hz']))
    _ L (Nat.le_refl _) h.nd (fun _ h => h) (fun y hy z hz => h.closed _ hy _ (by
      rcases (hmem z).1 hz with hz | ⟨z', hz', rfl⟩
      · exact hcm z hz
      · exact h.closed _ ht _ (hcm z' hz')))
  rwa [List.length_append, List.length_map, cyc, List.length_map, List.length_range, ← Nat.two_mul] at this
/-! the greatest order -/
theorem AbL.or_prod (h : AbL L add o neg) {x y : α} (hx : x ∈ L) (hy : y ∈ L) {m n : Nat} (hm : IsOr add o x m) (hn : IsOr add o y n) (hc : Nat.Coprime m n) : IsOr add o (add x y) (m * n) := by
  have hxy := h.closed _ hx _ hy
  refine ⟨Nat.mul_pos hm.1 hn.1, ?_, fun j h1 h2 e => ?_⟩
  · rw [h.sq_sum hx hy, (h.or_dvd hx hm).2 (Nat.dvd_mul_right _ _), (h.or_dvd hy hn).2 (Nat.dvd_mul_left _ _), h.oadd]
  · have hk : ∀ k, sq add o (add x y) (j * k) = o := fun k => by rw [← h.sq_mul hxy, e, h.sq_o]
    have d1 : m ∣ j := by
      have k1 := hk n
      rw [h.sq_sum hx hy, (h.or_dvd hy hn).2 (Nat.dvd_mul_left _ _), h.addo (h.sqc hx _)] at k1
      exact hc.dvd_of_dvd_mul_right ((h.or_dvd hx hm).1 k1)
    have d2 : n ∣ j := by
      have k1 := hk m
      rw [h.sq_sum hx hy, (h.or_dvd hx hm).2 (Nat.dvd_mul_left _ _), h.oadd] at k1
      exact hc.symm.dvd_of_dvd_mul_right ((h.or_dvd hy hn).1 k1)
    have := Nat.le_of_dvd h1 (hc.mul_dvd_of_dvd_of_dvd d1 d2)
    omega
theorem AbL.or_part (h : AbL L add o neg) {x : α} (hx : x ∈ L) {u v : Nat} (hm : IsOr add o x (u * v)) : IsOr add o (sq add o x u) v := by
  have hu : 0 < u := by rcases Nat.eq_zero_or_pos u with z | z; · have := hm.1; rw [z, Nat.zero_mul] at this; omega
                        · exact z
  have hv : 0 < v := by rcases Nat.eq_zero_or_pos v with z | z; · have := hm.1; rw [z, Nat.mul_zero] at this; omega
                        · exact z
  refine ⟨hv, by rw [h.sq_mul hx]; exact hm.2.1, fun j h1 h2 e => ?_⟩
  rw [h.sq_mul hx] at e
  have := Nat.le_of_dvd (Nat.mul_pos hu h1) ((h.or_dvd hx hm).1 e)
  have := Nat.le_of_mul_le_mul_left this hu
  omega
theorem least_div : ∀ n : Nat, 2 ≤ n → ∃ l, 2 ≤ l ∧ l ∣ n ∧ ∀ d, 2 ≤ d → d ∣ l → d = l := by
  intro n
  induction n using Nat.strongRecOn with
  | ind n ih =>
    intro h2
    by_cases h : ∃ d, 2 ≤ d ∧ d < n ∧ d ∣ n
    · obtain ⟨d, a, b, c⟩ := h
      obtain ⟨l, p, q, r⟩ := ih d b a
      exact ⟨l, p, Nat.dvd_trans q c, r⟩
    · refine ⟨n, h2, Nat.dvd_refl n, fun d a b => ?_⟩
      have := Nat.le_of_dvd (by omega) b
      rcases Nat.lt_or_ge d n with z | z
      · exact absurd ⟨d, a, z, b⟩ h
      · omega
theorem cop_prime {l m : Nat} (h2 : 2 ≤ l) (hp : ∀ d, 2 ≤ d → d ∣ l → d = l) (h : ¬ l ∣ m) : Nat.Coprime l m := by
  rcases Nat.lt_or_ge (Nat.gcd l m) 2 with z | z
  · have : 0 < Nat.gcd l m := Nat.gcd_pos_of_pos_left _ (by omega)
    unfold Nat.Coprime; omega
  · exact absurd (hp _ z (Nat.gcd_dvd_left _ _) ▸ Nat.gcd_dvd_right l m) h
theorem max_pow {l : Nat} (h2 : 2 ≤ l) : ∀ n, 1 ≤ n → ∃ j r, n = l ^ j * r ∧ ¬ l ∣ r := by
  intro n
  induction n using Nat.strongRecOn with
  | ind n ih =>
    intro h1
    by_cases h : l ∣ n
    · obtain ⟨m, rfl⟩ := h
      have hm : 1 ≤ m := by rcases Nat.eq_zero_or_pos m with z | z; · rw [z] at h1; omega
                            · exact z
      have hlt : m < l * m := by have := Nat.mul_le_mul_right m h2; omega
      obtain ⟨j, r, e, hr⟩ := ih m hlt hm
      exact ⟨j + 1, r, by rw [e, Nat.pow_succ, Nat.mul_comm (l ^ j) l, Nat.mul_assoc], hr⟩
    · exact ⟨0, n, by simp, h⟩
theorem AbL.max_or (h : AbL L add o neg) {x : α} (hx : x ∈ L) {M : Nat} (hM : IsOr add o x M) (hmax : ∀ y ∈ L, ∀ K, IsOr add o y K → K ≤ M) : ∀ y ∈ L, ∀ K, IsOr add o y K → K ∣ M := by
  intro y hy n hn
  have g0 : 0 < Nat.gcd n M := Nat.gcd_pos_of_pos_left _ hn.1
  obtain ⟨q, hq⟩ := Nat.gcd_dvd_left n M
  rcases Nat.lt_or_ge q 2 with z | z
  · have hq1 : q = 1 := by
      have : q ≠ 0 := by rintro rfl; have := hn.1; omega
      omega
    rw [hq1, Nat.mul_one] at hq
    rw [hq]
    exact Nat.gcd_dvd_right _ _
  · obtain ⟨l, l2, lq, lp⟩ := least_div q z
    obtain ⟨j, n', en, hn'⟩ := max_pow l2 n hn.1
    obtain ⟨i, M', eM, hM'⟩ := max_pow l2 M hM.1
    have hij : i < j := by
      rcases Nat.lt_or_ge i j with k | k
      · exact k
      · exfalso
        have d1 : l ^ j ∣ Nat.gcd n M := Nat.dvd_gcd ⟨n', en⟩ (Nat.dvd_trans (Nat.pow_dvd_pow l k) ⟨M', eM⟩)
        obtain ⟨g', eg⟩ := d1
        rw [eg, Nat.mul_assoc] at hq
        have : n' = g' * q := Nat.eq_of_mul_eq_mul_left (Nat.pow_pos (by omega : 0 < l)) (by rw [← en]; exact hq)
        exact hn' (this ▸ Nat.dvd_trans lq (Nat.dvd_mul_left _ _))
    have h1 : IsOr add o (sq add o x (l ^ i)) M' := h.or_part hx (by rw [← eM]; exact hM)
    have h2 : IsOr add o (sq add o y n') (l ^ j) := h.or_part hy (by rw [Nat.mul_comm, ← en]; exact hn)
    have hc : Nat.Coprime M' (l ^ j) := Nat.Coprime.pow_right j (cop_prime l2 lp hM').symm
    have h3 := h.or_prod (h.sqc hx _) (h.sqc hy _) h1 h2 hc
    have h4 := hmax _ (h.closed _ (h.sqc hx _) _ (h.sqc hy _)) _ h3
    have hM0 : 0 < M' := by rcases Nat.eq_zero_or_pos M' with z | z; · have := hM.1; rw [eM, z, Nat.mul_zero] at this; omega
                            · exact z
    have h5 : l ^ i < l ^ j := Nat.pow_lt_pow_right (by omega) hij
    have h6 := Nat.mul_lt_mul_of_pos_right h5 hM0
    rw [Nat.mul_comm M' (l ^ j)] at h4
    omega
end
end Go.Proofs.Ytpjcfnjagknocaa.Hs
