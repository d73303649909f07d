/- Hf: plain: certificates of curves modulo a prime, in natural numbers, for the kernel; what they show. No conditions. -/
import Derived.Test.YtpjcfnjagknocaaHe
namespace Go.Proofs.Ytpjcfnjagknocaa.Hs
open Go.Proofs.Ytpjcfnjagknocaa

def nslope (p a s0 s1 t0 t1 : Nat) : Nat :=
  bif Nat.beq s0 t0 then (3 * s0 * s0 + a) % p * (((2 * s1) % p) ^ (p - 2) % p) % p else (t1 + (p - s1)) % p * (((t0 + (p - s0)) % p) ^ (p - 2) % p) % p
def nx (p s0 t0 m : Nat) : Nat := (m * m + (p - s0) + (p - t0)) % p
def ny (p s0 s1 x m : Nat) : Nat := (m * (s0 + (p - x)) + (p - s1)) % p
def nadd (p a : Nat) : List Nat → List Nat → List Nat
  | [], t => t
  | s, [] => s
  | [s0, s1], [t0, t1] => bif Nat.beq s0 t0 && Nat.beq ((s1 + t1) % p) 0 then [] else [nx p s0 t0 (nslope p a s0 s1 t0 t1), ny p s0 s1 (nx p s0 t0 (nslope p a s0 s1 t0 t1)) (nslope p a s0 s1 t0 t1)]
  | _, _ => []
def toI (s : List Nat) : List Int := s.map fun x : Nat => (x : Int)
def NPt (p : Nat) (s : List Nat) : Prop := s = [] ∨ ∃ x y, s = [x, y] ∧ x < p ∧ y < p
theorem sub_cast {p x y : Nat} (hy : y ≤ p) : (((x + (p - y)) % p : Nat) : Int) = ((x : Int) - y) % p := by
  rw [Int.natCast_emod, Int.natCast_add, Int.natCast_sub hy, show (x : Int) + (p - y) = (x : Int) - y + p by omega, Int.add_emod_right]
theorem nslope_is {p : Nat} (hp : 2 ≤ p) {a s0 s1 t0 t1 : Nat} (h0 : s0 < p) (h1 : s1 < p) : (nslope p a s0 s1 t0 t1 : Int) = slopeI a p s0 s1 t0 t1 := by
  unfold nslope slopeI numI denI powI
  rw [show ((p : Int) - 2).toNat = p - 2 by omega]
  by_cases h : s0 = t0
  · subst h
    rw [Nat.beq_refl, cond_true, if_pos rfl, if_pos rfl]
    push_cast
    rfl
  · have hb : Nat.beq s0 t0 = false := by
      rw [Bool.eq_false_iff]; exact fun k => h (Nat.eq_of_beq_eq_true k)
    rw [hb, cond_false, if_neg (by omega), if_neg (by omega), ← sub_cast (Nat.le_of_lt h1), ← sub_cast (Nat.le_of_lt h0)]
    push_cast
    rfl
theorem nx_is {p s0 t0 m : Nat} (h0 : s0 < p) (h1 : t0 < p) : (nx p s0 t0 m : Int) = sumX m p s0 t0 := by
  unfold nx sumX
  have h := sub_cast (p := p) (x := m * m + (p - s0)) (y := t0) (Nat.le_of_lt h1)
  rw [h, Int.natCast_add, Int.natCast_sub (Nat.le_of_lt h0), Int.natCast_mul, show (m : Int) * m + ((p : Int) - s0) - t0 = (m : Int) * m - s0 - t0 + p by omega, Int.add_emod_right]
theorem ny_is {p s0 s1 x m : Nat} (h0 : s1 < p) (h1 : x < p) : (ny p s0 s1 x m : Int) = sumY m p s0 s1 x := by
  unfold ny sumY
  rw [sub_cast (Nat.le_of_lt h0), Int.natCast_mul, Int.natCast_add, Int.natCast_sub (Nat.le_of_lt h1)]
  have e : (m : Int) * ((s0 : Int) + ((p : Int) - x)) - s1 = ((m : Int) * ((s0 : Int) - x) - s1) + p * m := by grind
  rw [e, Int.add_mul_emod_self_left]
theorem nadd_is {p a : Nat} (hp : 2 ≤ p) {s t : List Nat} (hs : NPt p s) (ht : NPt p t) : toI (nadd p a s t) = addI a p (toI s) (toI t) ∧ NPt p (nadd p a s t) := by
  rcases hs with rfl | ⟨s0, s1, rfl, a0, a1⟩
  · have e : nadd p a [] t = t := by simp [nadd]
    rw [e]
    exact ⟨(addI_nil _ _ _).symm, ht⟩
  rcases ht with rfl | ⟨t0, t1, rfl, b0, b1⟩
  · have e : nadd p a [s0, s1] [] = [s0, s1] := by simp [nadd]
    rw [e]
    exact ⟨(addI_nil' _ _ _).symm, .inr ⟨_, _, rfl, a0, a1⟩⟩
  have e : nadd p a [s0, s1] [t0, t1] = bif Nat.beq s0 t0 && Nat.beq ((s1 + t1) % p) 0 then [] else [nx p s0 t0 (nslope p a s0 s1 t0 t1), ny p s0 s1 (nx p s0 t0 (nslope p a s0 s1 t0 t1)) (nslope p a s0 s1 t0 t1)] := rfl
  have e2 : toI [s0, s1] = [(s0 : Int), (s1 : Int)] := rfl
  have e3 : toI [t0, t1] = [(t0 : Int), (t1 : Int)] := rfl
  rw [e, e2, e3, addI_pair2]
  by_cases h : s0 = t0 ∧ (s1 + t1) % p = 0
  · have hb : (Nat.beq s0 t0 && Nat.beq ((s1 + t1) % p) 0) = true := by rw [h.1, h.2, Nat.beq_refl]; rfl
    rw [hb, cond_true, if_pos ⟨by omega, by exact_mod_cast h.2⟩]
    exact ⟨rfl, .inl rfl⟩
  · have hb : (Nat.beq s0 t0 && Nat.beq ((s1 + t1) % p) 0) = false := by
      rw [Bool.eq_false_iff, Ne, Bool.and_eq_true]
      exact fun k => h ⟨Nat.eq_of_beq_eq_true k.1, Nat.eq_of_beq_eq_true k.2⟩
    have hx : nx p s0 t0 (nslope p a s0 s1 t0 t1) < p := Nat.mod_lt _ (by omega)
    have hy : ny p s0 s1 (nx p s0 t0 (nslope p a s0 s1 t0 t1)) (nslope p a s0 s1 t0 t1) < p := Nat.mod_lt _ (by omega)
    rw [hb, cond_false, if_neg (fun k => h ⟨by omega, by exact_mod_cast k.2⟩)]
    refine ⟨?_, .inr ⟨_, _, rfl, hx, hy⟩⟩
    show [((nx p s0 t0 (nslope p a s0 s1 t0 t1) : Nat) : Int), ((ny p s0 s1 (nx p s0 t0 (nslope p a s0 s1 t0 t1)) (nslope p a s0 s1 t0 t1) : Nat) : Int)] = _
    rw [ny_is a1 hx, nx_is a0 b0, nslope_is hp a0 a1]
def ntim (p a : Nat) : Nat → Nat → List Nat → List Nat → List Nat
  | 0, _, out, _ => out
  | f + 1, n, out, s => bif Nat.beq n 0 then out else ntim p a f (n / 2) (bif Nat.beq (n % 2) 1 then nadd p a out s else out) (nadd p a s s)
theorem ntim_is {p a : Nat} (hp : 2 ≤ p) : ∀ (f n : Nat) (out s : List Nat), n < 2 ^ f → NPt p out → NPt p s → toI (ntim p a f n out s) = timI a p n (toI out) (toI s)
  | 0, n, out, s, h, _, _ => by
    rw [show n = 0 by simpa using h, timI_zero]; rfl
  | f + 1, n, out, s, h, ho, hs => by
    by_cases h0 : n = 0
    · subst h0; rw [timI_zero]; rfl
    have hb : Nat.beq n 0 = false := by rw [Bool.eq_false_iff]; exact fun k => h0 (Nat.eq_of_beq_eq_true k)
    have hn : n / 2 < 2 ^ f := by rw [Nat.pow_succ] at h; omega
    obtain ⟨d1, d2⟩ := nadd_is (a := a) hp hs hs
    have e : ntim p a (f + 1) n out s = bif Nat.beq n 0 then out else ntim p a f (n / 2) (bif Nat.beq (n % 2) 1 then nadd p a out s else out) (nadd p a s s) := rfl
    rw [e, hb, cond_false]
    by_cases h2 : n % 2 = 1
    · obtain ⟨c1, c2⟩ := nadd_is (a := a) hp ho hs
      rw [h2, Nat.beq_refl, cond_true, timI_odd _ _ _ _ h2, ntim_is hp f _ _ _ hn c2 d2, c1, d1]
    · have hb2 : Nat.beq (n % 2) 1 = false := by rw [Bool.eq_false_iff]; exact fun k => h2 (Nat.eq_of_beq_eq_true k)
      rw [hb2, cond_false, timI_even _ _ _ _ h0 h2, ntim_is hp f _ _ _ hn ho d2, d1]
def rowv (m v : Nat) : Nat := bif Nat.beq v 0 then 1 else bif Nat.beq ((m >>> v) % 2) 1 then 2 else 0
def sqM (p : Nat) : Nat := mask ((List.range (p - 1)).map fun y => (y + 1) * (y + 1) % p)
def nsol (p a b m : Nat) : Nat → Nat
  | 0 => 0
  | x + 1 => nsol p a b m x + rowv m ((x * x * x + a * x + b) % p)
theorem bit_of (m v : Nat) : Nat.beq ((m >>> v) % 2) 1 = m.testBit v := by
  rw [Nat.testBit_eq_decide_div_mod_eq, Nat.shiftRight_eq_div_pow, Bool.eq_iff_iff]
  simp
theorem rowv_is {p v : Nat} (hp : p5B p = true) (hv : v < p) : (rowv (sqM p) v : Int) = 1 + symI (v : Int) p := by
  have hbd := p5_bd hp
  rw [symI_nat hp hv]
  unfold rowv
  rw [bit_of]
  by_cases h0 : v = 0
  · subst h0
    have : ¬ 0 ^ ((p - 1) / 2) % p = 1 := by
      rw [Nat.zero_pow (by omega)]; simp
    rw [if_neg this, if_pos rfl]; rfl
  · have hb : Nat.beq v 0 = false := by rw [Bool.eq_false_iff]; exact fun k => h0 (Nat.eq_of_beq_eq_true k)
    rw [hb, cond_false, if_neg h0]
    by_cases h1 : v ^ ((p - 1) / 2) % p = 1
    · obtain ⟨y, y1, y2, e⟩ := (sq_iff hp hv).1 h1
      have : (sqM p).testBit v = true := bit_mask v _ (List.mem_map.2 ⟨y - 1, List.mem_range.2 (by omega), by rw [show y - 1 + 1 = y by omega]; exact e⟩)
      rw [this, if_pos h1]; rfl
    · have : (sqM p).testBit v = false := by
        rw [Bool.eq_false_iff]
        intro h
        obtain ⟨y, hy, e⟩ := List.mem_map.1 (mask_bit v _ h)
        rw [List.mem_range] at hy
        exact h1 ((sq_iff hp hv).2 ⟨y + 1, by omega, by omega, e⟩)
      rw [this, if_neg h1]; rfl
theorem nsol_is {p : Nat} (hp : p5B p = true) (a b : Nat) : nsol p a b (sqM p) p = solN p a b := by
  have hbd := p5_bd hp
  have key : ∀ n, nsol p a b (sqM p) n = ((List.range n).map fun x => ((List.range p).filter (solF p a b x)).length).sum := fun n => by
    induction n with
    | zero => rfl
    | succ n ih =>
      rw [List.range_succ, List.map_append, List.sum_append, ← ih]
      have hv : (n * n * n + a * n + b) % p < p := Nat.mod_lt _ (by omega)
      have h1 := rowv_is hp hv
      have h2 := sq_count hp hv
      have e : (List.range p).filter (solF p a b n) = (List.range p).filter fun y => y * y % p == (n * n * n + a * n + b) % p := rfl
      simp only [List.map_cons, List.map_nil, List.sum_cons, List.sum_nil, Nat.add_zero]
      rw [e]
      show nsol p a b (sqM p) n + rowv (sqM p) ((n * n * n + a * n + b) % p) = _
      omega
  rw [key, solN_rows]
def nroots (p a b : Nat) : Nat → Nat
  | 0 => 0
  | x + 1 => nroots p a b x + bif Nat.beq ((x * x * x + a * x + b) % p) 0 then 1 else 0
theorem rs_natN {p a b x : Nat} : rsI a b p x = (((x * x * x + a * x + b) % p : Nat) : Int) := by unfold rsI; push_cast; rfl
theorem nroots_is (p a b : Nat) : nroots p a b p = (rtL a b p).length := by
  have key : ∀ n, nroots p a b n = ((List.range n).filter fun x : Nat => decide (rsI a b p (x : Int) = 0)).length := fun n => by
    induction n with
    | zero => rfl
    | succ n ih =>
      rw [List.range_succ, List.filter_append, List.length_append, ← ih]
      show nroots p a b n + (bif Nat.beq ((n * n * n + a * n + b) % p) 0 then 1 else 0) = _
      by_cases h : (n * n * n + a * n + b) % p = 0
      · have : rsI a b p n = 0 := by rw [rs_natN, h]; rfl
        rw [h]; simp [this]
      · have hb : Nat.beq ((n * n * n + a * n + b) % p) 0 = false := by rw [Bool.eq_false_iff]; exact fun k => h (Nat.eq_of_beq_eq_true k)
        have : ¬ rsI a b p n = 0 := by rw [rs_natN]; omega
        rw [hb]; simp [this]
  rw [key]; unfold rtL; rw [Int.toNat_natCast]
def nil (s : List Nat) : Bool := match s with | [] => true | _ => false
def prs : List Nat := [2, 3, 5, 7, 11, 13, 17, 19, 23, 29, 31, 37, 41, 43, 47, 53, 59, 61, 67, 71, 73, 79, 83, 89, 97, 101, 103, 107, 109, 113, 127, 131, 137, 139, 149, 151, 157, 163, 167, 173, 179, 181, 191, 193, 197, 199, 211, 223, 227, 229, 233, 239, 241, 251]
theorem prs_all {l : Nat} (h2 : 2 ≤ l) (h : l < 256) (hp : ∀ d, 2 ≤ d → d ∣ l → d = l) : l ∈ prs := by
  have key : ((List.range 256).all fun l => Nat.ble l 1 || (prs.contains l || [2, 3, 5, 7, 11, 13].any fun d => Nat.beq (l % d) 0 && !(Nat.beq d l))) = true := by decide +kernel
  have h1 := List.all_eq_true.1 key l (List.mem_range.2 h)
  rw [Bool.or_eq_true, Bool.or_eq_true] at h1
  rcases h1 with h1 | h1 | h1
  · have := Nat.le_of_ble_eq_true h1
    omega
  · exact List.contains_iff_mem.1 h1
  · obtain ⟨d, hd, h3⟩ := List.any_eq_true.1 h1
    rw [Bool.and_eq_true, Bool.not_eq_true'] at h3
    have hd2 : 2 ≤ d := (by decide : ∀ d ∈ [2, 3, 5, 7, 11, 13], 2 ≤ d) d hd
    have := hp d hd2 (Nat.dvd_of_mod_eq_zero (Nat.eq_of_beq_eq_true h3.1))
    rw [this, Nat.beq_refl] at h3
    exact absurd h3.2 (by decide)
/-- the check: N points, a point (x, y) of order K = N / f. -/
def chkK (p a b x y f N K : Nat) : Bool :=
  Nat.beq (y * y % p) ((x * x * x + a * x + b) % p) && (Nat.ble 1 K && (Nat.ble K 255 && (Nat.beq (K * f) N && (Nat.beq (K % f) 0 && (Nat.beq ((p - 1) % f) 0 && (nil (ntim p a 8 K [] [x, y]) &&
    ((prs.all fun q => !(Nat.beq (K % q) 0) || !(nil (ntim p a 8 (K / q) [] [x, y]))) && (Nat.beq (f % 2) 1 || Nat.beq (nroots p a b p) 3))))))))
def chk (p a b m c : Nat) : Bool := chkK p a b (c / p % p) (c % p) (c / (p * p)) (1 + nsol p a b m p) ((1 + nsol p a b m p) / (c / (p * p)))
theorem nil_is {s : List Nat} : nil s = true ↔ s = [] := by cases s <;> simp [nil]
theorem chk_cert {p a b c : Nat} (hp : p5B p = true) (ha : a < p) (hb : b < p) (hd : discI a b % p ≠ 0) (h : chk p a b (sqM p) c = true) : Cert a b p := by
  have hbd := p5_bd hp
  have hp0 : 0 < p := by omega
  have hp2 : 2 ≤ p := by omega
  unfold chk chkK at h
  rw [nsol_is hp] at h
  have hx : c / p % p < p := Nat.mod_lt _ hp0
  have hy : c % p < p := Nat.mod_lt _ hp0
  generalize c / p % p = x at *
  generalize c % p = y at *
  generalize c / (p * p) = f at *
  generalize hK : (1 + solN p a b) / f = K at *
  simp only [Bool.and_eq_true] at h
  obtain ⟨h1, h2, h3, h4, h5, h6, h7, h8, h9⟩ := h
  have h1 := Nat.eq_of_beq_eq_true h1
  have h2 := Nat.le_of_ble_eq_true h2
  have h3 := Nat.le_of_ble_eq_true h3
  have h4 := Nat.eq_of_beq_eq_true h4
  have h5 := Nat.eq_of_beq_eq_true h5
  have h6 := Nat.eq_of_beq_eq_true h6
  have h7 := nil_is.1 h7
  have hs : onF a b p [(x : Int), (y : Int)] = true := on_pair (by omega) (by omega) (by omega) (by omega) (by rw [rs_natN, ← h1]; push_cast; rfl)
  have hG := pts_group hp hd
  have hm := (pts_mem hp).2 hs
  have tm : ∀ k, k ≤ 255 → (toI (ntim p a 8 k [] [x, y]) = seqI a p [(x : Int), (y : Int)] k) := fun k hk => by
    rw [ntim_is hp2 8 k [] [x, y] (by omega) (.inl rfl) (.inr ⟨x, y, rfl, hx, hy⟩)]
    show timI a p k [] [(x : Int), (y : Int)] = _
    rw [tim_seq hp hd k [] _ rfl hs, addI_nil]
  have hz : seqI a p [(x : Int), (y : Int)] K = [] := by rw [← tm K h3, h7]; rfl
  have ho := ordN_is hp hd hs
  have hdv := (seq_ord hp hd hs K).1 hz
  have hKo : ordN a p [(x : Int), (y : Int)] = K := by
    obtain ⟨d, hdd⟩ := hdv
    rcases Nat.lt_or_ge d 2 with hl | hl
    · have : d = 1 := by
        rcases Nat.eq_zero_or_pos d with z | z
        · rw [z] at hdd; omega
        · omega
      rw [this] at hdd; omega
    · exfalso
      obtain ⟨l, l2, ld, lp⟩ := least_div d hl
      obtain ⟨e, he⟩ := ld
      have hlK : K = l * (ordN a p [(x : Int), (y : Int)] * e) := by rw [hdd, he, ← Nat.mul_assoc, ← Nat.mul_assoc, Nat.mul_comm l]
      have hll : l ≤ K := Nat.le_of_dvd h2 ⟨_, hlK⟩
      have hmem := prs_all l2 (by omega) lp
      have h10 := List.all_eq_true.1 h8 l hmem
      have hKl : K / l = ordN a p [(x : Int), (y : Int)] * e := by rw [hlK]; exact Nat.mul_div_cancel_left _ (by omega)
      rw [show K % l = 0 by rw [hlK]; exact Nat.mul_mod_right _ _, Nat.beq_refl] at h10
      simp only [Bool.not_true, Bool.false_or, Bool.not_eq_true'] at h10
      have h11 : seqI a p [(x : Int), (y : Int)] (K / l) = [] := (seq_ord hp hd hs _).2 ⟨e, hKl⟩
      rw [← tm _ (Nat.le_trans (Nat.div_le_self _ _) h3)] at h11
      have h12 : ntim p a 8 (K / l) [] [x, y] = [] := List.map_eq_nil_iff.1 h11
      rw [h12] at h10
      cases h10
  refine ⟨_, K, f, hs, hKo ▸ ho, ?_, Nat.dvd_of_mod_eq_zero h5, ?_, fun he => ?_⟩
  · rw [h4, cnt_sol hp, Int.emod_eq_of_lt (by omega) (by omega), Int.emod_eq_of_lt (by omega) (by omega), Int.toNat_natCast, Int.toNat_natCast]
    push_cast; rfl
  · have : f ∣ p - 1 := Nat.dvd_of_mod_eq_zero h6
    have := Int.natCast_dvd_natCast.2 this
    rwa [Int.natCast_sub (by omega)] at this
  · rw [Bool.or_eq_true] at h9
    rcases h9 with h9 | h9
    · have := Nat.eq_of_beq_eq_true h9
      omega
    · rw [← nroots_is]; exact Nat.eq_of_beq_eq_true h9
def ndisc (p a b : Nat) : Nat := (4 * a * a * a + 27 * b * b) % p
def cls (p g : Nat) : List (Nat × Nat) :=
  ((List.range (p - 1)).map fun k => (k + 1, k + 1)) ++ (((List.range (p - 1)).map fun k => (k + 1, g * (k + 1) % p)) ++ (((List.range 6).map fun i => (0, g ^ i % p)) ++ ((List.range 4).map fun i => (g ^ i % p, 0))))
def runC (p m : Nat) : List (Nat × Nat) → List Nat → Bool
  | [], _ => true
  | _ :: _, [] => false
  | t :: cs, c :: l => (Nat.beq (ndisc p t.1 t.2) 0 || chk p t.1 t.2 m c) && runC p m cs l
theorem runC_at {p m : Nat} : ∀ (cs : List (Nat × Nat)) (l : List Nat), runC p m cs l = true → ∀ t ∈ cs, ndisc p t.1 t.2 = 0 ∨ ∃ c, chk p t.1 t.2 m c = true
  | [], _, _, t, h => by cases h
  | _ :: _, [], h, _, _ => by cases h
  | u :: cs, c :: l, h, t, ht => by
    have h' : ((Nat.beq (ndisc p u.1 u.2) 0 || chk p u.1 u.2 m c) && runC p m cs l) = true := h
    rw [Bool.and_eq_true, Bool.or_eq_true] at h'
    rcases List.mem_cons.1 ht with rfl | ht
    · rcases h'.1 with k | k
      · exact .inl (Nat.eq_of_beq_eq_true k)
      · exact .inr ⟨c, k⟩
    · exact runC_at cs l h'.2 t ht
def covE (p e : Nat) (rs : List Nat) : Bool := Nat.beq (mask (rs.flatMap fun r => (List.range (p - 1)).map fun u => r * (u + 1) ^ e % p)) (2 ^ p - 2)
theorem covE_sound {p e : Nat} {rs : List Nat} (h : covE p e rs = true) {t : Nat} (t1 : 1 ≤ t) (t2 : t < p) : ∃ r ∈ rs, ∃ u, 1 ≤ u ∧ u < p ∧ r * u ^ e % p = t := by
  have h1 := Nat.eq_of_beq_eq_true h
  have h2 := mask_bit t _ (by
    rw [h1, show 2 ^ p - 2 = 2 * (2 ^ (p - 1) - 1) by
      have : 2 ^ p = 2 * 2 ^ (p - 1) := by rw [← Nat.pow_succ']; congr 1; omega
      omega, show t = t - 1 + 1 by omega, Nat.testBit_succ, Nat.mul_div_cancel_left _ (by omega), Nat.testBit_two_pow_sub_one]
    simp; omega)
  obtain ⟨r, hr, h3⟩ := List.mem_flatMap.1 h2
  obtain ⟨u, hu, h4⟩ := List.mem_map.1 h3
  rw [List.mem_range] at hu
  exact ⟨r, hr, u + 1, by omega, by omega, h4⟩
def allC (p g : Nat) (l : List Nat) : Bool := covE p 2 [1, g] && (covE p 6 ((List.range 6).map fun i => g ^ i % p) && (covE p 4 ((List.range 4).map fun i => g ^ i % p) && runC p (sqM p) (cls p g) l))
section
variable {n : Nat} [NeZero n]
theorem rg_disc {U A0 B0 : Fin n} : 4 * (U * U * (U * U) * A0) * (U * U * (U * U) * A0) * (U * U * (U * U) * A0) + 27 * (U * U * U * (U * U * U) * B0) * (U * U * U * (U * U * U) * B0) = U * U * U * U * U * U * U * U * U * U * U * U * (4 * A0 * A0 * A0 + 27 * B0 * B0) := by grind
theorem rg_m0 {x : Fin n} : x * 0 = 0 := by grind
theorem rg_0m {x : Fin n} : 0 * x = 0 := by grind
theorem rg_m1 {x : Fin n} : x * 1 = x := by grind
theorem rg_d0 : 4 * (0 : Fin n) * 0 * 0 + 27 * 0 * 0 = 0 := by grind
theorem rg_1 {x : Fin n} : 1 * 1 * (1 * 1) * x = x := by grind
theorem rg_uv {U V A : Fin n} : U * U * (U * U) * (V * V * (V * V) * A) = (U * V) * (U * V) * ((U * V) * (U * V)) * A := by grind
theorem rg_ba {A B C : Fin n} : B * C * A = B * (A * C) := by grind
theorem rg_b {R U C : Fin n} : R * (U * U) * (U * U * (U * U) * C) = U * U * U * (U * U * U) * (R * C) := by grind
end
theorem allC_cert {p g : Nat} {l : List Nat} (hp : p5B p = true) (hg : g < p) (h : allC p g l = true) {a b : Int} (hd : discI a b % p ≠ 0) : Cert a b p := by
  have hbd := p5_bd hp
  have hp0 : 0 < p := by omega
  have : NeZero p := ⟨by omega⟩
  unfold allC at h
  simp only [Bool.and_eq_true] at h
  obtain ⟨h2, h6, h4, hr⟩ := h
  have hat := runC_at _ _ hr
  have D := cf_disc hd
  obtain ⟨A, hA1, hA⟩ : ∃ A : Nat, A < p ∧ cf p a = nf A := ⟨(a % p).toNat, red_lt hp0 a, by unfold nf; rw [Int.toNat_of_nonneg (Int.emod_nonneg _ (by omega)), cf_mod]⟩
  obtain ⟨B, hB1, hB⟩ : ∃ B : Nat, B < p ∧ cf p b = nf B := ⟨(b % p).toNat, red_lt hp0 b, by unfold nf; rw [Int.toNat_of_nonneg (Int.emod_nonneg _ (by omega)), cf_mod]⟩
  have key : ∀ a0 b0 u : Nat, (a0, b0) ∈ cls p g → a0 < p → b0 < p → 1 ≤ u → u < p → cf p a = nf u * nf u * (nf u * nf u) * nf a0 → cf p b = nf u * nf u * nf u * (nf u * nf u * nf u) * nf b0 → Cert a b p := fun a0 b0 u hm l1 l2 u1 u2 ea eb => by
    obtain ⟨v, huv⟩ := inv_ex hp u1 u2
    have hd0 : discI a0 b0 % p ≠ 0 := fun hz => D (by
      have e : cf p (discI a0 b0) = 0 := by rw [← cf_zero, cf_eq, hz]; simp
      unfold discI at e
      have h4' : cf p 4 = 4 := by rw [show (4 : Int) = 1 + 1 + 1 + 1 by rfl]; simp only [cf_add, cf_one]; grind
      have h27 : cf p 27 = 27 := by rw [show (27 : Int) = 3 * 3 * 3 by rfl]; simp only [cf_mul, cf_three]; grind
      simp only [cf_add, cf_mul, h4', h27] at e
      rw [ea, eb]
      rw [rg_disc]
      have e4 : 4 * nf a0 * nf a0 * nf a0 + 27 * nf b0 * nf b0 = (0 : Fin p) := e
      rw [e4]; exact rg_m0)
    refine cert_scale hp hd huv ea eb ?_
    rcases hat _ hm with hz | ⟨c, hc⟩
    · exfalso
      apply hd0
      have : discI a0 b0 % p = ((ndisc p a0 b0 : Nat) : Int) := by unfold discI ndisc; push_cast; rfl
      rw [this]
      have hz' : ndisc p a0 b0 = 0 := hz
      rw [hz']; rfl
    · exact chk_cert hp l1 l2 hd0 hc
  have unit : ∀ x, 1 ≤ x → x < p → ∃ y, (nf x : Fin p) * nf y = 1 := fun x x1 x2 => by
    obtain ⟨y, hy⟩ := inv_ex hp x1 x2
    exact ⟨y, by rw [← nf_mul, ← nf_one, nf_eq]; exact hy⟩
  have nz : (nf 0 : Fin p) = 0 := cf_zero
  by_cases hA0 : A = 0
  · by_cases hB0 : B = 0
    · exfalso
      apply D
      rw [hA, hB, hA0, hB0, nz]; exact rg_d0
    · obtain ⟨r, hr, u, u1, u2, e⟩ := covE_sound h6 (t := B) (by omega) hB1
      obtain ⟨i, hi, rfl⟩ := List.mem_map.1 hr
      refine key 0 (g ^ i % p) u ?_ hp0 (Nat.mod_lt _ hp0) u1 u2 ?_ ?_
      · unfold cls
        simp only [List.mem_append]
        exact .inr (.inr (.inl (List.mem_map.2 ⟨i, hi, rfl⟩)))
      · rw [hA, hA0, nz]; exact rg_m0.symm
      · rw [hB, ← e, nf_mod, nf_mul]
        have : (nf (u ^ 6) : Fin p) = nf u * nf u * nf u * (nf u * nf u * nf u) := by
          rw [show u ^ 6 = u * u * u * (u * u * u) by simp only [Nat.pow_succ, Nat.pow_zero]; grind]; simp only [nf_mul]
        rw [this]; exact Fin.mul_comm _ _
  · by_cases hB0 : B = 0
    · obtain ⟨r, hr, u, u1, u2, e⟩ := covE_sound h4 (t := A) (by omega) hA1
      obtain ⟨i, hi, rfl⟩ := List.mem_map.1 hr
      refine key (g ^ i % p) 0 u ?_ (Nat.mod_lt _ hp0) hp0 u1 u2 ?_ ?_
      · unfold cls
        simp only [List.mem_append]
        exact .inr (.inr (.inr (List.mem_map.2 ⟨i, hi, rfl⟩)))
      · rw [hA, ← e, nf_mod, nf_mul]
        have : (nf (u ^ 4) : Fin p) = nf u * nf u * (nf u * nf u) := by
          rw [show u ^ 4 = u * u * (u * u) by simp only [Nat.pow_succ, Nat.pow_zero]; grind]; simp only [nf_mul]
        rw [this]; exact Fin.mul_comm _ _
      · rw [hB, hB0, nz]; exact rg_m0.symm
    · obtain ⟨Ai, hAi⟩ := unit A (by omega) hA1
      obtain ⟨r, hr, u, u1, u2, e⟩ := covE_sound h2 (t := B * Ai % p) (by
        rcases Nat.eq_zero_or_pos (B * Ai % p) with z | z
        · exfalso
          have h1 : (nf (B * Ai) : Fin p) = nf 0 := nf_eq.2 (by rw [z]; simp)
          rw [nf_mul, nz] at h1
          have h5 : (nf B : Fin p) = nf 0 := by
            have : (nf B : Fin p) = nf B * nf Ai * nf A := by
              rw [rg_ba, hAi]; exact rg_m1.symm
            rw [this, h1]; exact rg_0m
          have := nf_eq.1 h5
          rw [Nat.mod_eq_of_lt hB1] at this
          simp at this
          exact hB0 this
        · exact z) (Nat.mod_lt _ hp0)
      obtain ⟨v, hv⟩ := unit u u1 u2
      obtain ⟨c, hc1, hc⟩ : ∃ c : Nat, c < p ∧ (nf c : Fin p) = nf v * nf v * (nf v * nf v) * nf A :=
        ⟨v * v * (v * v) * A % p, Nat.mod_lt _ hp0, by rw [nf_mod]; simp only [nf_mul]⟩
      have hcA : (nf A : Fin p) = nf u * nf u * (nf u * nf u) * nf c := by
        rw [hc]
        rw [rg_uv, hv]; exact rg_1.symm
      have hc0 : c ≠ 0 := fun z => by
        rw [z, nz] at hcA
        have h1 : (nf A : Fin p) = nf 0 := by rw [hcA, nz]; exact rg_m0
        have := nf_eq.1 h1
        rw [Nat.mod_eq_of_lt hA1] at this
        simp at this
        exact hA0 this
      have hBt : (nf B : Fin p) = nf u * nf u * nf u * (nf u * nf u * nf u) * (nf r * nf c) := by
        have h1 : (nf (r * u ^ 2) : Fin p) = nf B * nf Ai := by rw [← nf_mul, nf_eq, e]
        have h5 : (nf (r * u ^ 2) : Fin p) = nf r * (nf u * nf u) := by rw [nf_mul, show u ^ 2 = u * u by simp only [Nat.pow_succ, Nat.pow_zero]; grind, nf_mul]
        rw [h5] at h1
        have h7 : (nf B : Fin p) = nf B * nf Ai * nf A := by
          rw [rg_ba, hAi]; exact rg_m1.symm
        rw [h7, ← h1, hcA]
        exact rg_b
      have hr' : r = 1 ∨ r = g := by simpa using hr
      rcases hr' with rfl | rfl
      · refine key c c u ?_ hc1 hc1 u1 u2 (hA.trans hcA) ?_
        · unfold cls
          simp only [List.mem_append]
          exact .inl (List.mem_map.2 ⟨c - 1, List.mem_range.2 (by omega), by rw [show c - 1 + 1 = c by omega]⟩)
        · rw [hB, hBt, nf_one, Fin.one_mul]
      · refine key c (r * c % p) u ?_ hc1 (Nat.mod_lt _ hp0) u1 u2 (hA.trans hcA) ?_
        · unfold cls
          simp only [List.mem_append]
          exact .inr (.inl (List.mem_map.2 ⟨c - 1, List.mem_range.2 (by omega), by rw [show c - 1 + 1 = c by omega]⟩))
        · rw [hB, hBt, nf_mod, nf_mul]
end Go.Proofs.Ytpjcfnjagknocaa.Hs
