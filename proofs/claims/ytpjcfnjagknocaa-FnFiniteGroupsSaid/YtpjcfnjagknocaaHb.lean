/- Hb: plain: the number of points modulo a prime is the number of solutions and one, and lies within the bound of Hasse. No conditions. -/
import Derived.Test.YtpjcfnjagknocaaHa
import Derived.Test.YtpjcfnjagknocaaFg
import Derived.Test.YtpjcfnjagknocaaCp
import Derived.Test.YtpjcfnjagknocaaEc
import Derived.Test.YtpjcfnjagknocaaPm
namespace Go.Proofs.Ytpjcfnjagknocaa.Hs
open Go.Proofs.Ytpjcfnjagknocaa

theorem cnt_ite {α : Type} (q : α → Bool) : ∀ m : List α, (m.map fun x => if q x = true then 1 else 0).sum = (m.filter q).length
  | [] => by simp
  | x :: m => by
    have := cnt_ite q m
    rw [List.map_cons, List.sum_cons, this, List.filter_cons]
    split <;> simp <;> omega
theorem swap_sum {α β : Type} (P : α → β → Bool) (m : List β) : ∀ l : List α, (l.map fun y => (m.filter (P y)).length).sum = (m.map fun x => (l.filter fun y => P y x).length).sum
  | [] => by
    have : ∀ m : List β, (m.map fun _ => 0).sum = 0 := fun m => by induction m <;> simp_all
    simp [this]
  | y :: l => by
    rw [List.map_cons, List.sum_cons, swap_sum P m l, ← cnt_ite (P y) m]
    refine sum_map_add _ _ _ _ fun x _ => ?_
    rw [List.filter_cons]
    split <;> simp <;> omega
theorem range_block (p : Nat) (f : Nat → Nat → Bool) : ∀ n : Nat, ((List.range (n * p)).filter fun k => f (k / p) (k % p)).length = ((List.range n).map fun x => ((List.range p).filter (f x)).length).sum
  | 0 => by simp
  | n + 1 => by
    rw [Nat.add_mul, Nat.one_mul, List.range_add, List.filter_append, List.length_append, range_block p f n, List.range_succ, List.map_append, List.sum_append, List.filter_map, List.length_map]
    have e : (List.range p).filter ((fun k => f (k / p) (k % p)) ∘ fun x => n * p + x) = (List.range p).filter (f n) := by
      refine List.filter_congr fun y hy => ?_
      rw [List.mem_range] at hy
      have hp : 0 < p := by omega
      simp only [Function.comp]
      rw [Nat.add_comm, Nat.add_mul_div_right _ _ hp, Nat.div_eq_of_lt hy, Nat.add_mul_mod_self_right, Nat.mod_eq_of_lt hy, Nat.zero_add]
    rw [e]
    simp
/-- the pairs that solve the equation, as numbers. -/
def solF (p a b x y : Nat) : Bool := y * y % p == (x * x * x + a * x + b) % p
def solK (p a b : Nat) : List Nat := (List.range (p * p)).filter fun k => solF p a b (k / p) (k % p)
theorem solN_rows (p a b : Nat) : solN p a b = ((List.range p).map fun x => ((List.range p).filter (solF p a b x)).length).sum :=
  swap_sum (fun y x => solF p a b x y) (List.range p) (List.range p)
theorem solK_len (p a b : Nat) : (solK p a b).length = solN p a b := by
  rw [solN_rows]; exact range_block p (solF p a b) p
theorem solK_nodup (p a b : Nat) : (solK p a b).Nodup := List.Nodup.sublist List.filter_sublist List.nodup_range
theorem mem_solK {p a b k : Nat} : k ∈ solK p a b ↔ k < p * p ∧ solF p a b (k / p) (k % p) = true := by unfold solK; rw [List.mem_filter, List.mem_range]

section
variable {n : Nat} [NeZero n]
def nf (x : Nat) : Fin n := cf n (x : Int)
theorem nf_mod (x : Nat) : (nf (x % n) : Fin n) = nf x := by unfold nf; rw [Int.natCast_emod]; exact cf_mod _
theorem nf_add (x y : Nat) : (nf (x + y) : Fin n) = nf x + nf y := by unfold nf; rw [Int.natCast_add]; exact cf_add _ _
theorem nf_mul (x y : Nat) : (nf (x * y) : Fin n) = nf x * nf y := by unfold nf; rw [Int.natCast_mul]; exact cf_mul _ _
theorem nf_eq {x y : Nat} : (nf x : Fin n) = nf y ↔ x % n = y % n := by
  unfold nf; rw [cf_eq]; omega
theorem nf_one : (nf 1 : Fin n) = 1 := cf_one
theorem nf_sol {a b x y : Nat} : solF n a b x y = true ↔ (nf y : Fin n) * nf y = nf x * nf x * nf x + nf a * nf x + nf b := by
  unfold solF
  rw [beq_iff_eq, ← nf_eq, nf_mul, nf_add, nf_add, nf_mul, nf_mul, nf_mul]
theorem sol_scale {A B X Y U : Fin n} (h : Y * Y = X * X * X + A * X + B) : (U * U * U * Y) * (U * U * U * Y) = (U * U * X) * (U * U * X) * (U * U * X) + (U * U * (U * U) * A) * (U * U * X) + U * U * U * (U * U * U) * B := by grind
theorem unit_two {U V X Y : Fin n} (h : U * V = 1) (e : U * U * X = U * U * Y) : X = Y := by grind
theorem unit_three {U V X Y : Fin n} (h : U * V = 1) (e : U * U * U * X = U * U * U * Y) : X = Y := by grind
end
def phi (p u k : Nat) : Nat := u * u * (k / p) % p * p + u * u * u * (k % p) % p
theorem phi_div {p u k : Nat} (hp : 0 < p) : phi p u k / p = u * u * (k / p) % p ∧ phi p u k % p = u * u * u * (k % p) % p := by
  have h1 := Nat.mod_lt (u * u * u * (k % p)) hp
  unfold phi
  constructor
  · rw [Nat.add_comm, Nat.add_mul_div_right _ _ hp, Nat.div_eq_of_lt h1, Nat.zero_add]
  · rw [Nat.add_comm, Nat.add_mul_mod_self_right, Nat.mod_mod]
theorem phi_lt {p u k : Nat} (hp : 0 < p) : phi p u k < p * p := by
  have h1 := Nat.mod_lt (u * u * u * (k % p)) hp
  have h2 := Nat.mod_lt (u * u * (k / p)) hp
  unfold phi
  have h3 : (u * u * (k / p) % p + 1) * p ≤ p * p := Nat.mul_le_mul_right p h2
  rw [Nat.add_mul, Nat.one_mul] at h3
  omega
def a4 (p u a : Nat) : Nat := u * u * (u * u) * a % p
def b6 (p u b : Nat) : Nat := u * u * u * (u * u * u) * b % p
theorem scale_le {p u v : Nat} (hp : 0 < p) (huv : u * v % p = 1 % p) (a b : Nat) : solN p a b ≤ solN p (a4 p u a) (b6 p u b) := by
  obtain ⟨q, rfl⟩ : ∃ q, p = q + 1 := ⟨p - 1, by omega⟩
  rw [← solK_len, ← solK_len]
  have hU : (nf u : Fin (q + 1)) * nf v = 1 := by rw [← nf_mul, ← nf_one, nf_eq]; exact huv
  have hn : ((solK (q + 1) a b).map (phi (q + 1) u)).Nodup := by
    refine nodup_map (solK_nodup _ _ _) fun k hk k' hk' e => ?_
    obtain ⟨l1, _⟩ := mem_solK.1 hk
    obtain ⟨l2, _⟩ := mem_solK.1 hk'
    have e1 := phi_div (u := u) (k := k) hp
    have e2 := phi_div (u := u) (k := k') hp
    rw [e] at e1
    have d1 : u * u * (k / (q + 1)) % (q + 1) = u * u * (k' / (q + 1)) % (q + 1) := e1.1.symm.trans e2.1
    have d2 : u * u * u * (k % (q + 1)) % (q + 1) = u * u * u * (k' % (q + 1)) % (q + 1) := e1.2.symm.trans e2.2
    rw [← nf_eq, nf_mul, nf_mul, nf_mul, nf_mul] at d1
    rw [← nf_eq, nf_mul, nf_mul, nf_mul, nf_mul, nf_mul, nf_mul] at d2
    have f1 := nf_eq.1 (unit_two hU d1)
    have f2 := nf_eq.1 (unit_three hU d2)
    have g1 : k / (q + 1) < q + 1 := Nat.div_lt_of_lt_mul l1
    have g2 : k' / (q + 1) < q + 1 := Nat.div_lt_of_lt_mul l2
    rw [Nat.mod_eq_of_lt g1, Nat.mod_eq_of_lt g2] at f1
    rw [Nat.mod_mod, Nat.mod_mod] at f2
    rw [← Nat.div_add_mod k (q + 1), ← Nat.div_add_mod k' (q + 1), f1, f2]
  have := nodup_le _ (solK (q + 1) (a4 (q + 1) u a) (b6 (q + 1) u b)) hn fun x hx => by
    obtain ⟨k, hk, rfl⟩ := List.mem_map.1 hx
    obtain ⟨_, l2⟩ := mem_solK.1 hk
    refine mem_solK.2 ⟨phi_lt hp, ?_⟩
    obtain ⟨e1, e2⟩ := phi_div (u := u) (k := k) hp
    rw [e1, e2, nf_sol, nf_mod, nf_mod]
    unfold a4 b6
    rw [nf_mod, nf_mod]
    simp only [nf_mul]
    exact sol_scale (nf_sol.1 l2)
  rwa [List.length_map] at this
theorem a4_back {p u v a : Nat} (hp : 0 < p) (huv : u * v % p = 1 % p) (ha : a < p) : a4 p v (a4 p u a) = a := by
  obtain ⟨q, rfl⟩ : ∃ q, p = q + 1 := ⟨p - 1, by omega⟩
  have hU : (nf u : Fin (q + 1)) * nf v = 1 := by rw [← nf_mul, ← nf_one, nf_eq]; exact huv
  have e : (nf (a4 (q + 1) v (a4 (q + 1) u a)) : Fin (q + 1)) = nf a := by
    unfold a4
    rw [nf_mod, nf_mul, nf_mod]
    simp only [nf_mul]
    grind
  have h1 := nf_eq.1 e
  have h2 : a4 (q + 1) v (a4 (q + 1) u a) < q + 1 := Nat.mod_lt _ hp
  rwa [Nat.mod_eq_of_lt h2, Nat.mod_eq_of_lt ha] at h1
theorem b6_back {p u v b : Nat} (hp : 0 < p) (huv : u * v % p = 1 % p) (hb : b < p) : b6 p v (b6 p u b) = b := by
  obtain ⟨q, rfl⟩ : ∃ q, p = q + 1 := ⟨p - 1, by omega⟩
  have hU : (nf u : Fin (q + 1)) * nf v = 1 := by rw [← nf_mul, ← nf_one, nf_eq]; exact huv
  have e : (nf (b6 (q + 1) v (b6 (q + 1) u b)) : Fin (q + 1)) = nf b := by
    unfold b6
    rw [nf_mod, nf_mul, nf_mod]
    simp only [nf_mul]
    grind
  have h1 := nf_eq.1 e
  have h2 : b6 (q + 1) v (b6 (q + 1) u b) < q + 1 := Nat.mod_lt _ hp
  rwa [Nat.mod_eq_of_lt h2, Nat.mod_eq_of_lt hb] at h1
theorem scale_eq {p u v a0 b : Nat} (hp : 0 < p) (huv : u * v % p = 1 % p) (ha : a0 < p) (hb : b < p) : solN p (a4 p u a0) b = solN p a0 (b6 p v b) := by
  have hvu : v * u % p = 1 % p := by rw [Nat.mul_comm]; exact huv
  have h1 := scale_le hp huv a0 (b6 p v b)
  rw [b6_back hp hvu hb] at h1
  have h2 := scale_le hp hvu (a4 p u a0) b
  rw [a4_back hp huv ha] at h2
  omega
/-- units: a number below a prime has an inverse. -/
theorem inv_ex {p u : Nat} (hp : p5B p = true) (h1 : 1 ≤ u) (h2 : u < p) : ∃ v, u * v % p = 1 % p := by
  have hb := p5_bd hp
  have h := inv_mul hp (a := (u : Int)) (fun h => by
    have := Int.le_of_dvd (by omega) h
    omega)
  have h0 := powI_bd (a := (u : Int)) (n := (p : Int) - 2) (p := (p : Int)) (by omega)
  obtain ⟨v, hv⟩ : ∃ v : Nat, powI (u : Int) ((p : Int) - 2) p = v := ⟨(powI (u : Int) ((p : Int) - 2) p).toNat, by omega⟩
  rw [hv] at h
  refine ⟨v, ?_⟩
  rw [Nat.mod_eq_of_lt (show 1 < p by omega)]
  exact_mod_cast h
set_option maxRecDepth 100000 in
theorem allPs_cov : ((List.range 998).all fun p => !(isP p) || (Nat.ble p 4 || allPs.any fun t => Nat.beq t.1 p && (Nat.ble (t.2.2 * t.2.2) (4 * p) && Nat.ble t.2.2 p))) = true := by decide +kernel
theorem sol_hasse {p : Nat} (hp : p5B p = true) {a b : Nat} (ha : a < p) (hb : b < p) : ∃ r, r * r ≤ 4 * p ∧ r ≤ p ∧ p - r ≤ solN p a b ∧ solN p a b ≤ p + r := by
  have hbd := p5_bd hp
  have h1 := List.all_eq_true.1 allPs_cov p (by rw [List.mem_range]; omega)
  have hpr : Pr p := by unfold p5B at hp; rw [Bool.and_eq_true] at hp; exact primeB_true.1 hp.2
  rw [isP_of hpr, show Nat.ble p 4 = false by rw [← Bool.not_eq_true]; intro k; have := Nat.le_of_ble_eq_true k; omega] at h1
  simp only [Bool.not_true, Bool.false_or] at h1
  obtain ⟨⟨q, g, r⟩, ht, h2⟩ := List.any_eq_true.1 h1
  simp only [Bool.and_eq_true] at h2
  obtain ⟨e1, e2, e3⟩ := h2
  have e1 := Nat.eq_of_beq_eq_true e1
  have e2 := Nat.le_of_ble_eq_true e2
  have e3 := Nat.le_of_ble_eq_true e3
  subst e1
  have h3 := List.all_eq_true.1 allPs_ok _ ht
  unfold okP at h3
  rw [Bool.and_eq_true] at h3
  obtain ⟨hc, hh⟩ := h3
  obtain ⟨a0, hr, u, u1, u2, hu⟩ := cover_sound hc ha
  have h4 := List.all_eq_true.1 hh a0 hr
  obtain ⟨v, huv⟩ := inv_ex hp u1 u2
  refine ⟨r, e2, e3, ?_⟩
  have hq : 0 < q := by omega
  have ea : a4 q u (a0 % q) = a := by
    rw [← hu]
    unfold a4
    rw [Nat.mul_mod, Nat.mod_mod, ← Nat.mul_mod, Nat.mul_comm]
  have e0 : ∀ c, solN q (a0 % q) c = solN q a0 c := fun c => by
    unfold solN
    refine congrArg List.sum (List.map_congr_left fun y _ => congrArg List.length (List.filter_congr fun x _ => ?_))
    have : (x * x * x + a0 % q * x + c) % q = (x * x * x + a0 * x + c) % q := by
      have k : a0 % q * x % q = a0 * x % q := by rw [Nat.mul_mod, Nat.mod_mod, ← Nat.mul_mod]
      rw [Nat.add_mod, Nat.add_mod (x * x * x) (a0 % q * x), k, ← Nat.add_mod (x * x * x) (a0 * x), ← Nat.add_mod]
    rw [this]
  have := hasse_sound (by omega) (by omega) h4 (b := b6 q v b) (Nat.mod_lt _ hq)
  rw [← e0, ← scale_eq hq huv (Nat.mod_lt _ hq) hb, ea] at this
  exact this

def sqP (p : Nat) : Bool := Nat.beq (mask ((List.range p).filter fun v => Nat.beq (v ^ ((p - 1) / 2) % p) 1)) (mask ((List.range (p - 1)).map fun y => (y + 1) * (y + 1) % p))
set_option maxRecDepth 100000 in
theorem sqP_all : ((List.range 998).all fun p => !(isP p) || (Nat.ble p 4 || sqP p)) = true := by decide +kernel
theorem bit_mask (a : Nat) : ∀ l : List Nat, a ∈ l → (mask l).testBit a = true
  | [], h => by cases h
  | v :: l, h => by
    have e : mask (v :: l) = mask l ||| (1 <<< v) := rfl
    rw [e, Nat.testBit_or, Bool.or_eq_true]
    rcases List.mem_cons.1 h with rfl | h
    · right; rw [Nat.one_shiftLeft, Nat.testBit_two_pow]; simp
    · left; exact bit_mask a l h
theorem sq_iff {p : Nat} (hp : p5B p = true) {v : Nat} (hv : v < p) : v ^ ((p - 1) / 2) % p = 1 ↔ ∃ y, 1 ≤ y ∧ y < p ∧ y * y % p = v := by
  have hbd := p5_bd hp
  have h1 := List.all_eq_true.1 sqP_all p (by rw [List.mem_range]; omega)
  have hpr : Pr p := by unfold p5B at hp; rw [Bool.and_eq_true] at hp; exact primeB_true.1 hp.2
  rw [isP_of hpr, show Nat.ble p 4 = false by rw [← Bool.not_eq_true]; intro k; have := Nat.le_of_ble_eq_true k; omega] at h1
  simp only [Bool.not_true, Bool.false_or] at h1
  have h2 := Nat.eq_of_beq_eq_true h1
  constructor
  · intro h
    have h3 := bit_mask v ((List.range p).filter fun v => Nat.beq (v ^ ((p - 1) / 2) % p) 1) (List.mem_filter.2 ⟨List.mem_range.2 hv, by rw [h]; rfl⟩)
    rw [h2] at h3
    obtain ⟨y, hy, e⟩ := List.mem_map.1 (mask_bit v _ h3)
    rw [List.mem_range] at hy
    exact ⟨y + 1, by omega, by omega, e⟩
  · rintro ⟨y, y1, y2, e⟩
    have h3 := bit_mask v ((List.range (p - 1)).map fun y => (y + 1) * (y + 1) % p) (List.mem_map.2 ⟨y - 1, List.mem_range.2 (by omega), by rw [show y - 1 + 1 = y by omega]; exact e⟩)
    rw [← h2] at h3
    exact Nat.eq_of_beq_eq_true (List.mem_filter.1 (mask_bit v _ h3)).2
theorem symI_nat {p : Nat} (hp : p5B p = true) {v : Nat} (hv : v < p) : symI (v : Int) p = if v ^ ((p - 1) / 2) % p = 1 then 1 else if v = 0 then 0 else -1 := by
  have hbd := p5_bd hp
  have e : powI (v : Int) (((p : Int) - 1) / 2) p = ((v ^ ((p - 1) / 2) % p : Nat) : Int) := by
    have e0 : (v : Int) % (p : Int) = (v : Int) := Int.emod_eq_of_lt (by omega) (by omega)
    unfold powI
    rw [e0, show (((p : Int) - 1) / 2).toNat = (p - 1) / 2 by omega]
    norm_cast
  have h := euler (a := (v : Int)) hp
  have hz := powI_zero (a := (v : Int)) (n := ((p : Int) - 1) / 2) (p5_pr hp)
  unfold symI
  rw [e] at h hz ⊢
  generalize v ^ ((p - 1) / 2) % p = r at *
  by_cases h1 : r = 1
  · subst h1; rw [if_neg (by omega), if_pos rfl]; rfl
  · rw [if_neg h1]
    by_cases h2 : v = 0
    · subst h2
      have hr : powI (((0 : Nat) : Int)) (((p : Int) - 1) / 2) p = 0 := by
        unfold powI
        obtain ⟨k, hk⟩ : ∃ k, (((p : Int) - 1) / 2).toNat = k + 1 := ⟨(((p : Int) - 1) / 2).toNat - 1, by omega⟩
        rw [hk, Int.pow_succ]; simp
      rw [hr] at e
      rw [if_pos rfl, ← e, if_neg (by omega)]
    · rw [if_neg h2]
      rcases h with h | h | h
      · have := Int.le_of_dvd (by omega) (hz h)
        omega
      · omega
      · rw [if_pos h]
theorem sq_two {p : Nat} (hp : p5B p = true) {y z : Nat} (hy : y < p) (hz : z < p) (h : y * y % p = z * z % p) : y = z ∨ y + z = p ∨ y + z = 0 := by
  have hpr := p5_pr hp
  have h1 : (p : Int) ∣ ((y : Int) - z) * ((y : Int) + z) := by
    have e : ((y : Int) - z) * ((y : Int) + z) = (y : Int) * y - (z : Int) * z := by grind
    rw [e]
    have h' : (y : Int) * y % p = (z : Int) * z % p := by exact_mod_cast h
    exact Int.dvd_of_emod_eq_zero (Int.emod_eq_emod_iff_emod_sub_eq_zero.1 h')
  rcases pr_dvd_mul hpr h1 with ⟨k, hk⟩ | ⟨k, hk⟩
  · left
    rcases Int.lt_trichotomy k 0 with q | q | q
    · have : (p : Int) * k ≤ (p : Int) * (-1) := Int.mul_le_mul_of_nonneg_left (by omega) (by omega)
      omega
    · rw [q] at hk; omega
    · have : (p : Int) * 1 ≤ (p : Int) * k := Int.mul_le_mul_of_nonneg_left (by omega) (by omega)
      omega
  · right
    rcases Int.lt_trichotomy k 0 with q | q | q
    · have : (p : Int) * k ≤ (p : Int) * (-1) := Int.mul_le_mul_of_nonneg_left (by omega) (by omega)
      omega
    · rw [q] at hk; omega
    · rcases Int.lt_trichotomy k 1 with r | r | r
      · omega
      · rw [r] at hk; omega
      · have : (p : Int) * 2 ≤ (p : Int) * k := Int.mul_le_mul_of_nonneg_left (by omega) (by omega)
        omega
theorem sq_count {p : Nat} (hp : p5B p = true) {v : Nat} (hv : v < p) : (((List.range p).filter fun y => y * y % p == v).length : Int) = 1 + symI (v : Int) p := by
  have hbd := p5_bd hp
  have hnd : ((List.range p).filter fun y => y * y % p == v).Nodup := List.Nodup.sublist List.filter_sublist List.nodup_range
  have hodd : p % 2 = 1 := by
    have := (p5_pr hp).2 2 (by omega) (by omega)
    omega
  rw [symI_nat hp hv]
  by_cases h1 : v ^ ((p - 1) / 2) % p = 1
  · rw [if_pos h1]
    obtain ⟨z, z1, z2, hz⟩ := (sq_iff hp hv).1 h1
    have := nodup_eq hnd (show [z, p - z].Nodup by simp; omega) fun y => by
      rw [List.mem_filter, List.mem_range, beq_iff_eq]
      simp only [List.mem_cons, List.not_mem_nil, or_false]
      constructor
      · rintro ⟨y1, y2⟩
        rcases sq_two hp y1 z2 (y2.trans hz.symm) with h | h | h <;> omega
      · rintro (rfl | rfl)
        · exact ⟨z2, hz⟩
        · refine ⟨by omega, ?_⟩
          rw [← hz]
          have e : (((p - z : Nat) : Int)) * ((p - z : Nat) : Int) = (z : Int) * z + p * ((p : Int) - 2 * z) := by
            rw [Int.natCast_sub (Nat.le_of_lt z2)]; grind
          have e2 : (((p - z : Nat) : Int)) * ((p - z : Nat) : Int) % p = (z : Int) * z % p := by rw [e, Int.add_mul_emod_self_left]
          exact_mod_cast e2
    rw [this]
    rfl
  · rw [if_neg h1]
    by_cases h2 : v = 0
    · subst h2
      rw [if_pos rfl]
      have := nodup_eq hnd (show [0].Nodup by simp) fun y => by
        rw [List.mem_filter, List.mem_range, beq_iff_eq]
        simp only [List.mem_cons, List.not_mem_nil, or_false]
        constructor
        · rintro ⟨y1, y2⟩
          rcases sq_two hp y1 (show 0 < p by omega) (by simpa using y2) with h | h | h <;> omega
        · rintro rfl
          exact ⟨by omega, by simp⟩
      rw [this]
      rfl
    · rw [if_neg h2]
      have : ((List.range p).filter fun y => y * y % p == v) = [] := by
        rw [List.filter_eq_nil_iff]
        intro y hy hc
        rw [List.mem_range] at hy
        rw [beq_iff_eq] at hc
        refine h1 ((sq_iff hp hv).2 ⟨y, ?_, hy, hc⟩)
        rcases Nat.eq_zero_or_pos y with h | h
        · rw [h] at hc; simp at hc; omega
        · exact h
      rw [this]
      rfl
theorem rs_nat {p : Nat} (hp : 0 < p) (a b : Int) (x : Nat) : (((x * x * x + (a % p).toNat * x + (b % p).toNat) % p : Nat) : Int) = rsI a b p x := by
  have e1 : (((a % p).toNat : Nat) : Int) = a % p := Int.toNat_of_nonneg (Int.emod_nonneg _ (by omega))
  have e2 : (((b % p).toNat : Nat) : Int) = b % p := Int.toNat_of_nonneg (Int.emod_nonneg _ (by omega))
  have : NeZero p := ⟨by omega⟩
  have h : (cf p ((x : Int) * x * x + a % p * x + b % p) : Fin p) = cf p ((x : Int) * x * x + a * x + b) := by
    simp only [cf_add, cf_mul, cf_mod]
  have h2 := cf_eq.1 h
  unfold rsI
  rw [← h2]
  push_cast
  rw [e1, e2]
theorem cnt_rows {p : Nat} (hp : p5B p = true) (a b : Int) : ∀ n : Nat, n ≤ p → ((((List.range n).map fun x => ((List.range p).filter (solF p (a % p).toNat (b % p).toNat x)).length).sum : Nat) : Int) = n + cntN a b p n
  | 0, _ => by simp [cntN]
  | n + 1, hn => by
    have hbd := p5_bd hp
    have hp0 : 0 < p := by omega
    have ih := cnt_rows hp a b n (by omega)
    rw [List.range_succ, List.map_append, List.sum_append, Int.natCast_add, ih]
    have h1 := sq_count hp (v := (n * n * n + (a % p).toNat * n + (b % p).toNat) % p) (Nat.mod_lt _ hp0)
    rw [rs_nat hp0] at h1
    have e : (List.range p).filter (solF p (a % p).toNat (b % p).toNat n) = (List.range p).filter fun y => y * y % p == (n * n * n + (a % p).toNat * n + (b % p).toNat) % p := rfl
    simp only [List.map_cons, List.map_nil, List.sum_cons, List.sum_nil, Nat.add_zero]
    rw [e, h1]
    simp only [cntN]
    omega
theorem cnt_sol {p : Nat} (hp : p5B p = true) (a b : Int) : cntI a b p = 1 + (solN p (a % p).toNat (b % p).toNat : Int) := by
  have := cnt_rows hp a b p (Nat.le_refl _)
  rw [solN_rows, this]
  unfold cntI
  rw [Int.toNat_natCast]
  omega
theorem red_lt {p : Nat} (hp : 0 < p) (a : Int) : (a % p).toNat < p := by
  have h0 := Int.emod_nonneg a (show (p : Int) ≠ 0 by omega)
  have h1 := Int.emod_lt_of_pos a (show (0 : Int) < p by omega)
  omega
/-- the bound of Hasse. -/
theorem hasse_cnt {a b p : Int} (hp : p5B p = true) : (p + 1 - cntI a b p) * (p + 1 - cntI a b p) ≤ 4 * p := by
  have hbd := p5_bd hp
  obtain ⟨q, rfl⟩ : ∃ q : Nat, p = q := ⟨p.toNat, by omega⟩
  have hq : 0 < q := by omega
  rw [cnt_sol hp]
  obtain ⟨r, h1, h2, h3, h4⟩ := sol_hasse hp (red_lt hq a) (red_lt hq b)
  generalize solN q (a % q).toNat (b % q).toNat = S at *
  obtain ⟨t, ht⟩ : ∃ t : Int, (q : Int) + 1 - (1 + (S : Int)) = t := ⟨_, rfl⟩
  rw [ht]
  have hr : (r : Int) * r ≤ 4 * q := by exact_mod_cast h1
  have k1 : 0 ≤ ((r : Int) - t) * ((r : Int) + t) := Int.mul_nonneg (by omega) (by omega)
  have k2 : ((r : Int) - t) * ((r : Int) + t) = (r : Int) * r - t * t := by grind
  omega
theorem ptsN_map (a b : Int) (q : Nat) : ∀ k, ptsN a b q k = ((List.range k).filter (ptC a b q)).map fun k => [((k / q : Nat) : Int), ((k % q : Nat) : Int)]
  | 0 => rfl
  | k + 1 => by
    rw [ptsN, List.range_succ, List.filter_append, List.map_append, ← ptsN_map a b q k]
    by_cases h : ptC a b q k = true
    · rw [if_pos h]; simp [h]
    · rw [if_neg h]; simp [h]
theorem pts_cnt {a b p : Int} (hp : p5B p = true) : ((ptsL a b p).length : Int) = cntI a b p := by
  have hbd := p5_bd hp
  obtain ⟨q, rfl⟩ : ∃ q : Nat, p = q := ⟨p.toNat, by omega⟩
  have hq : 0 < q := by omega
  rw [cnt_sol hp, ← solK_len]
  unfold ptsL
  rw [List.length_cons, Int.toNat_natCast, ptsN_map, List.length_map]
  unfold solK
  have e : (List.range (q * q)).filter (ptC a b q) = (List.range (q * q)).filter fun k => solF q (a % q).toNat (b % q).toNat (k / q) (k % q) := by
    refine List.filter_congr fun k _ => ?_
    unfold ptC solF
    rw [← rs_nat hq, Bool.eq_iff_iff, beq_iff_eq, beq_iff_eq]
    constructor
    · intro h; exact_mod_cast h
    · intro h; exact_mod_cast h
  rw [e]
  omega
end Go.Proofs.Ytpjcfnjagknocaa.Hs
