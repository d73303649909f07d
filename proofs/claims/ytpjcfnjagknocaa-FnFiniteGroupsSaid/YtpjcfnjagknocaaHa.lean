/- Ha: plain: the bound of Hasse by the kernel, for a in five classes modulo fourth powers and every b, for every prime from 5 to 997. No conditions. -/
namespace Go.Proofs.Ytpjcfnjagknocaa.Hs
def sumP (B : Nat) (l : List Nat) : Nat := (l.map (B ^ ·)).sum
theorem digit_split {B : Nat} (hB : 2 ≤ B) (k : Nat) : ∀ l : List Nat, ∃ u t, sumP B l = u + l.count k * B ^ k + t * B ^ (k + 1) ∧ u * B ≤ l.length * B ^ k
  | [] => ⟨0, 0, by simp [sumP], by simp⟩
  | s :: l => by
    obtain ⟨u, t, h1, h2⟩ := digit_split hB k l
    have e : sumP B (s :: l) = B ^ s + sumP B l := by simp [sumP]
    rw [e, h1, List.count_cons, List.length_cons]
    rcases Nat.lt_trichotomy s k with h | h | h
    · refine ⟨u + B ^ s, t, ?_, ?_⟩
      · rw [if_neg (by simp; omega)]; simp; omega
      · have h3 : B ^ s * B ≤ B ^ k := by
          rw [← Nat.pow_succ]
          exact Nat.pow_le_pow_right (by omega) h
        rw [Nat.add_mul, Nat.add_mul]
        omega
    · subst h
      refine ⟨u, t, ?_, ?_⟩
      · rw [if_pos (by simp), Nat.add_mul]; omega
      · rw [Nat.add_mul]; omega
    · refine ⟨u, t + B ^ (s - (k + 1)), ?_, ?_⟩
      · rw [if_neg (by simp; omega), Nat.add_mul t, ← Nat.pow_add, show s - (k + 1) + (k + 1) = s by omega]
        simp; omega
      · rw [Nat.add_mul]; omega
theorem digit_count {B : Nat} (hB : 2 ≤ B) {l : List Nat} (hl : l.length < B) (k : Nat) : sumP B l / B ^ k % B = l.count k := by
  obtain ⟨u, t, h1, h2⟩ := digit_split hB k l
  have hp : 0 < B ^ k := Nat.pow_pos (by omega)
  have hu : u < B ^ k := by
    have h3 : l.length * B ^ k < B * B ^ k := Nat.mul_lt_mul_of_pos_right hl hp
    have h4 : u * B < B ^ k * B := by rw [Nat.mul_comm (B ^ k) B]; omega
    exact Nat.lt_of_mul_lt_mul_right h4
  have hc : l.count k < B := Nat.lt_of_le_of_lt List.count_le_length hl
  have e : sumP B l = u + B ^ k * (l.count k + B * t) := by
    rw [h1, Nat.pow_succ, Nat.mul_add, Nat.mul_comm (B ^ k) (l.count k)]
    have : t * (B ^ k * B) = B ^ k * (B * t) := by rw [Nat.mul_comm t, Nat.mul_assoc]
    omega
  rw [e, Nat.add_mul_div_left _ _ hp, Nat.div_eq_of_lt hu, Nat.zero_add, Nat.add_mul_mod_self_left, Nat.mod_eq_of_lt hc]
theorem sum_shift (B s : Nat) : ∀ m : List Nat, sumP B (m.map (s + ·)) = B ^ s * sumP B m
  | [] => by simp [sumP]
  | x :: m => by
    have ih := sum_shift B s m
    have e : ∀ (y : Nat) (l : List Nat), sumP B (y :: l) = B ^ y + sumP B l := fun y l => by simp [sumP]
    rw [List.map_cons, e, e, ih, Nat.pow_add, Nat.mul_add]
theorem sum_app (B : Nat) (a b : List Nat) : sumP B (a ++ b) = sumP B a + sumP B b := by simp [sumP]
theorem sum_mul (B : Nat) (m : List Nat) : ∀ l : List Nat, sumP B l * sumP B m = sumP B (l.flatMap fun s => m.map (s + ·))
  | [] => by simp [sumP]
  | s :: l => by
    have e : sumP B (s :: l) = B ^ s + sumP B l := by simp [sumP]
    rw [e, Nat.add_mul, sum_mul B m l, List.flatMap_cons, sum_app, sum_shift]
/-- both digits of each place lie within bounds. -/
def digs (lo hi B : Nat) : Nat → Nat → Nat → Bool
  | 0, _, _ => true
  | k + 1, T, U => (Nat.ble lo (T % B + U % B) && Nat.ble (T % B + U % B) hi) && digs lo hi B k (T / B) (U / B)
theorem digs_at {lo hi B : Nat} : ∀ (k : Nat) (T U : Nat), digs lo hi B k T U = true → ∀ b, b < k → lo ≤ T / B ^ b % B + U / B ^ b % B ∧ T / B ^ b % B + U / B ^ b % B ≤ hi
  | 0, _, _, _, b, hb => by omega
  | k + 1, T, U, h, b, hb => by
    simp only [digs, Bool.and_eq_true] at h
    rcases b with _ | b
    · simp only [Nat.pow_zero, Nat.div_one]
      exact ⟨Nat.le_of_ble_eq_true h.1.1, Nat.le_of_ble_eq_true h.1.2⟩
    · have := digs_at k (T / B) (U / B) h.2 b (by omega)
      rwa [Nat.div_div_eq_div_mul, Nat.div_div_eq_div_mul, ← Nat.pow_succ'] at this
def sqR (p : Nat) : List Nat := (List.range p).map fun y => y * y % p
def cuR (p a : Nat) : List Nat := (List.range p).map fun x => p - (x * x * x + a * x) % p
def hasse (p a r : Nat) : Bool :=
  let T := sumP 1048576 (sqR p) * sumP 1048576 (cuR p a)
  digs (p - r) (p + r) 1048576 p T (T / 1048576 ^ p)
/-- how many pairs solve the equation. -/
def solN (p a b : Nat) : Nat := ((List.range p).map fun y => ((List.range p).filter fun x => y * y % p == (x * x * x + a * x + b) % p).length).sum
theorem count_flat {α : Type} (f : α → List Nat) (s : Nat) : ∀ l : List α, (l.flatMap f).count s = (l.map fun y => (f y).count s).sum
  | [] => by simp
  | y :: l => by rw [List.flatMap_cons, List.count_append, count_flat f s l]; simp
theorem count_map {α : Type} (g : α → Nat) (s : Nat) : ∀ l : List α, (l.map g).count s = (l.filter fun x => g x == s).length
  | [] => by simp
  | x :: l => by
    rw [List.map_cons, List.count_cons, count_map g s l, List.filter_cons]
    split <;> simp_all
theorem sum_map_add {α : Type} (f g h : α → Nat) : ∀ l : List α, (∀ x ∈ l, f x + g x = h x) → (l.map f).sum + (l.map g).sum = (l.map h).sum
  | [], _ => by simp
  | x :: l, hx => by
    have h1 := hx x (List.mem_cons_self ..)
    have h2 := sum_map_add f g h l (fun y hy => hx y (List.mem_cons_of_mem _ hy))
    simp only [List.map_cons, List.sum_cons]
    omega
theorem filt_two {α : Type} (u v w : α → Bool) : ∀ l : List α, (∀ x ∈ l, (u x = true ∨ v x = true ↔ w x = true) ∧ ¬ (u x = true ∧ v x = true)) → (l.filter u).length + (l.filter v).length = (l.filter w).length
  | [], _ => by simp
  | x :: l, hx => by
    have h1 := hx x (List.mem_cons_self ..)
    have h2 := filt_two u v w l (fun y hy => hx y (List.mem_cons_of_mem _ hy))
    rw [List.filter_cons, List.filter_cons, List.filter_cons]
    cases hu : u x <;> cases hv : v x <;> cases hw : w x <;> simp_all <;> omega
theorem hasse_sound {p a r : Nat} (hp : 2 ≤ p) (hp2 : p ≤ 1000) (h : hasse p a r = true) {b : Nat} (hb : b < p) : p - r ≤ solN p a b ∧ solN p a b ≤ p + r := by
  have h1 := digs_at p _ _ h b hb
  rw [sum_mul, Nat.div_div_eq_div_mul, ← Nat.pow_add] at h1
  have hlen : ((sqR p).flatMap fun s => (cuR p a).map (s + ·)).length < 1048576 := by
    rw [List.length_flatMap]
    have : ((sqR p).map fun s => ((cuR p a).map (s + ·)).length).sum = p * p := by
      have e : ((sqR p).map fun s => ((cuR p a).map (s + ·)).length) = List.replicate p p := by
        unfold sqR cuR
        rw [List.eq_replicate_iff]
        refine ⟨by simp, fun x hx => ?_⟩
        simp only [List.length_map, List.length_range, List.map_map, List.mem_map, Function.comp] at hx
        obtain ⟨_, _, rfl⟩ := hx
        rfl
      rw [e, List.sum_replicate_nat]
    rw [this]
    have := Nat.mul_le_mul hp2 hp2
    omega
  rw [digit_count (by decide) hlen, digit_count (by decide) hlen, count_flat, count_flat] at h1
  have e : ((sqR p).map fun s => ((cuR p a).map (s + ·)).count b).sum + ((sqR p).map fun s => ((cuR p a).map (s + ·)).count (p + b)).sum = solN p a b := by
    unfold sqR solN
    rw [List.map_map, List.map_map]
    refine sum_map_add _ _ _ _ fun y _ => ?_
    simp only [Function.comp]
    unfold cuR
    rw [List.map_map, count_map, count_map]
    refine filt_two _ _ _ _ fun x _ => ?_
    simp only [Function.comp, beq_iff_eq]
    have hv := Nat.mod_lt (x * x * x + a * x) (show 0 < p by omega)
    have hs := Nat.mod_lt (y * y) (show 0 < p by omega)
    have hmm : (x * x * x + a * x + b) % p = ((x * x * x + a * x) % p + b) % p := (Nat.mod_add_mod ..).symm
    rw [hmm]
    clear hmm
    generalize (x * x * x + a * x) % p = v at *
    generalize y * y % p = s at *
    have hm : (v + b) % p = if v + b < p then v + b else v + b - p := by
      split
      · exact Nat.mod_eq_of_lt (by assumption)
      · rw [Nat.mod_eq_sub_mod (by omega), Nat.mod_eq_of_lt (by omega)]
    rw [hm]
    constructor
    · split <;> omega
    · omega
  rw [e] at h1
  exact h1
def mask (l : List Nat) : Nat := l.foldr (fun v m => m ||| (1 <<< v)) 0
theorem mask_bit (a : Nat) : ∀ l : List Nat, (mask l).testBit a = true → a ∈ l
  | [], h => by simp [mask] at h
  | v :: l, h => by
    have e : mask (v :: l) = mask l ||| (1 <<< v) := rfl
    rw [e, Nat.testBit_or, Bool.or_eq_true] at h
    rcases h with h | h
    · exact List.mem_cons_of_mem _ (mask_bit a l h)
    · rw [Nat.one_shiftLeft, Nat.testBit_two_pow] at h
      simp only [decide_eq_true_eq] at h
      rw [h]; exact List.mem_cons_self ..
def reps (p g : Nat) : List Nat := [0, 1, g, g * g % p, g * g * g % p]
def cover (p g : Nat) : Bool := Nat.beq (mask ((reps p g).flatMap fun r => (List.range (p - 1)).map fun u => r * ((u + 1) * (u + 1) * ((u + 1) * (u + 1))) % p)) (2 ^ p - 1)
theorem cover_sound {p g a : Nat} (h : cover p g = true) (ha : a < p) : ∃ r ∈ reps p g, ∃ u, 1 ≤ u ∧ u < p ∧ r * (u * u * (u * u)) % p = a := by
  have h1 := Nat.eq_of_beq_eq_true h
  have h2 := mask_bit a _ (by rw [h1, Nat.testBit_two_pow_sub_one]; simpa using ha)
  obtain ⟨r, hr, h3⟩ := List.mem_flatMap.1 h2
  obtain ⟨u, hu, h4⟩ := List.mem_map.1 h3
  rw [List.mem_range] at hu
  exact ⟨r, hr, u + 1, by omega, by omega, h4⟩
def okP (t : Nat × Nat × Nat) : Bool := cover t.1 t.2.1 && ((reps t.1 t.2.1).all fun a => hasse t.1 a t.2.2)
def ps0 : List (Nat × Nat × Nat) := [(5, 2, 4), (7, 3, 5), (11, 2, 6), (13, 2, 7), (17, 3, 8), (19, 2, 8), (23, 5, 9), (29, 2, 10), (31, 3, 11), (37, 2, 12), (41, 3, 12), (43, 2, 13), (47, 5, 13), (53, 2, 14), (59, 2, 15), (61, 2, 15), (67, 2, 16), (71, 7, 16), (73, 5, 17), (79, 3, 17), (83, 2, 18), (89, 3, 18), (97, 5, 19), (101, 2, 20), (103, 3, 20), (107, 2, 20), (109, 2, 20), (113, 3, 21), (127, 3, 22), (131, 2, 22), (137, 3, 23), (139, 2, 23), (149, 2, 24), (151, 3, 24), (157, 2, 25), (163, 2, 25), (167, 5, 25), (173, 2, 26), (179, 2, 26), (181, 2, 26), (191, 7, 27), (193, 5, 27), (197, 2, 28), (199, 3, 28), (211, 2, 29), (223, 3, 29), (227, 2, 30), (229, 2, 30), (233, 3, 30), (239, 7, 30), (241, 7, 31), (251, 2, 31), (257, 3, 32), (263, 5, 32), (269, 2, 32), (271, 3, 32), (277, 2, 33), (281, 3, 33), (283, 2, 33), (293, 2, 34), (307, 2, 35), (311, 11, 35), (313, 5, 35)]
set_option maxRecDepth 100000 in
theorem ps0_ok : ps0.all okP = true := by decide +kernel
def ps1 : List (Nat × Nat × Nat) := [(317, 2, 35), (331, 2, 36), (337, 5, 36), (347, 2, 37), (349, 2, 37), (353, 3, 37), (359, 7, 37), (367, 3, 38), (373, 2, 38), (379, 2, 38), (383, 5, 39), (389, 2, 39), (397, 2, 39), (401, 3, 40), (409, 7, 40), (419, 2, 40), (421, 2, 41), (431, 7, 41), (433, 5, 41), (439, 3, 41), (443, 2, 42), (449, 3, 42), (457, 5, 42), (461, 2, 42)]
set_option maxRecDepth 100000 in
theorem ps1_ok : ps1.all okP = true := by decide +kernel
def ps2 : List (Nat × Nat × Nat) := [(463, 3, 43), (467, 2, 43), (479, 13, 43), (487, 3, 44), (491, 2, 44), (499, 2, 44), (503, 5, 44), (509, 2, 45), (521, 3, 45), (523, 2, 45), (541, 2, 46), (547, 2, 46), (557, 2, 47), (563, 2, 47), (569, 3, 47), (571, 2, 47), (577, 5, 48), (587, 2, 48)]
set_option maxRecDepth 100000 in
theorem ps2_ok : ps2.all okP = true := by decide +kernel
def ps3 : List (Nat × Nat × Nat) := [(593, 3, 48), (599, 7, 48), (601, 7, 49), (607, 3, 49), (613, 2, 49), (617, 3, 49), (619, 2, 49), (631, 3, 50), (641, 3, 50), (643, 2, 50), (647, 5, 50), (653, 2, 51), (659, 2, 51), (661, 2, 51), (673, 5, 51)]
set_option maxRecDepth 100000 in
theorem ps3_ok : ps3.all okP = true := by decide +kernel
def ps4 : List (Nat × Nat × Nat) := [(677, 2, 52), (683, 2, 52), (691, 2, 52), (701, 2, 52), (709, 2, 53), (719, 11, 53), (727, 3, 53), (733, 2, 54), (739, 2, 54), (743, 5, 54), (751, 3, 54), (757, 2, 55), (761, 3, 55)]
set_option maxRecDepth 100000 in
theorem ps4_ok : ps4.all okP = true := by decide +kernel
def ps5 : List (Nat × Nat × Nat) := [(769, 7, 55), (773, 2, 55), (787, 2, 56), (797, 2, 56), (809, 3, 56), (811, 2, 56), (821, 2, 57), (823, 3, 57), (827, 2, 57), (829, 2, 57), (839, 11, 57), (853, 2, 58)]
set_option maxRecDepth 100000 in
theorem ps5_ok : ps5.all okP = true := by decide +kernel
def ps6 : List (Nat × Nat × Nat) := [(857, 3, 58), (859, 2, 58), (863, 5, 58), (877, 2, 59), (881, 3, 59), (883, 2, 59), (887, 5, 59), (907, 2, 60), (911, 7, 60), (919, 3, 60), (929, 3, 60)]
set_option maxRecDepth 100000 in
theorem ps6_ok : ps6.all okP = true := by decide +kernel
def ps7 : List (Nat × Nat × Nat) := [(937, 5, 61), (941, 2, 61), (947, 2, 61), (953, 3, 61), (967, 3, 62), (971, 2, 62), (977, 3, 62), (983, 5, 62), (991, 3, 62), (997, 2, 63)]
set_option maxRecDepth 100000 in
theorem ps7_ok : ps7.all okP = true := by decide +kernel
def allPs : List (Nat × Nat × Nat) := ps0 ++ ps1 ++ ps2 ++ ps3 ++ ps4 ++ ps5 ++ ps6 ++ ps7
theorem allPs_ok : allPs.all okP = true := by
  unfold allPs
  simp only [List.all_append, Bool.and_eq_true]
  exact ⟨⟨⟨⟨⟨⟨⟨ps0_ok, ps1_ok⟩, ps2_ok⟩, ps3_ok⟩, ps4_ok⟩, ps5_ok⟩, ps6_ok⟩, ps7_ok⟩
end Go.Proofs.Ytpjcfnjagknocaa.Hs
