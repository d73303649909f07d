/- Ps: sums of points over the rationals: what a sum's coordinates are, in whole numbers. No conditions. -/
namespace Go.Proofs.YtadijbaphfgeiaaDoor

theorem chord_id {p q r s a b D N T S : Int} (h1 : r*r = p*p*p + a*p + b) (h2 : s*s = q*q*q + a*q + b) (hD : D = q - p) (hN : N = s - r) (hT : T = N*N - (p+q)*(D*D)) (hS : S = N*(p*(D*D) - T) - r*(D*D*D)) :
    S*S = T*T*T + a*T*(D*D*D*D) + b*(D*D*D*D*D*D) := by
  have id : S*S - (T*T*T + a*T*(D*D*D*D) + b*(D*D*D*D*D*D)) = (r*r - (p*p*p + a*p + b))*(D*D*D*D*D*D) - ((r*r - (p*p*p + a*p + b)) - (s*s - (q*q*q + a*q + b)))*(D*D*D*(T - p*(D*D))) := by
    clear h1 h2
    subst hS
    subst hT
    subst hD
    subst hN
    grind
  rw [h1, h2, Int.sub_self, Int.sub_self, Int.zero_mul, Int.sub_self, Int.zero_mul, Int.sub_self] at id
  omega
theorem tan_id {p r a b D N T S : Int} (h1 : r*r = p*p*p + a*p + b) (hD : D = 2*r) (hN : N = 3*p*p + a) (hT : T = N*N - (p+p)*(D*D)) (hS : S = N*(p*(D*D) - T) - r*(D*D*D)) :
    S*S = T*T*T + a*T*(D*D*D*D) + b*(D*D*D*D*D*D) := by
  have id : S*S - (T*T*T + a*T*(D*D*D*D) + b*(D*D*D*D*D*D)) = (r*r - (p*p*p + a*p + b))*(D*D*D*D*D*D) := by
    clear h1
    have ha : a = N - 3*p*p := by omega
    clear hN
    subst ha
    subst hS
    subst hT
    subst hD
    grind
  rw [h1, Int.sub_self, Int.zero_mul] at id
  omega

/-- the line's slope is n over m; the sum is X over E squared, Y over E cubed. -/
def SumX (n m x e x2 e2 X E : Int) : Prop := (n*n*(e*e*(e2*e2)) - m*m*(x*(e2*e2) + x2*(e*e)))*(E*E) = X*(m*m*(e*e*(e2*e2)))
def sideI (n m x y e X E : Int) : Int := n*(x*(E*E) - X*(e*e))*e - y*m*(E*E)
def SumY (n m x y e X Y E : Int) : Prop := Y*(m*(e*e*e)) = E*sideI n m x y e X E
def valJ (a b X E : Int) : Int := X*X*X + a*X*(E*E*E*E) + b*(E*E*E*E*E*E)

theorem sumX_scale {n m x e x2 e2 X E k : Int} (hk : k ≠ 0) : SumX (k*n) (k*m) x e x2 e2 X E ↔ SumX n m x e x2 e2 X E := by
  unfold SumX
  have e1 : (k*n*(k*n)*(e*e*(e2*e2)) - k*m*(k*m)*(x*(e2*e2) + x2*(e*e)))*(E*E) = (k*k)*((n*n*(e*e*(e2*e2)) - m*m*(x*(e2*e2) + x2*(e*e)))*(E*E)) := by grind
  have e2' : X*(k*m*(k*m)*(e*e*(e2*e2))) = (k*k)*(X*(m*m*(e*e*(e2*e2)))) := by grind
  rw [e1, e2']
  have hkk : k*k ≠ 0 := Int.mul_ne_zero hk hk
  exact ⟨fun h => Int.eq_of_mul_eq_mul_left hkk h, fun h => by rw [h]⟩
theorem side_scale (n m x y e X E k : Int) : sideI (k*n) (k*m) x y e X E = k*sideI n m x y e X E := by unfold sideI; grind
theorem sumY_scale {n m x y e X Y E k : Int} (hk : k ≠ 0) : SumY (k*n) (k*m) x y e X Y E ↔ SumY n m x y e X Y E := by
  unfold SumY
  rw [side_scale]
  have e1 : Y*(k*m*(e*e*e)) = k*(Y*(m*(e*e*e))) := by grind
  have e2 : E*(k*sideI n m x y e X E) = k*(E*sideI n m x y e X E) := by grind
  rw [e1, e2]
  exact ⟨fun h => Int.eq_of_mul_eq_mul_left hk h, fun h => by rw [h]⟩

/-- the third point lies on the curve. -/
theorem core_sq {a b x y e x2 e2 p q r w a' b' D N X E : Int} (hw : w = e*e2) (hp : p = x*(e2*e2)) (hq : q = x2*(e*e)) (hr : r = y*(e2*e2*e2)) (ha : a' = a*(w*w*w*w)) (hb : b' = b*(w*w*w*w*w*w))
    (he : e ≠ 0) (he2 : e2 ≠ 0) (hD0 : D ≠ 0)
    (hid : ∀ T S : Int, T = N*N - (p+q)*(D*D) → S = N*(p*(D*D) - T) - r*(D*D*D) → S*S = T*T*T + a'*T*(D*D*D*D) + b'*(D*D*D*D*D*D))
    (hX : SumX N (w*D) x e x2 e2 X E) : (E*sideI N (w*D) x y e X E)*(E*sideI N (w*D) x y e X E) = (w*D*(e*e*e))*(w*D*(e*e*e))*valJ a b X E := by
  have hw0 : w ≠ 0 := by rw [hw]; exact Int.mul_ne_zero he he2
  obtain ⟨T, hT⟩ : ∃ T, T = N*N - (p+q)*(D*D) := ⟨_, rfl⟩
  obtain ⟨S, hS⟩ : ∃ S, S = N*(p*(D*D) - T) - r*(D*D*D) := ⟨_, rfl⟩
  have hSS := hid T S hT hS
  clear hid
  have hTX : T*(E*E) = X*(w*w)*(D*D) := by
    unfold SumX at hX
    have e1 : (N*N*(e*e*(e2*e2)) - w*D*(w*D)*(x*(e2*e2) + x2*(e*e)))*(E*E) = (w*w)*(T*(E*E)) := by
      clear hX hSS hS
      subst hT; subst hp; subst hq; subst hw
      grind
    have e2' : X*(w*D*(w*D)*(e*e*(e2*e2))) = (w*w)*(X*(w*w)*(D*D)) := by
      clear hX hSS hS hT e1
      subst hw
      grind
    rw [e1, e2'] at hX
    exact Int.eq_of_mul_eq_mul_left (Int.mul_ne_zero hw0 hw0) hX
  clear hX
  have hs1 : e2*e2*e2*sideI N (w*D) x y e X E = w*(N*(p*(E*E) - X*(w*w)) - r*D*(E*E)) := by
    clear hSS hTX hS hT ha hb
    unfold sideI
    subst hp; subst hr; subst hw
    grind
  have hs2 : D*D*(N*(p*(E*E) - X*(w*w)) - r*D*(E*E)) = E*E*S := by
    have e1 : D*D*(N*(p*(E*E) - X*(w*w)) - r*D*(E*E)) = N*(p*(D*D)*(E*E) - X*(w*w)*(D*D)) - r*(D*D*D)*(E*E) := by clear hSS hTX hS hT ha hb hs1; grind
    rw [e1, ← hTX, hS]
    clear hSS hTX hS hT ha hb hs1 e1
    grind
  obtain ⟨sd, hsd⟩ : ∃ sd, sideI N (w*D) x y e X E = sd := ⟨_, rfl⟩
  rw [hsd] at hs1 ⊢
  clear hsd
  have hs3 : D*D*(e2*e2*e2)*sd = w*(E*E*S) := by
    have e1 : D*D*(e2*e2*e2)*sd = D*D*(e2*e2*e2*sd) := by clear hSS hTX hS hT ha hb hs1 hs2; grind
    rw [e1, hs1, ← hs2]
    clear hSS hTX hS hT ha hb hs1 hs2 e1
    grind
  clear hs1 hs2
  have hL : (E*(D*D*(e2*e2*e2)*sd))*(E*(D*D*(e2*e2*e2)*sd)) = (w*w*w*w*(w*w*w*w))*(D*D*D*(D*D*D))*valJ a b X E := by
    rw [hs3]
    have e1 : (E*(w*(E*E*S)))*(E*(w*(E*E*S))) = w*w*(E*E*E*E*E*E)*(S*S) := by clear hSS hTX hS hT ha hb hs3; grind
    rw [e1, hSS]
    have e3 : w*w*(E*E*E*E*E*E)*(T*T*T + a'*T*(D*D*D*D) + b'*(D*D*D*D*D*D)) = w*w*((T*(E*E))*(T*(E*E))*(T*(E*E)) + a'*(T*(E*E))*(E*E*E*E)*(D*D*D*D) + b'*(E*E*E*E*E*E)*(D*D*D*D*D*D)) := by clear hSS hTX hS hT ha hb hs3 e1; grind
    rw [e3, hTX]
    clear hSS hTX hS hT hs3 e1 e3
    subst ha; subst hb
    unfold valJ
    clear hw
    grind
  clear hs3 hSS hTX hS hT
  have hK : D*D*(e2*e2*e2) ≠ 0 := Int.mul_ne_zero (Int.mul_ne_zero hD0 hD0) (Int.mul_ne_zero (Int.mul_ne_zero he2 he2) he2)
  refine Int.eq_of_mul_eq_mul_left (Int.mul_ne_zero hK hK) ?_
  have e1 : D*D*(e2*e2*e2)*(D*D*(e2*e2*e2))*(E*sd*(E*sd)) = (E*(D*D*(e2*e2*e2)*sd))*(E*(D*D*(e2*e2*e2)*sd)) := by clear hL ha hb; grind
  rw [e1, hL]
  clear e1 hL ha hb hp hq hr
  subst hw
  obtain ⟨V, hV⟩ : ∃ V, valJ a b X E = V := ⟨_, rfl⟩
  rw [hV]
  clear hV
  grind
theorem sq_div {M Z V : Int} (hM : M ≠ 0) (h : Z*Z = M*M*V) : ∃ k, Z = M*k ∧ V = k*k := by
  have hd : M.natAbs ∣ Z.natAbs := by
    have h2 : M.natAbs ^ 2 ∣ Z.natAbs ^ 2 := by
      refine ⟨V.natAbs, ?_⟩
      have := congrArg Int.natAbs h
      rw [Int.natAbs_mul, Int.natAbs_mul, Int.natAbs_mul] at this
      rw [Nat.pow_two, Nat.pow_two, this]
    exact (Nat.pow_dvd_pow_iff (by decide)).1 h2
  obtain ⟨k, hk⟩ := Int.natAbs_dvd_natAbs.1 hd
  refine ⟨k, hk, ?_⟩
  rw [hk] at h
  have e : M*k*(M*k) = M*M*(k*k) := by clear h hk hd; grind
  rw [e] at h
  exact (Int.eq_of_mul_eq_mul_left (Int.mul_ne_zero hM hM) h).symm
theorem sum_chord {a b x y e x2 y2 e2 X E n m : Int} (hp : y*y = valJ a b x e) (hq : y2*y2 = valJ a b x2 e2) (he : e ≠ 0) (he2 : e2 ≠ 0)
    (hn : n = y2*e*e*e - y*e2*e2*e2) (hm : m = e*e2*(x2*e*e - x*e2*e2)) (hm0 : m ≠ 0) (hX : SumX n m x e x2 e2 X E) : ∃ Y, SumY n m x y e X Y E ∧ Y*Y = valJ a b X E := by
  obtain ⟨p, hpp⟩ : ∃ p, p = x*(e2*e2) := ⟨_, rfl⟩
  obtain ⟨q, hqq⟩ : ∃ q, q = x2*(e*e) := ⟨_, rfl⟩
  obtain ⟨r, hr⟩ : ∃ r, r = y*(e2*e2*e2) := ⟨_, rfl⟩
  obtain ⟨s, hs⟩ : ∃ s, s = y2*(e*e*e) := ⟨_, rfl⟩
  obtain ⟨w, hw⟩ : ∃ w, w = e*e2 := ⟨_, rfl⟩
  obtain ⟨D, hD⟩ : ∃ D, D = q - p := ⟨_, rfl⟩
  obtain ⟨a', ha⟩ : ∃ a', a' = a*(w*w*w*w) := ⟨_, rfl⟩
  obtain ⟨b', hb⟩ : ∃ b', b' = b*(w*w*w*w*w*w) := ⟨_, rfl⟩
  have hn' : n = s - r := by clear hp hq hX; subst hs; subst hr; rw [hn]; clear hn; grind
  have hm' : m = w*D := by clear hp hq hX; subst hw; subst hD; subst hpp; subst hqq; rw [hm]; clear hm; grind
  have h1 : r*r = p*p*p + a'*p + b' := by
    have e1 : r*r = (y*y)*(e2*e2*e2*(e2*e2*e2)) := by clear hp hq hX; subst hr; grind
    rw [e1, hp]
    clear hp hq hX hn hm hn' hm' hD e1 hs hr hqq
    subst ha; subst hb; subst hw; subst hpp
    unfold valJ
    grind
  have h2 : s*s = q*q*q + a'*q + b' := by
    have e1 : s*s = (y2*y2)*(e*e*e*(e*e*e)) := by clear hp hq hX; subst hs; grind
    rw [e1, hq]
    clear hp hq hX hn hm hn' hm' hD e1 hs hr hpp h1
    subst ha; subst hb; subst hw; subst hqq
    unfold valJ
    grind
  have hD0 : D ≠ 0 := by rintro rfl; exact hm0 (by rw [hm', Int.mul_zero])
  clear hn hm
  subst hm'
  have hc := core_sq hw hpp hqq hr ha hb he he2 hD0 (fun T S hT hS => chord_id (p := p) (q := q) (r := r) (s := s) h1 h2 hD hn' hT hS) hX
  have hM : w*D*(e*e*e) ≠ 0 := Int.mul_ne_zero hm0 (Int.mul_ne_zero (Int.mul_ne_zero he he) he)
  obtain ⟨k, k1, k2⟩ := sq_div hM hc
  exact ⟨k, by unfold SumY; rw [k1, Int.mul_comm], k2.symm⟩
theorem sum_tan {a b x y e X E n m : Int} (hp : y*y = valJ a b x e) (he : e ≠ 0)
    (hn : n = 3*x*x + a*e*e*e*e) (hm : m = 2*y*e) (hm0 : m ≠ 0) (hX : SumX n m x e x e X E) : ∃ Y, SumY n m x y e X Y E ∧ Y*Y = valJ a b X E := by
  obtain ⟨p, hpp⟩ : ∃ p, p = x*(e*e) := ⟨_, rfl⟩
  obtain ⟨r, hr⟩ : ∃ r, r = y*(e*e*e) := ⟨_, rfl⟩
  obtain ⟨w, hw⟩ : ∃ w, w = e*e := ⟨_, rfl⟩
  obtain ⟨D, hD⟩ : ∃ D, D = 2*r := ⟨_, rfl⟩
  obtain ⟨a', ha⟩ : ∃ a', a' = a*(w*w*w*w) := ⟨_, rfl⟩
  obtain ⟨b', hb⟩ : ∃ b', b' = b*(w*w*w*w*w*w) := ⟨_, rfl⟩
  obtain ⟨N, hN⟩ : ∃ N, N = 3*p*p + a' := ⟨_, rfl⟩
  have hn' : e*e*e*e*n = N := by clear hp hX; subst hN; subst ha; subst hpp; subst hw; rw [hn]; clear hn; grind
  have hm' : e*e*e*e*m = w*D := by clear hp hX; subst hD; subst hr; subst hw; rw [hm]; clear hm; grind
  have h1 : r*r = p*p*p + a'*p + b' := by
    have e1 : r*r = (y*y)*(e*e*e*(e*e*e)) := by clear hp hX; subst hr; grind
    rw [e1, hp]
    clear hp hX hn hm hn' hm' hD e1 hr hN
    subst ha; subst hb; subst hw; subst hpp
    unfold valJ
    grind
  have h4 : e*e*e*e ≠ 0 := Int.mul_ne_zero (Int.mul_ne_zero (Int.mul_ne_zero he he) he) he
  have hX4 := (sumX_scale (n := n) (m := m) (x := x) (e := e) (x2 := x) (e2 := e) (X := X) (E := E) h4).2 hX
  rw [hn', hm'] at hX4
  have hwD : w*D ≠ 0 := by rw [← hm']; exact Int.mul_ne_zero h4 hm0
  have hD0 : D ≠ 0 := by rintro rfl; exact hwD (Int.mul_zero _)
  have hc := core_sq (b' := b') (a := a) (b := b) (y := y) hw hpp hpp hr ha hb he he hD0 (fun T S hT hS => tan_id (p := p) (r := r) h1 hD hN hT hS) hX4
  have hM : w*D*(e*e*e) ≠ 0 := Int.mul_ne_zero hwD (Int.mul_ne_zero (Int.mul_ne_zero he he) he)
  obtain ⟨k, k1, k2⟩ := sq_div hM hc
  refine ⟨k, ?_, k2.symm⟩
  refine (sumY_scale (n := n) (m := m) h4).1 ?_
  rw [hn', hm']
  unfold SumY; rw [k1, Int.mul_comm]

theorem cop_dvd {a b c : Int} (h : Int.gcd a b = 1) (hd : b ∣ a*c) : b ∣ c := by
  have h1 : b.natAbs ∣ a.natAbs*c.natAbs := by rw [← Int.natAbs_mul]; exact Int.natAbs_dvd_natAbs.2 hd
  have h2 : Nat.Coprime b.natAbs a.natAbs := by
    rw [Int.gcd_eq_natAbs_gcd_natAbs] at h
    exact (Nat.gcd_comm _ _).trans h
  exact Int.natAbs_dvd_natAbs.1 (Nat.Coprime.dvd_of_dvd_mul_left h2 h1)
theorem pos_dvd_eq {a b : Int} (ha : 0 < a) (hb : 0 < b) (h1 : a ∣ b) (h2 : b ∣ a) : a = b := by
  have h3 := Int.le_of_dvd hb h1
  have h4 := Int.le_of_dvd ha h2
  omega
theorem low_unique {n d n' d' : Int} (hd : 0 < d) (hd' : 0 < d') (hc : Int.gcd n d = 1) (hc' : Int.gcd n' d' = 1) (h : n*d' = n'*d) : n = n' ∧ d = d' := by
  have h1 : d ∣ d' := cop_dvd hc ⟨n', by rw [h, Int.mul_comm]⟩
  have h2 : d' ∣ d := cop_dvd hc' ⟨n, by rw [← h, Int.mul_comm]⟩
  have he := pos_dvd_eq hd hd' h1 h2
  subst he
  exact ⟨Int.eq_of_mul_eq_mul_right (by omega) h, rfl⟩
theorem gcd_sq {X E : Int} (h : Int.gcd X E = 1) : Int.gcd X (E*E) = 1 := by
  rw [Int.gcd_eq_natAbs_gcd_natAbs] at h ⊢
  rw [Int.natAbs_mul]
  exact Nat.Coprime.mul_right h h
theorem gcd_of_sq {X E : Int} (h : Int.gcd X (E*E) = 1) : Int.gcd X E = 1 := by
  rw [Int.gcd_eq_natAbs_gcd_natAbs] at h ⊢
  rw [Int.natAbs_mul] at h
  exact Nat.Coprime.coprime_mul_right_right h
theorem sumX_eq {n m x e x2 e2 X E : Int} (h : SumX n m x e x2 e2 X E) :
    n*n*((e*e2*E)*(e*e2*E)) = m*m*((x*(e2*e2) + x2*(e*e))*(E*E) + X*((e*e2)*(e*e2))) := by
  unfold SumX at h
  have e1 : n*n*((e*e2*E)*(e*e2*E)) = (n*n*(e*e*(e2*e2)) - m*m*(x*(e2*e2) + x2*(e*e)))*(E*E) + m*m*((x*(e2*e2) + x2*(e*e))*(E*E)) := by clear h; grind
  rw [e1, h]
  clear h e1
  grind
theorem mul_le_bd {a c A : Int} (h : a ≤ A) (hc : 0 ≤ c) : a*c ≤ A*c := Int.mul_le_mul_of_nonneg_right h hc
theorem sq_pos {a : Int} (h : a ≠ 0) : 0 < a*a := by
  rcases Int.lt_trichotomy a 0 with k | k | k
  · exact Int.mul_pos_of_neg_of_neg k k
  · exact absurd k h
  · exact Int.mul_pos k k
theorem sq_nonneg' (a : Int) : 0 ≤ a*a := by
  by_cases h : a = 0
  · subst h; omega
  · have := sq_pos h; omega
theorem sum_bd {n m x e x2 e2 X E : Int} (hc : Int.gcd n m = 1) (hm : m ≠ 0) (h1 : 1 ≤ e) (h2 : e ≤ 20) (h3 : 1 ≤ e2) (h4 : e2 ≤ 20) (h5 : 1 ≤ E) (h6 : E ≤ 20)
    (hx : x ≤ 10000) (hx2 : x2 ≤ 10000) (hX : X ≤ 10000) (h : SumX n m x e x2 e2 X E) : -8000 ≤ m ∧ m ≤ 8000 ∧ n*n ≤ 40000*(m*m) := by
  have he := sumX_eq h
  clear h
  obtain ⟨W, hW⟩ : ∃ W, e*e2*E = W := ⟨_, rfl⟩
  have k1 : 1 ≤ e*e2 := by have := Int.mul_le_mul h1 h3 (by omega) (by omega); omega
  have k2 : e*e2 ≤ 400 := by have := Int.mul_le_mul h2 h4 (by omega) (by omega); omega
  have k3 : 1 ≤ W := by have := Int.mul_le_mul k1 h5 (by omega) (by omega); omega
  have k4 : W ≤ 8000 := by have := Int.mul_le_mul k2 h6 (by omega) (by omega); omega
  have hWW : 0 < W*W := Int.mul_pos (by omega) (by omega)
  have hmm := sq_pos hm
  rw [hW] at he
  have hbd : (x*(e2*e2) + x2*(e*e))*(E*E) + X*((e*e2)*(e*e2)) ≤ 30000*(W*W) := by
    have g1 : 0 < e*e := Int.mul_pos (by omega) (by omega)
    have g2 : 0 < e2*e2 := Int.mul_pos (by omega) (by omega)
    have g3 : 0 < E*E := Int.mul_pos (by omega) (by omega)
    have t1 : x*(e2*e2*(E*E)) ≤ 10000*(e2*e2*(E*E)) := mul_le_bd hx (Int.mul_nonneg (by omega) (by omega))
    have t2 : x2*(e*e*(E*E)) ≤ 10000*(e*e*(E*E)) := mul_le_bd hx2 (Int.mul_nonneg (by omega) (by omega))
    have t3 : X*((e*e2)*(e*e2)) ≤ 10000*((e*e2)*(e*e2)) := mul_le_bd hX (sq_nonneg' _)
    have u1 : 1*(e2*e2*(E*E)) ≤ e*e*(e2*e2*(E*E)) := mul_le_bd (by omega) (Int.mul_nonneg (by omega) (by omega))
    have u2 : 1*(e*e*(E*E)) ≤ e2*e2*(e*e*(E*E)) := mul_le_bd (by omega) (Int.mul_nonneg (by omega) (by omega))
    have u3 : 1*((e*e2)*(e*e2)) ≤ E*E*((e*e2)*(e*e2)) := mul_le_bd (by omega) (sq_nonneg' _)
    have v1 : e*e*(e2*e2*(E*E)) = W*W := by subst hW; clear he; grind
    have v2 : e2*e2*(e*e*(E*E)) = W*W := by subst hW; clear he; grind
    have v3 : E*E*((e*e2)*(e*e2)) = W*W := by subst hW; clear he; grind
    have v4 : (x*(e2*e2) + x2*(e*e))*(E*E) = x*(e2*e2*(E*E)) + x2*(e*e*(E*E)) := by clear he hW; grind
    omega
  refine ⟨?_, ?_, ?_⟩
  rotate_left 2
  · have t1 : n*n*(W*W) ≤ 30000*(m*m)*(W*W) := by
      rw [he]
      have := Int.mul_le_mul_of_nonneg_left hbd (show 0 ≤ m*m by omega)
      have e1 : m*m*(30000*(W*W)) = 30000*(m*m)*(W*W) := by clear he this hbd; grind
      omega
    have t2 := Int.le_of_mul_le_mul_right t1 hWW
    omega
  all_goals
    have hdv : m ∣ W := by
      have hg : Int.gcd (n*n) (m*m) = 1 := by
        rw [Int.gcd_eq_natAbs_gcd_natAbs] at hc ⊢
        rw [Int.natAbs_mul, Int.natAbs_mul]
        exact Nat.Coprime.mul_left (Nat.Coprime.mul_right hc hc) (Nat.Coprime.mul_right hc hc)
      obtain ⟨c, hcc⟩ := cop_dvd hg ⟨_, he⟩
      obtain ⟨k, hk, _⟩ := sq_div hm hcc
      exact ⟨k, hk⟩
    have hle := Nat.le_of_dvd (by omega) (Int.natAbs_dvd_natAbs.2 hdv)
    omega

def IsSum (n m x y e x2 e2 X Y E : Int) : Prop := 1 ≤ E ∧ E ≤ 20 ∧ -10000 ≤ X ∧ X ≤ 10000 ∧ Int.gcd X E = 1 ∧ SumX n m x e x2 e2 X E ∧ SumY n m x y e X Y E
theorem sumX_low {n m x e x2 e2 X E : Int} (hm : m ≠ 0) (he : e ≠ 0) (he2 : e2 ≠ 0) (hE : 1 ≤ E) (hc : Int.gcd X E = 1) (h : SumX n m x e x2 e2 X E) {X' d : Int} (hd : 0 < d) (hc' : Int.gcd X' d = 1)
    (h' : (n*n*(e*e*(e2*e2)) - m*m*(x*(e2*e2) + x2*(e*e)))*d = X'*(m*m*(e*e*(e2*e2)))) : X' = X ∧ d = E*E := by
  unfold SumX at h
  have hb : m*m*(e*e*(e2*e2)) ≠ 0 := Int.mul_ne_zero (Int.mul_ne_zero hm hm) (Int.mul_ne_zero (Int.mul_ne_zero he he) (Int.mul_ne_zero he2 he2))
  generalize n*n*(e*e*(e2*e2)) - m*m*(x*(e2*e2) + x2*(e*e)) = t at h h'
  generalize m*m*(e*e*(e2*e2)) = u at h h' hb
  refine low_unique hd (Int.mul_pos (by omega) (by omega)) hc' (gcd_sq hc) ?_
  refine Int.eq_of_mul_eq_mul_right hb ?_
  have e1 : X'*(E*E)*u = (X'*u)*(E*E) := by clear h h'; grind
  have e2' : X*d*u = (X*u)*d := by clear h h'; grind
  rw [e1, e2', ← h, ← h']
  clear h h' e1 e2'
  grind
theorem isSum_unique {n m x y e x2 e2 X Y E X' Y' E' : Int} (hm : m ≠ 0) (he : e ≠ 0) (he2 : e2 ≠ 0) (h : IsSum n m x y e x2 e2 X Y E) (h' : IsSum n m x y e x2 e2 X' Y' E') : X' = X ∧ Y' = Y ∧ E' = E := by
  obtain ⟨a1, a2, a3, a4, a5, a6, a7⟩ := h
  obtain ⟨b1, b2, b3, b4, b5, b6, b7⟩ := h'
  obtain ⟨hx, hd⟩ := sumX_low hm he he2 a1 a5 a6 (Int.mul_pos (show (0:Int) < E' by omega) (show (0:Int) < E' by omega)) (gcd_sq b5) b6
  have hE : E' = E := by
    rcases Int.lt_trichotomy E' E with k | k | k
    · have := Int.mul_lt_mul k (Int.le_of_lt k) (by omega) (by omega); omega
    · exact k
    · have := Int.mul_lt_mul k (Int.le_of_lt k) (by omega) (by omega); omega
  subst hx; subst hE
  refine ⟨rfl, ?_, rfl⟩
  unfold SumY at a7 b7
  exact Int.eq_of_mul_eq_mul_right (Int.mul_ne_zero hm (Int.mul_ne_zero (Int.mul_ne_zero he he) he)) (b7.trans a7.symm)
end Go.Proofs.YtadijbaphfgeiaaDoor
