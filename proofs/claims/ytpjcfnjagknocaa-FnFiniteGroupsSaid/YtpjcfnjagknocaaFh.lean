/- Fh: the values of the calls of FnFiniteGroups, as packages. No conditions. -/
import Derived.Test.YtpjcfnjagknocaaHg
import Derived.Test.YtpjcfnjagknocaaPn
import Derived.Test.YtpjcfnjagknocaaOd
import Derived.Test.YtpjcfnjagknocaaFf
namespace Go.Proofs.Ytpjcfnjagknocaa
open Go.RowKit
open Go.Proofs.Ytpjcfnjagknocaa.Hs

structure GY (a b p : Int) (m n : Int) (X : List (List Int)) (cnt u : Int) (t : Bool) (k2 : Int) : Prop where
  m1 : 1 ≤ m
  m2 : m ≤ 2000
  n1 : 1 ≤ n
  n2 : n ≤ 2000
  c : m * n = cnt
  md : n % m = 0
  mt : n.tmod m = 0
  pd : (p - 1) % m = 0
  pt : (p - 1).tmod m = 0
  len : (X.length : Int) = cnt
  x0 : X.getD 0 [] = []
  co : ∀ w, Calls Try.prog 30 #[.agg #[.int .i64 a, .int .i64 b], .int .i64 p, .int .i64 n] w (Ret (.tuple #[.int .i64 u, .bool t]) w)
  cu : n ≤ 1000 → t = true ∧ u = cnt
  i2 : ∀ w, Calls Try.prog 30 #[.agg #[.int .i64 a, .int .i64 b], .int .i64 p, .int .i64 2] w (Ret (.tuple #[.int .i64 k2, .bool true]) w)
  s2 : ∀ w, Calls Try.prog 31 #[.agg #[.int .i64 a, .int .i64 b], .int .i64 p, .int .i64 2] w (Ret (.tuple #[.int .i64 k2, .bool true]) w)
  kk : (k2 = 1 ∧ m % 2 = 1 ∧ m.tmod 2 = 1) ∨ (k2 = 2 ∧ m % 2 = 1 ∧ m.tmod 2 = 1) ∨ (k2 = 4 ∧ m % 2 = 0 ∧ m.tmod 2 = 0)
structure GK (a b p : Int) (m n : Int) (ok : Bool) (X : List (List Int)) (three : Bool) (cnt : Int) (g five : Bool) : Prop where
  k0 : ∀ w, Calls Try.prog 21 #[.agg #[.int .i64 a, .int .i64 b], .int .i64 p] w (Ret (.tuple #[.int .i64 m, .int .i64 n, .bool ok]) w)
  k1 : ∀ w, Calls Try.prog 22 #[.agg #[.int .i64 a, .int .i64 b], .int .i64 p] w (Ret (.tuple #[.int .i64 m, .int .i64 n, .bool ok]) w)
  k2 : ∀ w, Calls Try.prog 23 #[.agg #[.int .i64 a, .int .i64 b], .int .i64 p] w (RetSSB X ok w)
  k3 : ∀ w, Calls Try.prog 24 #[.agg #[.int .i64 a, .int .i64 b], .int .i64 p] w (RetSSB X ok w)
  k4 : ∀ w, Calls Try.prog 25 #[.agg #[.int .i64 a, .int .i64 b], .int .i64 p] w (Ret (.tuple #[.int .i64 cnt, .bool three]) w)
  k5 : ∀ w, Calls Try.prog 26 #[.agg #[.int .i64 a, .int .i64 b], .int .i64 p] w (Ret (.tuple #[.int .i64 cnt, .bool three]) w)
  k6 : ∀ w, Calls Try.prog 27 #[.agg #[.int .i64 a, .int .i64 b], .int .i64 p] w (Ret (.tuple #[.bool g, .bool five]) w)
  k7 : ∀ w, Calls Try.prog 28 #[.agg #[.int .i64 a, .int .i64 b], .int .i64 p] w (Ret (.tuple #[.bool g, .bool five]) w)
  len : X.length ≤ 50000
  h2 : three = (five && g)
  h1 : ok = true → three = true
  tr : three = true → 5 ≤ p ∧ p ≤ 997 ∧ 0 ≤ cnt ∧ cnt ≤ 2000 ∧ (p + 1 - cnt) * (p + 1 - cnt) ≤ 4 * p
  sh : ok = true → ∃ u t k2, GY a b p m n X cnt u t k2
theorem small_cp {a b p : Int} (h : smallB a b p = true) : cpB a b p = true := by
  obtain ⟨h1, h2, _, _⟩ := small_bd h
  unfold cpB; rw [h1, h2]; rfl
theorem cp_good {a b p : Int} : cpB a b p = true → curveB a b = true ∧ goodB a b p = true ∧ p5B p = true := by
  intro h
  unfold cpB at h
  rw [Bool.and_eq_true] at h
  have h2 := h.2
  unfold goodB at h2
  rw [Bool.and_eq_true] at h2
  exact ⟨h.1, h.2, h2.1⟩
theorem p5_prime {p : Int} (h : p5B p = true) : (inB p 2 997 && primeB p) = true ∧ 5 ≤ p ∧ p ≤ 997 := by
  unfold p5B at h
  simp only [Bool.and_eq_true, inB_true] at h ⊢
  obtain ⟨h1, h2⟩ := h
  have h3 := h1; have h4 := h2
  first
  | exact ⟨⟨⟨by omega, by omega⟩, h2⟩, by omega, by omega⟩
  | exact ⟨⟨⟨by omega, by omega⟩, h1⟩, by omega, by omega⟩
theorem sqN (x : Int) : 0 ≤ x * x := by
  rcases Int.le_total 0 x with h | h
  · exact Int.mul_nonneg h h
  · exact Int.mul_nonneg_of_nonpos_of_nonpos h h
theorem tmod_of {x y : Int} (hx : 0 ≤ x) : x.tmod y = x % y := Int.tmod_eq_emod_of_nonneg hx
theorem gfacts (a b p : Int) (hp : I64 p) : ∃ m n ok X three cnt g five, GK a b p m n ok X three cnt g five := by
  have k0 := fun w => iGroupShape_any a b p w
  have k1 := fun w => sGroupShape_any a b p w
  have k2 := fun w => iPointsModulo_any a b p w
  have k3 := fun w => sPointsModulo_any a b p w
  have k4 := fun w => iCountPoints_any a b p w hp
  have k5 := fun w => sCountPoints_any a b p w hp
  have k6 := fun w => iIsGoodPrime_any a b p w
  have k7 := fun w => sIsGoodPrime_any a b p w
  have hlen := (pmX_bd a b p).1
  obtain ⟨g, five, hgf, hg5⟩ : ∃ g five : Bool, (bif curveB a b && (inB p 2 997 && primeB p) then Value.tuple #[.bool (goodB a b p), .bool true] else .tuple #[.bool false, .bool false]) = .tuple #[.bool g, .bool five] ∧ cpB a b p = (five && g) := by
    cases hc : curveB a b && (inB p 2 997 && primeB p)
    · refine ⟨false, false, rfl, ?_⟩
      cases hcp : cpB a b p
      · rfl
      · obtain ⟨h1, _, h3⟩ := cp_good hcp
        rw [h1, (p5_prime h3).1] at hc
        cases hc
    · refine ⟨_, true, rfl, ?_⟩
      rw [Bool.and_eq_true] at hc
      unfold cpB
      rw [hc.1]
  rw [hgf] at k6 k7
  have htr : cpB a b p = true → 5 ≤ p ∧ p ≤ 997 ∧ 0 ≤ (bif cpB a b p then cntI a b p else 0) ∧ (bif cpB a b p then cntI a b p else 0) ≤ 2000 ∧ (p + 1 - (bif cpB a b p then cntI a b p else 0)) * (p + 1 - (bif cpB a b p then cntI a b p else 0)) ≤ 4 * p := by
    intro h
    obtain ⟨_, _, h3⟩ := cp_good h
    rw [h, cond_true]
    exact ⟨(p5_prime h3).2.1, (p5_prime h3).2.2, (cntI_bd h3).1, (cntI_bd h3).2, hasse_cnt h3⟩
  cases hsm : smallB a b p
  · unfold shV at k0 k1
    rw [if_neg (by rw [hsm]; decide)] at k0 k1
    rw [hsm] at k2 k3
    exact ⟨_, _, false, _, _, _, g, five, k0, k1, k2, k3, k4, k5, k6, k7, hlen, hg5, fun h => (by cases h), htr, fun h => (by cases h)⟩
  · have hcp := small_cp hsm
    have hp5 := small_p5 hsm
    have hd := small_disc hsm
    obtain ⟨_, _, p1, p2⟩ := small_bd hsm
    obtain ⟨few, M, f1, M1, e1, e2, e3, e4, e5, e6, e7, e8⟩ := shape_all hp5 hd (cert_all hsm)
    have hpl := pts_cnt (a := a) (b := b) hp5
    have hcb := cntI_bd (a := a) (b := b) hp5
    have hpm : pmX a b p = ptsL a b p := by unfold pmX; rw [if_pos hsm]
    unfold shV at k0 k1
    rw [if_pos hsm, e3, e1] at k0 k1
    rw [hsm, hpm] at k2 k3
    rw [hpm] at hlen
    rw [hcp, cond_true] at k4 k5 htr
    rw [hcp] at hg5
    have b1 : few * 1 ≤ few * M := Nat.mul_le_mul_left _ M1
    have b2 : 1 * M ≤ few * M := Nat.mul_le_mul_right _ f1
    have hcm : (few : Int) * M = cntI a b p := by rw [e2]; exact (Int.natCast_mul ..).symm
    refine ⟨_, _, true, _, true, _, g, five, k0, k1, k2, k3, k4, k5, k6, k7, hlen, hg5, fun _ => rfl, htr, fun _ => ⟨if coB a b p (M : Nat) = true then coV a b p (M : Nat) else 0, coB a b p (M : Nat), coV a b p 2, ?_⟩⟩
    have hc2 : coB a b p 2 = true := by unfold coB; rw [hsm]; rfl
    have hmd : (M : Int) % (few : Int) = 0 := Int.emod_eq_zero_of_dvd (Int.natCast_dvd_natCast.2 e4)
    have hpd : (p - 1) % (few : Int) = 0 := Int.emod_eq_zero_of_dvd e5
    have i2 := fun w => iCountOrders_any a b p 2 w
    have s2 := fun w => sCountOrders_any a b p 2 w
    rw [if_pos hc2, hc2] at i2 s2
    refine ⟨by omega, by omega, by omega, by omega, hcm, hmd, by rw [tmod_of (by omega)]; exact hmd, hpd, by rw [tmod_of (by omega)]; exact hpd, hpl, ?_, fun w => iCountOrders_any a b p (M : Nat) w, ?_, i2, s2, ?_⟩
    · unfold ptsL; rfl
    · intro h
      have hc : coB a b p (M : Nat) = true := by unfold coB; rw [hsm, inB_true.2 (by omega)]; rfl
      rw [if_pos hc]
      exact ⟨hc, e6⟩
    · have ht : (few : Int).tmod 2 = (few : Int) % 2 := tmod_of (by omega)
      rw [ht]
      rcases e7 with h | h | h
      · left; have : ¬ few % 2 = 0 := fun k => by have := e8.2 k; omega
        exact ⟨h, by omega, by omega⟩
      · right; left; have : ¬ few % 2 = 0 := fun k => by have := e8.2 k; omega
        exact ⟨h, by omega, by omega⟩
      · right; right; have := e8.1 h
        exact ⟨h, by omega, by omega⟩
structure OY (a b p : Int) (s : List Int) (K cnt : Int) : Prop where
  c0 : ∀ w, Calls Try.prog 25 #[.agg #[.int .i64 a, .int .i64 b], .int .i64 p] w (Ret (.tuple #[.int .i64 cnt, .bool true]) w)
  k1 : 1 ≤ K
  md : cnt % K = 0
  mt : cnt.tmod K = 0
  tm : ∀ w v, Rd w v s → NilZ v → Calls Try.prog 35 #[.agg #[.int .i64 a, .int .i64 b], .int .i64 p, .int .i64 K, v] w (RetSlB [] true w)
  one : (K == 1) = (s.length == 0)
structure OK2 (a b p : Int) (s : List Int) (K : Int) (t : Bool) : Prop where
  o0 : ∀ w v, Rd w v s → NilZ v → Calls Try.prog 33 #[.agg #[.int .i64 a, .int .i64 b], .int .i64 p, v] w (Ret (.tuple #[.int .i64 K, .bool t]) w)
  o1 : ∀ w v, Rd w v s → NilZ v → Calls Try.prog 34 #[.agg #[.int .i64 a, .int .i64 b], .int .i64 p, v] w (Ret (.tuple #[.int .i64 K, .bool t]) w)
  yes : t = true → ∃ cnt, OY a b p s K cnt
theorem ofacts (a b p : Int) (s : List Int) (hp : I64 p) : ∃ K t, OK2 a b p s K t := by
  have o0 := fun w v hrd hn => iOrderModulo_any a b p v s w hrd hn
  have o1 := fun w v hrd hn => sOrderModulo_any a b p v s w hrd hn
  cases hq : askB a b p s
  · rw [ordV_no hq] at o0 o1
    exact ⟨_, false, o0, o1, fun h => (by cases h)⟩
  · obtain ⟨K, hK, e⟩ := ordV_yes hq
    rw [e] at o0 o1
    have hq' := hq
    unfold askB at hq'
    rw [Bool.and_eq_true] at hq'
    obtain ⟨hsm, hon⟩ := hq'
    have hp5 := small_p5 hsm
    have hd := small_disc hsm
    have k4 := fun w => iCountPoints_any a b p w hp
    rw [small_cp hsm, cond_true] at k4
    have hdv := ord_dvd hp5 hd hon hK
    have hcb := cntI_bd (a := a) (b := b) hp5
    obtain ⟨K1, K2, K3, K4⟩ := hK
    refine ⟨_, true, o0, o1, fun _ => ⟨_, k4, by omega, Int.emod_eq_zero_of_dvd hdv, by rw [tmod_of hcb.1]; exact Int.emod_eq_zero_of_dvd hdv, fun w v hrd hn => iTim_ok hrd hn (by unfold askN; rw [hq, inB_true.2 (by omega)]; rfl) ((times_seq hp5 hd hon K).trans K3), ?_⟩⟩
    rw [Bool.eq_iff_iff]
    simp only [beq_iff_eq]
    constructor
    · intro h
      have : K = 1 := by omega
      rw [this, seq_one] at K3
      rw [K3]; rfl
    · intro h
      have hs := List.eq_nil_of_length_eq_zero h
      rcases Nat.lt_or_ge 1 K with h1 | h1
      · exact absurd (by rw [seq_one, hs]) (K4 1 (Nat.le_refl _) h1)
      · omega
theorem ifacts (a b p : Int) (s : List Int) : ∃ i t : Bool, (∀ w v, Rd w v s → Calls Try.prog 37 #[.agg #[.int .i64 a, .int .i64 b], .int .i64 p, v] w (Ret (.tuple #[.bool i, .bool t]) w)) ∧
    ∀ w v, Rd w v s → Calls Try.prog 38 #[.agg #[.int .i64 a, .int .i64 b], .int .i64 p, v] w (Ret (.tuple #[.bool i, .bool t]) w) := by
  have o0 := fun w v hrd => iIsPointModulo_any a b p v s w hrd
  have o1 := fun w v hrd => sIsPointModulo_any a b p v s w hrd
  cases hsm : smallB a b p <;> rw [hsm] at o0 o1
  · exact ⟨_, _, o0, o1⟩
  · exact ⟨_, _, o0, o1⟩
theorem gcases {ok three five g : Bool} (h2 : three = (five && g)) (h1 : ok = true → three = true) : (ok = true ∧ three = true ∧ five = true ∧ g = true) ∨ (ok = false ∧ three = true ∧ five = true ∧ g = true) ∨ (ok = false ∧ three = false ∧ five = true ∧ g = false) ∨ (ok = false ∧ three = false ∧ five = false ∧ g = true) ∨ (ok = false ∧ three = false ∧ five = false ∧ g = false) := by
  revert h1 h2; revert ok three five g; decide
/-- a slice of slices of numbers is read. -/
def RSS (w : World) (v : Value) (m : Nat) (f : Nat → List Int) : Prop := ∃ n vs, RowsN n m w v vs f
theorem RSS.keep {w w' : World} {v : Value} {m : Nat} {f : Nat → List Int} (h : RSS w v m f) (hb : Below w.heap.size w w') : RSS w' v m f := by
  obtain ⟨n, vs, h⟩ := h
  exact ⟨n, vs, h.keep hb⟩
theorem RSS.of {w : World} {B : Nat} {v : Value} {X : List (List Int)} (h : OwnSS w B v X) (hm : X.length ≤ 50000) : RSS w v X.length (fun j => X.getD j []) := by
  obtain ⟨vs, h⟩ := h.o (by omega)
  exact ⟨_, vs, h.n⟩
theorem RSS.first {w : World} {v : Value} {m : Nat} {f : Nat → List Int} (h : RSS w v m f) (hm : 0 < m) (h0 : f 0 = []) : ∃ g c ad c', v = .slice (some ⟨g, 0, none⟩) m c ∧ w.cell? ⟨g, 0, none⟩ = some (.slice ad 0 c') := by
  obtain ⟨n, vs, h⟩ := h
  rcases h.sh with ⟨_, h2⟩ | ⟨g, c, rfl, _, hc⟩
  · omega
  · have h1 := hc 0 hm
    obtain ⟨_, ad, c', e, _⟩ := h.rows 0 hm
    rw [e, h0] at h1
    exact ⟨g, c, ad, c', rfl, h1⟩
theorem RSS.shape {w : World} {v : Value} {m : Nat} {f : Nat → List Int} (h : RSS w v m f) : ∃ ad c, v = .slice ad m c := by
  obtain ⟨n, vs, h⟩ := h
  exact h.shape
set_option maxHeartbeats 1000000 in
theorem sameLists_same {m : Nat} {v u : Value} {f : Nat → List Int} {w : World} (h : RSS w v m f) (h' : RSS w u m f) :
    Calls Try.prog 29 #[v, u] w (Ret (.bool true) w) := by
  obtain ⟨n, vs, h⟩ := h
  obtain ⟨n', us, h'⟩ := h'
  have hcap := h.cap
  have HV : True → RowsN n m w v vs f := fun _ => h
  have HU : True → RowsN n' m w u us f := fun _ => h'
  rcases h.sh with ⟨rfl, rfl⟩ | ⟨g, c, rfl, hg, hc⟩
  · obtain ⟨ad, c', rfl⟩ := h'.shape
    clear h h'
    go_enter Try.func29, Try.ntmps29
    go_wp2_with fail
    refine wp_loop_rounds 1 ?_; rw [rounds_succ]
    go_wp2_with fail
    go_ret
    exact ret_eq rfl (by repeat (first | exact Below.refl _ _ | (with_reducible assumption) | refine bel_alloc ?_ _ | refine bel_drew ?_ | refine bel_drewN ?_ _ | refine Below.setCell ?_ (by dsimp only; omega) _ | refine bel_trans (by assumption) ?_))
  · rcases h'.sh with ⟨rfl, hm0⟩ | ⟨g', c', rfl, hg', hc'⟩
    · subst hm0
      clear h h'
      go_enter Try.func29, Try.ntmps29
      go_wp2_with fail
      refine wp_loop_rounds 1 ?_; rw [rounds_succ]
      go_wp2_with fail
      go_ret
      exact ret_eq rfl (by repeat (first | exact Below.refl _ _ | (with_reducible assumption) | refine bel_alloc ?_ _ | refine bel_drew ?_ | refine bel_drewN ?_ _ | refine Below.setCell ?_ (by dsimp only; omega) _ | refine bel_trans (by assumption) ?_))
    · have hgw := Nat.lt_of_lt_of_le hg h.le
      have hgw' := Nat.lt_of_lt_of_le hg' h'.le
      have HC := Lib.hid hc; clear hc
      have HC' := Lib.hid hc'; clear hc'
      clear h h'
      go_enter Try.func29, Try.ntmps29
      go_wp2_with fail
      go_loopw [13] (fun x wr => ∃ j : Nat, x = .int .i64 j ∧ j ≤ m ∧ Below w.heap.size w wr) (fun x _ => m - (intOf x).toNat)
      case atStart => exact ⟨0, rfl, Nat.zero_le _, Below.refl _ _⟩
      case round =>
        obtain ⟨j, rfl, hj, hbel⟩ := hrel
        by_cases hlt : j < m
        · have e0 := (hbel.cell (p := ⟨g, j, none⟩) hgw).trans (HC.out j hlt)
          have e1 := (hbel.cell (p := ⟨g', j, none⟩) hgw').trans (HC'.out j hlt)
          have r0 := (((HV trivial).rows j hlt).rd).keep hbel
          have r1 := (((HU trivial).rows j hlt).rd).keep hbel
          have gw := Nat.lt_of_lt_of_le hgw hbel.size
          have gw' := Nat.lt_of_lt_of_le hgw' hbel.size
          obtain ⟨p, hp⟩ : ∃ p, vs.getD j undef = p := ⟨_, rfl⟩
          obtain ⟨q, hq⟩ : ∃ q, us.getD j undef = q := ⟨_, rfl⟩
          rw [hp] at e0 r0
          rw [hq] at e1 r1
          clear hp hq
          obtain ⟨ad0, c0, rfl⟩ : ∃ ad c, p = .slice ad (f j).length c := by obtain ⟨ad, c, hh, _⟩ := r0; exact ⟨ad, c, hh⟩
          obtain ⟨ad1, c1, rfl⟩ : ∃ ad c, q = .slice ad (f j).length c := by obtain ⟨ad, c, hh, _⟩ := r1; exact ⟨ad, c, hh⟩
          have R0 := Lib.hid r0; clear r0
          have R1 := Lib.hid r1; clear r1
          have hj0 : (0 : Int) ≤ (j : Int) := Int.natCast_nonneg _
          have hj1 : (j : Int) < (m : Int) := by omega
          have HBEL : True → Below w.heap.size w wr := fun _ => hbel
          clear hbel
          go_wp2_with fail
          refine wp_region_grow (by kernel_rfl) (by kernel_rfl) ?_
          repeat (go_big_quiet_step (((go_at_call 68; exact grow_ret (same_ok (rd_grow R0.out) (rd_grow R1.out))))))
          refine wpQuiet_nil ?_
          rintro wg hbg
          (try replace hbg := aft2 hbg (by assumption))
          obtain ⟨hcg, hfg, hg1, hg2, hg3, hg4⟩ := aftz hbg
          have hb2 := bel_trans hbg (HBEL trivial)
          clear hbg hcg hfg hg1 hg2 hg3 hg4 R0 R1
          go_wp2_with fail
          go_roundw
          case rel => exact ⟨j + 1, by go_num, by omega, hb2⟩
          case measure => simp [intOf]; omega
        · have hjm : j = m := by omega
          subst hjm
          go_wp2_with fail
          go_ret
          exact ret_eq rfl hbel
end Go.Proofs.Ytpjcfnjagknocaa
