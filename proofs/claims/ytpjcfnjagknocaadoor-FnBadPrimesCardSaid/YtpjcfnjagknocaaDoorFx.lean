/- Fx: contracts: factoring into pairs (mdFactors), squarefree parts. No conditions. -/
import Derived.Test.YtpjcfnjagknocaaDoorFac
import Derived.Test.YtpjcfnjagknocaaDoorSs
namespace Go.Proofs.YtpjcfnjagknocaaDoor
open Go.RowKit

/-- each prime that divides N, and how often. -/
noncomputable def facL (N : Int) : List (List Int) := (primesL N).map fun q => [q, valP N q]
theorem valF_le : ∀ (f : Nat) (a p : Int), valF f a p ≤ f
  | 0, _, _ => by unfold valF; omega
  | f + 1, a, p => by
    unfold valF; split
    · have := valF_le f (a.tdiv p) p; omega
    · omega
theorem valP_le (a p : Int) : valP a p ≤ a.natAbs := valF_le _ _ _
theorem FacInv.val {N n p p' : Int} {l : List Int} (h : FacInv N n p l) (hp : Pr p') (hle : p ≤ p') : valP n p' = valP N p' := by
  obtain ⟨h1, h2, h3, h4, h5, h6, h7, m, h8, h9⟩ := h
  rw [h8, valP_coprime hp (h9 p' hp hle) n.natAbs n (Nat.le_refl _) (by omega)]
theorem valP_self {n : Int} (hn : 2 ≤ n) : valP n n = 1 := by
  have := valP_mul_self (p := n) (c := 1) hn (by omega)
  rw [Int.mul_one] at this
  rw [this, valP_not (fun h => by have := Int.le_of_dvd (by omega) h; omega)]
  rfl
theorem valP_emod {a p : Int} (hp : 2 ≤ p) (ha : 1 ≤ a) (h : 0 < valP a p) : a % p = 0 ∧ valP (a / p) p = valP a p - 1 := by
  by_cases hm : a.tmod p = 0
  · have h2 := valP_pos hp (by omega) hm
    rw [Int.tdiv_eq_ediv_of_nonneg (by omega)] at h2
    exact ⟨tmod_zero_iff.1 hm, by omega⟩
  · rw [valP_zero hm] at h; omega
theorem valP_iff {a p : Int} (hp : 2 ≤ p) (ha : 1 ≤ a) : valP a p = 0 ↔ a % p ≠ 0 := by
  constructor
  · intro h hm
    have := valP_pos hp (by omega) (tmod_zero_iff.2 hm)
    have := valP_nonneg (a.tdiv p) p
    omega
  · intro h; exact valP_zero (fun k => h (tmod_zero_iff.1 k))

set_option maxRecDepth 4000 in
set_option maxHeartbeats 4000000 in
theorem mdFactors_any (N : Int) (w : World) (h1 : 1 ≤ N) (h2 : N ≤ 20000000000) :
    Calls Tryd.prog 56 #[.int .i64 N] w (RetSS (facL N) w) := by
  obtain ⟨i0, hi, hz0, hz1, hz2⟩ := info_parts Tryd.info_row
  have hst := FacInv.start h1
  have HST := Lib.hid hst; clear hst
  go_enter Tryd.func56, Tryd.ntmps56
  go_wp2_with fail
  go_loopw [0, 3, 4] (fun x v y wr => ∃ (n p : Int) (l : List Int), x = .int .i64 n ∧ y = .int .i64 p ∧ 1 ≤ n ∧ n ≤ 20000000000 ∧ 2 ≤ p ∧ (n = 1 ∨ (p ≤ 141422 ∧ p ≤ n)) ∧ Hid (FacInv N n p l) ∧ Below w.heap.size w wr ∧ OwnSS wr w.heap.size v (l.map fun q => [q, valP N q]))
    (fun x _ y _ => (2 * intOf x - intOf y).toNat)
  case atStart => exact ⟨N, 2, [], rfl, rfl, h1, h2, by omega, by omega, HST, Below.refl _ _, OwnSS.nil _ _⟩
  case round =>
    obtain ⟨n, p, l, rfl, rfl, k1, k2, k3, k4, HI, hbel, hown⟩ := hrel
    by_cases hn : n = 1
    · subst hn
      have hl := FacInv.done h1 HI.out
      subst hl
      go_wp2_with fail
      go_ret
      exact ⟨_, rfl, hbel, hown⟩
    · have hpn : p ≤ 141422 ∧ p ≤ n := by omega
      clear k4
      have hpp := mul_bd (a := p) (b := p) (A := 141422) (B := 141422) (by omega) (by omega) (by omega) (by omega)
      have hlen := HI.out.len
      obtain ⟨vs, hrow, hvl, hin, hdis⟩ := hown
      have HIN := Lib.hid hin; clear hin
      have HDIS := Lib.hid hdis; clear hdis
      rw [List.length_map] at hrow hvl
      by_cases hlast : n < p * p
      · obtain ⟨hprn, _⟩ := HI.out.last (by omega) hlast
        have hdn : n / n = 1 := Int.ediv_self (by omega)
        have hvn : valP n n = 1 := valP_self (by omega)
        have hvN := HI.out.val hprn hpn.2
        rw [hvn] at hvN
        have HVN := Lib.hid hvN; clear hvN
        have hfin : FacInv N 1 (n + 1) (l ++ [n]) := HI.out.take hprn hpn.2 (Int.dvd_refl n) (fun d d1 d2 d3 => absurd (pr_dvd hprn d1 d3) (by omega)) (by omega) (fun hd => by
          have := Int.le_of_dvd (by omega) hd; omega) ⟨n, by omega, fun q hq hd => pr_dvd_pr hprn hq hd⟩
        have HF := Lib.hid hfin; clear hfin hprn
        have hn0 : (n == 0) = false := by simp; omega
        go_wp2_with fail
        refine (mdValuation_any n n _ (by omega) (by omega) (by omega) (by omega) (by omega)).mono ?_; rintro e w1 ⟨rfl, hb1⟩
        have hbel1 := bel_trans hb1 hbel
        have hrow1 := row_keep hrow hb1
        have hin1 := fun i h => (HIN.out i h).keep hb1
        have HIN1 := Lib.hid hin1; clear hin1 HIN hrow hbel hb1
        go_wp2_with (first | (at_builtin; refine wpList_append_own _ rfl _ _ 69 rfl w.heap.size 26 i0 (.slice none 0 0) 1 24 Tryd.underlying69 hi hz0 hz1 hz2 rfl (by decide) _ _ _ rfl ((hrow1.alloc _).alloc _) ⟨w1.heap.size + 1, 0, none⟩ 1 1 [.slice (some ⟨w1.heap.size, 0, none⟩) 2 2] rfl rfl ?_ ?_ ?_ ?_ ?_ ?_))
        · intro j u hj; match j, hj with | 0, hj => simp at hj; subst hj; simp [Addr.add]
        · first | rfl | (intro u hu; simp at hu; subst hu; rfl)
        · unfold maxLen; omega
        · omega
        · have := hbel1.size; simp; omega
        · intro v' w2 hown2 hgrow _
          obtain ⟨hb2, ho2⟩ := ownSS_snoc (ys := [n, 1]) (xss := l.map fun q => [q, valP N q]) hbel1 (by rw [List.length_map]; exact hrow1) (by rw [List.length_map]; exact hvl) HIN1.out HDIS.out (by simp [maxLen]) (by rw [List.length_map]; exact hown2) hgrow
          clear hown2 hgrow hrow1 hlen hvl HIN1 HDIS hbel1
          rw [show l.map (fun q => [q, valP N q]) ++ [[n, 1]] = (l ++ [n]).map (fun q => [q, valP N q]) by rw [List.map_append, List.map_singleton, HVN.out]] at ho2
          go_wp2_with fail
          refine wp_loop_rounds 2 ?_; rw [rounds_succ]
          go_wp2_with fail
          rw [rounds_succ]
          go_wp2_with fail
          go_roundw
          case rel => exact ⟨1, n + 1, l ++ [n], by rw [hdn], rfl, by omega, by omega, by omega, by omega, HF, hb2, ho2⟩
          case measure => simp [intOf, hdn]; omega
      · have hrt := root_lt (by omega) (show p * p ≤ n by omega) k2
        have hp0 : (p == 0) = false := by simp; omega
        by_cases hd : n % p = 0
        · have hdv : p ∣ n := Int.dvd_of_emod_eq_zero hd
          have hpr := HI.out.prime hdv
          have hvN := HI.out.val hpr (Int.le_refl p)
          have hK1 : 0 < valP n p := by
            rcases Int.lt_or_le 0 (valP n p) with h | h
            · exact h
            · have h0 : valP n p = 0 := by have := valP_nonneg n p; omega
              exact absurd hd ((valP_iff k3 k1).1 h0)
          have hK2 := valP_le n p
          have HPR := Lib.hid hpr; clear hpr
          have HDV := Lib.hid hdv; clear hdv
          have HD := Lib.hid hd; clear hd
          obtain ⟨K, hK⟩ : ∃ K, valP n p = K := ⟨_, rfl⟩
          rw [hK] at hvN hK1 hK2
          have HVN := Lib.hid hvN; clear hvN
          go_wp2_with fail
          refine (mdValuation_any n p _ (by omega) (by omega) (by omega) (by omega) (by omega)).mono ?_; rintro e w1 ⟨rfl, hb1⟩; rw [hK]; have HK := Lib.hid hK; clear hK
          have hbel1 := bel_trans hb1 hbel
          have hrow1 := row_keep hrow hb1
          have hin1 := fun i h => (HIN.out i h).keep hb1
          have HIN1 := Lib.hid hin1; clear hin1 HIN hrow hbel hb1
          go_wp2_with (first | (at_builtin; refine wpList_append_own _ rfl _ _ 69 rfl w.heap.size 26 i0 (.slice none 0 0) 1 24 Tryd.underlying69 hi hz0 hz1 hz2 rfl (by decide) _ _ _ rfl ((hrow1.alloc _).alloc _) ⟨w1.heap.size + 1, 0, none⟩ 1 1 [.slice (some ⟨w1.heap.size, 0, none⟩) 2 2] rfl rfl ?_ ?_ ?_ ?_ ?_ ?_))
          · intro j u hj; match j, hj with | 0, hj => simp at hj; subst hj; simp [Addr.add]
          · first | rfl | (intro u hu; simp at hu; subst hu; rfl)
          · unfold maxLen; omega
          · omega
          · have := hbel1.size; simp; omega
          · intro v' w2 hown2 hgrow _
            obtain ⟨hb2, ho2⟩ := ownSS_snoc (ys := [p, K]) (xss := l.map fun q => [q, valP N q]) hbel1 (by rw [List.length_map]; exact hrow1) (by rw [List.length_map]; exact hvl) HIN1.out HDIS.out (by simp [maxLen]) (by rw [List.length_map]; exact hown2) hgrow
            clear hown2 hgrow hrow1 hlen hvl HIN1 HDIS hbel1
            rw [show l.map (fun q => [q, valP N q]) ++ [[p, K]] = (l ++ [p]).map (fun q => [q, valP N q]) by rw [List.map_append, List.map_singleton, HVN.out]] at ho2
            go_wp2_with fail
            go_loop [0, 5] (fun y z => ∃ u j : Int, y = .int .i64 u ∧ z = .int .i64 j ∧ 1 ≤ u ∧ u ≤ n ∧ 0 ≤ j ∧ j ≤ K ∧ Hid (InnerInv n p u) ∧ Hid (valP u p = j) ∧ Hid (u = n → j = K)) (fun _ z => (intOf z).toNat)
            case atStart => exact ⟨n, K, rfl, rfl, k1, Int.le_refl _, by omega, Int.le_refl _, InnerInv.start k1, HK.out, fun _ => rfl⟩
            case round =>
              obtain ⟨u, j, rfl, rfl, u1, u2, j1, j2, HU, HJ, HUJ⟩ := hrel
              by_cases hj : 0 < j
              · obtain ⟨e1, e2⟩ := valP_emod k3 u1 (by rw [HJ.out]; exact hj)
                obtain ⟨hs1, hs2⟩ := HU.out.step HPR.out e1
                have hs3 : 1 ≤ u / p := hs1.1
                rw [HJ.out] at e2
                have HS := Lib.hid hs1; clear hs1
                have HE := Lib.hid e2; clear e2 e1
                go_wp2_with fail
                go_round
                case rel => exact ⟨u / p, j - 1, rfl, rfl, by omega, by omega, by omega, by omega, HS, HE, fun h => by omega⟩
                case measure => simp [intOf]; omega
              · have hj0 : j = 0 := by omega
                subst hj0
                have hu : u % p ≠ 0 := (valP_iff k3 u1).1 HJ.out
                have hne : u ≠ n := fun h => by have := HUJ.out h; omega
                have hnext : FacInv N u (p + 1) (l ++ [p]) := HI.out.take HPR.out (Int.le_refl _) HDV.out HI.out.2.2.2.1 u1 (fun k => hu (Int.emod_eq_zero_of_dvd k)) HU.out.2.2
                have hpu : u = 1 ∨ p + 1 ≤ u := by
                  rcases Int.lt_or_le 1 u with k | k
                  · right
                    rcases Int.lt_or_le u (p + 1) with k' | k'
                    · exact absurd (Int.dvd_refl u) (hnext.2.2.2.1 u (by omega) k')
                    · exact k'
                  · left; omega
                have HN := Lib.hid hnext; clear hnext hu
                go_wp2_with fail
                go_roundw
                case rel => exact ⟨u, p + 1, l ++ [p], rfl, rfl, u1, by omega, by omega, by omega, HN, hb2, ho2⟩
                case measure => simp [intOf]; omega
        · have hnext : FacInv N n (p + 1) l := HI.out.skip (fun k => hd (Int.emod_eq_zero_of_dvd k))
          have hv0 : valP n p = 0 := (valP_iff k3 k1).2 hd
          have hpu : p + 1 ≤ n := by
            rcases Int.lt_or_le n (p + 1) with k' | k'
            · have : p = n := by omega
              subst this; exact absurd Int.emod_self hd
            · exact k'
          have HN := Lib.hid hnext; clear hnext hd
          have hown : OwnSS wr w.heap.size _ (l.map fun q => [q, valP N q]) := ⟨vs, by rw [List.length_map]; exact hrow, by rw [List.length_map]; exact hvl, HIN.out, HDIS.out⟩
          clear hrow hvl HIN HDIS
          go_wp2_with fail
          refine (mdValuation_any n p _ (by omega) (by omega) (by omega) (by omega) (by omega)).mono ?_; rintro e w1 ⟨rfl, hb1⟩
          have hbel1 := bel_trans hb1 hbel
          have hown1 := hown.keep hb1
          rw [hv0]
          go_wp2_with fail
          go_roundw
          case rel => exact ⟨n, p + 1, l, rfl, rfl, by omega, by omega, by omega, by omega, HN, hbel1, hown1⟩
          case measure => simp [intOf]; omega

/-! ### squarefree parts -/
/-- the product of those primes of a list that divide N an odd number of times, as the program's numbers multiply. -/
def clsF (N : Int) : List Int → Int → Int
  | [], a => a
  | q :: r, a => clsF N r (if valP N q % 2 = 1 then wrap64 (a * q) else a)
noncomputable def classI (n : Int) : Int := clsF n (primesL (n.natAbs : Int)) n.sign
theorem clsF_natAbs (n : Int) : ∀ (l : List Int) (a : Int), clsF (n.natAbs : Int) l a = clsF n l a
  | [], _ => rfl
  | q :: r, a => by unfold clsF; rw [valP_natAbs, clsF_natAbs n r]
theorem clsF_drop (N : Int) {l : List Int} {k : Nat} (hk : k < l.length) (a : Int) : clsF N (l.drop k) a = clsF N (l.drop (k + 1)) (if valP N (l.getD k 0) % 2 = 1 then wrap64 (a * l.getD k 0) else a) := by
  rw [List.drop_eq_getElem_cons hk]
  conv => lhs; unfold clsF
  simp [List.getD_eq_getElem?_getD, List.getElem?_eq_getElem hk]
theorem primesL_mem {N : Int} (hN : 1 ≤ N) {k : Nat} (hk : k < (primesL N).length) : 2 ≤ (primesL N).getD k 0 ∧ (primesL N).getD k 0 ≤ N ∧ Pr ((primesL N).getD k 0) := by
  have hm : (primesL N).getD k 0 ∈ primesL N := by
    rw [List.getD_eq_getElem?_getD, List.getElem?_eq_getElem hk]; exact List.getElem_mem hk
  obtain ⟨h1, h2⟩ := ((primesL_spec (by omega)).2 _).1 hm
  exact ⟨h1.1, Int.le_of_dvd (by omega) h2, h1⟩
theorem primesL_len {N : Int} (hN : 1 ≤ N) : ((primesL N).length : Int) ≤ N := by
  rcases inc_length (primesL N) 2 (N + 1) (primesL_spec (by omega)).1 (fun q hq => by
    obtain ⟨h1, h2⟩ := ((primesL_spec (by omega)).2 q).1 hq
    exact ⟨h1.1, by have := Int.le_of_dvd (by omega) h2; omega⟩) with k | k
  · omega
  · rw [k]; simp; omega
/-- a number whose class is asked. -/
def smallN (n : Int) : Bool := decide (-1000000000 ≤ n ∧ n ≤ 1000000000 ∧ n ≠ 0)
theorem smallN_true {n : Int} : smallN n = true ↔ (-1000000000 ≤ n ∧ n ≤ 1000000000 ∧ n ≠ 0) := by simp [smallN]
theorem smallN_false {n : Int} : smallN n = false ↔ ¬ (-1000000000 ≤ n ∧ n ≤ 1000000000 ∧ n ≠ 0) := by simp only [smallN, decide_eq_false_iff_not]
end Go.Proofs.YtpjcfnjagknocaaDoor
