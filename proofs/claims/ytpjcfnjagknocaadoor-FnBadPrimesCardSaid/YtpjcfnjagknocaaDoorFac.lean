/- Fac: contracts: the primes that divide a number (primesOf), in the program. No conditions. -/
import Derived.Test.YtpjcfnjagknocaaDoorFm
import Derived.Test.YtpjcfnjagknocaaDoorSl
import Derived.Deep.LoopGhost
namespace Go.Proofs.YtpjcfnjagknocaaDoor
open Go.RowKit

theorem own_snoc {w0 wr w1 : World} {v v' : Value} {l : List Int} {p : Int} {o : Obj} (hbel : Below w0.heap.size w0 wr) (hown : Own wr w0.heap.size v l)
    (hown1 : w1.ownsRow w0.heap.size 3 1 v' (l.length + 1) (l.map (Value.int .i64) ++ [.int .i64 p])) (hg : (wr.alloc o).grownBy w1 v.ownBlock) : Below w0.heap.size w0 w1 ∧ Own w1 w0.heap.size v' (l ++ [p]) := by
  have ha : Below w0.heap.size w0 (wr.alloc o) := hbel.alloc hbel.size o
  refine ⟨ha.grown hg ha.size (fun k hk => ((hown : World.ownsRow _ _ _ _ _ _ _).lt k hk).1), ?_⟩
  unfold Own
  rw [List.map_append, List.length_append]
  exact hown1
theorem inc_length : ∀ (l : List Int) (a b : Int), Inc l → (∀ q ∈ l, a ≤ q ∧ q < b) → (l.length : Int) ≤ b - a ∨ l = []
  | [], _, _, _, _ => .inr rfl
  | x :: r, a, b, h, hq => by
    left
    unfold Inc at h
    rw [List.pairwise_cons] at h
    have hx := hq x (by simp)
    rcases inc_length r (a + 1) b h.2 (fun q hqr => by have := h.1 q hqr; have := hq q (List.mem_cons_of_mem _ hqr); omega) with hr | hr
    · simp only [List.length_cons]; omega
    · subst hr; simp; omega
theorem FacInv.len {N n p : Int} {l : List Int} (h : FacInv N n p l) : (l.length : Int) ≤ p := by
  have h1 := h.1
  rcases inc_length l 2 p h.2.2.2.2.1 (fun q hq => ⟨(h.2.2.2.2.2.1 q hq).1.1, (h.2.2.2.2.2.1 q hq).2.2⟩) with k | k
  · omega
  · subst k; simp; omega
theorem root_lt {p n : Int} (h0 : 0 ≤ p) (h : p * p ≤ n) (hn : n ≤ 20000000000) : p ≤ 141421 := by
  rcases Int.lt_or_le 141421 p with h1 | h1
  · have : 141422 * 141422 ≤ p * p := Int.mul_le_mul (by omega) (by omega) (by omega) (by omega)
    omega
  · exact h1
/-- what the inner loop keeps. -/
def InnerInv (n p u : Int) : Prop := 1 ≤ u ∧ u ≤ n ∧ ∃ c : Int, n = u * c ∧ ∀ q : Int, Pr q → q ∣ c → q = p
theorem InnerInv.start {n p : Int} (hn : 1 ≤ n) : InnerInv n p n := ⟨hn, Int.le_refl _, 1, by omega, fun q hq hd => by
  have := Int.le_of_dvd (by omega) hd; have := hq.1; omega⟩
theorem InnerInv.step {n p u : Int} (h : InnerInv n p u) (hp : Pr p) (hm : u % p = 0) : InnerInv n p (u / p) ∧ u / p < u := by
  obtain ⟨h1, h2, c, h3, h4⟩ := h
  have hp2 := hp.1
  have hd : u = p * (u / p) := by have := Int.mul_ediv_add_emod u p; omega
  have hpos : 1 ≤ u / p := by
    rcases Int.lt_or_le 0 (u / p) with k | k
    · omega
    · have : p * (u / p) ≤ 0 := Int.mul_nonpos_of_nonneg_of_nonpos (by omega) k
      omega
  have hlt : u / p < u := by
    have : 2 * (u / p) ≤ p * (u / p) := Int.mul_le_mul_of_nonneg_right hp2 (by omega)
    omega
  refine ⟨⟨hpos, by omega, p * c, ?_, fun q hq hd' => ?_⟩, hlt⟩
  · rw [h3]; conv => lhs; rw [hd]
    rw [Int.mul_comm p (u / p), Int.mul_assoc]
  · rcases pr_dvd_mul hq hd' with k | k
    · exact pr_dvd_pr hp hq k
    · exact h4 q hq k

set_option maxRecDepth 4000 in
set_option maxHeartbeats 4000000 in
theorem primesOf_any (n0 N : Int) (w : World) (hc : n0 = N ∨ n0 = -N) (h1 : 1 ≤ N) (h2 : N ≤ 20000000000) :
    Calls Tryd.prog 45 #[.int .i64 n0] w (RetSl (primesL N) w) := by
  obtain ⟨i0, hi, hz0, hz1, hz2⟩ := info_parts Tryd.info_int
  have hst := FacInv.start h1
  have HST := Lib.hid hst; clear hst
  have hs2 : (-N) < N := by omega
  rcases hc with hc | hc <;> subst n0
  all_goals
    go_enter Tryd.func45, Tryd.ntmps45
    go_wp2_with fail
    go_loopw [0, 3, 4] (fun x v y wr => ∃ (n p : Int) (l : List Int), x = .int .i64 n ∧ y = .int .i64 p ∧ 1 ≤ n ∧ n ≤ 20000000000 ∧ 2 ≤ p ∧ (n = 1 ∨ (p ≤ 141422 ∧ p ≤ n)) ∧ Hid (FacInv N n p l) ∧ Below w.heap.size w wr ∧ Own wr w.heap.size v l)
      (fun x _ y _ => (2 * intOf x - intOf y).toNat)
    case atStart => exact ⟨N, 2, [], rfl, rfl, h1, h2, by omega, by omega, HST, Below.refl _ _, Own.nil _ _⟩
    case round =>
      obtain ⟨n, p, l, rfl, rfl, k1, k2, k3, k4, HI, hbel, hown⟩ := hrel
      by_cases hn : n = 1
      · subst hn
        have hl := FacInv.done h1 HI.out
        subst hl
        go_wp2_with fail
        go_ret
        exact ⟨_, rfl, hbel, hown⟩
      · have hpn : p ≤ 141422 ∧ p ≤ n := by omega
        clear k4
        have hpp := mul_bd (a := p) (b := p) (A := 141422) (B := 141422) (by omega) (by omega) (by omega) (by omega)
        have hlen := HI.out.len
        have hown' : wr.ownsRow w.heap.size 3 1 _ l.length (l.map (Value.int .i64)) := hown
        by_cases hlast : n < p * p
        · obtain ⟨hprn, _⟩ := HI.out.last (by omega) hlast
          have hnn : n % n = 0 := Int.emod_self
          have hdn : n / n = 1 := Int.ediv_self (by omega)
          have h1n : 1 % n = 1 := Int.emod_eq_of_lt (by omega) (by omega)
          have hfin : FacInv N 1 (n + 1) (l ++ [n]) := HI.out.take hprn hpn.2 (Int.dvd_refl n) (fun d d1 d2 d3 => absurd (pr_dvd hprn d1 d3) (by omega)) (by omega) (fun hd => by
            have := Int.le_of_dvd (by omega) hd; omega) ⟨n, by omega, fun q hq hd => pr_dvd_pr hprn hq hd⟩
          have HF := Lib.hid hfin; clear hfin hprn
          have hn0 : (n == 0) = false := by simp; omega
          go_wp2_with (first | (at_builtin; refine wpList_append_own _ rfl _ _ 26 rfl w.heap.size 3 i0 (.int .i64 0) 1 8 Tryd.underlying26 hi hz0 hz1 hz2 rfl (by decide) _ _ _ rfl (hown'.alloc _) ⟨wr.heap.size, 0, none⟩ 1 1 [.int .i64 n] rfl rfl (cell_one_new _ _ _) ?_ ?_ ?_ ?_ ?_))
          · first | rfl | (intro u hu; simp at hu; subst hu; rfl)
          · unfold maxLen; omega
          · omega
          · have := hbel.size; simp; omega
          · intro v' w1 hown1 hgrow _
            obtain ⟨hb1, ho1⟩ := own_snoc hbel hown hown1 hgrow
            clear hown1 hgrow hown hown' hlen
            go_wp2_with fail
            refine wp_loop_rounds 2 ?_; rw [rounds_succ]
            go_wp2_with fail
            rw [rounds_succ]
            go_wp2_with fail
            go_roundw
            case rel => exact ⟨1, n + 1, l ++ [n], by rw [hdn], rfl, by omega, by omega, by omega, by omega, HF, hb1, ho1⟩
            case measure => simp [intOf, hdn]; omega
        · have hrt := root_lt (by omega) (show p * p ≤ n by omega) k2
          have hp0 : (p == 0) = false := by simp; omega
          by_cases hd : n % p = 0
          · have hdv : p ∣ n := Int.dvd_of_emod_eq_zero hd
            have hpr := HI.out.prime hdv
            have HPR := Lib.hid hpr; clear hpr
            have HDV := Lib.hid hdv; clear hdv
            have hdb : (n % p == 0) = true := by simp [hd]
            have HD := Lib.hid hd; clear hd
            go_wp2_with (first | (at_builtin; refine wpList_append_own _ rfl _ _ 26 rfl w.heap.size 3 i0 (.int .i64 0) 1 8 Tryd.underlying26 hi hz0 hz1 hz2 rfl (by decide) _ _ _ rfl (hown'.alloc _) ⟨wr.heap.size, 0, none⟩ 1 1 [.int .i64 p] rfl rfl (cell_one_new _ _ _) ?_ ?_ ?_ ?_ ?_))
            · first | rfl | (intro u hu; simp at hu; subst hu; rfl)
            · unfold maxLen; omega
            · omega
            · have := hbel.size; simp; omega
            · intro v' w1 hown1 hgrow _
              obtain ⟨hb1, ho1⟩ := own_snoc hbel hown hown1 hgrow
              clear hown1 hgrow hown hown' hlen hdb
              go_wp2_with fail
              go_loop [0] (fun y => ∃ u : Int, y = .int .i64 u ∧ 1 ≤ u ∧ u ≤ n ∧ Hid (InnerInv n p u)) (fun y => (intOf y).toNat)
              case atStart => exact ⟨n, rfl, k1, Int.le_refl _, InnerInv.start k1⟩
              case round =>
                obtain ⟨u, rfl, u1, u2, HU⟩ := hrel
                by_cases hu : u % p = 0
                · obtain ⟨hs1, hs2⟩ := HU.out.step HPR.out hu
                  have hs3 : 1 ≤ u / p := hs1.1
                  have HS := Lib.hid hs1; clear hs1
                  have hub : (u % p == 0) = true := by simp [hu]
                  clear hu
                  go_wp2_with fail
                  go_round
                  case rel => exact ⟨u / p, rfl, by omega, by omega, HS⟩
                  case measure => simp [intOf]; omega
                · have hub : (u % p == 0) = false := by simp [hu]
                  have hne : u ≠ n := by rintro rfl; exact hu HD.out
                  have hnext : FacInv N u (p + 1) (l ++ [p]) := HI.out.take HPR.out (Int.le_refl _) HDV.out HI.out.2.2.2.1 u1 (fun k => hu (Int.emod_eq_zero_of_dvd k)) HU.out.2.2
                  have hpu : u = 1 ∨ p + 1 ≤ u := by
                    rcases Int.lt_or_le 1 u with k | k
                    · right
                      rcases Int.lt_or_le u (p + 1) with k' | k'
                      · exact absurd (Int.dvd_refl u) (hnext.2.2.2.1 u (by omega) k')
                      · exact k'
                    · left; omega
                  have HN := Lib.hid hnext; clear hnext hu
                  go_wp2_with fail
                  go_roundw
                  case rel => exact ⟨u, p + 1, l ++ [p], rfl, rfl, u1, by omega, by omega, by omega, HN, hb1, ho1⟩
                  case measure => simp [intOf]; omega
          · have hnext : FacInv N n (p + 1) l := HI.out.skip (fun k => hd (Int.emod_eq_zero_of_dvd k))
            have hdb : (n % p == 0) = false := by simp [hd]
            have hpu : p + 1 ≤ n := by
              rcases Int.lt_or_le n (p + 1) with k' | k'
              · have : p = n := by omega
                subst this; exact absurd Int.emod_self hd
              · exact k'
            have HN := Lib.hid hnext; clear hnext hd
            go_wp2_with fail
            refine wp_loop_rounds 1 ?_; rw [rounds_succ]
            go_wp2_with fail
            go_roundw
            case rel => exact ⟨n, p + 1, l, rfl, rfl, by omega, by omega, by omega, by omega, HN, hbel, hown⟩
            case measure => simp [intOf]; omega
end Go.Proofs.YtpjcfnjagknocaaDoor
