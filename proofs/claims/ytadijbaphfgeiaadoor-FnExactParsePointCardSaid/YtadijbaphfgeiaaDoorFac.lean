/- Fac: contracts: the primes that divide a number (primesOf), in the program. No conditions. -/
import Derived.Test.YtadijbaphfgeiaaDoorFm
import Derived.Test.YtadijbaphfgeiaaDoorSl
import Derived.Deep.LoopGhost
namespace Go.Proofs.YtadijbaphfgeiaaDoor
open Go.RowKit

theorem own_snoc {w0 wr w1 : World} {v v' : Value} {l : List Int} {p : Int} {o : Obj} (hbel : Below w0.heap.size w0 wr) (hown : Own wr w0.heap.size v l)
    (hown1 : w1.ownsRow w0.heap.size 3 1 v' (l.length + 1) (l.map (Value.int .i64) ++ [.int .i64 p])) (hg : (wr.alloc o).grownBy w1 v.ownBlock) : Below w0.heap.size w0 w1 ∧ Own w1 w0.heap.size v' (l ++ [p]) := by
  have ha : Below w0.heap.size w0 (wr.alloc o) := hbel.alloc hbel.size o
  refine ⟨ha.grown hg ha.size (fun k hk => ((hown : World.ownsRow _ _ _ _ _ _ _).lt k hk).1), ?_⟩
  unfold Own
  rw [List.map_append, List.length_append]
  exact hown1
theorem inc_length : ∀ (l : List Int) (a b : Int), Inc l → (∀ q ∈ l, a ≤ q ∧ q < b) → (l.length : Int) ≤ b - a ∨ l = []
  | [], _, _, _, _ => .inr rfl
  | x :: r, a, b, h, hq => by
    left
    unfold Inc at h
    rw [List.pairwise_cons] at h
    have hx := hq x (by simp)
    rcases inc_length r (a + 1) b h.2 (fun q hqr => by have := h.1 q hqr; have := hq q (List.mem_cons_of_mem _ hqr); omega) with hr | hr
    · simp only [List.length_cons]; omega
    · subst hr; simp; omega
theorem FacInv.len {N n p : Int} {l : List Int} (h : FacInv N n p l) : (l.length : Int) ≤ p := by
  have h1 := h.1
  rcases inc_length l 2 p h.2.2.2.2.1 (fun q hq => ⟨(h.2.2.2.2.2.1 q hq).1.1, (h.2.2.2.2.2.1 q hq).2.2⟩) with k | k
  · omega
  · subst k; simp; omega
theorem root_lt {p n : Int} (h0 : 0 ≤ p) (h : p * p ≤ n) (hn : n ≤ 20000000000) : p ≤ 141421 := by
  rcases Int.lt_or_le 141421 p with h1 | h1
  · have : 141422 * 141422 ≤ p * p := Int.mul_le_mul (by omega) (by omega) (by omega) (by omega)
    omega
  · exact h1
/-- what the inner loop keeps. -/
def InnerInv (n p u : Int) : Prop := 1 ≤ u ∧ u ≤ n ∧ ∃ c : Int, n = u * c ∧ ∀ q : Int, Pr q → q ∣ c → q = p
theorem InnerInv.start {n p : Int} (hn : 1 ≤ n) : InnerInv n p n := ⟨hn, Int.le_refl _, 1, by omega, fun q hq hd => by
  have := Int.le_of_dvd (by omega) hd; have := hq.1; omega⟩
theorem InnerInv.step {n p u : Int} (h : InnerInv n p u) (hp : Pr p) (hm : u % p = 0) : InnerInv n p (u / p) ∧ u / p < u := by
  obtain ⟨h1, h2, c, h3, h4⟩ := h
  have hp2 := hp.1
  have hd : u = p * (u / p) := by have := Int.mul_ediv_add_emod u p; omega
  have hpos : 1 ≤ u / p := by
    rcases Int.lt_or_le 0 (u / p) with k | k
    · omega
    · have : p * (u / p) ≤ 0 := Int.mul_nonpos_of_nonneg_of_nonpos (by omega) k
      omega
  have hlt : u / p < u := by
    have : 2 * (u / p) ≤ p * (u / p) := Int.mul_le_mul_of_nonneg_right hp2 (by omega)
    omega
  refine ⟨⟨hpos, by omega, p * c, ?_, fun q hq hd' => ?_⟩, hlt⟩
  · rw [h3]; conv => lhs; rw [hd]
    rw [Int.mul_comm p (u / p), Int.mul_assoc]
  · rcases pr_dvd_mul hq hd' with k | k
    · exact pr_dvd_pr hp hq k
    · exact h4 q hq k

end Go.Proofs.YtadijbaphfgeiaaDoor
