/- Co: contracts: how many points times a number are infinity. No conditions. -/
import Derived.Test.YtaaagjdakbnhnaaPm
import Derived.Test.YtaaagjdakbnhnaaTj
namespace Go.Proofs.Ytaaagjdakbnhnaa
open Go.RowKit

theorem ptsN_on {a b : Int} {q : Nat} (hq : 0 < q) : ∀ k, k ≤ q * q → ∀ r ∈ ptsN a b q k, onF a b q r = true
  | 0, _, r, h => by simp [ptsN] at h
  | k + 1, hk, r, h => by
    rw [ptsN] at h
    split at h
    · rename_i hc
      rcases List.mem_append.1 h with h | h
      · exact ptsN_on hq k (by omega) r h
      · rw [List.mem_singleton] at h
        subst h
        unfold ptC at hc
        have h1 : k / q < q := Nat.div_lt_of_lt_mul (by omega)
        have h2 : k % q < q := Nat.mod_lt _ hq
        exact on_pair (Int.natCast_nonneg _) (Int.ofNat_lt.2 h1) (Int.natCast_nonneg _) (Int.ofNat_lt.2 h2) (by simpa using hc)
    · exact ptsN_on hq k (by omega) r h
theorem ptsL_on {a b p : Int} (hp : 5 ≤ p) {k : Nat} (hk : k < (ptsL a b p).length) : onF a b p ((ptsL a b p).getD k []) = true := by
  have hm : (ptsL a b p).getD k [] ∈ ptsL a b p := by
    rw [List.getD_eq_getElem?_getD, List.getElem?_eq_getElem hk]
    exact List.getElem_mem hk
  unfold ptsL at hm ⊢
  rcases List.mem_cons.1 hm with h | h
  · rw [h]; rfl
  · have := ptsN_on (q := p.toNat) (by omega) _ (Nat.le_refl _) _ h
    rwa [Int.toNat_of_nonneg (by omega)] at this
theorem ptsL_len {a b p : Int} (hp : 5 ≤ p) (hp2 : p ≤ 199) : (ptsL a b p).length ≤ 50000 := by
  unfold ptsL
  have h1 := ptsN_len a b p.toNat (p.toNat * p.toNat)
  have h2 : p.toNat * p.toNat ≤ 199 * 199 := Nat.mul_le_mul (by omega) (by omega)
  rw [List.length_cons]
  omega
def cntL (a p n : Int) (rows : List (List Int)) : Nat := (rows.filter fun r => decide (timesL a p n r = [])).length
theorem cntL_le (a p n : Int) (rows : List (List Int)) : cntL a p n rows ≤ rows.length := List.length_filter_le _ _
theorem cntL_step {a p n : Int} {L : List (List Int)} {k : Nat} (hk : k < L.length) : cntL a p n (L.take (k + 1)) = if timesL a p n (L.getD k []) = [] then cntL a p n (L.take k) + 1 else cntL a p n (L.take k) := by
  have e : L.take (k + 1) = L.take k ++ [L.getD k []] := by rw [List.take_add_one, List.getD_eq_getElem?_getD, List.getElem?_eq_getElem hk]; rfl
  unfold cntL
  rw [e, List.filter_append, List.length_append]
  generalize L.getD k [] = z at *
  split
  · rename_i h; simp [h]
  · rename_i h; simp [h]
noncomputable def coB (a b p n : Int) : Bool := smallB a b p && inB n 1 1000
def coV (a b p n : Int) : Int := (cntL a p n (ptsL a b p) : Nat)
end Go.Proofs.Ytaaagjdakbnhnaa
