/- Bg: contracts: BadFromFive. No conditions. -/
import Derived.Test.YtjiembdflnjocaaDoorBf
namespace Go.Proofs.YtjiembdflnjocaaDoor
open Go.RowKit

noncomputable def bbX (a b : Int) : List Int := bif curveB a b then bfX a b else []
noncomputable def bbOk (a b : Int) : Bool := curveB a b && bfOk a b
theorem bfX_len (a b : Int) (hcur : curveB a b = true) : (bfX a b).length ≤ 1000 := by
  obtain ⟨q1, q2, q3, q4, q5⟩ := curveB_true.1 hcur
  unfold bfX
  cases hk : bfOk a b
  · simp
  · rw [cond_true]
    have h1 := badF_len a b (bfL a b)
    unfold bfOk at hk
    rw [List.all_eq_true] at hk
    have hs := primesL_spec (N := ((discI a b).natAbs : Int)) (by omega)
    rcases inc_length (bfL a b) 2 998 hs.1 (fun q hq => ⟨((hs.2 q).1 hq).1.1, by have := hk q hq; simp only [decide_eq_true_eq] at this; omega⟩) with k | k
    · omega
    · have e : badF a b (bfL a b) = [] := by rw [k]; rfl
      rw [e]; simp
theorem bbX_len (a b : Int) : (bbX a b).length ≤ 1000000 := by
  unfold bbX
  cases hcur : curveB a b
  · simp
  · have := bfX_len a b hcur; rw [cond_true]; omega
end Go.Proofs.YtjiembdflnjocaaDoor
