/- Al: contracts: AddModulo of both programs. No conditions. -/
import Derived.Test.YtpjcfnjagknocaaAe
namespace Go.Proofs.Ytpjcfnjagknocaa
open Go.RowKit

/-- the curve, the prime and both points are valid. -/
noncomputable def ask2B (a b p : Int) (s t : List Int) : Bool := askB a b p s && onF a b p t
theorem small_p5 {a b p : Int} (h : smallB a b p = true) : p5B p = true := by
  obtain ⟨_, hg, _, _⟩ := small_bd h
  unfold goodB at hg
  rw [Bool.and_eq_true] at hg
  exact hg.1
theorem addI_len {a b p : Int} {s t : List Int} (hs : onF a b p s = true) (ht : onF a b p t = true) : (addI a p s t).length ≤ 1048576 := by
  rcases onF_cases hs with rfl | ⟨s0, s1, rfl, _⟩
  · rw [addI_nil]; rcases onF_cases ht with rfl | ⟨_, _, rfl, _⟩ <;> simp
  · rcases onF_cases ht with rfl | ⟨t0, t1, rfl, _⟩
    · rw [addI_nil']; simp
    · rw [addI_pair]; split <;> simp
theorem ask2_len (a b p : Int) (s t : List Int) : (if ask2B a b p s t = true then addI a p s t else []).length ≤ 1048576 := by
  split
  · rename_i h
    unfold ask2B askB at h
    simp only [Bool.and_eq_true] at h
    exact addI_len h.1.2 h.2
  · simp
end Go.Proofs.Ytpjcfnjagknocaa
