/- Tj: contracts: TimesModulo of both programs. No conditions. -/
import Derived.Test.YtnphdgekoelpjaaTi
namespace Go.Proofs.Ytnphdgekoelpjaa
open Go.RowKit

theorem wp_region_val2 {P : Program} {id : Nat} {ops : Array Oper} {b : Bool} {Q : Exit → Act → World → Prop} {a : Act} {w : World} {f : Value → Value → Act} (F : Value → Value → World → Prop)
    (h : (Code.region id ops b).wp P (fun e a' w' => e = .normal ∧ ∃ u v, a' = f u v ∧ F u v w') a w) (k : ∀ u v w', F u v w' → Q .normal (f u v) w') : (Code.region id ops b).wp P Q a w :=
  wp_region_join (fun a' w' => ∃ u v, a' = f u v ∧ F u v w') h (fun _ w' ⟨u, v, hB, hF⟩ => hB ▸ k u v w' hF)
/-- the curve, the prime, the point and the number are valid. -/
noncomputable def askN (a b p n : Int) (s : List Int) : Bool := askB a b p s && inB n (-1000000000) 1000000000
theorem on_len {a b p : Int} {s : List Int} (h : onF a b p s = true) : s.length ≤ 1048576 := by
  rcases onF_cases h with rfl | ⟨_, _, rfl, _⟩ <;> simp
theorem on_times {a b p n : Int} {s : List Int} (hp : p5B p = true) (h : onF a b p s = true) : onF a b p (timesL a p n s) = true := by
  unfold timesL
  split
  · exact on_tim hp _ _ _ rfl (on_neg hp h)
  · exact on_tim hp _ _ _ rfl h
theorem askN_len (a b p n : Int) (s : List Int) : (if askN a b p n s = true then timesL a p n s else []).length ≤ 1048576 := by
  split
  · rename_i h
    unfold askN askB at h
    simp only [Bool.and_eq_true] at h
    exact on_len (on_times (small_p5 h.1.1) h.1.2)
  · simp
end Go.Proofs.Ytnphdgekoelpjaa
