/- Cp: contracts: the number of points modulo a prime. No conditions. -/
import Derived.Test.YtadijbaphfgeiaaDoorPw
namespace Go.Proofs.YtadijbaphfgeiaaDoor
open Go.RowKit

noncomputable def cntN (a b p : Int) : Nat → Int
  | 0 => 0
  | n + 1 => cntN a b p n + symI (rsI a b p n) p
noncomputable def cntI (a b p : Int) : Int := p + 1 + cntN a b p p.toNat
theorem cntN_bd {a b p : Int} (hp : p5B p = true) : ∀ n : Nat, -(n : Int) ≤ cntN a b p n ∧ cntN a b p n ≤ n
  | 0 => by simp [cntN]
  | n + 1 => by
    have h1 := cntN_bd (a := a) (b := b) hp n
    have h2 := symI_bd (a := rsI a b p n) hp
    simp only [cntN]; omega
theorem cntN_succ (a b p x : Int) (h : 0 ≤ x) : cntN a b p (x + 1).toNat = cntN a b p x.toNat + symI (rsI a b p x) p := by
  obtain ⟨n, rfl⟩ : ∃ n : Nat, x = n := ⟨x.toNat, by omega⟩
  rw [show ((n : Int) + 1).toNat = n + 1 by omega, show (n : Int).toNat = n by omega]
  rfl
theorem cntI_bd {a b p : Int} (hp : p5B p = true) : 0 ≤ cntI a b p ∧ cntI a b p ≤ 2000 := by
  have := cntN_bd (a := a) (b := b) hp p.toNat
  have := p5_bd hp
  unfold cntI; omega
noncomputable def cpB (a b p : Int) : Bool := curveB a b && goodB a b p
end Go.Proofs.YtadijbaphfgeiaaDoor
