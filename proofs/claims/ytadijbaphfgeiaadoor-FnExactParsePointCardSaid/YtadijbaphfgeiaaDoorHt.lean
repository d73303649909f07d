/- Ht: contracts: the height of a point. No conditions. -/
import Derived.Test.YtadijbaphfgeiaaDoorPt
namespace Go.Proofs.YtadijbaphfgeiaaDoor
open Go.RowKit
def heightI (x e : Int) : Int := max (max (x.natAbs : Int) (e * e)) 1
theorem pointB_bd {a b x y e : Int} (h : pointB a b x y e = true) : -10000 ≤ x ∧ x ≤ 10000 ∧ 0 ≤ e ∧ e ≤ 20 ∧ -1800000 ≤ y ∧ y ≤ 1800000 ∧ curveB a b = true ∧ onB a b x y e = true := by
  unfold pointB at h
  rw [Bool.and_eq_true] at h
  obtain ⟨h1, h2, h3, h4, _⟩ := curveB_true.1 h.1
  rcases onB_true.1 h.2 with ⟨rfl, rfl, rfl⟩ | ⟨k1, k2, k3, k4, k5, k6⟩
  · exact ⟨by omega, by omega, by omega, by omega, by omega, by omega, h.1, h.2⟩
  · have := y_small h1 h2 h3 h4 k1 k2 k3 k4 k6
    exact ⟨k1, k2, by omega, k4, this.1, this.2, h.1, h.2⟩
end Go.Proofs.YtadijbaphfgeiaaDoor
