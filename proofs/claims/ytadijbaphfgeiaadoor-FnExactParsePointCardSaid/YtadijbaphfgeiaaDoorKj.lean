/- Kj: contracts: exponents of the conductor, kinds, nodes, numbers of nonsingular points. No conditions. -/
import Derived.Test.YtadijbaphfgeiaaDoorKi
namespace Go.Proofs.YtadijbaphfgeiaaDoor
open Go.RowKit

def expK : Nat → Int
  | 0 => 0
  | 1 => 2
  | _ => 1
theorem kind_good {A B p : Int} (hpr : p5B p = true) (h : kindN A B p = 0) : goodB A B p = true := by
  unfold kindN at h
  split at h
  · rename_i hd
    unfold goodB; rw [hpr]; simp [hd]
  · split at h
    · omega
    · split at h <;> omega
def nodeT (k : Nat) (x p : Int) : Value := bif Nat.ble 2 k then .tuple #[.int .i64 x, .int .i64 (3 * x % p), .bool true] else .tuple #[.int .i64 0, .int .i64 0, .bool false]
def nsK (k : Nat) (c p : Int) : Int := match k with
  | 0 => c
  | 1 => p
  | 2 => p - 1
  | _ => p + 1
end Go.Proofs.YtadijbaphfgeiaaDoor
