/- Kj: contracts: exponents of the conductor, kinds, nodes, numbers of nonsingular points. No conditions. -/
import Derived.Test.YtjiembdflnjocaaDoorKi
namespace Go.Proofs.YtjiembdflnjocaaDoor
open Go.RowKit

def expK : Nat → Int
  | 0 => 0
  | 1 => 2
  | _ => 1
theorem rtExponent_any (a b p : Int) (w : World) (hcur : curveB a b = true) (hpr : p5B p = true) :
    Calls Tryd.prog 41 #[.agg #[.int .i64 a, .int .i64 b], .int .i64 p] w (Ret (.int .i64 (expK (kindN (minA a b p) b p))) w) := by
  obtain ⟨k1, k2, k3⟩ := min_disc (p := p) hcur
  obtain ⟨_, _, h3, h4, _⟩ := curveB_true.1 hcur
  clear k3
  rcases kind_cases (minA a b p) b p with hk | hk | hk | hk
  all_goals
    rw [hk]
    go_enter Tryd.func41, Tryd.ntmps41
    go_wp2_with (go_at_call 18; refine (rtMinimal_any _ _ _ _ hcur hpr).mono ?_; rintro e w' ⟨rfl, hb⟩; (try replace hb := aft2 hb (by assumption)); obtain ⟨hc, hf, hs1, hs2, hs3, hs4⟩ := aftz hb)
    refine (rtKind_any _ _ _ _ k1 k2 h3 h4 hpr).mono ?_; rintro e w2 ⟨rfl, hb2⟩
    rw [hk]
    go_wp2_with fail
    go_ret
    exact ret_eq rfl (by repeat (first | exact Below.refl _ _ | (with_reducible assumption) | refine bel_alloc ?_ _ | refine bel_drew ?_ | refine bel_drewN ?_ _ | refine Below.setCell ?_ (by dsimp only; omega) _ | refine bel_trans (by assumption) ?_))
theorem kind_good {A B p : Int} (hpr : p5B p = true) (h : kindN A B p = 0) : goodB A B p = true := by
  unfold kindN at h
  split at h
  · rename_i hd
    unfold goodB; rw [hpr]; simp [hd]
  · split at h
    · omega
    · split at h <;> omega
def nodeT (k : Nat) (x p : Int) : Value := bif Nat.ble 2 k then .tuple #[.int .i64 x, .int .i64 (3 * x % p), .bool true] else .tuple #[.int .i64 0, .int .i64 0, .bool false]
def nsK (k : Nat) (c p : Int) : Int := match k with
  | 0 => c
  | 1 => p
  | 2 => p - 1
  | _ => p + 1
end Go.Proofs.YtjiembdflnjocaaDoor
