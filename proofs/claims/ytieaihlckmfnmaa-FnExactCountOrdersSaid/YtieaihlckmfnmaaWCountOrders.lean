/- The walk of FnExactCountOrders. No conditions. -/
import Derived.Test.YtieaihlckmfnmaaCo
namespace Go.Proofs.Ytieaihlckmfnmaa.fnExactCountOrders
open Go.RowKit
set_option maxHeartbeats 1000000 in
theorem walk (a b p n : Int) (w : World) (_ha : I64 a) (_hb : I64 b) (_hp : I64 p) (_hn : I64 n) :
    Calls Try.prog 9 #[.agg #[.int .i64 a, .int .i64 b], .int .i64 p, .int .i64 n] w (Ret (.bool true) w) := by
  have hsp := fun z => sCountOrders_any a b p n z
  have him := fun z => iCountOrders_any a b p n z
  obtain ⟨k, hk⟩ : ∃ k : Int, (if coB a b p n = true then coV a b p n else 0) = k := ⟨_, rfl⟩
  obtain ⟨ok, hok⟩ : ∃ ok, coB a b p n = ok := ⟨_, rfl⟩
  rw [hk, hok] at hsp him
  clear hk hok
  cases ok
  all_goals
    go_enter Try.func9, Try.ntmps9
    go_wp2_with (first | (go_at_call 16; refine (toCurve_any _ _ _).mono ?_; rintro e w' ⟨rfl, hb⟩; (try replace hb := aft2 hb (by assumption)); obtain ⟨hc, hf, hs1, hs2, hs3, hs4⟩ := aftz hb) | (go_at_call 37; refine (hsp _).mono ?_; rintro e w' ⟨rfl, hb⟩; (try replace hb := aft2 hb (by assumption)); obtain ⟨hc, hf, hs1, hs2, hs3, hs4⟩ := aftz hb) | (go_at_call 38; refine (him _).mono ?_; rintro e w' ⟨rfl, hb⟩; (try replace hb := aft2 hb (by assumption)); obtain ⟨hc, hf, hs1, hs2, hs3, hs4⟩ := aftz hb))
    go_ret
    exact ret_mk (by repeat (first | exact Below.refl _ _ | (with_reducible assumption) | refine bel_alloc ?_ _ | refine bel_drew ?_ | refine bel_drewN ?_ _ | refine Below.setCell ?_ (by dsimp only; omega) _ | refine bel_trans (by assumption) ?_))
end Go.Proofs.Ytieaihlckmfnmaa.fnExactCountOrders
