/- The walk of FnExactOrderModulo. No conditions. -/
import Derived.Test.YtieaihlckmfnmaaOd
namespace Go.Proofs.Ytieaihlckmfnmaa.fnExactOrderModulo
open Go.RowKit
set_option maxHeartbeats 1000000 in
theorem walk (a b p : Int) (ad : Option Addr) (len cap : Nat) (zs : List Int) (w : World) (_ha : I64 a) (_hb : I64 b) (_hp : I64 p) (hw : IsRow .i64 w ad len cap zs) :
    Calls Try.prog 7 #[.agg #[.int .i64 a, .int .i64 b], .int .i64 p, .slice ad len cap] w (Ret (.bool true) w) := by
  have hlen := hw.len
  have hlm := hw.le
  unfold maxLen at hlm
  obtain ⟨hrd, _⟩ := Rd.of_row hw
  by_cases hbig : (1048576 : Int) < (len : Int)
  · go_enter Try.func7, Try.ntmps7
    go_wp2_with fail
    go_ret
    exact ret_mk (by repeat (first | exact Below.refl _ _ | (with_reducible assumption) | refine bel_alloc ?_ _ | refine bel_drew ?_ | refine bel_drewN ?_ _ | refine Below.setCell ?_ (by dsimp only; omega) _ | refine bel_trans (by assumption) ?_))
  · have hsmall : (zs.take len).length ≤ 1048576 := by omega
    clear hlen
    generalize zs.take len = q at *
    have hval : ∃ (k : Int) (ok : Bool), ordV a b p q = .tuple #[.int .i64 k, .bool ok] := by
      cases hq : askB a b p q
      · exact ⟨_, _, ordV_no hq⟩
      · obtain ⟨K, _, h⟩ := ordV_yes hq
        exact ⟨_, _, h⟩
    obtain ⟨k, ok, hval⟩ := hval
    have hsp := fun z v (hv : Rd z v q) (hn : NilZ v) => sOrderModulo_any a b p v q z hv hn
    have him := fun z v (hv : Rd z v q) (hn : NilZ v) => iOrderModulo_any a b p v q z hv hn
    rw [hval] at hsp him
    clear hval
    cases ok
    all_goals
      go_enter Try.func7, Try.ntmps7
      go_wp2_with fail
      refine (toCurve_any _ _ _).mono ?_; rintro e w1 ⟨rfl, hb1⟩
      obtain ⟨hc1, hf1⟩ := aft hb1
      go_wp2_with fail
      refine (toIntS_any _ _ _ (hrd.keep (by repeat (first | exact Below.refl _ _ | (with_reducible assumption) | refine bel_alloc ?_ _ | refine bel_drew ?_ | refine bel_drewN ?_ _ | refine Below.setCell ?_ (by dsimp only; omega) _ | refine bel_trans (by assumption) ?_))) hsmall).mono ?_; rintro e w2 ⟨v2, rfl, hb2, ho2⟩
      replace hb2 := aft2 hb2 hb1; clear hb1 hc1 hf1
      obtain ⟨hc2, hf2⟩ := aft hb2
      go_wp2_with fail
      refine (hsp _ v2 ho2.rd ho2.nilz).mono ?_; rintro e w3 ⟨rfl, hb3⟩
      replace hb3 := aft2 hb3 hb2; clear hb2 hc2 hf2 ho2
      obtain ⟨hc3, hf3⟩ := aft hb3
      go_wp2_with fail
      refine (toIntS_any _ _ _ (hrd.keep (by repeat (first | exact Below.refl _ _ | (with_reducible assumption) | refine bel_alloc ?_ _ | refine bel_drew ?_ | refine bel_drewN ?_ _ | refine Below.setCell ?_ (by dsimp only; omega) _ | refine bel_trans (by assumption) ?_))) hsmall).mono ?_; rintro e w4 ⟨v4, rfl, hb4, ho4⟩
      replace hb4 := aft2 hb4 hb3; clear hb3 hc3 hf3
      obtain ⟨hc4, hf4⟩ := aft hb4
      go_wp2_with fail
      refine (toCurve_any _ _ _).mono ?_; rintro e w5 ⟨rfl, hb5⟩
      have ho5 := ho4.keep hb5; clear ho4
      replace hb5 := aft2 hb5 hb4; clear hb4 hc4 hf4
      obtain ⟨hc5, hf5⟩ := aft hb5
      go_wp2_with fail
      refine (him _ v4 ho5.rd ho5.nilz).mono ?_; rintro e w6 ⟨rfl, hb6⟩
      have ho6 := ho5.keep hb6; clear ho5
      replace hb6 := aft2 hb6 hb5; clear hb5 hc5 hf5
      obtain ⟨hc6, hf6⟩ := aft hb6
      go_wp2_with fail
      refine (toIntS_any _ _ _ (hrd.keep (by repeat (first | exact Below.refl _ _ | (with_reducible assumption) | refine bel_alloc ?_ _ | refine bel_drew ?_ | refine bel_drewN ?_ _ | refine Below.setCell ?_ (by dsimp only; omega) _ | refine bel_trans (by assumption) ?_))) hsmall).mono ?_; rintro e w7 ⟨v7, rfl, hb7, ho7⟩
      have ho7' := ho6.keep hb7; clear ho6
      replace hb7 := aft2 hb7 hb6; clear hb6 hc6 hf6
      go_wp2_with fail
      refine (eqIntS_same v4 v7 _ _ ho7'.rd ho7.rd).mono ?_; rintro e w8 ⟨rfl, hb8⟩
      go_wp2_with fail
      go_ret
      exact ret_mk (by repeat (first | exact Below.refl _ _ | (with_reducible assumption) | refine bel_alloc ?_ _ | refine bel_drew ?_ | refine bel_drewN ?_ _ | refine Below.setCell ?_ (by dsimp only; omega) _ | refine bel_trans (by assumption) ?_))
end Go.Proofs.Ytieaihlckmfnmaa.fnExactOrderModulo
