/- The walk of FnExactPointsModulo. No conditions. -/
import Derived.Test.YtieaihlckmfnmaaPn
namespace Go.Proofs.Ytieaihlckmfnmaa.fnExactPointsModulo
open Go.RowKit
set_option maxHeartbeats 1000000 in
theorem walk (a b p : Int) (w : World) (_ha : I64 a) (_hb : I64 b) (_hp : I64 p) :
    Calls Try.prog 5 #[.agg #[.int .i64 a, .int .i64 b], .int .i64 p] w (Ret (.bool true) w) := by
  obtain ⟨xss, hxs⟩ : ∃ xss, pmX a b p = xss := ⟨_, rfl⟩
  obtain ⟨ok, hok⟩ : ∃ ok, smallB a b p = ok := ⟨_, rfl⟩
  have hbd := pmX_bd a b p
  have hsp := fun z => sPointsModulo_any a b p z
  have him := fun z => iPointsModulo_any a b p z
  rw [hxs, hok] at hsp him
  rw [hxs] at hbd
  clear hxs hok
  obtain ⟨hm1, hm2⟩ := hbd
  obtain ⟨f, hf⟩ : ∃ f : Nat → List Int, (fun j => xss.getD j []) = f := ⟨_, rfl⟩
  have hcv : Hid (∀ (w : World) (B : Nat) (v : Value), OwnSS w B v xss → ∃ vs, RowsO B xss.length w v vs f) := fun w B v h => by rw [← hf]; exact h.o (by omega)
  rw [hf] at hm2
  clear hf
  obtain ⟨m, hm⟩ : ∃ m, xss.length = m := ⟨_, rfl⟩
  rw [hm] at hm1 hm2 hcv
  clear hm
  obtain ⟨T, hT⟩ : ∃ T : Int, 1 + (totF f m : Int) = T := ⟨_, rfl⟩
  have hTb : 0 ≤ T ∧ T ≤ 200000 := by omega
  have HT := Lib.hid hT; clear hT
  have h64 : I64 T := by unfold I64; omega
  have hTn : ¬ T < 0 := by omega
  go_enter Try.func5, Try.ntmps5
  go_wp2_with fail
  generalize hW : w.alloc (.cells #[.int .i64 a, .int .i64 b] 23) = W
  obtain ⟨B0, hB0⟩ : ∃ B0, w.heap.size = B0 := ⟨_, rfl⟩
  obtain ⟨hbelW, hsz, hcA0, hcA1⟩ : Below w.heap.size w W ∧ B0 < W.heap.size ∧ W.cell? ⟨B0, 0, none⟩ = some (.int .i64 a) ∧ W.cell? ⟨B0, 1, none⟩ = some (.int .i64 b) := by
    subst hW; subst hB0
    exact ⟨(by repeat (first | exact Below.refl _ _ | (with_reducible assumption) | refine bel_alloc ?_ _ | refine bel_drew ?_ | refine bel_drewN ?_ _ | refine Below.setCell ?_ (by dsimp only; omega) _ | refine bel_trans (by assumption) ?_)), by simp, by simp [go_sem], by simp [go_sem]⟩
  clear hW
  (try rw [hB0])
  refine (toCurve_any _ _ _).mono ?_; rintro e w1 ⟨rfl, hb1⟩
  go_wp2_with fail
  refine (hsp _).mono ?_; rintro e w2 ⟨v, rfl, hb2, hv⟩
  obtain ⟨vs, hvo⟩ := hcv.out _ _ _ hv
  have hvn := hvo.n
  clear hv hvo
  replace hb2 := aft2 hb2 hb1; clear hb1
  have hd0 : w2.cell? ⟨B0, 0, none⟩ = some (.int .i64 a) := (hb2.cell (p := ⟨B0, 0, none⟩) hsz).trans hcA0
  have hd1 : w2.cell? ⟨B0, 1, none⟩ = some (.int .i64 b) := (hb2.cell (p := ⟨B0, 1, none⟩) hsz).trans hcA1
  have HVN : True → RowsN w2.heap.size m w2 v vs f := fun _ => hvn
  clear hvn
  go_wp2_with fail
  clear hd0 hd1
  refine (toCurve_any _ _ _).mono ?_; rintro e w3 ⟨rfl, hb3⟩
  have hz3 := hb3.size
  have HVN3 : True → RowsN w2.heap.size m w3 v vs f := fun _ => (HVN trivial).keep hb3
  clear HVN
  replace hb3 := aft2 hb3 hb2; clear hb2
  go_wp2_with fail
  refine (him _).mono ?_; rintro e w4 ⟨u, rfl, hb4, hu⟩
  obtain ⟨us, huo⟩ := hcv.out _ _ _ hu
  clear hu
  have hz4 := hb4.size
  have HVN4 : True → RowsN w2.heap.size m w4 v vs f := fun _ => (HVN3 trivial).keep hb4
  clear HVN3
  have HUO4 : True → RowsO w3.heap.size m w4 u us f := fun _ => huo
  clear huo
  have hbz3 : W.heap.size ≤ w3.heap.size := hb3.size
  replace hb4 := aft2 hb4 hb3; clear hb3
  go_wp2_with fail
  refine (eqIntSS_same (HUO4 trivial).n (HVN4 trivial)).mono ?_; rintro e w5 ⟨rfl, hb5⟩
  have hz5 := hb5.size
  have HVN5 : True → RowsN w2.heap.size m w5 v vs f := fun _ => (HVN4 trivial).keep hb5
  have HUO5 : True → RowsO w3.heap.size m w5 u us f := fun _ => (HUO4 trivial).keep hb5
  clear HVN4 HUO4
  replace hb5 := aft2 hb5 hb4; clear hb4
  go_wp2_with fail
  refine (markIntSS_any 1 (HUO5 trivial) (by omega) (by omega) (by omega)).mono ?_; rintro e w6 ⟨rfl, hsafe, hz6, hum⟩
  rw [HT.out]
  have HUM : True → RowsO w3.heap.size m w6 u us (mksF 1 f) := fun _ => hum
  clear hum HUO5
  have HVN6 : True → RowsN w2.heap.size m w6 v vs f := fun _ => (HVN5 trivial).step (hsafe w2.heap.size hz3 (by omega)) (Nat.le_refl _)
  clear HVN5
  have hb6 : Below W.heap.size W w6 := hb5.trans (hsafe W.heap.size hbz3 (by omega))
  clear hb5 hsafe
  go_wp2_with fail
  refine (heldIntSS_any 1 (HUM trivial).n (by omega) (by omega) (by omega)).mono ?_; rintro e w7 ⟨rfl, hb7⟩
  rw [HT.out]
  have hz7 := hb7.size
  have HVN7 : True → RowsN w2.heap.size m w7 v vs f := fun _ => (HVN6 trivial).keep hb7
  have HUM7 : True → RowsO w3.heap.size m w7 u us (mksF 1 f) := fun _ => (HUM trivial).keep hb7
  clear HVN6 HUM
  replace hb7 := aft2 hb7 hb6; clear hb6
  have hd0 : w7.cell? ⟨B0, 0, none⟩ = some (.int .i64 a) := (hb7.cell (p := ⟨B0, 0, none⟩) hsz).trans hcA0
  have hd1 : w7.cell? ⟨B0, 1, none⟩ = some (.int .i64 b) := (hb7.cell (p := ⟨B0, 1, none⟩) hsz).trans hcA1
  go_wp2_with fail
  clear hd0 hd1
  refine (toCurve_any _ _ _).mono ?_; rintro e w8 ⟨rfl, hb8⟩
  have HVN8 : True → RowsN w2.heap.size m w8 v vs f := fun _ => (HVN7 trivial).keep hb8
  have HUM8 : True → RowsO w3.heap.size m w8 u us (mksF 1 f) := fun _ => (HUM7 trivial).keep hb8
  clear HVN7 HUM7
  replace hb8 := aft2 hb8 hb7; clear hb7
  go_wp2_with fail
  refine (him _).mono ?_; rintro e w9 ⟨u2, rfl, hb9, hu2⟩
  obtain ⟨us2, huo2⟩ := hcv.out _ _ _ hu2
  have HU2 : True → RowsO w8.heap.size m w9 u2 us2 f := fun _ => huo2
  clear hu2 huo2
  have HVN9 : True → RowsN w2.heap.size m w9 v vs f := fun _ => (HVN8 trivial).keep hb9
  have HUM9 : True → RowsO w3.heap.size m w9 u us (mksF 1 f) := fun _ => (HUM8 trivial).keep hb9
  clear HVN8 HUM8
  replace hb9 := aft2 hb9 hb8; clear hb8
  go_wp2_with fail
  refine (eqIntSS_same (HU2 trivial).n (HVN9 trivial)).mono ?_; rintro e w10 ⟨rfl, hb10⟩
  have HUM10 : True → RowsO w3.heap.size m w10 u us (mksF 1 f) := fun _ => (HUM9 trivial).keep hb10
  clear HUM9 HVN9 HU2
  replace hb10 := aft2 hb10 hb9; clear hb9
  go_wp2_with fail
  refine (heldIntSS_any 1 (HUM10 trivial).n (by omega) (by omega) (by omega)).mono ?_; rintro e w11 ⟨rfl, hb11⟩
  rw [HT.out]
  replace hb11 := aft2 hb11 hb10; clear hb10
  go_wp2_with fail
  go_ret
  exact ret_mk (bel_trans hb11 hbelW)
end Go.Proofs.Ytieaihlckmfnmaa.fnExactPointsModulo
