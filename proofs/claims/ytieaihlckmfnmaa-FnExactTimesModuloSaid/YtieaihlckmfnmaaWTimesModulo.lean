/- The walk of FnExactTimesModulo. No conditions. -/
import Derived.Test.YtieaihlckmfnmaaTj
import Derived.Test.YtieaihlckmfnmaaOe
namespace Go.Proofs.Ytieaihlckmfnmaa.fnExactTimesModulo
open Go.RowKit
set_option maxHeartbeats 2000000 in
theorem walk (a b p n : Int) (ad_s : Option Addr) (len_s cap_s : Nat) (zs_s : List Int) (w : World) (_ha : I64 a) (_hb : I64 b) (_hp : I64 p) (_hn : I64 n) (hw_s : IsRow .i64 w ad_s len_s cap_s zs_s) :
    Calls Try.prog 11 #[.agg #[.int .i64 a, .int .i64 b], .int .i64 p, .int .i64 n, .slice ad_s len_s cap_s] w (Ret (.bool true) w) := by
  have hlen_s := hw_s.len
  have hlm_s := hw_s.le
  unfold maxLen at hlm_s
  obtain ⟨hrd_s, hi_s⟩ := Rd.of_row hw_s
  by_cases hbig_s : (1048576 : Int) < (len_s : Int)
  · go_enter Try.func11, Try.ntmps11
    go_wp2_with fail
    go_ret
    exact ret_mk (by repeat (first | exact Below.refl _ _ | (with_reducible assumption) | refine bel_alloc ?_ _ | refine bel_drew ?_ | refine bel_drewN ?_ _ | refine Below.setCell ?_ (by dsimp only; omega) _ | refine bel_trans (by assumption) ?_))
  have hsmall_s : (zs_s.take len_s).length ≤ 1048576 := by omega
  clear hlen_s
  generalize zs_s.take len_s = q_s at *
  obtain ⟨xs, hxs⟩ : ∃ xs, (if askN a b p n q_s = true then timesL a p n q_s else []) = xs := ⟨_, rfl⟩
  obtain ⟨ok, hok⟩ : ∃ ok, (askN a b p n q_s) = ok := ⟨_, rfl⟩
  have hlen : xs.length ≤ 1048576 := by rw [← hxs]; exact askN_len a b p n q_s
  have h64 : I64 (1 + (xs.length : Int)) := by unfold I64; omega
  have h64_s : I64 (1 + (q_s.length : Int)) := by unfold I64; omega
  have hsp := fun z v (hv : Rd z v q_s) (hn : NilZ v) => (sTimesModulo_any a b p n v q_s z hv hn).mono fun _ _ h => h.e
  have him := fun z v (hv : Rd z v q_s) (hn : NilZ v) => (iTimesModulo_any a b p n v q_s z hv hn).mono fun _ _ h => h.e
  rw [hxs, hok] at hsp him
  clear hxs hok
  go_enter Try.func11, Try.ntmps11
  go_wp2_with fail
  generalize hW : w.alloc (.cells #[.int .i64 a, .int .i64 b] 23) = W
  obtain ⟨B0, hB0⟩ : ∃ B0, w.heap.size = B0 := ⟨_, rfl⟩
  obtain ⟨hbelW, hsz, hcA0, hcA1⟩ : Below w.heap.size w W ∧ B0 < W.heap.size ∧ W.cell? ⟨B0, 0, none⟩ = some (.int .i64 a) ∧ W.cell? ⟨B0, 1, none⟩ = some (.int .i64 b) := by
    subst hW; subst hB0
    exact ⟨(by repeat (first | exact Below.refl _ _ | (with_reducible assumption) | refine bel_alloc ?_ _ | refine bel_drew ?_ | refine bel_drewN ?_ _ | refine Below.setCell ?_ (by dsimp only; omega) _ | refine bel_trans (by assumption) ?_)), by simp, by simp [go_sem], by simp [go_sem]⟩
  clear hW
  (try rw [hB0])
  replace hrd_s := hrd_s.keep hbelW
  refine (toCurve_any _ _ _).mono ?_; rintro e w1 ⟨rfl, hb1⟩
  have hz1 := hb1.size
  go_wp2_with fail
  refine (toIntS_any _ _ _ (hrd_s.keep hb1) hsmall_s).mono ?_; rintro e w2 ⟨t_s, rfl, hb2, ht_s⟩
  have hz2 := hb2.size
  replace hb2 := aft2 hb2 hb1
  have hn_s := ht_s.nilz
  replace ht_s := ht_s.rd
  go_wp2_with fail
  refine (hsp _ t_s ht_s hn_s).mono ?_; rintro e w3 ⟨v, rfl, hb3, hv⟩
  have hz3 := hb3.size
  replace ht_s := ht_s.keep hb3
  replace hb3 := aft2 hb3 hb2
  clear ht_s
  replace hv := hv.rd.n
  go_wp2_with fail
  refine (toIntS_any _ _ _ (hrd_s.keep hb3) hsmall_s).mono ?_; rintro e w4 ⟨x_s, rfl, hb4, hx_s⟩
  have hz4 := hb4.size
  replace hv := hv.keep hb4
  replace hb4 := aft2 hb4 hb3
  have hnx_s := hx_s.nilz
  have hk_s : Blk x_s w4.heap.size := hx_s.blk
  replace hx_s : OwnE w4 w3.heap.size x_s q_s := .inl hx_s
  have hd0 : w4.cell? ⟨B0, 0, none⟩ = some (.int .i64 a) := (hb4.cell (p := ⟨B0, 0, none⟩) hsz).trans hcA0
  have hd1 : w4.cell? ⟨B0, 1, none⟩ = some (.int .i64 b) := (hb4.cell (p := ⟨B0, 1, none⟩) hsz).trans hcA1
  go_wp2_with fail
  clear hd0 hd1
  refine (toCurve_any _ _ _).mono ?_; rintro e w5 ⟨rfl, hb5⟩
  have hz5 := hb5.size
  replace hv := hv.keep hb5
  replace hx_s := hx_s.keep hb5
  replace hb5 := aft2 hb5 hb4
  go_wp2_with fail
  refine (him _ x_s hx_s.rd hnx_s).mono ?_; rintro e w6 ⟨u, rfl, hb6, hu⟩
  have hz6 := hb6.size
  replace hv := hv.keep hb6
  replace hx_s := hx_s.keep hb6
  replace hb6 := aft2 hb6 hb5
  go_wp2_with fail
  refine (eqIntS_same _ _ _ _ hu.rd hv.rd).mono ?_; rintro e w7 ⟨rfl, hb7⟩
  have hz7 := hb7.size
  replace hv := hv.keep hb7
  replace hx_s := hx_s.keep hb7
  replace hu := hu.keep hb7
  replace hb7 := aft2 hb7 hb6
  go_wp2_with fail
  refine (toIntS_any _ _ _ (hrd_s.keep hb7) hsmall_s).mono ?_; rintro e w8 ⟨y_s, rfl, hb8, hy_s⟩
  have hz8 := hb8.size
  replace hv := hv.keep hb8
  replace hx_s := hx_s.keep hb8
  replace hu := hu.keep hb8
  replace hb8 := aft2 hb8 hb7
  go_wp2_with fail
  refine (eqIntS_same _ _ _ _ hx_s.rd hy_s.rd).mono ?_; rintro e w9 ⟨rfl, hb9⟩
  have hz9 := hb9.size
  replace hv := hv.keep hb9
  replace hx_s := hx_s.keep hb9
  replace hu := hu.keep hb9
  replace hb9 := aft2 hb9 hb8
  clear hy_s
  go_wp2_with fail
  have hvz := hv.1
  refine (markE_any _ _ (1) _ _ hx_s (by omega) (by omega) (by omega)).mono ?_; rintro e w10 ⟨rfl, g10, hg10, -, hgo10, hgB10⟩
  have hz10 := hg10.size
  have hgl10 : ∀ j, g10 = some j → j < w4.heap.size := fun j hj => hgo10.elim (fun e => by rw [e] at hj; cases hj) (fun e => hk_s j (e ▸ hj))
  replace hu := hu.other hg10 (fun j hj => by have := hgl10 j hj; omega)
  replace hv := hv.step (grown_below hg10 hgB10 (show w3.heap.size ≤ _ by omega) (by omega)) (Nat.le_refl _)
  have hb10 : Below W.heap.size W w10 := hb9.trans (grown_below hg10 hgB10 (show W.heap.size ≤ _ by omega) (by omega))
  clear hx_s hvz hgo10 hgB10 hgl10
  go_wp2_with fail
  refine (eqIntS_same _ _ _ _ hu.rd hv.rd).mono ?_; rintro e w11 ⟨rfl, hb11⟩
  have hz11 := hb11.size
  replace hv := hv.keep hb11
  replace hu := hu.keep hb11
  replace hb11 := aft2 hb11 hb10
  go_wp2_with fail
  have hvz := hv.1
  refine (markE_any _ _ 1 _ _ hu (by omega) (by omega) (by omega)).mono ?_; rintro e w12 ⟨rfl, g12, hg12, hm, -, hgB12⟩
  have hz12 := hg12.size
  replace hv := hv.step (grown_below hg12 hgB12 (show w3.heap.size ≤ _ by omega) (by omega)) (Nat.le_refl _)
  have hb12 : Below W.heap.size W w12 := hb11.trans (grown_below hg12 hgB12 (show W.heap.size ≤ _ by omega) (by omega))
  clear hu hvz hgB12
  replace hm := hm.rd.n
  go_wp2_with fail
  refine (heldIntS_any _ _ 1 _ hm.rd (by omega) (by omega) (by omega)).mono ?_; rintro e w13 ⟨rfl, hb13⟩
  have hz13 := hb13.size
  replace hv := hv.keep hb13
  replace hm := hm.keep hb13
  replace hb13 := aft2 hb13 hb12
  have hd0 : w13.cell? ⟨B0, 0, none⟩ = some (.int .i64 a) := (hb13.cell (p := ⟨B0, 0, none⟩) hsz).trans hcA0
  have hd1 : w13.cell? ⟨B0, 1, none⟩ = some (.int .i64 b) := (hb13.cell (p := ⟨B0, 1, none⟩) hsz).trans hcA1
  go_wp2_with fail
  clear hd0 hd1
  refine (toCurve_any _ _ _).mono ?_; rintro e w14 ⟨rfl, hb14⟩
  have hz14 := hb14.size
  replace hv := hv.keep hb14
  replace hm := hm.keep hb14
  replace hb14 := aft2 hb14 hb13
  go_wp2_with fail
  refine (toIntS_any _ _ _ (hrd_s.keep hb14) hsmall_s).mono ?_; rintro e w15 ⟨z_s, rfl, hb15, hz_s⟩
  have hz15 := hb15.size
  replace hv := hv.keep hb15
  replace hm := hm.keep hb15
  replace hb15 := aft2 hb15 hb14
  have hnz_s := hz_s.nilz
  replace hz_s := hz_s.rd
  go_wp2_with fail
  refine (him _ z_s hz_s hnz_s).mono ?_; rintro e w16 ⟨u2, rfl, hb16, hu2⟩
  have hz16 := hb16.size
  replace hv := hv.keep hb16
  replace hm := hm.keep hb16
  replace hz_s := hz_s.keep hb16
  replace hb16 := aft2 hb16 hb15
  go_wp2_with fail
  refine (eqIntS_same _ _ _ _ hu2.rd hv.rd).mono ?_; rintro e w17 ⟨rfl, hb17⟩
  have hz17 := hb17.size
  replace hv := hv.keep hb17
  replace hm := hm.keep hb17
  replace hb17 := aft2 hb17 hb16
  go_wp2_with fail
  refine (heldIntS_any _ _ 1 _ hm.rd (by omega) (by omega) (by omega)).mono ?_; rintro e w18 ⟨rfl, hb18⟩
  have hz18 := hb18.size
  replace hv := hv.keep hb18
  replace hm := hm.keep hb18
  replace hb18 := aft2 hb18 hb17
  go_wp2_with fail
  go_ret
  exact ret_mk (bel_trans hb18 hbelW)
end Go.Proofs.Ytieaihlckmfnmaa.fnExactTimesModulo
