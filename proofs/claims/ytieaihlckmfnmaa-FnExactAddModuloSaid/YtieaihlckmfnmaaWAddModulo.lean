/- The walk of FnExactAddModulo. No conditions. -/
import Derived.Test.YtieaihlckmfnmaaAl
import Derived.Test.YtieaihlckmfnmaaOe
namespace Go.Proofs.Ytieaihlckmfnmaa.fnExactAddModulo
open Go.RowKit
set_option maxHeartbeats 2000000 in
theorem walk (a b p : Int) (ad_s : Option Addr) (len_s cap_s : Nat) (zs_s : List Int) (ad_t : Option Addr) (len_t cap_t : Nat) (zs_t : List Int) (w : World) (_ha : I64 a) (_hb : I64 b) (_hp : I64 p) (hw_s : IsRow .i64 w ad_s len_s cap_s zs_s) (hw_t : IsRow .i64 w ad_t len_t cap_t zs_t) :
    Calls Try.prog 8 #[.agg #[.int .i64 a, .int .i64 b], .int .i64 p, .slice ad_s len_s cap_s, .slice ad_t len_t cap_t] w (Ret (.bool true) w) := by
  have hlen_s := hw_s.len
  have hlm_s := hw_s.le
  unfold maxLen at hlm_s
  obtain ⟨hrd_s, hi_s⟩ := Rd.of_row hw_s
  by_cases hbig_s : (1048576 : Int) < (len_s : Int)
  · go_enter Try.func8, Try.ntmps8
    go_wp2_with fail
    go_ret
    exact ret_mk (by repeat (first | exact Below.refl _ _ | (with_reducible assumption) | refine bel_alloc ?_ _ | refine bel_drew ?_ | refine bel_drewN ?_ _ | refine Below.setCell ?_ (by dsimp only; omega) _ | refine bel_trans (by assumption) ?_))
  have hsmall_s : (zs_s.take len_s).length ≤ 1048576 := by omega
  clear hlen_s
  generalize zs_s.take len_s = q_s at *
  have hlen_t := hw_t.len
  have hlm_t := hw_t.le
  unfold maxLen at hlm_t
  obtain ⟨hrd_t, hi_t⟩ := Rd.of_row hw_t
  by_cases hbig_t : (1048576 : Int) < (len_t : Int)
  · go_enter Try.func8, Try.ntmps8
    go_wp2_with fail
    go_ret
    exact ret_mk (by repeat (first | exact Below.refl _ _ | (with_reducible assumption) | refine bel_alloc ?_ _ | refine bel_drew ?_ | refine bel_drewN ?_ _ | refine Below.setCell ?_ (by dsimp only; omega) _ | refine bel_trans (by assumption) ?_))
  have hsmall_t : (zs_t.take len_t).length ≤ 1048576 := by omega
  clear hlen_t
  generalize zs_t.take len_t = q_t at *
  obtain ⟨xs, hxs⟩ : ∃ xs, (if ask2B a b p q_s q_t = true then addI a p q_s q_t else []) = xs := ⟨_, rfl⟩
  obtain ⟨ok, hok⟩ : ∃ ok, (ask2B a b p q_s q_t) = ok := ⟨_, rfl⟩
  have hlen : xs.length ≤ 1048576 := by rw [← hxs]; exact ask2_len a b p q_s q_t
  have h64 : I64 (1 + (xs.length : Int)) := by unfold I64; omega
  have h64_s : I64 (1 + (q_s.length : Int)) := by unfold I64; omega
  have h64_t : I64 (1 + (q_t.length : Int)) := by unfold I64; omega
  have hsp := fun z v (hv : Rd z v q_s) (hn : NilZ v) v' (hv' : Rd z v' q_t) (hn' : NilZ v') => (sAddModulo_any a b p v v' q_s q_t z hv hv' hn hn').mono fun _ _ h => h.e
  have him := fun z v (hv : Rd z v q_s) (hn : NilZ v) v' (hv' : Rd z v' q_t) (hn' : NilZ v') => (iAddModulo_any a b p v v' q_s q_t z hv hv' hn hn').mono fun _ _ h => h.e
  rw [hxs, hok] at hsp him
  clear hxs hok
  go_enter Try.func8, Try.ntmps8
  go_wp2_with fail
  generalize hW : w.alloc (.cells #[.int .i64 a, .int .i64 b] 23) = W
  obtain ⟨B0, hB0⟩ : ∃ B0, w.heap.size = B0 := ⟨_, rfl⟩
  obtain ⟨hbelW, hsz, hcA0, hcA1⟩ : Below w.heap.size w W ∧ B0 < W.heap.size ∧ W.cell? ⟨B0, 0, none⟩ = some (.int .i64 a) ∧ W.cell? ⟨B0, 1, none⟩ = some (.int .i64 b) := by
    subst hW; subst hB0
    exact ⟨(by repeat (first | exact Below.refl _ _ | (with_reducible assumption) | refine bel_alloc ?_ _ | refine bel_drew ?_ | refine bel_drewN ?_ _ | refine Below.setCell ?_ (by dsimp only; omega) _ | refine bel_trans (by assumption) ?_)), by simp, by simp [go_sem], by simp [go_sem]⟩
  clear hW
  (try rw [hB0])
  replace hrd_s := hrd_s.keep hbelW
  replace hrd_t := hrd_t.keep hbelW
  refine (toCurve_any _ _ _).mono ?_; rintro e w1 ⟨rfl, hb1⟩
  have hz1 := hb1.size
  go_wp2_with fail
  refine (toIntS_any _ _ _ (hrd_s.keep hb1) hsmall_s).mono ?_; rintro e w2 ⟨t_s, rfl, hb2, ht_s⟩
  have hz2 := hb2.size
  replace hb2 := aft2 hb2 hb1
  have hn_s := ht_s.nilz
  replace ht_s := ht_s.rd
  go_wp2_with fail
  refine (toIntS_any _ _ _ (hrd_t.keep hb2) hsmall_t).mono ?_; rintro e w3 ⟨t_t, rfl, hb3, ht_t⟩
  have hz3 := hb3.size
  replace ht_s := ht_s.keep hb3
  replace hb3 := aft2 hb3 hb2
  have hn_t := ht_t.nilz
  replace ht_t := ht_t.rd
  go_wp2_with fail
  refine (hsp _ t_s ht_s hn_s t_t ht_t hn_t).mono ?_; rintro e w4 ⟨v, rfl, hb4, hv⟩
  have hz4 := hb4.size
  replace ht_s := ht_s.keep hb4
  replace ht_t := ht_t.keep hb4
  replace hb4 := aft2 hb4 hb3
  clear ht_s ht_t
  replace hv := hv.rd.n
  go_wp2_with fail
  refine (toIntS_any _ _ _ (hrd_s.keep hb4) hsmall_s).mono ?_; rintro e w5 ⟨x_s, rfl, hb5, hx_s⟩
  have hz5 := hb5.size
  replace hv := hv.keep hb5
  replace hb5 := aft2 hb5 hb4
  have hnx_s := hx_s.nilz
  have hk_s : Blk x_s w5.heap.size := hx_s.blk
  replace hx_s : OwnE w5 w4.heap.size x_s q_s := .inl hx_s
  go_wp2_with fail
  refine (toIntS_any _ _ _ (hrd_t.keep hb5) hsmall_t).mono ?_; rintro e w6 ⟨x_t, rfl, hb6, hx_t⟩
  have hz6 := hb6.size
  replace hv := hv.keep hb6
  replace hx_s := hx_s.keep hb6
  replace hb6 := aft2 hb6 hb5
  have hnx_t := hx_t.nilz
  have hk_t : Blk x_t w6.heap.size := hx_t.blk
  replace hx_t : OwnE w6 w5.heap.size x_t q_t := .inl hx_t
  have hd0 : w6.cell? ⟨B0, 0, none⟩ = some (.int .i64 a) := (hb6.cell (p := ⟨B0, 0, none⟩) hsz).trans hcA0
  have hd1 : w6.cell? ⟨B0, 1, none⟩ = some (.int .i64 b) := (hb6.cell (p := ⟨B0, 1, none⟩) hsz).trans hcA1
  go_wp2_with fail
  clear hd0 hd1
  refine (toCurve_any _ _ _).mono ?_; rintro e w7 ⟨rfl, hb7⟩
  have hz7 := hb7.size
  replace hv := hv.keep hb7
  replace hx_s := hx_s.keep hb7
  replace hx_t := hx_t.keep hb7
  replace hb7 := aft2 hb7 hb6
  go_wp2_with fail
  refine (him _ x_s hx_s.rd hnx_s x_t hx_t.rd hnx_t).mono ?_; rintro e w8 ⟨u, rfl, hb8, hu⟩
  have hz8 := hb8.size
  replace hv := hv.keep hb8
  replace hx_s := hx_s.keep hb8
  replace hx_t := hx_t.keep hb8
  replace hb8 := aft2 hb8 hb7
  go_wp2_with fail
  refine (eqIntS_same _ _ _ _ hu.rd hv.rd).mono ?_; rintro e w9 ⟨rfl, hb9⟩
  have hz9 := hb9.size
  replace hv := hv.keep hb9
  replace hx_s := hx_s.keep hb9
  replace hx_t := hx_t.keep hb9
  replace hu := hu.keep hb9
  replace hb9 := aft2 hb9 hb8
  go_wp2_with fail
  refine (toIntS_any _ _ _ (hrd_s.keep hb9) hsmall_s).mono ?_; rintro e w10 ⟨y_s, rfl, hb10, hy_s⟩
  have hz10 := hb10.size
  replace hv := hv.keep hb10
  replace hx_s := hx_s.keep hb10
  replace hx_t := hx_t.keep hb10
  replace hu := hu.keep hb10
  replace hb10 := aft2 hb10 hb9
  go_wp2_with fail
  refine (eqIntS_same _ _ _ _ hx_s.rd hy_s.rd).mono ?_; rintro e w11 ⟨rfl, hb11⟩
  have hz11 := hb11.size
  replace hv := hv.keep hb11
  replace hx_s := hx_s.keep hb11
  replace hx_t := hx_t.keep hb11
  replace hu := hu.keep hb11
  replace hb11 := aft2 hb11 hb10
  clear hy_s
  go_wp2_with fail
  refine (toIntS_any _ _ _ (hrd_t.keep hb11) hsmall_t).mono ?_; rintro e w12 ⟨y_t, rfl, hb12, hy_t⟩
  have hz12 := hb12.size
  replace hv := hv.keep hb12
  replace hx_s := hx_s.keep hb12
  replace hx_t := hx_t.keep hb12
  replace hu := hu.keep hb12
  replace hb12 := aft2 hb12 hb11
  go_wp2_with fail
  refine (eqIntS_same _ _ _ _ hx_t.rd hy_t.rd).mono ?_; rintro e w13 ⟨rfl, hb13⟩
  have hz13 := hb13.size
  replace hv := hv.keep hb13
  replace hx_s := hx_s.keep hb13
  replace hx_t := hx_t.keep hb13
  replace hu := hu.keep hb13
  replace hb13 := aft2 hb13 hb12
  clear hy_t
  go_wp2_with fail
  have hvz := hv.1
  refine (markE_any _ _ (1) _ _ hx_s (by omega) (by omega) (by omega)).mono ?_; rintro e w14 ⟨rfl, g14, hg14, -, hgo14, hgB14⟩
  have hz14 := hg14.size
  have hgl14 : ∀ j, g14 = some j → j < w5.heap.size := fun j hj => hgo14.elim (fun e => by rw [e] at hj; cases hj) (fun e => hk_s j (e ▸ hj))
  replace hx_t := hx_t.other hg14 (fun j hj => by have := hgl14 j hj; omega)
  replace hu := hu.other hg14 (fun j hj => by have := hgl14 j hj; omega)
  replace hv := hv.step (grown_below hg14 hgB14 (show w4.heap.size ≤ _ by omega) (by omega)) (Nat.le_refl _)
  have hb14 : Below W.heap.size W w14 := hb13.trans (grown_below hg14 hgB14 (show W.heap.size ≤ _ by omega) (by omega))
  clear hx_s hvz hgo14 hgB14 hgl14
  go_wp2_with fail
  have hvz := hv.1
  refine (markE_any _ _ (1 + (q_s.length : Int)) _ _ hx_t (by omega) (by omega) (by omega)).mono ?_; rintro e w15 ⟨rfl, g15, hg15, -, hgo15, hgB15⟩
  have hz15 := hg15.size
  have hgl15 : ∀ j, g15 = some j → j < w6.heap.size := fun j hj => hgo15.elim (fun e => by rw [e] at hj; cases hj) (fun e => hk_t j (e ▸ hj))
  replace hu := hu.other hg15 (fun j hj => by have := hgl15 j hj; omega)
  replace hv := hv.step (grown_below hg15 hgB15 (show w4.heap.size ≤ _ by omega) (by omega)) (Nat.le_refl _)
  have hb15 : Below W.heap.size W w15 := hb14.trans (grown_below hg15 hgB15 (show W.heap.size ≤ _ by omega) (by omega))
  clear hx_t hvz hgo15 hgB15 hgl15
  go_wp2_with fail
  refine (eqIntS_same _ _ _ _ hu.rd hv.rd).mono ?_; rintro e w16 ⟨rfl, hb16⟩
  have hz16 := hb16.size
  replace hv := hv.keep hb16
  replace hu := hu.keep hb16
  replace hb16 := aft2 hb16 hb15
  go_wp2_with fail
  have hvz := hv.1
  refine (markE_any _ _ 1 _ _ hu (by omega) (by omega) (by omega)).mono ?_; rintro e w17 ⟨rfl, g17, hg17, hm, -, hgB17⟩
  have hz17 := hg17.size
  replace hv := hv.step (grown_below hg17 hgB17 (show w4.heap.size ≤ _ by omega) (by omega)) (Nat.le_refl _)
  have hb17 : Below W.heap.size W w17 := hb16.trans (grown_below hg17 hgB17 (show W.heap.size ≤ _ by omega) (by omega))
  clear hu hvz hgB17
  replace hm := hm.rd.n
  go_wp2_with fail
  refine (heldIntS_any _ _ 1 _ hm.rd (by omega) (by omega) (by omega)).mono ?_; rintro e w18 ⟨rfl, hb18⟩
  have hz18 := hb18.size
  replace hv := hv.keep hb18
  replace hm := hm.keep hb18
  replace hb18 := aft2 hb18 hb17
  have hd0 : w18.cell? ⟨B0, 0, none⟩ = some (.int .i64 a) := (hb18.cell (p := ⟨B0, 0, none⟩) hsz).trans hcA0
  have hd1 : w18.cell? ⟨B0, 1, none⟩ = some (.int .i64 b) := (hb18.cell (p := ⟨B0, 1, none⟩) hsz).trans hcA1
  go_wp2_with fail
  clear hd0 hd1
  refine (toCurve_any _ _ _).mono ?_; rintro e w19 ⟨rfl, hb19⟩
  have hz19 := hb19.size
  replace hv := hv.keep hb19
  replace hm := hm.keep hb19
  replace hb19 := aft2 hb19 hb18
  go_wp2_with fail
  refine (toIntS_any _ _ _ (hrd_s.keep hb19) hsmall_s).mono ?_; rintro e w20 ⟨z_s, rfl, hb20, hz_s⟩
  have hz20 := hb20.size
  replace hv := hv.keep hb20
  replace hm := hm.keep hb20
  replace hb20 := aft2 hb20 hb19
  have hnz_s := hz_s.nilz
  replace hz_s := hz_s.rd
  go_wp2_with fail
  refine (toIntS_any _ _ _ (hrd_t.keep hb20) hsmall_t).mono ?_; rintro e w21 ⟨z_t, rfl, hb21, hz_t⟩
  have hz21 := hb21.size
  replace hv := hv.keep hb21
  replace hm := hm.keep hb21
  replace hz_s := hz_s.keep hb21
  replace hb21 := aft2 hb21 hb20
  have hnz_t := hz_t.nilz
  replace hz_t := hz_t.rd
  go_wp2_with fail
  refine (him _ z_s hz_s hnz_s z_t hz_t hnz_t).mono ?_; rintro e w22 ⟨u2, rfl, hb22, hu2⟩
  have hz22 := hb22.size
  replace hv := hv.keep hb22
  replace hm := hm.keep hb22
  replace hz_s := hz_s.keep hb22
  replace hz_t := hz_t.keep hb22
  replace hb22 := aft2 hb22 hb21
  go_wp2_with fail
  refine (eqIntS_same _ _ _ _ hu2.rd hv.rd).mono ?_; rintro e w23 ⟨rfl, hb23⟩
  have hz23 := hb23.size
  replace hv := hv.keep hb23
  replace hm := hm.keep hb23
  replace hb23 := aft2 hb23 hb22
  go_wp2_with fail
  refine (heldIntS_any _ _ 1 _ hm.rd (by omega) (by omega) (by omega)).mono ?_; rintro e w24 ⟨rfl, hb24⟩
  have hz24 := hb24.size
  replace hv := hv.keep hb24
  replace hm := hm.keep hb24
  replace hb24 := aft2 hb24 hb23
  go_wp2_with fail
  go_ret
  exact ret_mk (bel_trans hb24 hbelW)
end Go.Proofs.Ytieaihlckmfnmaa.fnExactAddModulo
