/- The walk of FnFiniteSums. No conditions. -/
import Derived.Test.YtaaagjdakbnhnaaFf
namespace Go.Proofs.Ytaaagjdakbnhnaa.fnFiniteSums
open Go.RowKit
set_option maxHeartbeats 8000000 in
set_option maxRecDepth 4000 in
theorem walk (ad0 : Option Addr) (len0 cap0 : Nat) (z0 : List Int) (ad1 : Option Addr) (len1 cap1 : Nat) (z1 : List Int) (w : World) (h0 : IsRow .u8 w ad0 len0 cap0 z0) (h1 : IsRow .u8 w ad1 len1 cap1 z1) :
    Calls Try.prog 3 #[.slice ad0 len0 cap0, .slice ad1 len1 cap1] w (Ret (.bool true) w) := by
  have HRow := Lib.hid h0; have HMore := Lib.hid h1; clear h0 h1
  by_cases hbig : 1048576 < len0 + len1
  · go_enter Try.func3, Try.ntmps3
    go_wp2_with fail
    have hb := big_any ad0 ad1 len0 len1 cap0 cap1 w
    rw [decide_eq_true hbig] at hb
    refine hb.mono ?_
    rintro e w1 ⟨rfl, hb1⟩
    go_wp2_with fail
    go_ret
    exact ret_eq (by rfl) hb1
  have hl0 : len0 ≤ 1048576 := by omega
  have hl1 : len1 ≤ 1048576 := by omega
  go_enter Try.func3, Try.ntmps3
  go_wp2_with fail
  have hb := big_any ad0 ad1 len0 len1 cap0 cap1 w
  rw [decide_eq_false hbig] at hb
  refine hb.mono ?_
  rintro e w1 ⟨rfl, hb1⟩
  clear hb hbig
  go_wp2_with fail
  refine (drawAddModulo_any _ _ _ _ _ (isRow_keep HRow.out hb1) hl0).mono ?_
  rintro e w2 ⟨a, b, p, v, u, rfl, ⟨xs, rv, nv⟩, ⟨ys, ru, nu⟩, hb2⟩
  have HB2 := Lib.hid (bel_trans hb2 hb1)
  have R_v_2 := Lib.hid rv; have R_u_2 := Lib.hid ru; have N_v := Lib.hid nv; have N_u := Lib.hid nu
  clear hb1 hb2 rv ru nv nu HRow
  go_wp2_with fail
  have hb : Below w2.heap.size w2 (w2.alloc (.cells #[.int .i64 a, .int .i64 b] 25)) := below_allocD _ _
  have hx := Bx.new a b w2 25
  generalize w2.alloc (.cells #[.int .i64 a, .int .i64 b] 25) = w3 at hb hx ⊢
  generalize hn : w2.heap.size = n5 at hx ⊢
  have BX3 := Lib.hid hx; clear hx hn
  have HB3 := Lib.hid (bel_trans hb HB2.out)
  have R_v_3 := Lib.hid (R_v_2.out.keep hb); clear R_v_2
  have R_u_3 := Lib.hid (R_u_2.out.keep hb); clear R_u_2
  clear HB2
  clear hb
  cases hq : ask2B a b p xs ys
  · skip
    refine (iAdd_no R_v_3.out R_u_3.out N_v.out N_u.out hq).mono ?_
    rintro e w4 ⟨va, rfl, hb, ho⟩
    have HB4 := Lib.hid (bel_trans hb HB3.out)
    have BX4 := Lib.hid (BX3.out.keep hb); clear BX3
    have R_v_4 := Lib.hid (R_v_3.out.keep hb); clear R_v_3
    have R_u_4 := Lib.hid (R_u_3.out.keep hb); clear R_u_3
    clear HB3
    have R_va_4 := Lib.hid ho.rd; have N_va := Lib.hid ho.nilz; clear ho
    clear hb
    obtain ⟨_, c5, c6⟩ := BX4.out
    go_wp2_with fail
    clear c5 c6
    refine (sAdd_no R_v_4.out R_u_4.out N_v.out N_u.out hq).mono ?_
    rintro e w5 ⟨vs, rfl, hb, ho⟩
    have HB5 := Lib.hid (bel_trans hb HB4.out)
    have BX5 := Lib.hid (BX4.out.keep hb); clear BX4
    have R_v_5 := Lib.hid (R_v_4.out.keep hb); clear R_v_4
    have R_u_5 := Lib.hid (R_u_4.out.keep hb); clear R_u_4
    have R_va_5 := Lib.hid (R_va_4.out.keep hb); clear R_va_4
    clear HB4
    have R_vs_5 := Lib.hid ho.rd; have N_vs := Lib.hid ho.nilz; clear ho
    clear hb
    obtain ⟨_, c5, c6⟩ := BX5.out
    go_wp2_with fail
    clear c5 c6
    refine (same_ok R_va_5.out R_vs_5.out).mono ?_
    rintro e w6 ⟨rfl, hb⟩
    have HB6 := Lib.hid (bel_trans hb HB5.out)
    have BX6 := Lib.hid (BX5.out.keep hb); clear BX5
    have R_v_6 := Lib.hid (R_v_5.out.keep hb); clear R_v_5
    have R_u_6 := Lib.hid (R_u_5.out.keep hb); clear R_u_5
    have R_va_6 := Lib.hid (R_va_5.out.keep hb); clear R_va_5
    have R_vs_6 := Lib.hid (R_vs_5.out.keep hb); clear R_vs_5
    clear HB5
    clear hb
    obtain ⟨_, c5, c6⟩ := BX6.out
    go_wp2_with fail
    clear c5 c6
    clear R_v_6 N_v
    clear R_u_6 N_u
    clear R_va_6 N_va
    clear R_vs_6 N_vs
    clear BX6
    refine (drawTimesModulo_any _ _ _ _ _ (isRow_keep HMore.out HB6.out) hl1).mono ?_
    rintro e w7 ⟨a2, b2, p2, n, x, rfl, ni, ⟨zs, rx, nx⟩, hb⟩
    have HB7 := Lib.hid (bel_trans hb HB6.out); have R_x_7 := Lib.hid rx; have N_x := Lib.hid nx; clear hb rx nx HB6
    go_wp2_with fail
    have hb : Below w7.heap.size w7 (w7.alloc (.cells #[.int .i64 a2, .int .i64 b2] 25)) := below_allocD _ _
    have hx := Bx.new a2 b2 w7 25
    generalize w7.alloc (.cells #[.int .i64 a2, .int .i64 b2] 25) = w8 at hb hx ⊢
    generalize hn : w7.heap.size = n33 at hx ⊢
    have BX8 := Lib.hid hx; clear hx hn
    have HB8 := Lib.hid (bel_trans hb HB7.out)
    have R_x_8 := Lib.hid (R_x_7.out.keep hb); clear R_x_7
    clear HB7
    clear hb
    cases hq2 : askN a2 b2 p2 n zs
    · skip
      refine (iTim_no R_x_8.out N_x.out hq2).mono ?_
      rintro e w9 ⟨vm, rfl, hb, ho⟩
      have HB9 := Lib.hid (bel_trans hb HB8.out)
      have BX9 := Lib.hid (BX8.out.keep hb); clear BX8
      have R_x_9 := Lib.hid (R_x_8.out.keep hb); clear R_x_8
      clear HB8
      have R_vm_9 := Lib.hid ho.rd; have N_vm := Lib.hid ho.nilz; clear ho
      clear hb
      obtain ⟨_, c5, c6⟩ := BX9.out
      go_wp2_with fail
      clear c5 c6
      refine (sTim_no R_x_9.out N_x.out hq2).mono ?_
      rintro e w10 ⟨vn, rfl, hb, ho⟩
      have HB10 := Lib.hid (bel_trans hb HB9.out)
      have BX10 := Lib.hid (BX9.out.keep hb); clear BX9
      have R_x_10 := Lib.hid (R_x_9.out.keep hb); clear R_x_9
      have R_vm_10 := Lib.hid (R_vm_9.out.keep hb); clear R_vm_9
      clear HB9
      have R_vn_10 := Lib.hid ho.rd; have N_vn := Lib.hid ho.nilz; clear ho
      clear hb
      obtain ⟨_, c5, c6⟩ := BX10.out
      go_wp2_with fail
      clear c5 c6
      refine (same_ok R_vm_10.out R_vn_10.out).mono ?_
      rintro e w11 ⟨rfl, hb⟩
      have HB11 := Lib.hid (bel_trans hb HB10.out)
      have BX11 := Lib.hid (BX10.out.keep hb); clear BX10
      have R_x_11 := Lib.hid (R_x_10.out.keep hb); clear R_x_10
      have R_vm_11 := Lib.hid (R_vm_10.out.keep hb); clear R_vm_10
      have R_vn_11 := Lib.hid (R_vn_10.out.keep hb); clear R_vn_10
      clear HB10
      clear hb
      obtain ⟨_, c5, c6⟩ := BX11.out
      go_wp2_with fail
      clear c5 c6
      go_ret
      exact ret_eq (by rfl) HB11.out
    · skip
      have hq3 := hq2
      unfold askN at hq3
      rw [Bool.and_eq_true] at hq3
      obtain ⟨hx, hin⟩ := hq3
      unfold askB at hx
      rw [Bool.and_eq_true] at hx
      obtain ⟨hsm2, hoz⟩ := hx
      have hp2 := small_p5 hsm2
      have hdisc2 := small_disc hsm2
      have hnb := inB_true.1 hin
      have e4 := times_next (n := n) hp2 hdisc2 hoz
      have hoM := on_times (n := n) hp2 hoz
      have q8 : n < 1000000000 → askN a2 b2 p2 (n + 1) zs = true := fun h => by unfold askN askB; rw [hsm2, hoz, inB_true.2 (by omega)]; rfl
      have q9 : ask2B a2 b2 p2 (timesL a2 p2 n zs) zs = true := by unfold ask2B askB; rw [hsm2, hoM, hoz]; rfl
      clear hp2 hdisc2 hsm2 hoz hin hoM
      generalize hM : timesL a2 p2 n zs = M at *
      generalize hM2 : timesL a2 p2 (n + 1) zs = M2 at *
      refine (iTim_ok R_x_8.out N_x.out hq2 hM).mono ?_
      rintro e w9 ⟨vm, rfl, hb, ho⟩
      have HB9 := Lib.hid (bel_trans hb HB8.out)
      have BX9 := Lib.hid (BX8.out.keep hb); clear BX8
      have R_x_9 := Lib.hid (R_x_8.out.keep hb); clear R_x_8
      clear HB8
      have R_vm_9 := Lib.hid ho.rd; have N_vm := Lib.hid ho.nilz; clear ho
      clear hb
      obtain ⟨_, c5, c6⟩ := BX9.out
      go_wp2_with fail
      clear c5 c6
      refine (sTim_ok R_x_9.out N_x.out hq2 hM).mono ?_
      rintro e w10 ⟨vn, rfl, hb, ho⟩
      have HB10 := Lib.hid (bel_trans hb HB9.out)
      have BX10 := Lib.hid (BX9.out.keep hb); clear BX9
      have R_x_10 := Lib.hid (R_x_9.out.keep hb); clear R_x_9
      have R_vm_10 := Lib.hid (R_vm_9.out.keep hb); clear R_vm_9
      clear HB9
      have R_vn_10 := Lib.hid ho.rd; have N_vn := Lib.hid ho.nilz; clear ho
      clear hb
      obtain ⟨_, c5, c6⟩ := BX10.out
      go_wp2_with fail
      clear c5 c6
      by_cases hn : n < 1000000000
      · have hwr : IntKind.i64.wrap (n + 1) = n + 1 := wrapb (by omega) (by omega)
        replace q8 := q8 hn
        refine (same_ok R_vm_10.out R_vn_10.out).mono ?_
        rintro e w11 ⟨rfl, hb⟩
        have HB11 := Lib.hid (bel_trans hb HB10.out)
        have BX11 := Lib.hid (BX10.out.keep hb); clear BX10
        have R_x_11 := Lib.hid (R_x_10.out.keep hb); clear R_x_10
        have R_vm_11 := Lib.hid (R_vm_10.out.keep hb); clear R_vm_10
        have R_vn_11 := Lib.hid (R_vn_10.out.keep hb); clear R_vn_10
        clear HB10
        clear hb
        obtain ⟨_, c5, c6⟩ := BX11.out
        go_wp2_with fail
        clear c5 c6
        refine (iTim_ok R_x_11.out N_x.out q8 hM2).mono ?_
        rintro e w12 ⟨vp, rfl, hb, ho⟩
        have HB12 := Lib.hid (bel_trans hb HB11.out)
        have BX12 := Lib.hid (BX11.out.keep hb); clear BX11
        have R_x_12 := Lib.hid (R_x_11.out.keep hb); clear R_x_11
        have R_vm_12 := Lib.hid (R_vm_11.out.keep hb); clear R_vm_11
        have R_vn_12 := Lib.hid (R_vn_11.out.keep hb); clear R_vn_11
        clear HB11
        have R_vp_12 := Lib.hid ho.rd; have N_vp := Lib.hid ho.nilz; clear ho
        clear hb
        obtain ⟨_, c5, c6⟩ := BX12.out
        go_wp2_with fail
        clear c5 c6
        refine (sTim_ok R_x_12.out N_x.out q8 hM2).mono ?_
        rintro e w13 ⟨vq, rfl, hb, ho⟩
        have HB13 := Lib.hid (bel_trans hb HB12.out)
        have BX13 := Lib.hid (BX12.out.keep hb); clear BX12
        have R_x_13 := Lib.hid (R_x_12.out.keep hb); clear R_x_12
        have R_vm_13 := Lib.hid (R_vm_12.out.keep hb); clear R_vm_12
        have R_vn_13 := Lib.hid (R_vn_12.out.keep hb); clear R_vn_12
        have R_vp_13 := Lib.hid (R_vp_12.out.keep hb); clear R_vp_12
        clear HB12
        have R_vq_13 := Lib.hid ho.rd; have N_vq := Lib.hid ho.nilz; clear ho
        clear hb
        obtain ⟨_, c5, c6⟩ := BX13.out
        go_wp2_with fail
        clear c5 c6
        refine (iAdd_ok R_vm_13.out R_x_13.out N_vm.out N_x.out q9 e4).mono ?_
        rintro e w14 ⟨vr, rfl, hb, ho⟩
        have HB14 := Lib.hid (bel_trans hb HB13.out)
        have BX14 := Lib.hid (BX13.out.keep hb); clear BX13
        have R_x_14 := Lib.hid (R_x_13.out.keep hb); clear R_x_13
        have R_vm_14 := Lib.hid (R_vm_13.out.keep hb); clear R_vm_13
        have R_vn_14 := Lib.hid (R_vn_13.out.keep hb); clear R_vn_13
        have R_vp_14 := Lib.hid (R_vp_13.out.keep hb); clear R_vp_13
        have R_vq_14 := Lib.hid (R_vq_13.out.keep hb); clear R_vq_13
        clear HB13
        have R_vr_14 := Lib.hid ho.rd; have N_vr := Lib.hid ho.nilz; clear ho
        clear hb
        obtain ⟨_, c5, c6⟩ := BX14.out
        go_wp2_with fail
        clear c5 c6
        refine (same_ok R_vp_14.out R_vq_14.out).mono ?_
        rintro e w15 ⟨rfl, hb⟩
        have HB15 := Lib.hid (bel_trans hb HB14.out)
        have BX15 := Lib.hid (BX14.out.keep hb); clear BX14
        have R_x_15 := Lib.hid (R_x_14.out.keep hb); clear R_x_14
        have R_vm_15 := Lib.hid (R_vm_14.out.keep hb); clear R_vm_14
        have R_vn_15 := Lib.hid (R_vn_14.out.keep hb); clear R_vn_14
        have R_vp_15 := Lib.hid (R_vp_14.out.keep hb); clear R_vp_14
        have R_vq_15 := Lib.hid (R_vq_14.out.keep hb); clear R_vq_14
        have R_vr_15 := Lib.hid (R_vr_14.out.keep hb); clear R_vr_14
        clear HB14
        clear hb
        obtain ⟨_, c5, c6⟩ := BX15.out
        go_wp2_with fail
        clear c5 c6
        refine (same_ok R_vr_15.out R_vq_15.out).mono ?_
        rintro e w16 ⟨rfl, hb⟩
        have HB16 := Lib.hid (bel_trans hb HB15.out)
        have BX16 := Lib.hid (BX15.out.keep hb); clear BX15
        have R_x_16 := Lib.hid (R_x_15.out.keep hb); clear R_x_15
        have R_vm_16 := Lib.hid (R_vm_15.out.keep hb); clear R_vm_15
        have R_vn_16 := Lib.hid (R_vn_15.out.keep hb); clear R_vn_15
        have R_vp_16 := Lib.hid (R_vp_15.out.keep hb); clear R_vp_15
        have R_vq_16 := Lib.hid (R_vq_15.out.keep hb); clear R_vq_15
        have R_vr_16 := Lib.hid (R_vr_15.out.keep hb); clear R_vr_15
        clear HB15
        clear hb
        obtain ⟨_, c5, c6⟩ := BX16.out
        go_wp2_with fail
        clear c5 c6
        go_ret
        exact ret_eq (by rfl) HB16.out
      · skip
        refine (same_ok R_vm_10.out R_vn_10.out).mono ?_
        rintro e w11 ⟨rfl, hb⟩
        have HB11 := Lib.hid (bel_trans hb HB10.out)
        have BX11 := Lib.hid (BX10.out.keep hb); clear BX10
        have R_x_11 := Lib.hid (R_x_10.out.keep hb); clear R_x_10
        have R_vm_11 := Lib.hid (R_vm_10.out.keep hb); clear R_vm_10
        have R_vn_11 := Lib.hid (R_vn_10.out.keep hb); clear R_vn_10
        clear HB10
        clear hb
        obtain ⟨_, c5, c6⟩ := BX11.out
        go_wp2_with fail
        clear c5 c6
        go_ret
        exact ret_eq (by rfl) HB11.out
  · skip
    have hq' := hq
    unfold ask2B at hq'
    rw [Bool.and_eq_true] at hq'
    obtain ⟨hx, hoy⟩ := hq'
    have hx' := hx
    unfold askB at hx'
    rw [Bool.and_eq_true] at hx'
    obtain ⟨hsm, hox⟩ := hx'
    have hp := small_p5 hsm
    have hdisc := small_disc hsm
    have hoS := on_add hp hox hoy
    have hoD := on_add hp hox hox
    have hoN := on_neg2 hp hoy
    have mk : ∀ s t, onF a b p s = true → onF a b p t = true → ask2B a b p s t = true := fun s t hs ht => by unfold ask2B askB; rw [hsm, hs, ht]; rfl
    have mk1 : ∀ s, onF a b p s = true → askB a b p s = true := fun s hs => by unfold askB; rw [hsm, hs]; rfl
    have e1 : addI a p ys xs = addI a p xs ys := (add_comm_pt hp hox hoy).symm
    have e2 : addI a p (addI a p xs ys) (negL p ys) = xs := add_neg hp hdisc hoy hox
    have e3 : addI a p (addI a p xs xs) ys = addI a p (addI a p xs ys) xs := three_sum hp hdisc hox hoy
    have q1 := mk _ _ hoy hox; have q2 := mk1 _ hoy; have q3 := mk _ _ hoS hoN; have q4 := mk1 _ hoS; have q5 := mk _ _ hoS hox; have q6 := mk _ _ hox hox; have q7 := mk _ _ hoD hoy
    clear mk mk1 hp hdisc hsm hox hoy hx hoS hoD hoN
    generalize hS : addI a p xs ys = S at *
    generalize hO : negL p ys = O at *
    generalize hD : addI a p xs xs = D at *
    generalize hT : addI a p S xs = T at *
    refine (iAdd_ok R_v_3.out R_u_3.out N_v.out N_u.out hq hS).mono ?_
    rintro e w4 ⟨va, rfl, hb, ho⟩
    have HB4 := Lib.hid (bel_trans hb HB3.out)
    have BX4 := Lib.hid (BX3.out.keep hb); clear BX3
    have R_v_4 := Lib.hid (R_v_3.out.keep hb); clear R_v_3
    have R_u_4 := Lib.hid (R_u_3.out.keep hb); clear R_u_3
    clear HB3
    have R_va_4 := Lib.hid ho.rd; have N_va := Lib.hid ho.nilz; clear ho
    clear hb
    obtain ⟨_, c5, c6⟩ := BX4.out
    go_wp2_with fail
    clear c5 c6
    refine (sAdd_ok R_v_4.out R_u_4.out N_v.out N_u.out hq hS).mono ?_
    rintro e w5 ⟨vs, rfl, hb, ho⟩
    have HB5 := Lib.hid (bel_trans hb HB4.out)
    have BX5 := Lib.hid (BX4.out.keep hb); clear BX4
    have R_v_5 := Lib.hid (R_v_4.out.keep hb); clear R_v_4
    have R_u_5 := Lib.hid (R_u_4.out.keep hb); clear R_u_4
    have R_va_5 := Lib.hid (R_va_4.out.keep hb); clear R_va_4
    clear HB4
    have R_vs_5 := Lib.hid ho.rd; have N_vs := Lib.hid ho.nilz; clear ho
    clear hb
    obtain ⟨_, c5, c6⟩ := BX5.out
    go_wp2_with fail
    clear c5 c6
    refine (same_ok R_va_5.out R_vs_5.out).mono ?_
    rintro e w6 ⟨rfl, hb⟩
    have HB6 := Lib.hid (bel_trans hb HB5.out)
    have BX6 := Lib.hid (BX5.out.keep hb); clear BX5
    have R_v_6 := Lib.hid (R_v_5.out.keep hb); clear R_v_5
    have R_u_6 := Lib.hid (R_u_5.out.keep hb); clear R_u_5
    have R_va_6 := Lib.hid (R_va_5.out.keep hb); clear R_va_5
    have R_vs_6 := Lib.hid (R_vs_5.out.keep hb); clear R_vs_5
    clear HB5
    clear hb
    obtain ⟨_, c5, c6⟩ := BX6.out
    go_wp2_with fail
    clear c5 c6
    refine (iAdd_ok R_u_6.out R_v_6.out N_u.out N_v.out q1 e1).mono ?_
    rintro e w7 ⟨vb, rfl, hb, ho⟩
    have HB7 := Lib.hid (bel_trans hb HB6.out)
    have BX7 := Lib.hid (BX6.out.keep hb); clear BX6
    have R_v_7 := Lib.hid (R_v_6.out.keep hb); clear R_v_6
    have R_u_7 := Lib.hid (R_u_6.out.keep hb); clear R_u_6
    have R_va_7 := Lib.hid (R_va_6.out.keep hb); clear R_va_6
    have R_vs_7 := Lib.hid (R_vs_6.out.keep hb); clear R_vs_6
    clear HB6
    have R_vb_7 := Lib.hid ho.rd; have N_vb := Lib.hid ho.nilz; clear ho
    clear hb
    obtain ⟨_, c5, c6⟩ := BX7.out
    go_wp2_with fail
    clear c5 c6
    refine (iOpp_ok R_u_7.out  q2 hO).mono ?_
    rintro e w8 ⟨vo, rfl, hb, ho⟩
    have HB8 := Lib.hid (bel_trans hb HB7.out)
    have BX8 := Lib.hid (BX7.out.keep hb); clear BX7
    have R_v_8 := Lib.hid (R_v_7.out.keep hb); clear R_v_7
    have R_u_8 := Lib.hid (R_u_7.out.keep hb); clear R_u_7
    have R_va_8 := Lib.hid (R_va_7.out.keep hb); clear R_va_7
    have R_vs_8 := Lib.hid (R_vs_7.out.keep hb); clear R_vs_7
    have R_vb_8 := Lib.hid (R_vb_7.out.keep hb); clear R_vb_7
    clear HB7
    have R_vo_8 := Lib.hid ho.rd; have N_vo := Lib.hid ho.nilz; clear ho
    clear hb
    obtain ⟨_, c5, c6⟩ := BX8.out
    go_wp2_with fail
    clear c5 c6
    refine (sOpp_ok R_u_8.out  q2 hO).mono ?_
    rintro e w9 ⟨vo2, rfl, hb, ho⟩
    have HB9 := Lib.hid (bel_trans hb HB8.out)
    have BX9 := Lib.hid (BX8.out.keep hb); clear BX8
    have R_v_9 := Lib.hid (R_v_8.out.keep hb); clear R_v_8
    have R_u_9 := Lib.hid (R_u_8.out.keep hb); clear R_u_8
    have R_va_9 := Lib.hid (R_va_8.out.keep hb); clear R_va_8
    have R_vs_9 := Lib.hid (R_vs_8.out.keep hb); clear R_vs_8
    have R_vb_9 := Lib.hid (R_vb_8.out.keep hb); clear R_vb_8
    have R_vo_9 := Lib.hid (R_vo_8.out.keep hb); clear R_vo_8
    clear HB8
    have R_vo2_9 := Lib.hid ho.rd; have N_vo2 := Lib.hid ho.nilz; clear ho
    clear hb
    obtain ⟨_, c5, c6⟩ := BX9.out
    go_wp2_with fail
    clear c5 c6
    refine (iAdd_ok R_va_9.out R_vo_9.out N_va.out N_vo.out q3 e2).mono ?_
    rintro e w10 ⟨vk, rfl, hb, ho⟩
    have HB10 := Lib.hid (bel_trans hb HB9.out)
    have BX10 := Lib.hid (BX9.out.keep hb); clear BX9
    have R_v_10 := Lib.hid (R_v_9.out.keep hb); clear R_v_9
    have R_u_10 := Lib.hid (R_u_9.out.keep hb); clear R_u_9
    have R_va_10 := Lib.hid (R_va_9.out.keep hb); clear R_va_9
    have R_vs_10 := Lib.hid (R_vs_9.out.keep hb); clear R_vs_9
    have R_vb_10 := Lib.hid (R_vb_9.out.keep hb); clear R_vb_9
    have R_vo_10 := Lib.hid (R_vo_9.out.keep hb); clear R_vo_9
    have R_vo2_10 := Lib.hid (R_vo2_9.out.keep hb); clear R_vo2_9
    clear HB9
    have R_vk_10 := Lib.hid ho.rd; have N_vk := Lib.hid ho.nilz; clear ho
    clear hb
    obtain ⟨_, c5, c6⟩ := BX10.out
    go_wp2_with fail
    clear c5 c6
    refine (iOn_ok R_va_10.out  q4 ).mono ?_
    rintro e w11 ⟨rfl, hb⟩
    have HB11 := Lib.hid (bel_trans hb HB10.out)
    have BX11 := Lib.hid (BX10.out.keep hb); clear BX10
    have R_v_11 := Lib.hid (R_v_10.out.keep hb); clear R_v_10
    have R_u_11 := Lib.hid (R_u_10.out.keep hb); clear R_u_10
    have R_va_11 := Lib.hid (R_va_10.out.keep hb); clear R_va_10
    have R_vs_11 := Lib.hid (R_vs_10.out.keep hb); clear R_vs_10
    have R_vb_11 := Lib.hid (R_vb_10.out.keep hb); clear R_vb_10
    have R_vo_11 := Lib.hid (R_vo_10.out.keep hb); clear R_vo_10
    have R_vo2_11 := Lib.hid (R_vo2_10.out.keep hb); clear R_vo2_10
    have R_vk_11 := Lib.hid (R_vk_10.out.keep hb); clear R_vk_10
    clear HB10
    clear hb
    obtain ⟨_, c5, c6⟩ := BX11.out
    go_wp2_with fail
    clear c5 c6
    refine (iAdd_ok R_va_11.out R_v_11.out N_va.out N_v.out q5 hT).mono ?_
    rintro e w12 ⟨vt, rfl, hb, ho⟩
    have HB12 := Lib.hid (bel_trans hb HB11.out)
    have BX12 := Lib.hid (BX11.out.keep hb); clear BX11
    have R_v_12 := Lib.hid (R_v_11.out.keep hb); clear R_v_11
    have R_u_12 := Lib.hid (R_u_11.out.keep hb); clear R_u_11
    have R_va_12 := Lib.hid (R_va_11.out.keep hb); clear R_va_11
    have R_vs_12 := Lib.hid (R_vs_11.out.keep hb); clear R_vs_11
    have R_vb_12 := Lib.hid (R_vb_11.out.keep hb); clear R_vb_11
    have R_vo_12 := Lib.hid (R_vo_11.out.keep hb); clear R_vo_11
    have R_vo2_12 := Lib.hid (R_vo2_11.out.keep hb); clear R_vo2_11
    have R_vk_12 := Lib.hid (R_vk_11.out.keep hb); clear R_vk_11
    clear HB11
    have R_vt_12 := Lib.hid ho.rd; have N_vt := Lib.hid ho.nilz; clear ho
    clear hb
    obtain ⟨_, c5, c6⟩ := BX12.out
    go_wp2_with fail
    clear c5 c6
    refine (sAdd_ok R_vs_12.out R_v_12.out N_vs.out N_v.out q5 hT).mono ?_
    rintro e w13 ⟨vt2, rfl, hb, ho⟩
    have HB13 := Lib.hid (bel_trans hb HB12.out)
    have BX13 := Lib.hid (BX12.out.keep hb); clear BX12
    have R_v_13 := Lib.hid (R_v_12.out.keep hb); clear R_v_12
    have R_u_13 := Lib.hid (R_u_12.out.keep hb); clear R_u_12
    have R_va_13 := Lib.hid (R_va_12.out.keep hb); clear R_va_12
    have R_vs_13 := Lib.hid (R_vs_12.out.keep hb); clear R_vs_12
    have R_vb_13 := Lib.hid (R_vb_12.out.keep hb); clear R_vb_12
    have R_vo_13 := Lib.hid (R_vo_12.out.keep hb); clear R_vo_12
    have R_vo2_13 := Lib.hid (R_vo2_12.out.keep hb); clear R_vo2_12
    have R_vk_13 := Lib.hid (R_vk_12.out.keep hb); clear R_vk_12
    have R_vt_13 := Lib.hid (R_vt_12.out.keep hb); clear R_vt_12
    clear HB12
    have R_vt2_13 := Lib.hid ho.rd; have N_vt2 := Lib.hid ho.nilz; clear ho
    clear hb
    obtain ⟨_, c5, c6⟩ := BX13.out
    go_wp2_with fail
    clear c5 c6
    refine (iAdd_ok R_v_13.out R_v_13.out N_v.out N_v.out q6 hD).mono ?_
    rintro e w14 ⟨vd, rfl, hb, ho⟩
    have HB14 := Lib.hid (bel_trans hb HB13.out)
    have BX14 := Lib.hid (BX13.out.keep hb); clear BX13
    have R_v_14 := Lib.hid (R_v_13.out.keep hb); clear R_v_13
    have R_u_14 := Lib.hid (R_u_13.out.keep hb); clear R_u_13
    have R_va_14 := Lib.hid (R_va_13.out.keep hb); clear R_va_13
    have R_vs_14 := Lib.hid (R_vs_13.out.keep hb); clear R_vs_13
    have R_vb_14 := Lib.hid (R_vb_13.out.keep hb); clear R_vb_13
    have R_vo_14 := Lib.hid (R_vo_13.out.keep hb); clear R_vo_13
    have R_vo2_14 := Lib.hid (R_vo2_13.out.keep hb); clear R_vo2_13
    have R_vk_14 := Lib.hid (R_vk_13.out.keep hb); clear R_vk_13
    have R_vt_14 := Lib.hid (R_vt_13.out.keep hb); clear R_vt_13
    have R_vt2_14 := Lib.hid (R_vt2_13.out.keep hb); clear R_vt2_13
    clear HB13
    have R_vd_14 := Lib.hid ho.rd; have N_vd := Lib.hid ho.nilz; clear ho
    clear hb
    obtain ⟨_, c5, c6⟩ := BX14.out
    go_wp2_with fail
    clear c5 c6
    refine (sAdd_ok R_v_14.out R_v_14.out N_v.out N_v.out q6 hD).mono ?_
    rintro e w15 ⟨vd2, rfl, hb, ho⟩
    have HB15 := Lib.hid (bel_trans hb HB14.out)
    have BX15 := Lib.hid (BX14.out.keep hb); clear BX14
    have R_v_15 := Lib.hid (R_v_14.out.keep hb); clear R_v_14
    have R_u_15 := Lib.hid (R_u_14.out.keep hb); clear R_u_14
    have R_va_15 := Lib.hid (R_va_14.out.keep hb); clear R_va_14
    have R_vs_15 := Lib.hid (R_vs_14.out.keep hb); clear R_vs_14
    have R_vb_15 := Lib.hid (R_vb_14.out.keep hb); clear R_vb_14
    have R_vo_15 := Lib.hid (R_vo_14.out.keep hb); clear R_vo_14
    have R_vo2_15 := Lib.hid (R_vo2_14.out.keep hb); clear R_vo2_14
    have R_vk_15 := Lib.hid (R_vk_14.out.keep hb); clear R_vk_14
    have R_vt_15 := Lib.hid (R_vt_14.out.keep hb); clear R_vt_14
    have R_vt2_15 := Lib.hid (R_vt2_14.out.keep hb); clear R_vt2_14
    have R_vd_15 := Lib.hid (R_vd_14.out.keep hb); clear R_vd_14
    clear HB14
    have R_vd2_15 := Lib.hid ho.rd; have N_vd2 := Lib.hid ho.nilz; clear ho
    clear hb
    obtain ⟨_, c5, c6⟩ := BX15.out
    go_wp2_with fail
    clear c5 c6
    refine (iAdd_ok R_vd_15.out R_u_15.out N_vd.out N_u.out q7 e3).mono ?_
    rintro e w16 ⟨vh, rfl, hb, ho⟩
    have HB16 := Lib.hid (bel_trans hb HB15.out)
    have BX16 := Lib.hid (BX15.out.keep hb); clear BX15
    have R_v_16 := Lib.hid (R_v_15.out.keep hb); clear R_v_15
    have R_u_16 := Lib.hid (R_u_15.out.keep hb); clear R_u_15
    have R_va_16 := Lib.hid (R_va_15.out.keep hb); clear R_va_15
    have R_vs_16 := Lib.hid (R_vs_15.out.keep hb); clear R_vs_15
    have R_vb_16 := Lib.hid (R_vb_15.out.keep hb); clear R_vb_15
    have R_vo_16 := Lib.hid (R_vo_15.out.keep hb); clear R_vo_15
    have R_vo2_16 := Lib.hid (R_vo2_15.out.keep hb); clear R_vo2_15
    have R_vk_16 := Lib.hid (R_vk_15.out.keep hb); clear R_vk_15
    have R_vt_16 := Lib.hid (R_vt_15.out.keep hb); clear R_vt_15
    have R_vt2_16 := Lib.hid (R_vt2_15.out.keep hb); clear R_vt2_15
    have R_vd_16 := Lib.hid (R_vd_15.out.keep hb); clear R_vd_15
    have R_vd2_16 := Lib.hid (R_vd2_15.out.keep hb); clear R_vd2_15
    clear HB15
    have R_vh_16 := Lib.hid ho.rd; have N_vh := Lib.hid ho.nilz; clear ho
    clear hb
    obtain ⟨_, c5, c6⟩ := BX16.out
    go_wp2_with fail
    clear c5 c6
    refine (same_ok R_vb_16.out R_vs_16.out).mono ?_
    rintro e w17 ⟨rfl, hb⟩
    have HB17 := Lib.hid (bel_trans hb HB16.out)
    have BX17 := Lib.hid (BX16.out.keep hb); clear BX16
    have R_v_17 := Lib.hid (R_v_16.out.keep hb); clear R_v_16
    have R_u_17 := Lib.hid (R_u_16.out.keep hb); clear R_u_16
    have R_va_17 := Lib.hid (R_va_16.out.keep hb); clear R_va_16
    have R_vs_17 := Lib.hid (R_vs_16.out.keep hb); clear R_vs_16
    have R_vb_17 := Lib.hid (R_vb_16.out.keep hb); clear R_vb_16
    have R_vo_17 := Lib.hid (R_vo_16.out.keep hb); clear R_vo_16
    have R_vo2_17 := Lib.hid (R_vo2_16.out.keep hb); clear R_vo2_16
    have R_vk_17 := Lib.hid (R_vk_16.out.keep hb); clear R_vk_16
    have R_vt_17 := Lib.hid (R_vt_16.out.keep hb); clear R_vt_16
    have R_vt2_17 := Lib.hid (R_vt2_16.out.keep hb); clear R_vt2_16
    have R_vd_17 := Lib.hid (R_vd_16.out.keep hb); clear R_vd_16
    have R_vd2_17 := Lib.hid (R_vd2_16.out.keep hb); clear R_vd2_16
    have R_vh_17 := Lib.hid (R_vh_16.out.keep hb); clear R_vh_16
    clear HB16
    clear hb
    obtain ⟨_, c5, c6⟩ := BX17.out
    go_wp2_with fail
    clear c5 c6
    refine (same_ok R_vo_17.out R_vo2_17.out).mono ?_
    rintro e w18 ⟨rfl, hb⟩
    have HB18 := Lib.hid (bel_trans hb HB17.out)
    have BX18 := Lib.hid (BX17.out.keep hb); clear BX17
    have R_v_18 := Lib.hid (R_v_17.out.keep hb); clear R_v_17
    have R_u_18 := Lib.hid (R_u_17.out.keep hb); clear R_u_17
    have R_va_18 := Lib.hid (R_va_17.out.keep hb); clear R_va_17
    have R_vs_18 := Lib.hid (R_vs_17.out.keep hb); clear R_vs_17
    have R_vb_18 := Lib.hid (R_vb_17.out.keep hb); clear R_vb_17
    have R_vo_18 := Lib.hid (R_vo_17.out.keep hb); clear R_vo_17
    have R_vo2_18 := Lib.hid (R_vo2_17.out.keep hb); clear R_vo2_17
    have R_vk_18 := Lib.hid (R_vk_17.out.keep hb); clear R_vk_17
    have R_vt_18 := Lib.hid (R_vt_17.out.keep hb); clear R_vt_17
    have R_vt2_18 := Lib.hid (R_vt2_17.out.keep hb); clear R_vt2_17
    have R_vd_18 := Lib.hid (R_vd_17.out.keep hb); clear R_vd_17
    have R_vd2_18 := Lib.hid (R_vd2_17.out.keep hb); clear R_vd2_17
    have R_vh_18 := Lib.hid (R_vh_17.out.keep hb); clear R_vh_17
    clear HB17
    clear hb
    obtain ⟨_, c5, c6⟩ := BX18.out
    go_wp2_with fail
    clear c5 c6
    refine (same_ok R_vk_18.out R_v_18.out).mono ?_
    rintro e w19 ⟨rfl, hb⟩
    have HB19 := Lib.hid (bel_trans hb HB18.out)
    have BX19 := Lib.hid (BX18.out.keep hb); clear BX18
    have R_v_19 := Lib.hid (R_v_18.out.keep hb); clear R_v_18
    have R_u_19 := Lib.hid (R_u_18.out.keep hb); clear R_u_18
    have R_va_19 := Lib.hid (R_va_18.out.keep hb); clear R_va_18
    have R_vs_19 := Lib.hid (R_vs_18.out.keep hb); clear R_vs_18
    have R_vb_19 := Lib.hid (R_vb_18.out.keep hb); clear R_vb_18
    have R_vo_19 := Lib.hid (R_vo_18.out.keep hb); clear R_vo_18
    have R_vo2_19 := Lib.hid (R_vo2_18.out.keep hb); clear R_vo2_18
    have R_vk_19 := Lib.hid (R_vk_18.out.keep hb); clear R_vk_18
    have R_vt_19 := Lib.hid (R_vt_18.out.keep hb); clear R_vt_18
    have R_vt2_19 := Lib.hid (R_vt2_18.out.keep hb); clear R_vt2_18
    have R_vd_19 := Lib.hid (R_vd_18.out.keep hb); clear R_vd_18
    have R_vd2_19 := Lib.hid (R_vd2_18.out.keep hb); clear R_vd2_18
    have R_vh_19 := Lib.hid (R_vh_18.out.keep hb); clear R_vh_18
    clear HB18
    clear hb
    obtain ⟨_, c5, c6⟩ := BX19.out
    go_wp2_with fail
    clear c5 c6
    refine (same_ok R_vt_19.out R_vt2_19.out).mono ?_
    rintro e w20 ⟨rfl, hb⟩
    have HB20 := Lib.hid (bel_trans hb HB19.out)
    have BX20 := Lib.hid (BX19.out.keep hb); clear BX19
    have R_v_20 := Lib.hid (R_v_19.out.keep hb); clear R_v_19
    have R_u_20 := Lib.hid (R_u_19.out.keep hb); clear R_u_19
    have R_va_20 := Lib.hid (R_va_19.out.keep hb); clear R_va_19
    have R_vs_20 := Lib.hid (R_vs_19.out.keep hb); clear R_vs_19
    have R_vb_20 := Lib.hid (R_vb_19.out.keep hb); clear R_vb_19
    have R_vo_20 := Lib.hid (R_vo_19.out.keep hb); clear R_vo_19
    have R_vo2_20 := Lib.hid (R_vo2_19.out.keep hb); clear R_vo2_19
    have R_vk_20 := Lib.hid (R_vk_19.out.keep hb); clear R_vk_19
    have R_vt_20 := Lib.hid (R_vt_19.out.keep hb); clear R_vt_19
    have R_vt2_20 := Lib.hid (R_vt2_19.out.keep hb); clear R_vt2_19
    have R_vd_20 := Lib.hid (R_vd_19.out.keep hb); clear R_vd_19
    have R_vd2_20 := Lib.hid (R_vd2_19.out.keep hb); clear R_vd2_19
    have R_vh_20 := Lib.hid (R_vh_19.out.keep hb); clear R_vh_19
    clear HB19
    clear hb
    obtain ⟨_, c5, c6⟩ := BX20.out
    go_wp2_with fail
    clear c5 c6
    refine (same_ok R_vd_20.out R_vd2_20.out).mono ?_
    rintro e w21 ⟨rfl, hb⟩
    have HB21 := Lib.hid (bel_trans hb HB20.out)
    have BX21 := Lib.hid (BX20.out.keep hb); clear BX20
    have R_v_21 := Lib.hid (R_v_20.out.keep hb); clear R_v_20
    have R_u_21 := Lib.hid (R_u_20.out.keep hb); clear R_u_20
    have R_va_21 := Lib.hid (R_va_20.out.keep hb); clear R_va_20
    have R_vs_21 := Lib.hid (R_vs_20.out.keep hb); clear R_vs_20
    have R_vb_21 := Lib.hid (R_vb_20.out.keep hb); clear R_vb_20
    have R_vo_21 := Lib.hid (R_vo_20.out.keep hb); clear R_vo_20
    have R_vo2_21 := Lib.hid (R_vo2_20.out.keep hb); clear R_vo2_20
    have R_vk_21 := Lib.hid (R_vk_20.out.keep hb); clear R_vk_20
    have R_vt_21 := Lib.hid (R_vt_20.out.keep hb); clear R_vt_20
    have R_vt2_21 := Lib.hid (R_vt2_20.out.keep hb); clear R_vt2_20
    have R_vd_21 := Lib.hid (R_vd_20.out.keep hb); clear R_vd_20
    have R_vd2_21 := Lib.hid (R_vd2_20.out.keep hb); clear R_vd2_20
    have R_vh_21 := Lib.hid (R_vh_20.out.keep hb); clear R_vh_20
    clear HB20
    clear hb
    obtain ⟨_, c5, c6⟩ := BX21.out
    go_wp2_with fail
    clear c5 c6
    refine (same_ok R_vh_21.out R_vt2_21.out).mono ?_
    rintro e w22 ⟨rfl, hb⟩
    have HB22 := Lib.hid (bel_trans hb HB21.out)
    have BX22 := Lib.hid (BX21.out.keep hb); clear BX21
    have R_v_22 := Lib.hid (R_v_21.out.keep hb); clear R_v_21
    have R_u_22 := Lib.hid (R_u_21.out.keep hb); clear R_u_21
    have R_va_22 := Lib.hid (R_va_21.out.keep hb); clear R_va_21
    have R_vs_22 := Lib.hid (R_vs_21.out.keep hb); clear R_vs_21
    have R_vb_22 := Lib.hid (R_vb_21.out.keep hb); clear R_vb_21
    have R_vo_22 := Lib.hid (R_vo_21.out.keep hb); clear R_vo_21
    have R_vo2_22 := Lib.hid (R_vo2_21.out.keep hb); clear R_vo2_21
    have R_vk_22 := Lib.hid (R_vk_21.out.keep hb); clear R_vk_21
    have R_vt_22 := Lib.hid (R_vt_21.out.keep hb); clear R_vt_21
    have R_vt2_22 := Lib.hid (R_vt2_21.out.keep hb); clear R_vt2_21
    have R_vd_22 := Lib.hid (R_vd_21.out.keep hb); clear R_vd_21
    have R_vd2_22 := Lib.hid (R_vd2_21.out.keep hb); clear R_vd2_21
    have R_vh_22 := Lib.hid (R_vh_21.out.keep hb); clear R_vh_21
    clear HB21
    clear hb
    obtain ⟨_, c5, c6⟩ := BX22.out
    go_wp2_with fail
    clear c5 c6
    clear q1 q2 q3 q4 q5 q6 q7 e1 e2 e3 hq hS hO hD hT
    clear R_v_22 N_v
    clear R_u_22 N_u
    clear R_va_22 N_va
    clear R_vs_22 N_vs
    clear R_vb_22 N_vb
    clear R_vo_22 N_vo
    clear R_vo2_22 N_vo2
    clear R_vk_22 N_vk
    clear R_vt_22 N_vt
    clear R_vt2_22 N_vt2
    clear R_vd_22 N_vd
    clear R_vd2_22 N_vd2
    clear R_vh_22 N_vh
    clear BX22
    refine (drawTimesModulo_any _ _ _ _ _ (isRow_keep HMore.out HB22.out) hl1).mono ?_
    rintro e w23 ⟨a2, b2, p2, n, x, rfl, ni, ⟨zs, rx, nx⟩, hb⟩
    have HB23 := Lib.hid (bel_trans hb HB22.out); have R_x_23 := Lib.hid rx; have N_x := Lib.hid nx; clear hb rx nx HB22
    go_wp2_with fail
    have hb : Below w23.heap.size w23 (w23.alloc (.cells #[.int .i64 a2, .int .i64 b2] 25)) := below_allocD _ _
    have hx := Bx.new a2 b2 w23 25
    generalize w23.alloc (.cells #[.int .i64 a2, .int .i64 b2] 25) = w24 at hb hx ⊢
    generalize hn : w23.heap.size = n33 at hx ⊢
    have BX24 := Lib.hid hx; clear hx hn
    have HB24 := Lib.hid (bel_trans hb HB23.out)
    have R_x_24 := Lib.hid (R_x_23.out.keep hb); clear R_x_23
    clear HB23
    clear hb
    cases hq2 : askN a2 b2 p2 n zs
    · skip
      refine (iTim_no R_x_24.out N_x.out hq2).mono ?_
      rintro e w25 ⟨vm, rfl, hb, ho⟩
      have HB25 := Lib.hid (bel_trans hb HB24.out)
      have BX25 := Lib.hid (BX24.out.keep hb); clear BX24
      have R_x_25 := Lib.hid (R_x_24.out.keep hb); clear R_x_24
      clear HB24
      have R_vm_25 := Lib.hid ho.rd; have N_vm := Lib.hid ho.nilz; clear ho
      clear hb
      obtain ⟨_, c5, c6⟩ := BX25.out
      go_wp2_with fail
      clear c5 c6
      refine (sTim_no R_x_25.out N_x.out hq2).mono ?_
      rintro e w26 ⟨vn, rfl, hb, ho⟩
      have HB26 := Lib.hid (bel_trans hb HB25.out)
      have BX26 := Lib.hid (BX25.out.keep hb); clear BX25
      have R_x_26 := Lib.hid (R_x_25.out.keep hb); clear R_x_25
      have R_vm_26 := Lib.hid (R_vm_25.out.keep hb); clear R_vm_25
      clear HB25
      have R_vn_26 := Lib.hid ho.rd; have N_vn := Lib.hid ho.nilz; clear ho
      clear hb
      obtain ⟨_, c5, c6⟩ := BX26.out
      go_wp2_with fail
      clear c5 c6
      refine (same_ok R_vm_26.out R_vn_26.out).mono ?_
      rintro e w27 ⟨rfl, hb⟩
      have HB27 := Lib.hid (bel_trans hb HB26.out)
      have BX27 := Lib.hid (BX26.out.keep hb); clear BX26
      have R_x_27 := Lib.hid (R_x_26.out.keep hb); clear R_x_26
      have R_vm_27 := Lib.hid (R_vm_26.out.keep hb); clear R_vm_26
      have R_vn_27 := Lib.hid (R_vn_26.out.keep hb); clear R_vn_26
      clear HB26
      clear hb
      obtain ⟨_, c5, c6⟩ := BX27.out
      go_wp2_with fail
      clear c5 c6
      go_ret
      exact ret_eq (by rfl) HB27.out
    · skip
      have hq3 := hq2
      unfold askN at hq3
      rw [Bool.and_eq_true] at hq3
      obtain ⟨hx, hin⟩ := hq3
      unfold askB at hx
      rw [Bool.and_eq_true] at hx
      obtain ⟨hsm2, hoz⟩ := hx
      have hp2 := small_p5 hsm2
      have hdisc2 := small_disc hsm2
      have hnb := inB_true.1 hin
      have e4 := times_next (n := n) hp2 hdisc2 hoz
      have hoM := on_times (n := n) hp2 hoz
      have q8 : n < 1000000000 → askN a2 b2 p2 (n + 1) zs = true := fun h => by unfold askN askB; rw [hsm2, hoz, inB_true.2 (by omega)]; rfl
      have q9 : ask2B a2 b2 p2 (timesL a2 p2 n zs) zs = true := by unfold ask2B askB; rw [hsm2, hoM, hoz]; rfl
      clear hp2 hdisc2 hsm2 hoz hin hoM
      generalize hM : timesL a2 p2 n zs = M at *
      generalize hM2 : timesL a2 p2 (n + 1) zs = M2 at *
      refine (iTim_ok R_x_24.out N_x.out hq2 hM).mono ?_
      rintro e w25 ⟨vm, rfl, hb, ho⟩
      have HB25 := Lib.hid (bel_trans hb HB24.out)
      have BX25 := Lib.hid (BX24.out.keep hb); clear BX24
      have R_x_25 := Lib.hid (R_x_24.out.keep hb); clear R_x_24
      clear HB24
      have R_vm_25 := Lib.hid ho.rd; have N_vm := Lib.hid ho.nilz; clear ho
      clear hb
      obtain ⟨_, c5, c6⟩ := BX25.out
      go_wp2_with fail
      clear c5 c6
      refine (sTim_ok R_x_25.out N_x.out hq2 hM).mono ?_
      rintro e w26 ⟨vn, rfl, hb, ho⟩
      have HB26 := Lib.hid (bel_trans hb HB25.out)
      have BX26 := Lib.hid (BX25.out.keep hb); clear BX25
      have R_x_26 := Lib.hid (R_x_25.out.keep hb); clear R_x_25
      have R_vm_26 := Lib.hid (R_vm_25.out.keep hb); clear R_vm_25
      clear HB25
      have R_vn_26 := Lib.hid ho.rd; have N_vn := Lib.hid ho.nilz; clear ho
      clear hb
      obtain ⟨_, c5, c6⟩ := BX26.out
      go_wp2_with fail
      clear c5 c6
      by_cases hn : n < 1000000000
      · have hwr : IntKind.i64.wrap (n + 1) = n + 1 := wrapb (by omega) (by omega)
        replace q8 := q8 hn
        refine (same_ok R_vm_26.out R_vn_26.out).mono ?_
        rintro e w27 ⟨rfl, hb⟩
        have HB27 := Lib.hid (bel_trans hb HB26.out)
        have BX27 := Lib.hid (BX26.out.keep hb); clear BX26
        have R_x_27 := Lib.hid (R_x_26.out.keep hb); clear R_x_26
        have R_vm_27 := Lib.hid (R_vm_26.out.keep hb); clear R_vm_26
        have R_vn_27 := Lib.hid (R_vn_26.out.keep hb); clear R_vn_26
        clear HB26
        clear hb
        obtain ⟨_, c5, c6⟩ := BX27.out
        go_wp2_with fail
        clear c5 c6
        refine (iTim_ok R_x_27.out N_x.out q8 hM2).mono ?_
        rintro e w28 ⟨vp, rfl, hb, ho⟩
        have HB28 := Lib.hid (bel_trans hb HB27.out)
        have BX28 := Lib.hid (BX27.out.keep hb); clear BX27
        have R_x_28 := Lib.hid (R_x_27.out.keep hb); clear R_x_27
        have R_vm_28 := Lib.hid (R_vm_27.out.keep hb); clear R_vm_27
        have R_vn_28 := Lib.hid (R_vn_27.out.keep hb); clear R_vn_27
        clear HB27
        have R_vp_28 := Lib.hid ho.rd; have N_vp := Lib.hid ho.nilz; clear ho
        clear hb
        obtain ⟨_, c5, c6⟩ := BX28.out
        go_wp2_with fail
        clear c5 c6
        refine (sTim_ok R_x_28.out N_x.out q8 hM2).mono ?_
        rintro e w29 ⟨vq, rfl, hb, ho⟩
        have HB29 := Lib.hid (bel_trans hb HB28.out)
        have BX29 := Lib.hid (BX28.out.keep hb); clear BX28
        have R_x_29 := Lib.hid (R_x_28.out.keep hb); clear R_x_28
        have R_vm_29 := Lib.hid (R_vm_28.out.keep hb); clear R_vm_28
        have R_vn_29 := Lib.hid (R_vn_28.out.keep hb); clear R_vn_28
        have R_vp_29 := Lib.hid (R_vp_28.out.keep hb); clear R_vp_28
        clear HB28
        have R_vq_29 := Lib.hid ho.rd; have N_vq := Lib.hid ho.nilz; clear ho
        clear hb
        obtain ⟨_, c5, c6⟩ := BX29.out
        go_wp2_with fail
        clear c5 c6
        refine (iAdd_ok R_vm_29.out R_x_29.out N_vm.out N_x.out q9 e4).mono ?_
        rintro e w30 ⟨vr, rfl, hb, ho⟩
        have HB30 := Lib.hid (bel_trans hb HB29.out)
        have BX30 := Lib.hid (BX29.out.keep hb); clear BX29
        have R_x_30 := Lib.hid (R_x_29.out.keep hb); clear R_x_29
        have R_vm_30 := Lib.hid (R_vm_29.out.keep hb); clear R_vm_29
        have R_vn_30 := Lib.hid (R_vn_29.out.keep hb); clear R_vn_29
        have R_vp_30 := Lib.hid (R_vp_29.out.keep hb); clear R_vp_29
        have R_vq_30 := Lib.hid (R_vq_29.out.keep hb); clear R_vq_29
        clear HB29
        have R_vr_30 := Lib.hid ho.rd; have N_vr := Lib.hid ho.nilz; clear ho
        clear hb
        obtain ⟨_, c5, c6⟩ := BX30.out
        go_wp2_with fail
        clear c5 c6
        refine (same_ok R_vp_30.out R_vq_30.out).mono ?_
        rintro e w31 ⟨rfl, hb⟩
        have HB31 := Lib.hid (bel_trans hb HB30.out)
        have BX31 := Lib.hid (BX30.out.keep hb); clear BX30
        have R_x_31 := Lib.hid (R_x_30.out.keep hb); clear R_x_30
        have R_vm_31 := Lib.hid (R_vm_30.out.keep hb); clear R_vm_30
        have R_vn_31 := Lib.hid (R_vn_30.out.keep hb); clear R_vn_30
        have R_vp_31 := Lib.hid (R_vp_30.out.keep hb); clear R_vp_30
        have R_vq_31 := Lib.hid (R_vq_30.out.keep hb); clear R_vq_30
        have R_vr_31 := Lib.hid (R_vr_30.out.keep hb); clear R_vr_30
        clear HB30
        clear hb
        obtain ⟨_, c5, c6⟩ := BX31.out
        go_wp2_with fail
        clear c5 c6
        refine (same_ok R_vr_31.out R_vq_31.out).mono ?_
        rintro e w32 ⟨rfl, hb⟩
        have HB32 := Lib.hid (bel_trans hb HB31.out)
        have BX32 := Lib.hid (BX31.out.keep hb); clear BX31
        have R_x_32 := Lib.hid (R_x_31.out.keep hb); clear R_x_31
        have R_vm_32 := Lib.hid (R_vm_31.out.keep hb); clear R_vm_31
        have R_vn_32 := Lib.hid (R_vn_31.out.keep hb); clear R_vn_31
        have R_vp_32 := Lib.hid (R_vp_31.out.keep hb); clear R_vp_31
        have R_vq_32 := Lib.hid (R_vq_31.out.keep hb); clear R_vq_31
        have R_vr_32 := Lib.hid (R_vr_31.out.keep hb); clear R_vr_31
        clear HB31
        clear hb
        obtain ⟨_, c5, c6⟩ := BX32.out
        go_wp2_with fail
        clear c5 c6
        go_ret
        exact ret_eq (by rfl) HB32.out
      · skip
        refine (same_ok R_vm_26.out R_vn_26.out).mono ?_
        rintro e w27 ⟨rfl, hb⟩
        have HB27 := Lib.hid (bel_trans hb HB26.out)
        have BX27 := Lib.hid (BX26.out.keep hb); clear BX26
        have R_x_27 := Lib.hid (R_x_26.out.keep hb); clear R_x_26
        have R_vm_27 := Lib.hid (R_vm_26.out.keep hb); clear R_vm_26
        have R_vn_27 := Lib.hid (R_vn_26.out.keep hb); clear R_vn_26
        clear HB26
        clear hb
        obtain ⟨_, c5, c6⟩ := BX27.out
        go_wp2_with fail
        clear c5 c6
        go_ret
        exact ret_eq (by rfl) HB27.out
end Go.Proofs.Ytaaagjdakbnhnaa.fnFiniteSums
