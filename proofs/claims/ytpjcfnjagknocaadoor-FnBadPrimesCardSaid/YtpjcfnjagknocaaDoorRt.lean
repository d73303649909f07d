/- Rt: contracts: both ReductionTexts. No conditions. -/
import Derived.Test.YtpjcfnjagknocaaDoorIta
import Derived.Test.YtpjcfnjagknocaaDoorSyl
import Derived.Test.YtpjcfnjagknocaaDoorBg
namespace Go.Proofs.YtpjcfnjagknocaaDoor
open Go.RowKit

def kindT : Nat → ByteArray
  | 0 => ⟨#[103, 111, 111, 100]⟩
  | 1 => ⟨#[97, 100, 100, 105, 116, 105, 118, 101]⟩
  | 2 => ⟨#[115, 112, 108, 105, 116]⟩
  | _ => ⟨#[110, 111, 110, 115, 112, 108, 105, 116]⟩
theorem kindT_v : ∀ k, kindV k = .string (kindT k)
  | 0 => rfl
  | 1 => rfl
  | 2 => rfl
  | _ + 3 => rfl
theorem kindT_size (k : Nat) : (kindT k).size ≤ 8 := by
  match k with
  | 0 => decide
  | 1 => decide
  | 2 => decide
  | _ + 3 => show (8 : Nat) ≤ 8; omega
theorem addS_size (n : Nat) : (addS n).size ≤ 4 := by
  unfold addS
  repeat' split
  all_goals decide
noncomputable def symT (a b p : Int) : ByteArray := symS (minA a b p) b p (kindN (minA a b p) b p) (valP (discI (minA a b p) b) p).toNat
theorem symT_size {a b p : Int} (hc : curveB a b = true) (hp : p5B p = true) : (symT a b p).size ≤ 100 := by
  obtain ⟨h1, h2, h5⟩ := min_disc (p := p) hc
  obtain ⟨_, _, h3, h4, _⟩ := curveB_true.1 hc
  obtain ⟨p1, p2⟩ := p5_bd hp
  obtain ⟨d1, d2⟩ := disc_bd h1 h2 h3 h4
  have hN := val_disc (p := p) (by omega) h5 d1 d2
  unfold symT
  generalize hn : (valP (discI (minA a b p) b) p).toNat = n
  have hn33 : n ≤ 33 := by omega
  have s1 := numS_size n
  have s2 := numS_size (n - 6)
  have s3 := addS_size n
  unfold symS
  split
  · split
    · rw [ByteArray.size_append, ByteArray.size_append]; show 1 + (numS (n - 6)).size + 1 ≤ 100; omega
    · omega
  · rw [ByteArray.size_append]; show 1 + (numS n).size ≤ 100; omega
noncomputable def pieceT (a b p : Int) : ByteArray := numS p.toNat ++ ⟨#[32]⟩ ++ symT a b p ++ ⟨#[32]⟩ ++ kindT (kindN (minA a b p) b p) ++ ⟨#[59]⟩
noncomputable def txtT (a b : Int) (l : List Int) : ByteArray := l.foldl (fun s p => s ++ pieceT a b p) ⟨#[]⟩
theorem txt_step (a b : Int) {L : List Int} {j : Nat} (hj : j < L.length) : txtT a b (L.take (j + 1)) = txtT a b (L.take j) ++ pieceT a b (L.getD j 0) := by
  unfold txtT
  rw [List.take_add_one, List.foldl_append, List.getD_eq_getElem?_getD, List.getElem?_eq_getElem hj]
  rfl
theorem piece_size {a b p : Int} (hc : curveB a b = true) (hp : p5B p = true) : (pieceT a b p).size ≤ 2000 := by
  obtain ⟨p1, p2⟩ := p5_bd hp
  have h1 := numS_size p.toNat
  have h2 := symT_size hc hp
  have h3 := kindT_size (kindN (minA a b p) b p)
  unfold pieceT
  simp only [ByteArray.size_append]
  show (numS p.toNat).size + 1 + (symT a b p).size + 1 + (kindT (kindN (minA a b p) b p)).size + 1 ≤ 2000
  omega
theorem txt_size {a b : Int} (hc : curveB a b = true) {L : List Int} (hL : ∀ p ∈ L, p5B p = true) : ∀ j, j ≤ L.length → (txtT a b (L.take j)).size ≤ 2000 * j
  | 0, _ => by simp [txtT]; rfl
  | j + 1, h => by
    rw [txt_step a b (by omega), ByteArray.size_append]
    have h1 := txt_size hc hL j (by omega)
    have h2 := piece_size (p := L.getD j 0) hc (hL _ (by rw [List.getD_eq_getElem?_getD, List.getElem?_eq_getElem (by omega)]; exact List.getElem_mem (by omega)))
    omega
theorem bfX_p5R {a b p : Int} (hc : curveB a b = true) (h : p ∈ bfX a b) : p5B p = true := by
  obtain ⟨_, _, _, _, h5⟩ := curveB_true.1 hc
  unfold bfX at h
  cases hok : bfOk a b
  · rw [hok, cond_false] at h; simp at h
  · rw [hok, cond_true] at h
    unfold badF at h
    obtain ⟨h1, h2⟩ := List.mem_filter.1 h
    unfold badP at h2
    rw [Bool.and_eq_true, decide_eq_true_eq] at h2
    unfold bfOk at hok
    have h3 := List.all_eq_true.1 hok p h1
    rw [decide_eq_true_eq] at h3
    have h4 := ((primesL_spec (N := ((discI a b).natAbs : Int)) (by omega)).2 p).1 h1
    unfold p5B
    rw [inB_true.2 ⟨h2.1, h3⟩, primeB_true.2 h4.1]
    rfl
noncomputable def rtV (a b : Int) : Value := if curveB a b = true then .tuple #[.string (txtT a b (bfX a b)), .bool (bfOk a b)] else .tuple #[.string ⟨#[]⟩, .bool false]
theorem below_allocR (w : World) (o : Obj) : Below w.heap.size w (w.alloc o) := Below.alloc (Below.refl _ _) (Nat.le_refl _) _
set_option maxHeartbeats 4000000 in
theorem iReductionText_any (a b : Int) (w : World) (ht : PowT w) :
    Calls Tryd.prog 11 #[.agg #[.int .i64 a, .int .i64 b]] w (Ret (rtV a b) w) := by
  unfold rtV
  cases hc : curveB a b
  · rw [if_neg (by decide)]
    go_enter Tryd.func11, Tryd.ntmps11
    go_wp2_with fail
    refine (isCurve_any _ _ _).mono ?_; rintro e w1 ⟨rfl, hb1⟩
    rw [hc]
    go_wp2_with fail
    go_returns
    exact ret_eq (by rfl) (by repeat (first | exact Below.refl _ _ | (with_reducible assumption) | refine bel_alloc ?_ _ | refine bel_drew ?_ | refine bel_drewN ?_ _ | refine Below.setCell ?_ (by dsimp only; omega) _ | refine bel_trans (by assumption) ?_))
  rw [if_pos rfl]
  have hp5 : ∀ p ∈ bfX a b, p5B p = true := fun p h => bfX_p5R hc h
  have hlen := bfX_len a b hc
  have hts := txt_size hc hp5
  have hstep : ∀ j, j < (bfX a b).length → txtT a b ((bfX a b).take (j + 1)) = txtT a b ((bfX a b).take j) ++ pieceT a b ((bfX a b).getD j 0) := fun j hj => txt_step a b hj
  have hbad := fun w => badFromFive_any a b w hc
  have hall : txtT a b (bfX a b) = txtT a b ((bfX a b).take (bfX a b).length) := by rw [List.take_length]
  rw [hall]
  generalize bfX a b = L at *
  generalize bfOk a b = ok at *
  obtain ⟨nl, hnl⟩ : ∃ nl, L.length = nl := ⟨_, rfl⟩
  rw [hnl]
  have HC := Lib.hid hc; have HT := Lib.hid ht; have HP5 := Lib.hid hp5; have HTS := Lib.hid hts; have HST := Lib.hid hstep; have HBAD := Lib.hid hbad; have HNL := Lib.hid hnl; have HLE := Lib.hid hlen
  clear ht hp5 hts hstep hbad hall hnl hlen
  go_enter Tryd.func11, Tryd.ntmps11
  go_wp2_with fail
  have c5 : w.heap.size < (w.alloc (.cells #[.int .i64 a, .int .i64 b] 24)).heap.size := by simp
  have c6 : (w.alloc (.cells #[.int .i64 a, .int .i64 b] 24)).cell? ⟨w.heap.size, 0, none⟩ = some (.int .i64 a) := by simp [go_sem]
  have c7 : (w.alloc (.cells #[.int .i64 a, .int .i64 b] 24)).cell? ⟨w.heap.size, 1, none⟩ = some (.int .i64 b) := by simp [go_sem]
  have hbW : Below w.heap.size w (w.alloc (.cells #[.int .i64 a, .int .i64 b] 24)) := below_allocR _ _
  generalize w.alloc (.cells #[.int .i64 a, .int .i64 b] 24) = W at c5 c6 c7 hbW ⊢
  generalize hB0 : w.heap.size = B0 at c5 c6 c7 ⊢
  have BX := Lib.hid (show BxS B0 a b W from ⟨c5, c6, c7⟩); clear c5 c6 c7 hB0
  refine (isCurve_any _ _ _).mono ?_; rintro e w1 ⟨rfl, hb1⟩
  rw [HC.out]
  have BX1 := Lib.hid (BX.out.keep hb1)
  have HB1 := Lib.hid (bel_trans hb1 hbW)
  clear BX hb1 hbW
  obtain ⟨c5, c6, c7⟩ := BX1.out
  go_wp2_with fail
  refine (HBAD.out _).mono ?_; rintro e w2 ⟨v, rfl, hb2, ho⟩
  have R2 := Lib.hid ho.rd
  have BX2 := Lib.hid (BX1.out.keep hb2)
  have HB2 := Lib.hid (bel_trans hb2 HB1.out)
  clear BX1 hb2 HB1 ho c5 c6 c7 HBAD
  obtain ⟨adm, cm, hvm, hlm, hcm⟩ := R2.out
  subst hvm
  rw [HNL.out] at hlm hcm ⊢
  have HCM := Lib.hid hcm; clear hcm hlm
  go_wp2_with fail
  go_loopw [6, 19] (fun s x wr => ∃ j : Nat, x = .int .i64 j ∧ j ≤ nl ∧ s = .string (txtT a b (L.take j)) ∧ Below w2.heap.size w2 wr) (fun _ x _ => nl - (intOf x).toNat)
  case atStart => exact ⟨0, rfl, Nat.zero_le _, rfl, Below.refl _ _⟩
  case round =>
    obtain ⟨j, rfl, hj, rfl, hbel⟩ := hrel
    by_cases hlt : j < nl
    · have hlt' : j < L.length := by rw [HNL.out]; exact hlt
      have hj1 : (j : Int) < (nl : Int) := by omega
      have hj0 : (0 : Int) ≤ (j : Int) := Int.natCast_nonneg _
      have hj2 : j < 1000 := by have := HLE.out; have := HNL.out; omega
      obtain ⟨bl, ol, hadl, hltl, hcell⟩ := HCM.out (by omega)
      subst hadl
      have hmem : L.getD j 0 ∈ L := by rw [List.getD_eq_getElem?_getD, List.getElem?_eq_getElem hlt']; exact List.getElem_mem hlt'
      have hpr := HP5.out _ hmem
      have hst := HST.out j hlt'
      have hs1 := HTS.out j (by omega)
      have q0 := (hbel.cell (p := ⟨bl, ol + j, none⟩) hltl).trans (hcell j (by omega))
      generalize L.getD j 0 = p at q0 hpr hst
      obtain ⟨p1, p2⟩ := p5_bd hpr
      obtain ⟨n, rfl⟩ : ∃ n : Nat, p = n := ⟨p.toNat, by omega⟩
      have hA := numS_size n
      have hB := symT_size HC.out hpr
      have hK := kindT_size (kindN (minA a b n) b n)
      have hit : ∀ g : Grow wr, Calls Tryd.prog 35 #[.int .i64 n] g.wd (Ret (.string (numS n)) g.wd) := fun g => itoaT n (by omega) g.wd (HT.out.keep (bel_trans g.2 (bel_trans hbel HB2.out)))
      have hsy := fun w => symbolAt_any a b n w HC.out hpr
      have hki := fun w => kindAt_any a b n w HC.out hpr
      have hpc : pieceT a b n = numS n ++ ⟨#[32]⟩ ++ symT a b n ++ ⟨#[32]⟩ ++ kindT (kindN (minA a b n) b n) ++ ⟨#[59]⟩ := rfl
      rw [kindT_v] at hki
      rw [hpc] at hst
      have hsz : symT a b n = symS (minA a b n) b n (kindN (minA a b n) b n) (valP (discI (minA a b n) b) n).toNat := rfl
      rw [← hsz] at hsy
      clear hsz hpc hmem hcell
      generalize symT a b n = S at *
      generalize kindT (kindN (minA a b n) b n) = K at *
      have hn1 : n ≤ 997 := by omega
      generalize numS n = A at *
      generalize txtT a b (L.take j) = T at *
      have HSTJ := Lib.hid hst; clear hst
      obtain ⟨c5, c6, c7⟩ := BX2.out.keep hbel
      have hw : IntKind.i64.wrap ((j : Int) + 1) = (j : Int) + 1 := i64_wrap (by omega) (by omega)
      have HIT := Lib.hid hit; have HSY := Lib.hid hsy; have HKI := Lib.hid hki; clear hit hsy hki
      go_wp2_with fail
      refine wp_region_grow (by kernel_rfl) (by kernel_rfl) ?_
      repeat (go_big_quiet_step (((first | (go_at_call 35; exact grow_ret (HIT.out _)) | (go_at_call 36; exact grow_ret (HSY.out _)) | (go_at_call 33; exact grow_ret (HKI.out _))))))
      refine wpQuiet_nil ?_
      rintro wg hbg
      (try replace hbg := aft2 hbg (by assumption))
      obtain ⟨hcg, hfg, hg1, hg2, hg3, hg4⟩ := aftz hbg
      go_wp2_with fail
      exact ⟨⟨j + 1, rfl, hlt, by rw [HSTJ.out], hbg⟩, by simp only [intOf]; omega⟩
    · have hjl : j = nl := by omega
      subst hjl
      have hfin := bel_trans hbel HB2.out
      have HFIN := Lib.hid hfin; clear hfin hbel
      go_wp2_with fail
      go_returns
      exact ret_eq (by rfl) HFIN.out
set_option maxHeartbeats 4000000 in
theorem sReductionText_any (a b : Int) (w : World) :
    Calls Tryd.prog 12 #[.agg #[.int .i64 a, .int .i64 b]] w (Ret (rtV a b) w) := by
  unfold rtV
  cases hc : curveB a b
  · rw [if_neg (by decide)]
    go_enter Tryd.func12, Tryd.ntmps12
    go_wp2_with fail
    refine (ecGood_any _ _ _).mono ?_; rintro e w1 ⟨rfl, hb1⟩
    rw [hc]
    go_wp2_with fail
    go_returns
    exact ret_eq (by rfl) (by repeat (first | exact Below.refl _ _ | (with_reducible assumption) | refine bel_alloc ?_ _ | refine bel_drew ?_ | refine bel_drewN ?_ _ | refine Below.setCell ?_ (by dsimp only; omega) _ | refine bel_trans (by assumption) ?_))
  rw [if_pos rfl]
  have hp5 : ∀ p ∈ bfX a b, p5B p = true := fun p h => bfX_p5R hc h
  have hlen := bfX_len a b hc
  have hts := txt_size hc hp5
  have hstep : ∀ j, j < (bfX a b).length → txtT a b ((bfX a b).take (j + 1)) = txtT a b ((bfX a b).take j) ++ pieceT a b ((bfX a b).getD j 0) := fun j hj => txt_step a b hj
  have hbad := fun w => rtBad_any a b w hc
  have hall : txtT a b (bfX a b) = txtT a b ((bfX a b).take (bfX a b).length) := by rw [List.take_length]
  rw [hall]
  have hne : bfOk a b = false → bfX a b = [] := fun h => by unfold bfX; rw [h]; rfl
  generalize bfX a b = L at *
  generalize bfOk a b = ok at *
  obtain ⟨nl, hnl⟩ : ∃ nl, L.length = nl := ⟨_, rfl⟩
  rw [hnl]
  have HC := Lib.hid hc; have HP5 := Lib.hid hp5; have HTS := Lib.hid hts; have HST := Lib.hid hstep; have HBAD := Lib.hid hbad; have HNL := Lib.hid hnl; have HLE := Lib.hid hlen
  clear hp5 hts hstep hbad hall hnl hlen
  go_enter Tryd.func12, Tryd.ntmps12
  go_wp2_with fail
  have c5 : w.heap.size < (w.alloc (.cells #[.int .i64 a, .int .i64 b] 24)).heap.size := by simp
  have c6 : (w.alloc (.cells #[.int .i64 a, .int .i64 b] 24)).cell? ⟨w.heap.size, 0, none⟩ = some (.int .i64 a) := by simp [go_sem]
  have c7 : (w.alloc (.cells #[.int .i64 a, .int .i64 b] 24)).cell? ⟨w.heap.size, 1, none⟩ = some (.int .i64 b) := by simp [go_sem]
  have hbW : Below w.heap.size w (w.alloc (.cells #[.int .i64 a, .int .i64 b] 24)) := below_allocR _ _
  generalize w.alloc (.cells #[.int .i64 a, .int .i64 b] 24) = W at c5 c6 c7 hbW ⊢
  generalize hB0 : w.heap.size = B0 at c5 c6 c7 ⊢
  have BX := Lib.hid (show BxS B0 a b W from ⟨c5, c6, c7⟩); clear c5 c6 c7 hB0
  refine (ecGood_any _ _ _).mono ?_; rintro e w1 ⟨rfl, hb1⟩
  rw [HC.out]
  have BX1 := Lib.hid (BX.out.keep hb1)
  have HB1 := Lib.hid (bel_trans hb1 hbW)
  clear BX hb1 hbW
  obtain ⟨c5, c6, c7⟩ := BX1.out
  go_wp2_with fail
  refine (HBAD.out _).mono ?_; rintro e w2 ⟨v, rfl, hb2, ho⟩
  have R2 := Lib.hid ho.rd
  have BX2 := Lib.hid (BX1.out.keep hb2)
  have HB2 := Lib.hid (bel_trans hb2 HB1.out)
  clear BX1 hb2 HB1 ho c5 c6 c7 HBAD
  obtain ⟨adm, cm, hvm, hlm, hcm⟩ := R2.out
  subst hvm
  rw [HNL.out] at hlm hcm ⊢
  have HCM := Lib.hid hcm; clear hcm hlm
  cases ok
  · have hL := hne rfl
    subst hL
    have hn0 : nl = 0 := HNL.out.symm
    subst hn0
    go_wp2_with fail
    go_returns
    exact ret_eq (by rfl) HB2.out
  clear hne
  obtain ⟨c5, c6, c7⟩ := BX2.out
  go_wp2_with fail
  clear c5 c6 c7
  go_loopw [6, 23] (fun s x wr => ∃ j : Nat, x = .int .i64 j ∧ j ≤ nl ∧ s = .string (txtT a b (L.take j)) ∧ Below w2.heap.size w2 wr) (fun _ x _ => nl - (intOf x).toNat)
  case atStart => exact ⟨0, rfl, Nat.zero_le _, rfl, Below.refl _ _⟩
  case round =>
    obtain ⟨j, rfl, hj, rfl, hbel⟩ := hrel
    by_cases hlt : j < nl
    · have hlt' : j < L.length := by rw [HNL.out]; exact hlt
      have hj1 : (j : Int) < (nl : Int) := by omega
      have hj0 : (0 : Int) ≤ (j : Int) := Int.natCast_nonneg _
      have hj2 : j < 1000 := by have := HLE.out; have := HNL.out; omega
      obtain ⟨bl, ol, hadl, hltl, hcell⟩ := HCM.out (by omega)
      subst hadl
      have hmem : L.getD j 0 ∈ L := by rw [List.getD_eq_getElem?_getD, List.getElem?_eq_getElem hlt']; exact List.getElem_mem hlt'
      have hpr := HP5.out _ hmem
      have hst := HST.out j hlt'
      have hs1 := HTS.out j (by omega)
      have q0 := (hbel.cell (p := ⟨bl, ol + j, none⟩) hltl).trans (hcell j (by omega))
      generalize L.getD j 0 = p at q0 hpr hst
      obtain ⟨p1, p2⟩ := p5_bd hpr
      obtain ⟨n, rfl⟩ : ∃ n : Nat, p = n := ⟨p.toNat, by omega⟩
      have hA := numS_size n
      have hB := symT_size HC.out hpr
      have hK := kindT_size (kindN (minA a b n) b n)
      have hit := fun w => l1Num_any n w (by omega)
      have hmi := fun w => rtMinimal_any a b n w HC.out hpr
      obtain ⟨m1, m2, _⟩ := min_disc (p := n) HC.out
      obtain ⟨_, _, m3, m4, _⟩ := curveB_true.1 HC.out
      have hsy := fun w => rtSymbol_any (minA a b n) b n w (min_curve HC.out) hpr
      have hki := fun w => rtKind_any (minA a b n) b n w m1 m2 m3 m4 hpr
      have hpc : pieceT a b n = numS n ++ ⟨#[32]⟩ ++ symT a b n ++ ⟨#[32]⟩ ++ kindT (kindN (minA a b n) b n) ++ ⟨#[59]⟩ := rfl
      rw [hpc] at hst
      have hsz : symT a b n = symS (minA a b n) b n (kindN (minA a b n) b n) (valP (discI (minA a b n) b) n).toNat := rfl
      rw [← hsz] at hsy
      rw [kindT_v] at hki
      clear hsz hpc hmem hcell m1 m2 m3 m4
      generalize symT a b n = S at *
      generalize kindT (kindN (minA a b n) b n) = K at *
      have hn1 : n ≤ 997 := by omega
      generalize numS n = A at *
      generalize minA a b n = M at *
      generalize minN a b n = cnt at *
      generalize txtT a b (L.take j) = T at *
      have HSTJ := Lib.hid hst; clear hst
      obtain ⟨c5, c6, c7⟩ := BX2.out.keep hbel
      have hw : IntKind.i64.wrap ((j : Int) + 1) = (j : Int) + 1 := i64_wrap (by omega) (by omega)
      have HIT := Lib.hid hit; have HSY := Lib.hid hsy; have HKI := Lib.hid hki; have HMI := Lib.hid hmi; clear hit hsy hki hmi
      go_wp2_with fail
      refine (HMI.out _).mono ?_; rintro e wm ⟨rfl, hbm⟩
      have hbel2 := bel_trans hbm hbel
      clear hbm hbel c5 c6 c7 q0
      go_wp2_with fail
      have c5 : wm.heap.size < (wm.alloc (.cells #[.int .i64 M, .int .i64 b] 24)).heap.size := by simp
      have c6 : (wm.alloc (.cells #[.int .i64 M, .int .i64 b] 24)).cell? ⟨wm.heap.size, 0, none⟩ = some (.int .i64 M) := by simp [go_sem]
      have c7 : (wm.alloc (.cells #[.int .i64 M, .int .i64 b] 24)).cell? ⟨wm.heap.size, 1, none⟩ = some (.int .i64 b) := by simp [go_sem]
      have hbel := bel_alloc hbel2 (.cells #[.int .i64 M, .int .i64 b] 24)
      clear hbel2
      generalize wm.alloc (.cells #[.int .i64 M, .int .i64 b] 24) = wn at c5 c6 c7 hbel ⊢
      generalize wm.heap.size = n9 at c5 c6 c7 ⊢
      refine wp_region_grow (by kernel_rfl) (by kernel_rfl) ?_
      repeat (go_big_quiet_step (((first | (go_at_call 38; exact grow_ret (HIT.out _)) | (go_at_call 39; exact grow_ret (HSY.out _)) | (go_at_call 40; exact grow_ret (HKI.out _))))))
      refine wpQuiet_nil ?_
      rintro wg hbg
      (try replace hbg := aft2 hbg (by assumption))
      obtain ⟨hcg, hfg, hg1, hg2, hg3, hg4⟩ := aftz hbg
      go_wp2_with fail
      exact ⟨⟨j + 1, rfl, hlt, by rw [HSTJ.out], hbg⟩, by simp only [intOf]; omega⟩
    · have hjl : j = nl := by omega
      subst hjl
      have hfin := bel_trans hbel HB2.out
      have HFIN := Lib.hid hfin; clear hfin hbel
      go_wp2_with fail
      go_returns
      exact ret_eq (by rfl) HFIN.out
end Go.Proofs.YtpjcfnjagknocaaDoor
