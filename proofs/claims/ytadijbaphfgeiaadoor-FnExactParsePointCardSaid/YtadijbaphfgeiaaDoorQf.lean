/- Qf: contract: the reference's reader of a point's text. No conditions. -/
import Derived.Test.YtadijbaphfgeiaaDoorQe
import Derived.Test.YtadijbaphfgeiaaDoorRg
namespace Go.Proofs.YtadijbaphfgeiaaDoor
open Go.RowKit

theorem ptT_mid {x y e : Int} (he : e ≠ 0) {s : ByteArray} (h : ptT x y e = s) :
    5 ≤ s.size ∧ s.size ≤ (frT x (e * e)).size + (frT y (e * e * e)).size + 3 ∧ s.data.toList.getD 0 0 = 40 ∧ s.data.toList.getD (s.size - 1) 0 = 41 ∧ (s.extract 1 (s.size - 1)).data.toList = (frT x (e * e)).data.toList ++ 44 :: (frT y (e * e * e)).data.toList := by
  have hl : s.data.toList.length = s.size := by simp
  have e1 := ptT_list (x := x) (y := y) he
  rw [h] at e1
  have p1 := frT_pos x (e * e)
  have p2 := frT_pos y (e * e * e)
  have a1 : (frT x (e * e)).data.toList.length = (frT x (e * e)).size := by simp
  have a2 : (frT y (e * e * e)).data.toList.length = (frT y (e * e * e)).size := by simp
  have hlen : s.size = (frT x (e * e)).data.toList.length + (frT y (e * e * e)).data.toList.length + 3 := by rw [← hl, e1]; simp; omega
  rw [ext_list]
  rw [e1]
  generalize (frT x (e * e)).data.toList ++ 44 :: (frT y (e * e * e)).data.toList = Z at *
  have hz : s.size = Z.length + 2 := by rw [← hl, e1]; simp
  refine ⟨by omega, by omega, rfl, ?_, ?_⟩
  · rw [hz, show Z.length + 2 - 1 = Z.length + 1 by omega, List.getD_eq_getElem?_getD, List.getElem?_cons_succ, List.getElem?_append_right (Nat.le_refl _), Nat.sub_self]
    rfl
  · rw [hz, show Z.length + 2 - 1 = Z.length + 1 by omega, List.take_succ_cons, List.take_left, List.drop_one, List.tail_cons]
theorem R3.of3 {n B : Nat} {x y e : Value} {w : World} (h : Box3 n B x y e w) : B < w.heap.size ∧ w.cell? ⟨B, 0, none⟩ = some x ∧ w.cell? ⟨B, 1, none⟩ = some y ∧ w.cell? ⟨B, 2, none⟩ = some e := h.2
theorem cell3_keep {B : Nat} {x y e : Value} {w w' : World} (h : B < w.heap.size ∧ w.cell? ⟨B, 0, none⟩ = some x ∧ w.cell? ⟨B, 1, none⟩ = some y ∧ w.cell? ⟨B, 2, none⟩ = some e) (hb : Below w.heap.size w w') :
    B < w'.heap.size ∧ w'.cell? ⟨B, 0, none⟩ = some x ∧ w'.cell? ⟨B, 1, none⟩ = some y ∧ w'.cell? ⟨B, 2, none⟩ = some e :=
  ⟨Nat.lt_of_lt_of_le h.1 hb.size, (hb.cell (p := ⟨B, 0, none⟩) h.1).trans h.2.1, (hb.cell (p := ⟨B, 1, none⟩) h.1).trans h.2.2.1, (hb.cell (p := ⟨B, 2, none⟩) h.1).trans h.2.2.2⟩
theorem two_held {a b : Nat} {x y z t : Value} {w1 w' : World} (hb : Below w1.heap.size w1 w') (ha : a < w1.heap.size) (hb' : b < w1.heap.size) (e0 : w1.cell? ⟨a, 0, none⟩ = some x) (e1 : w1.cell? ⟨a, 1, none⟩ = some y) (f0 : w1.cell? ⟨b, 0, none⟩ = some z) (f1 : w1.cell? ⟨b, 1, none⟩ = some t) :
    Below w1.heap.size w1 w' ∧ w'.cell? ⟨a, 0, none⟩ = some x ∧ w'.cell? ⟨a, 1, none⟩ = some y ∧ w'.cell? ⟨b, 0, none⟩ = some z ∧ w'.cell? ⟨b, 1, none⟩ = some t :=
  ⟨hb, (hb.cell (p := ⟨a, 0, none⟩) ha).trans e0, (hb.cell (p := ⟨a, 1, none⟩) ha).trans e1, (hb.cell (p := ⟨b, 0, none⟩) hb').trans f0, (hb.cell (p := ⟨b, 1, none⟩) hb').trans f1⟩
theorem ptParse_O (a b : Int) (w : World) : Calls Tryd.prog 15 #[.agg #[.int .i64 a, .int .i64 b], .string ⟨#[79]⟩] w (Ret (.tuple #[.agg #[.int .i64 0, .int .i64 0, .int .i64 0], .bool true]) w) := by
  have hO : ((⟨#[79]⟩ : ByteArray).toList == (⟨#[79]⟩ : ByteArray).toList) = true := by simp
  go_enter Tryd.func15, Tryd.ntmps15
  go_wp2_with fail
  refine bodyPost_ret (by simp (maxDischargeDepth := 3) [results, Tryd.results15, go_sem, *]; try rfl) rfl ?_
  exact ret_eq (by rfl) (by repeat (first | exact Below.refl _ _ | (with_reducible assumption) | refine bel_alloc ?_ _ | refine bel_drew ?_ | refine bel_drewN ?_ _ | refine Below.setCell ?_ (by dsimp only; omega) _ | refine bel_trans (by assumption) ?_))
set_option maxHeartbeats 8000000 in
theorem ptParse_any (a b : Int) (s : ByteArray) (w : World) (hcur : curveB a b = true) (hs : s.size ≤ 1048576) :
    Calls Tryd.prog 15 #[.agg #[.int .i64 a, .int .i64 b], .string s] w (Ret (ppt a b s) w) := by
  by_cases hO : s = ⟨#[79]⟩
  · subst hO
    rw [ppt_O hcur]
    exact ptParse_O a b w
  have hOs : (s.toList == [79]) = false := by
    have h9 := str_ne hO
    simpa using h9
  have hfin : ∀ x y e, pointB a b x y e = true → ptT x y e = s → e ≠ 0 := by
    rintro x y e _ h rfl
    exact hO (by rw [← h]; unfold ptT; rw [if_pos rfl])
  clear hO
  by_cases hin : 5 ≤ s.size ∧ s.size ≤ 60
  rotate_left
  · have hi0 : inB (s.size : Int) 5 60 = false := by
      cases h : inB (s.size : Int) 5 60
      · rfl
      · have := inB_true.1 h; omega
    have hv : ppt a b s = .tuple #[.agg #[.int .i64 0, .int .i64 0, .int .i64 0], .bool false] := ppt_no fun x y e h1 h2 => by
      have he := hfin x y e h1 h2
      obtain ⟨p1, p2⟩ := parts_of h1 he
      obtain ⟨q1, q2, _⟩ := ptT_mid he h2
      have := frT_len p1
      have := frT_len p2
      omega
    rw [hv]
    clear hv hfin hin
    go_enter Tryd.func15, Tryd.ntmps15
    go_wp2_with (go_at_call 26; refine (l1In_known hi0 _).mono ?_; rintro e w' ⟨rfl, rfl⟩)
    refine bodyPost_ret (by simp (maxDischargeDepth := 3) [results, Tryd.results15, go_sem, *]; try rfl) rfl ?_
    exact ret_eq (by rfl) (by repeat (first | exact Below.refl _ _ | (with_reducible assumption) | refine bel_alloc ?_ _ | refine bel_drew ?_ | refine bel_drewN ?_ _ | refine Below.setCell ?_ (by dsimp only; omega) _ | refine bel_trans (by assumption) ?_))
  obtain ⟨hn5, hn60⟩ := hin
  have hi1 : inB (s.size : Int) 5 60 = true := inB_true.2 ⟨by omega, by omega⟩
  have hix0 := fun w => idx_run (s := s) (k := 0) (by omega) w
  rw [Int.natCast_zero] at hix0
  have hix1 := fun w => idx_run (s := s) (k := s.size - 1) (by omega) w
  rw [show (((s.size - 1 : Nat)) : Int) = (s.size : Int) - 1 by omega] at hix1
  have w1 := i64_wrap (r := (s.size : Int) - 1) (by omega) (by omega)
  by_cases hc0 : s.data.toList.getD 0 0 = 40
  rotate_left
  · have hv : ppt a b s = .tuple #[.agg #[.int .i64 0, .int .i64 0, .int .i64 0], .bool false] := ppt_no fun x y e h1 h2 => hc0 (ptT_mid (hfin x y e h1 h2) h2).2.2.1
    rw [hv]
    have hz : (((s.data.toList.getD 0 0).toNat : Int) != 40) = true := by
      rw [bne_iff_ne]
      intro e
      exact hc0 (UInt8.toNat_inj.1 (show (s.data.toList.getD 0 0).toNat = (40 : UInt8).toNat by have e2 : (40 : UInt8).toNat = 40 := rfl; omega))
    generalize ((s.data.toList.getD 0 0).toNat : Int) = z0 at *
    clear hv hfin hix1 hc0
    go_enter Tryd.func15, Tryd.ntmps15
    go_wp2_with (go_at_call 26; refine (l1In_known hi1 _).mono ?_; rintro e w' ⟨rfl, rfl⟩)
    refine bodyPost_ret (by simp (maxDischargeDepth := 3) [results, Tryd.results15, go_sem, *]; try rfl) rfl ?_
    exact ret_eq (by rfl) (by repeat (first | exact Below.refl _ _ | (with_reducible assumption) | refine bel_alloc ?_ _ | refine bel_drew ?_ | refine bel_drewN ?_ _ | refine Below.setCell ?_ (by dsimp only; omega) _ | refine bel_trans (by assumption) ?_))
  by_cases hc1 : s.data.toList.getD (s.size - 1) 0 = 41
  rotate_left
  · have hv : ppt a b s = .tuple #[.agg #[.int .i64 0, .int .i64 0, .int .i64 0], .bool false] := ppt_no fun x y e h1 h2 => hc1 (ptT_mid (hfin x y e h1 h2) h2).2.2.2.1
    rw [hv]
    have hz : (((s.data.toList.getD (s.size - 1) 0).toNat : Int) != 41) = true := by
      rw [bne_iff_ne]
      intro e
      exact hc1 (UInt8.toNat_inj.1 (show (s.data.toList.getD (s.size - 1) 0).toNat = (41 : UInt8).toNat by have e2 : (41 : UInt8).toNat = 41 := rfl; omega))
    rw [hc0, show ((40 : UInt8).toNat : Int) = 40 from rfl] at hix0
    generalize ((s.data.toList.getD (s.size - 1) 0).toNat : Int) = z1 at *
    clear hv hfin hc0 hc1
    go_enter Tryd.func15, Tryd.ntmps15
    go_wp2_with (go_at_call 26; refine (l1In_known hi1 _).mono ?_; rintro e w' ⟨rfl, rfl⟩)
    refine bodyPost_ret (by simp (maxDischargeDepth := 3) [results, Tryd.results15, go_sem, *]; try rfl) rfl ?_
    exact ret_eq (by rfl) (by repeat (first | exact Below.refl _ _ | (with_reducible assumption) | refine bel_alloc ?_ _ | refine bel_drew ?_ | refine bel_drewN ?_ _ | refine Below.setCell ?_ (by dsimp only; omega) _ | refine bel_trans (by assumption) ?_))
  rw [hc0, show ((40 : UInt8).toNat : Int) = 40 from rfl] at hix0
  rw [hc1, show ((41 : UInt8).toNat : Int) = 41 from rfl] at hix1
  have hmid : ∀ x y e, pointB a b x y e = true → ptT x y e = s → e ≠ 0 ∧ pcs 44 (s.extract 1 (s.size - 1)).data.toList = [(frT x (e * e)).data.toList, (frT y (e * e * e)).data.toList] := fun x y e h1 h2 => by
    have he := hfin x y e h1 h2
    refine ⟨he, ?_⟩
    rw [(ptT_mid he h2).2.2.2.2, pcs_two (no44 _ _) (no44 _ _)]
  clear hfin hc0 hc1
  have hM : (s.extract 1 (s.size - 1)).size ≤ 1048576 := by rw [ByteArray.size_extract]; omega
  have hsp := fun w => l1Split_any (s.extract 1 (s.size - 1)) 44 w hM
  have e44 : ((44 : UInt8).toNat : Int) = 44 := rfl
  rw [e44] at hsp
  have HMID := Lib.hid hmid; clear hmid
  have HSP := Lib.hid hsp; clear hsp
  go_enter Tryd.func15, Tryd.ntmps15
  go_wp2_with (go_at_call 26; refine (l1In_known hi1 _).mono ?_; rintro e w' ⟨rfl, rfl⟩)
  clear hix0 hix1 w1 hi1 hOs hn5 hn60 e44
  have hbW : Below w.heap.size w ((w.alloc (.cells #[.int .i64 a, .int .i64 b] 23)).alloc (.cells #[.int .i64 0, .int .i64 0, .int .i64 0] 30)) := bel_alloc (bel_alloc (Below.refl _ _) _) _
  have RC0 := Lib.hid ((RV.mk w (.int .i64 a) (.int .i64 b) 23).keep (bel_alloc (Below.refl _ _) (.cells #[.int .i64 0, .int .i64 0, .int .i64 0] 30)))
  have RR0 := Lib.hid (show R3 (w.heap.size + 1) (.int .i64 0) (.int .i64 0) (.int .i64 0) _ by have h9 := R3.mk (w.alloc (.cells #[.int .i64 a, .int .i64 b] 23)) (.int .i64 0) (.int .i64 0) (.int .i64 0) 30; simpa using h9)
  generalize (w.alloc (.cells #[.int .i64 a, .int .i64 b] 23)).alloc (.cells #[.int .i64 0, .int .i64 0, .int .i64 0] 30) = W at *
  obtain ⟨R, hR⟩ : ∃ R, w.heap.size + 1 = R := ⟨_, rfl⟩
  rw [hR] at RR0 ⊢
  obtain ⟨C, hC⟩ : ∃ C, w.heap.size = C := ⟨_, rfl⟩
  rw [hC] at RC0 ⊢
  have HLE := Lib.hid (show w.heap.size ≤ R by omega)
  clear hR hC
  have HW := Lib.hid hbW; clear hbW
  generalize s.extract 1 (s.size - 1) = M at *
  refine (HSP.out _).mono ?_; rintro ee w1 ⟨v, outs, rfl, ho, hown, hol, hb1⟩
  have RC1 := Lib.hid (RC0.out.keep hb1)
  have RR1 := Lib.hid (RR0.out.keep hb1)
  have H1 := Lib.hid (bel_trans hb1 HW.out)
  clear hb1 RC0 RR0 HW HSP
  have hpos : outs.length ≠ 0 := by
    intro h0
    have : outs = [] := List.length_eq_zero_iff.1 h0
    subst this
    cases hl : M.data.toList with
    | nil => rw [hl] at ho; cases ho
    | cons c l =>
      rw [hl, pcs_cons] at ho
      split at ho
      · cases ho
      · split at ho <;> cases ho
  obtain ⟨n, hn⟩ : ∃ n, outs.length = n := ⟨_, rfl⟩
  rcases hown.2 with ⟨_, h⟩ | ⟨g, cap, cur, rfl, hg, hh, hcap, _⟩
  · exact absurd h hpos
  rw [hn]
  by_cases hn2 : n = 2
  rotate_left
  · have hv : ppt a b s = .tuple #[.agg #[.int .i64 0, .int .i64 0, .int .i64 0], .bool false] := ppt_no fun x y e h1 h2 => by
      have h3 := (HMID.out x y e h1 h2).2
      rw [← ho] at h3
      apply hn2
      rw [← hn, ← List.length_map (f := fun x : ByteArray => x.data.toList), h3]
      rfl
    have hn2' : ((n : Int) != 2) = true := by rw [bne_iff_ne]; omega
    obtain ⟨q0, q1, q2, q3, q4, q5, q6⟩ := RR1.out
    have HV := Lib.hid hv
    clear hv hown hh ho hol hpos HMID
    go_wp2_with fail
    refine bodyPost_ret (by simp (maxDischargeDepth := 3) [results, Tryd.results15, go_sem, *]; try rfl) rfl ?_
    exact ret_eq (by rw [HV.out]) (bel_set (bel_set (bel_set H1.out HLE.out _) HLE.out _) HLE.out _)
  subst hn2
  obtain ⟨X, Y, rfl⟩ : ∃ X Y, outs = [X, Y] := by
    match outs, hn with
    | [X, Y], _ => exact ⟨X, Y, rfl⟩
  have hXs : X.size ≤ 1048576 ∧ Y.size ≤ 1048576 := by
    have hl : M.data.toList.length = M.size := by simp
    have hl1 : X.data.toList.length = X.size := by simp
    have hl2 : Y.data.toList.length = Y.size := by simp
    have k1 := pcs_len 44 M.data.toList X.data.toList (by rw [← ho]; simp)
    have k2 := pcs_len 44 M.data.toList Y.data.toList (by rw [← ho]; simp)
    omega
  obtain ⟨hXs, hYs⟩ := hXs
  have hXY : ∀ x y e, pointB a b x y e = true → ptT x y e = s → e ≠ 0 ∧ X = frT x (e * e) ∧ Y = frT y (e * e * e) := fun x y e h1 h2 => by
    obtain ⟨he, h3⟩ := HMID.out x y e h1 h2
    rw [← ho] at h3
    simp only [List.map_cons, List.map_nil, List.cons.injEq, and_true] at h3
    exact ⟨he, ByteArray.ext (Array.ext' h3.1), ByteArray.ext (Array.ext' h3.2)⟩
  have e0 := hown.cellAt 0 (by omega)
  have e1 := hown.cellAt 1 (by omega)
  replace e0 : w1.cell? ⟨g, 0, none⟩ = some (.string X) := e0
  replace e1 : w1.cell? ⟨g, 1, none⟩ = some (.string Y) := e1
  have hlt : g < w1.heap.size := by
    rcases Nat.lt_or_ge g w1.heap.size with h' | h'
    · exact h'
    · rw [Array.getElem?_eq_none h'] at hh; cases hh
  obtain ⟨n1, d1, ok1, hfx, hx⟩ := fpV_parts X
  obtain ⟨n2, d2, ok2, hfy, hy⟩ := fpV_parts Y
  have px := fun w => frParse_any X w hXs
  have py := fun w => frParse_any Y w hYs
  rw [hfx] at px
  rw [hfy] at py
  have PX := Lib.hid px; have PY := Lib.hid py; clear px py
  have HXY := Lib.hid hXY; clear hXY
  have HFX := Lib.hid hfx; have HFY := Lib.hid hfy; clear hfx hfy
  have HX := Lib.hid hx; have HY := Lib.hid hy; clear hx hy
  clear hown hh ho hol hpos hcap hn hXs hYs HMID
  go_wp2_with fail
  refine (PX.out _).mono ?_; rintro ee w2 ⟨rfl, hb2⟩
  have RC2 := Lib.hid (RC1.out.keep hb2)
  have RR2 := Lib.hid (RR1.out.keep hb2)
  have H2 := Lib.hid (bel_trans hb2 H1.out)
  have e1' := (hb2.cell (p := ⟨g, 1, none⟩) hlt).trans e1
  have hlt2 := Nat.lt_of_lt_of_le hlt hb2.size
  have gn : ¬ g = w2.heap.size := by omega
  have gn' : ¬ w2.heap.size = g := by omega
  clear hb2 RC1 RR1 H1 PX e0 e1 hlt
  go_wp2_with fail
  have RX3 := Lib.hid (RV.mk w2 (.int .i64 n1) (.int .i64 d1) 52)
  have RC3 := Lib.hid (RC2.out.keep (bel_alloc (Below.refl _ _) (.cells #[.int .i64 n1, .int .i64 d1] 52)))
  have RR3 := Lib.hid (RR2.out.keep (bel_alloc (Below.refl _ _) (.cells #[.int .i64 n1, .int .i64 d1] 52)))
  have H3 := Lib.hid (bel_alloc H2.out (.cells #[.int .i64 n1, .int .i64 d1] 52))
  clear RC2 RR2 H2 e1' hlt2 gn gn'
  generalize w2.alloc (.cells #[.int .i64 n1, .int .i64 d1] 52) = w3 at *
  generalize w2.heap.size = FX at *
  refine (PY.out _).mono ?_; rintro ee w4 ⟨rfl, hb4⟩
  have RX4 := Lib.hid (RX3.out.keep hb4)
  have RC4 := Lib.hid (RC3.out.keep hb4)
  have RR4 := Lib.hid (RR3.out.keep hb4)
  have H4 := Lib.hid (bel_trans hb4 H3.out)
  clear hb4 RX3 RC3 RR3 H3 PY
  have RY5 := Lib.hid (RV.mk w4 (.int .i64 n2) (.int .i64 d2) 52)
  have RX5 := Lib.hid (RX4.out.keep (bel_alloc (Below.refl _ _) (.cells #[.int .i64 n2, .int .i64 d2] 52)))
  have RC5 := Lib.hid (RC4.out.keep (bel_alloc (Below.refl _ _) (.cells #[.int .i64 n2, .int .i64 d2] 52)))
  have RR5 := Lib.hid (RR4.out.keep (bel_alloc (Below.refl _ _) (.cells #[.int .i64 n2, .int .i64 d2] 52)))
  have H5 := Lib.hid (bel_alloc H4.out (.cells #[.int .i64 n2, .int .i64 d2] 52))
  by_cases hok : ok1 = true ∧ ok2 = true
  rotate_left
  · have hv : ppt a b s = .tuple #[.agg #[.int .i64 0, .int .i64 0, .int .i64 0], .bool false] := ppt_no fun x y e h1 h2 => by
      obtain ⟨he, rfl, rfl⟩ := HXY.out x y e h1 h2
      obtain ⟨p1, p2⟩ := parts_of h1 he
      have f1 := HFX.out
      have f2 := HFY.out
      rw [fpV_yes p1] at f1
      rw [fpV_yes p2] at f2
      simp at f1 f2
      exact hok ⟨f1.2, f2.2⟩
    have HV := Lib.hid hv
    have hRR : R < w4.heap.size := RR4.out.1
    have hRn : ¬ R = w4.heap.size := by omega
    obtain ⟨q0, q1, q2, q3, q4, q5, q6⟩ := RR4.out
    have H4' := Lib.hid H4.out
    clear hv HXY HFX HFY HX HY RX4 RC4 RR4 H4 RY5 RX5 RC5 RR5
    cases ok1
    · go_wp2_with fail
      refine bodyPost_ret (by simp (maxDischargeDepth := 3) [results, Tryd.results15, go_sem, *]; try rfl) rfl ?_
      exact ret_eq (by rw [HV.out]) (bel_alloc (bel_set (bel_set (bel_set H4'.out HLE.out _) HLE.out _) HLE.out _) _)
    · cases ok2
      · go_wp2_with fail
        refine bodyPost_ret (by simp (maxDischargeDepth := 3) [results, Tryd.results15, go_sem, *]; try rfl) rfl ?_
        exact ret_eq (by rw [HV.out]) (bel_alloc (bel_set (bel_set (bel_set H4'.out HLE.out _) HLE.out _) HLE.out _) _)
      · exact absurd ⟨rfl, rfl⟩ hok
  obtain ⟨rfl, rfl⟩ := hok
  have hx : fracB n1 d1 = true ∧ frT n1 d1 = X := by
    rcases HX.out with ⟨_, h1, h2⟩ | ⟨h1, _⟩
    · exact ⟨h1, h2⟩
    · cases h1
  have hd := frac_bd hx.1
  obtain ⟨k, k0, k1, k2⟩ := root_of (d := d1) (by omega)
  have hroot := fun w => frRoot_any d1 k w (by omega) (by omega) k0 k1 k2
  have hkd : ∀ x y e, pointB a b x y e = true → ptT x y e = s → n1 = x ∧ n2 = y ∧ k = e := fun x y e h1 h2 => by
    obtain ⟨he, rfl, rfl⟩ := HXY.out x y e h1 h2
    obtain ⟨p1, p2⟩ := parts_of h1 he
    have f1 := HFX.out
    have f2 := HFY.out
    rw [fpV_yes p1] at f1
    rw [fpV_yes p2] at f2
    simp at f1 f2
    obtain ⟨rfl, rfl⟩ := f1
    obtain ⟨rfl, rfl⟩ := f2
    exact ⟨rfl, rfl, root_eq k0 (by have := (pointB_fin h1 he).e0; omega) k1 k2⟩
  have hval : ppt a b s = if onB a b n1 n2 k = true ∧ ptT n1 n2 k = s then .tuple #[.agg #[.int .i64 n1, .int .i64 n2, .int .i64 k], .bool true] else .tuple #[.agg #[.int .i64 0, .int .i64 0, .int .i64 0], .bool false] := by
    by_cases hc : onB a b n1 n2 k = true ∧ ptT n1 n2 k = s
    · rw [if_pos hc, ← hc.2]
      exact ppt_yes (by unfold pointB; rw [hcur, hc.1]; rfl)
    · rw [if_neg hc]
      refine ppt_no fun x y e h1 h2 => ?_
      obtain ⟨rfl, rfl, rfl⟩ := hkd x y e h1 h2
      exact hc ⟨(by unfold pointB at h1; simp at h1; exact h1.2), h2⟩
  have HVAL := Lib.hid hval; clear hval hkd
  have HRT := Lib.hid hroot; clear hroot
  have HD := Lib.hid hd; clear hd
  clear hx k1 k2 k0 HXY HFX HFY HX HY RX4 RC4 RR4 H4
  have hs4 : w4.heap.size < (w4.alloc (.cells #[.int .i64 n2, .int .i64 d2] 52)).heap.size := by simp
  go_wp2_with fail
  generalize w4.alloc (.cells #[.int .i64 n2, .int .i64 d2] 52) = w5 at *
  generalize w4.heap.size = FY at *
  clear hs4
  obtain ⟨q0, q1, q2, -, -⟩ := RX5.out
  obtain ⟨p0, p1, p2, -, -⟩ := RY5.out
  clear RX5 RY5
  refine' wp_region_box (a0 := _) 12 (fun B w' => Below w5.heap.size w5 w' ∧ Box3 w5.heap.size B (.int .i64 n1) (.int .i64 n2) (.int .i64 k) w') ?_ ?_
  rotate_left
  · go_region_held3 (fun w' => Below w5.heap.size w5 w' ∧ w'.cell? ⟨FX, 0, none⟩ = some (.int .i64 n1) ∧ w'.cell? ⟨FX, 1, none⟩ = some (.int .i64 d1) ∧ w'.cell? ⟨FY, 0, none⟩ = some (.int .i64 n2) ∧ w'.cell? ⟨FY, 1, none⟩ = some (.int .i64 d2)) ((refine two_held ?_ q0 p0 q1 q2 p1 p2; repeat (first | exact Below.refl _ _ | (with_reducible assumption) | refine bel_alloc ?_ _ | refine bel_drew ?_ | refine Below.setCell ?_ (by dsimp only; omega) _ | refine bel_trans (by assumption) ?_))) ((go_at_call 29; refine (HRT.out _).mono ?_; rintro e w' ⟨rfl, hb⟩; (try replace hb := aft2 hb (by assumption)); have hz := hb.size; obtain ⟨hc, hf, hs1, hs2, hs3, hs4⟩ := aftz hb; (try simp at hz)))
    all_goals
      rename_i hHeld
      refine ⟨rfl, _, ⟨by first | rfl | (simp [Act.put]; done) | (simp [Act.put]; rfl), by first | rfl | (simp; done) | (simp; rfl)⟩, hHeld.1, ?_⟩
      clear hHeld
      refine ⟨by first | omega | (simp; done) | (simp; omega), by first | (simp; done) | (simp; omega), ?_, ?_, ?_⟩
      all_goals first | (simp [go_sem]; done) | (simp [go_sem, *]; done)
  rintro B w6 ⟨hbw, hbox⟩
  have hb3 := R3.of3 hbox
  clear hbox q0 q1 q2 p0 p1 p2
  simp only [Act.put, List.setIfInBounds_toArray, List.set_cons_zero, List.set_cons_succ]
  have RC6 := Lib.hid (RC5.out.keep hbw)
  have RR6 := Lib.hid (RR5.out.keep hbw)
  have H6 := Lib.hid (bel_trans hbw H5.out)
  clear hbw RC5 RR5 H5 HRT HD hg
  have BP6 := Lib.hid hb3
  obtain ⟨b0, b1, b2, b3⟩ := hb3
  obtain ⟨s0, s1, s2, -, -⟩ := RC6.out
  obtain ⟨c1, c2, c3, c4, _⟩ := curveB_true.1 hcur
  have hon := fun w => ptOn_any a b n1 n2 k w c1 c2 c3 c4
  have HON := Lib.hid hon; clear hon c1 c2 c3 c4
  go_wp2_with fail
  clear b0 b1 b2 b3 s0 s1 s2
  refine (HON.out _).mono ?_; rintro ee w7 ⟨rfl, hb7⟩
  have H7 := Lib.hid (bel_trans hb7 H6.out)
  have RR7 := Lib.hid (RR6.out.keep hb7)
  have BP7 := Lib.hid (cell3_keep BP6.out hb7)
  clear hb7 RC6 RR6 H6 BP6 HON
  cases hob : onB a b n1 n2 k
  · have HV := Lib.hid HVAL.out
    rw [hob] at HV
    obtain ⟨r0, r1, r2, r3, r4, r5, r6⟩ := RR7.out
    clear RR7 BP7 HVAL
    go_wp2_with fail
    refine bodyPost_ret (by simp (maxDischargeDepth := 3) [results, Tryd.results15, go_sem, *]; try rfl) rfl ?_
    exact ret_eq (by rw [HV.out, if_neg (by simp)]) (bel_set (bel_set (bel_set H7.out HLE.out _) HLE.out _) HLE.out _)
  · obtain ⟨k1, k2, k3, k4, k5, k6, _⟩ := pointB_bd (show pointB a b n1 n2 k = true by unfold pointB; rw [hcur, hob]; rfl)
    have hn := fun w => ptText_any n1 n2 k w k1 k2 k5 k6 k3 k4
    have hv := HVAL.out
    rw [hob] at hv
    have hv2 : ∀ T, ptT n1 n2 k = T → ppt a b s = if T = s then .tuple #[.agg #[.int .i64 n1, .int .i64 n2, .int .i64 k], .bool true] else .tuple #[.agg #[.int .i64 0, .int .i64 0, .int .i64 0], .bool false] := by
      rintro T rfl
      rw [hv]
      simp
    have hv3 := hv2 _ rfl
    clear hv hv2 HVAL
    generalize ptT n1 n2 k = T at *
    have HN := Lib.hid hn; clear hn k1 k2 k3 k4 k5 k6
    have HV := Lib.hid hv3; clear hv3
    obtain ⟨b0, b1, b2, b3⟩ := BP7.out
    go_wp2_with fail
    clear b0 b1 b2 b3
    refine (HN.out _).mono ?_; rintro ee w8 ⟨rfl, hb8⟩
    have H8 := Lib.hid (bel_trans hb8 H7.out)
    obtain ⟨r0, r1, r2, r3, r4, r5, r6⟩ := RR7.out.keep hb8
    obtain ⟨b0, b1, b2, b3⟩ := cell3_keep BP7.out hb8
    clear hb8 BP7 RR7 H7
    by_cases hT : T = s
    · subst hT
      go_wp2_with fail
      refine bodyPost_ret (by simp (maxDischargeDepth := 3) [results, Tryd.results15, go_sem, *]; try rfl) rfl ?_
      exact ret_eq (by first | rw [HV.out, if_pos rfl] | rw [HV.out, if_pos trivial]) (bel_set (bel_set (bel_set H8.out HLE.out _) HLE.out _) HLE.out _)
    · have hTs := str_ne hT
      go_wp2_with fail
      refine bodyPost_ret (by simp (maxDischargeDepth := 3) [results, Tryd.results15, go_sem, *]; try rfl) rfl ?_
      exact ret_eq (by rw [HV.out, if_neg hT]) (bel_set (bel_set (bel_set H8.out HLE.out _) HLE.out _) HLE.out _)
end Go.Proofs.YtadijbaphfgeiaaDoor
