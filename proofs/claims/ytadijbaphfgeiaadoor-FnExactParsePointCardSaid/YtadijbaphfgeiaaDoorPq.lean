/- Pq: contracts: texts of fractions and points, both PointTexts. No conditions. -/
import Derived.Test.YtadijbaphfgeiaaDoorCv
import Derived.Test.YtadijbaphfgeiaaDoorPt
import Derived.Test.YtadijbaphfgeiaaDoorHt
namespace Go.Proofs.YtadijbaphfgeiaaDoor
open Go.RowKit

def frT (n d : Int) : ByteArray := if d = 1 then intS n else intS n ++ ⟨#[47]⟩ ++ intS d
def ptT (x y e : Int) : ByteArray := if e = 0 then ⟨#[79]⟩ else ⟨#[40]⟩ ++ frT x (e * e) ++ ⟨#[44]⟩ ++ frT y (e * e * e) ++ ⟨#[41]⟩
noncomputable def ptV (a b x y e : Int) : Value := if pointB a b x y e = true then .tuple #[.string (ptT x y e), .bool true] else .tuple #[.string ⟨#[]⟩, .bool false]
theorem frT_size {n d : Int} (h0 : -1000000000 ≤ n) (h1 : n ≤ 1000000000) (h2 : 0 ≤ d) (h3 : d ≤ 1000000000) : (frT n d).size ≤ 3000000000 := by
  have s1 := intS_size n
  have s2 := intS_size d
  unfold frT
  split
  · omega
  · rw [ByteArray.size_append, ByteArray.size_append]; show (intS n).size + 1 + (intS d).size ≤ _; omega
theorem intS_nat (m : Nat) : intS (m : Int) = numS m := by unfold intS; rw [if_neg (by omega), Int.natAbs_natCast]
set_option maxHeartbeats 1000000 in
theorem fractionText_any (n d : Int) (w : World) (h0 : -1000000000 ≤ n) (h1 : n ≤ 1000000000) (h2 : 1 ≤ d) (h3 : d ≤ 1000000000) (ht : PowT w) :
    Calls Tryd.prog 56 #[.agg #[.int .i64 n, .int .i64 d]] w (Ret (.string (frT n d)) w) := by
  have s1 := intS_size n
  have s2 := intS_size d
  have z1 : (intS n).size ≤ 1000000002 := by omega
  have z2 : (intS d).size ≤ 1000000002 := by omega
  have hta := ht.keep (Below.alloc (Below.refl w.heap.size w) (Nat.le_refl _) (.cells #[.int .i64 n, .int .i64 d] 52))
  have HT := Lib.hid hta
  clear s1 s2 ht hta
  unfold frT
  by_cases hd : d = 1
  · rw [if_pos hd]
    subst hd
    go_enter Tryd.func56, Tryd.ntmps56
    go_wp2_with fail
    refine (itoaI n (by omega) (by omega) _ HT.out).mono ?_; rintro ee w1 ⟨rfl, hb1⟩
    go_wp2_with fail
    go_ret
    exact ret_eq (by rfl) (by repeat (first | exact Below.refl _ _ | (with_reducible assumption) | refine bel_alloc ?_ _ | refine bel_drew ?_ | refine bel_drewN ?_ _ | refine Below.setCell ?_ (by dsimp only; omega) _ | refine bel_trans (by assumption) ?_))
  · rw [if_neg hd]
    have hdb : (d == 1) = false := by simp [hd]
    have hg : ∀ (m : Int) (g : Grow (w.alloc (.cells #[.int .i64 n, .int .i64 d] 52))), -1000000000 ≤ m → m ≤ 1000000000 → Calls Tryd.prog 44 #[.int .i64 m] g.wd (Ret (.string (intS m)) g.wd) := fun m g h h' => itoaI m (by omega) (by omega) g.wd (HT.out.keep g.2)
    have HG := Lib.hid hg; clear hg
    go_enter Tryd.func56, Tryd.ntmps56
    go_wp2_with fail
    refine wp_region_grow (by kernel_rfl) (by kernel_rfl) ?_
    repeat (go_big_quiet_step (((go_at_call 44; exact grow_ret (HG.out _ _ (by omega) (by omega))))))
    refine wpQuiet_nil ?_
    rintro wg hbg
    (try replace hbg := aft2 hbg (by assumption))
    obtain ⟨hcg, hfg, hg1, hg2, hg3, hg4⟩ := aftz hbg
    go_wp2_with fail
    go_ret
    exact ret_eq (by rfl) (by repeat (first | exact Below.refl _ _ | (with_reducible assumption) | refine bel_alloc ?_ _ | refine bel_drew ?_ | refine bel_drewN ?_ _ | refine Below.setCell ?_ (by dsimp only; omega) _ | refine bel_trans (by assumption) ?_))
set_option maxHeartbeats 1000000 in
theorem frText_any (n d : Int) (w : World) (h0 : -1000000000 ≤ n) (h1 : n ≤ 1000000000) (h2 : 1 ≤ d) (h3 : d ≤ 1000000000) :
    Calls Tryd.prog 48 #[.agg #[.int .i64 n, .int .i64 d]] w (Ret (.string (frT n d)) w) := by
  have s1 := intS_size n
  have s2 := intS_size d
  have z1 : (intS n).size ≤ 1000000002 := by omega
  have z2 : (intS d).size ≤ 1000000002 := by omega
  obtain ⟨m, hm⟩ : ∃ m : Nat, d = m := ⟨d.toNat, by omega⟩
  have hn : ∀ w, Calls Tryd.prog 60 #[.int .i64 d] w (Ret (.string (intS d)) w) := fun w => by rw [hm, intS_nat]; exact l1Num_any m w (by omega)
  have HN := Lib.hid hn
  clear s1 s2 hn hm
  unfold frT
  by_cases hd : d = 1
  · rw [if_pos hd]
    subst hd
    go_enter Tryd.func48, Tryd.ntmps48
    go_wp2_with fail
    refine (l1Int_any n _ (by omega) (by omega)).mono ?_; rintro ee w1 ⟨rfl, hb1⟩
    go_wp2_with fail
    go_ret
    exact ret_eq (by rfl) (by repeat (first | exact Below.refl _ _ | (with_reducible assumption) | refine bel_alloc ?_ _ | refine bel_drew ?_ | refine bel_drewN ?_ _ | refine Below.setCell ?_ (by dsimp only; omega) _ | refine bel_trans (by assumption) ?_))
  · rw [if_neg hd]
    have hdb : (d == 1) = false := by simp [hd]
    go_enter Tryd.func48, Tryd.ntmps48
    go_wp2_with fail
    refine wp_region_grow (by kernel_rfl) (by kernel_rfl) ?_
    repeat (go_big_quiet_step (((first | (go_at_call 40; exact grow_ret (l1Int_any _ _ (by omega) (by omega))) | (go_at_call 60; exact grow_ret (HN.out _))))))
    refine wpQuiet_nil ?_
    rintro wg hbg
    (try replace hbg := aft2 hbg (by assumption))
    obtain ⟨hcg, hfg, hg1, hg2, hg3, hg4⟩ := aftz hbg
    go_wp2_with fail
    go_ret
    exact ret_eq (by rfl) (by repeat (first | exact Below.refl _ _ | (with_reducible assumption) | refine bel_alloc ?_ _ | refine bel_drew ?_ | refine bel_drewN ?_ _ | refine Below.setCell ?_ (by dsimp only; omega) _ | refine bel_trans (by assumption) ?_))
set_option maxHeartbeats 2000000 in
theorem pointText_any (x y e : Int) (w : World) (h0 : -10000 ≤ x) (h1 : x ≤ 10000) (h2 : -1800000 ≤ y) (h3 : y ≤ 1800000) (h4 : 0 ≤ e) (h5 : e ≤ 20) (ht : PowT w) :
    Calls Tryd.prog 38 #[.agg #[.int .i64 x, .int .i64 y, .int .i64 e]] w (Ret (.string (ptT x y e)) w) := by
  unfold ptT
  by_cases he : e = 0
  · rw [if_pos he]
    subst he
    go_enter Tryd.func38, Tryd.ntmps38
    go_wp2_with fail
    go_ret
    exact ret_eq (by rfl) (by repeat (first | exact Below.refl _ _ | (with_reducible assumption) | refine bel_alloc ?_ _ | refine bel_drew ?_ | refine bel_drewN ?_ _ | refine Below.setCell ?_ (by dsimp only; omega) _ | refine bel_trans (by assumption) ?_))
  · rw [if_neg he]
    have heb : (e == 0) = false := by simp [he]
    have b2 := mul_bd (a := e) (b := e) (A := 20) (B := 20) (by omega) h5 (by omega) h5
    have b3 := mul_bd (a := e * e) (b := e) (A := 400) (B := 20) b2.1 b2.2 (by omega) h5
    have p2 : 1 ≤ e * e := by have := Int.mul_le_mul_of_nonneg_left (a := 1) (b := e) (c := e) (by omega) (by omega); omega
    have p3 : 1 ≤ e * e * e := by have := Int.mul_le_mul_of_nonneg_left (a := 1) (b := e) (c := e * e) (by omega) (by omega); omega
    have x2 : IntKind.i64.wrap (e * e) = e * e := i64_wrap (by omega) (by omega)
    have x3 : IntKind.i64.wrap (e * e * e) = e * e * e := i64_wrap (by omega) (by omega)
    have z1 := frT_size (n := x) (d := e * e) (by omega) (by omega) (by omega) (by omega)
    have z2 := frT_size (n := y) (d := e * e * e) (by omega) (by omega) (by omega) (by omega)
    have hta := ht.keep (Below.alloc (Below.refl w.heap.size w) (Nat.le_refl _) (.cells #[.int .i64 x, .int .i64 y, .int .i64 e] 30))
    have HT := Lib.hid hta
    clear ht hta
    have hf : ∀ (n d : Int) (g : Grow (w.alloc (.cells #[.int .i64 x, .int .i64 y, .int .i64 e] 30))), -2000000 ≤ n → n ≤ 2000000 → 1 ≤ d → d ≤ 10000 → Calls Tryd.prog 56 #[.agg #[.int .i64 n, .int .i64 d]] g.wd (Ret (.string (frT n d)) g.wd) := fun n d g k0 k1 k2 k3 => fractionText_any n d g.wd (by omega) (by omega) k2 (by omega) (HT.out.keep g.2)
    have HF := Lib.hid hf; clear hf
    go_enter Tryd.func38, Tryd.ntmps38
    go_wp2_with fail
    refine wp_region_grow (by kernel_rfl) (by kernel_rfl) ?_
    repeat (go_big_quiet_step (((go_at_call 56; exact grow_ret (HF.out _ _ _ (by omega) (by omega) (by omega) (by omega))))))
    refine wpQuiet_nil ?_
    rintro wg hbg
    (try replace hbg := aft2 hbg (by assumption))
    obtain ⟨hcg, hfg, hg1, hg2, hg3, hg4⟩ := aftz hbg
    go_wp2_with fail
    go_ret
    exact ret_eq (by rfl) (by repeat (first | exact Below.refl _ _ | (with_reducible assumption) | refine bel_alloc ?_ _ | refine bel_drew ?_ | refine bel_drewN ?_ _ | refine Below.setCell ?_ (by dsimp only; omega) _ | refine bel_trans (by assumption) ?_))
theorem ptPart_any (n d : Int) (w : World) (h0 : -2000000 ≤ n) (h1 : n ≤ 2000000) (h2 : 1 ≤ d) (h3 : d ≤ 10000) :
    Calls Tryd.prog 52 #[.int .i64 n, .int .i64 d] w (Ret (.string (frT n d)) w) := by
  go_enter Tryd.func52, Tryd.ntmps52
  go_wp2_with fail
  refine (frText_any n d _ (by omega) (by omega) h2 (by omega)).mono ?_; rintro ee w1 ⟨rfl, hb1⟩
  go_wp2_with fail
  go_ret
  exact ret_eq (by rfl) (by repeat (first | exact Below.refl _ _ | (with_reducible assumption) | refine bel_alloc ?_ _ | refine bel_drew ?_ | refine bel_drewN ?_ _ | refine Below.setCell ?_ (by dsimp only; omega) _ | refine bel_trans (by assumption) ?_))
set_option maxHeartbeats 2000000 in
theorem ptText_any (x y e : Int) (w : World) (h0 : -10000 ≤ x) (h1 : x ≤ 10000) (h2 : -1800000 ≤ y) (h3 : y ≤ 1800000) (h4 : 0 ≤ e) (h5 : e ≤ 20) :
    Calls Tryd.prog 31 #[.agg #[.int .i64 x, .int .i64 y, .int .i64 e]] w (Ret (.string (ptT x y e)) w) := by
  unfold ptT
  by_cases he : e = 0
  · rw [if_pos he]
    subst he
    go_enter Tryd.func31, Tryd.ntmps31
    go_wp2_with fail
    go_ret
    exact ret_eq (by rfl) (by repeat (first | exact Below.refl _ _ | (with_reducible assumption) | refine bel_alloc ?_ _ | refine bel_drew ?_ | refine bel_drewN ?_ _ | refine Below.setCell ?_ (by dsimp only; omega) _ | refine bel_trans (by assumption) ?_))
  · rw [if_neg he]
    have heb : (e == 0) = false := by simp [he]
    have b2 := mul_bd (a := e) (b := e) (A := 20) (B := 20) (by omega) h5 (by omega) h5
    have b3 := mul_bd (a := e * e) (b := e) (A := 400) (B := 20) b2.1 b2.2 (by omega) h5
    have p2 : 1 ≤ e * e := by have := Int.mul_le_mul_of_nonneg_left (a := 1) (b := e) (c := e) (by omega) (by omega); omega
    have p3 : 1 ≤ e * e * e := by have := Int.mul_le_mul_of_nonneg_left (a := 1) (b := e) (c := e * e) (by omega) (by omega); omega
    have x2 : IntKind.i64.wrap (e * e) = e * e := i64_wrap (by omega) (by omega)
    have x3 : IntKind.i64.wrap (e * e * e) = e * e * e := i64_wrap (by omega) (by omega)
    have z1 := frT_size (n := x) (d := e * e) (by omega) (by omega) (by omega) (by omega)
    have z2 := frT_size (n := y) (d := e * e * e) (by omega) (by omega) (by omega) (by omega)
    go_enter Tryd.func31, Tryd.ntmps31
    go_wp2_with fail
    refine wp_region_grow (by kernel_rfl) (by kernel_rfl) ?_
    repeat (go_big_quiet_step (((go_at_call 52; exact grow_ret (ptPart_any _ _ _ (by omega) (by omega) (by omega) (by omega))))))
    refine wpQuiet_nil ?_
    rintro wg hbg
    (try replace hbg := aft2 hbg (by assumption))
    obtain ⟨hcg, hfg, hg1, hg2, hg3, hg4⟩ := aftz hbg
    go_wp2_with fail
    go_ret
    exact ret_eq (by rfl) (by repeat (first | exact Below.refl _ _ | (with_reducible assumption) | refine bel_alloc ?_ _ | refine bel_drew ?_ | refine bel_drewN ?_ _ | refine Below.setCell ?_ (by dsimp only; omega) _ | refine bel_trans (by assumption) ?_))
end Go.Proofs.YtadijbaphfgeiaaDoor
