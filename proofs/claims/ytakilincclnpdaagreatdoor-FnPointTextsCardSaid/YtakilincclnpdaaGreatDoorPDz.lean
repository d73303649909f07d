/- Pb: contracts of the reference: a text cut at a byte, numerals read, with a sign. No conditions. -/
import Derived.Test.YtakilincclnpdaaGreatDoorSyz
import Derived.Test.YtakilincclnpdaaGreatDoorPCz
import Derived.Test.YtakilincclnpdaaGreatDoorItlz
import Derived.Lib.LaidTab
import Derived.Lib.QuietBelow
import Derived.WalkSmall
import Derived.LaidSub
import Derived.MakeChecks
import Derived.Test.YtakilincclnpdaaGreatDoorPAz
import Derived.Test.YtakilincclnpdaaGreatDoorPXz
import Derived.Test.YtakilincclnpdaaGreatDoorHtz
import Derived.Lib.AtoiTie
import Derived.Lib.IndexBytes
import Derived.Lib.IndexMore
import Derived.Lib.Join
import Derived.Test.YtakilincclnpdaaGreatDoorProg
import Derived.Test.YtakilincclnpdaaGreatDoorPBz
import Derived.Test.YtakilincclnpdaaGreatDoorFacz
import Derived.Test.YtakilincclnpdaaGreatDoorFrz
/- Sz: plain: symbols of reductions as bytes; how often a prime divides. No conditions. -/
namespace Go.Proofs.YtakilincclnpdaaGreatDoor
open Go.RowKit

theorem val_le {p : Int} (hp : 2 ≤ p) : ∀ (k : Nat) (a : Int), a ≠ 0 → a.natAbs < 2 ^ k → valP a p ≤ k
  | 0, a, ha, h => by omega
  | k + 1, a, ha, h => by
    by_cases hd : p ∣ a
    · obtain ⟨c, rfl⟩ := hd
      have hc : c ≠ 0 := fun e => ha (by rw [e, Int.mul_zero])
      rw [valP_mul_self hp hc]
      have h1 : c.natAbs < 2 ^ k := by
        rw [Int.natAbs_mul] at h
        have h2 : 2 * c.natAbs ≤ p.natAbs * c.natAbs := Nat.mul_le_mul_right _ (by omega)
        rw [Nat.pow_succ] at h
        omega
      have := val_le hp k c hc h1
      push_cast
      omega
    · rw [valP_not hd]
      omega
theorem val_disc {D p : Int} (hp : 2 ≤ p) (hD : D ≠ 0) (h1 : -6700000000 ≤ D) (h2 : D ≤ 6700000000) : valP D p ≤ 33 :=
  val_le hp 33 D hD (by
    have : (2 : Nat) ^ 33 = 8589934592 := by decide
    omega)
theorem val_zero_not {c p : Int} (hp : 2 ≤ p) (hc : c ≠ 0) (h : valP c p = 0) : ¬ p ∣ c := by
  rintro ⟨e, rfl⟩
  have he : e ≠ 0 := fun k => hc (by rw [k, Int.mul_zero])
  rw [valP_mul_self hp he] at h
  have := valP_nonneg e p
  omega
theorem val_up {a p k : Int} (hp : 2 ≤ p) (ha : a ≠ 0) (h : valP a p = k + 1) (hk : 0 ≤ k) : ∃ c, a = p * c ∧ c ≠ 0 ∧ valP c p = k := by
  by_cases hd : p ∣ a
  · obtain ⟨c, rfl⟩ := hd
    have hc : c ≠ 0 := fun e => ha (by rw [e, Int.mul_zero])
    rw [valP_mul_self hp hc] at h
    exact ⟨c, rfl, hc, by omega⟩
  · rw [valP_not hd] at h
    omega
theorem tmod_dvd {a m : Int} : a.tmod m = 0 ↔ m ∣ a := ⟨Int.dvd_of_tmod_eq_zero, Int.tmod_eq_zero_of_dvd⟩
theorem val2 {a p : Int} (hp : 2 ≤ p) : (a ≠ 0 ∧ valP a p = 2) ↔ (a.tmod (p * p) = 0 ∧ a.tmod (p * p * p) ≠ 0) := by
  rw [tmod_dvd, Ne, Ne, tmod_dvd]
  constructor
  · rintro ⟨ha, h⟩
    obtain ⟨c, rfl, hc, h1⟩ := val_up (k := 1) hp ha h (by omega)
    obtain ⟨e, rfl, he, h2⟩ := val_up (k := 0) hp hc h1 (by omega)
    refine ⟨⟨e, by rw [Int.mul_assoc]⟩, ?_⟩
    rintro ⟨f, hf⟩
    refine val_zero_not hp he h2 ⟨f, ?_⟩
    have h3 : (p * p) * e = (p * p) * (p * f) := by rw [← Int.mul_assoc (p * p), ← hf, Int.mul_assoc]
    exact Int.eq_of_mul_eq_mul_left (Int.mul_ne_zero (by omega) (by omega)) h3
  · rintro ⟨⟨e, rfl⟩, h⟩
    have he : e ≠ 0 := fun k => h ⟨0, by rw [k]; simp⟩
    have hd : ¬ p ∣ e := fun ⟨f, hf⟩ => h ⟨f, by rw [hf, ← Int.mul_assoc]⟩
    refine ⟨Int.mul_ne_zero (Int.mul_ne_zero (by omega) (by omega)) he, ?_⟩
    rw [Int.mul_assoc, valP_mul_self hp (Int.mul_ne_zero (by omega) he), valP_mul_self hp he, valP_not hd]
    rfl
theorem val3 {a p : Int} (hp : 2 ≤ p) : (a ≠ 0 ∧ valP a p = 3) ↔ (a.tmod (p * p * p) = 0 ∧ a.tmod (p * p * p * p) ≠ 0) := by
  rw [tmod_dvd, Ne, Ne, tmod_dvd]
  constructor
  · rintro ⟨ha, h⟩
    obtain ⟨c, rfl, hc, h1⟩ := val_up (k := 2) hp ha h (by omega)
    obtain ⟨e, rfl, he, h2⟩ := val_up (k := 1) hp hc h1 (by omega)
    obtain ⟨g, rfl, hg, h3⟩ := val_up (k := 0) hp he h2 (by omega)
    refine ⟨⟨g, by rw [Int.mul_assoc, Int.mul_assoc]⟩, ?_⟩
    rintro ⟨f, hf⟩
    refine val_zero_not hp hg h3 ⟨f, ?_⟩
    have h4 : (p * p * p) * g = (p * p * p) * (p * f) := by rw [← Int.mul_assoc (p * p * p), ← hf, Int.mul_assoc, Int.mul_assoc]
    exact Int.eq_of_mul_eq_mul_left (Int.mul_ne_zero (Int.mul_ne_zero (by omega) (by omega)) (by omega)) h4
  · rintro ⟨⟨e, rfl⟩, h⟩
    have he : e ≠ 0 := fun k => h ⟨0, by rw [k]; simp⟩
    have hd : ¬ p ∣ e := fun ⟨f, hf⟩ => h ⟨f, by rw [hf, ← Int.mul_assoc]⟩
    refine ⟨Int.mul_ne_zero (Int.mul_ne_zero (Int.mul_ne_zero (by omega) (by omega)) (by omega)) he, ?_⟩
    rw [Int.mul_assoc, Int.mul_assoc, valP_mul_self hp (Int.mul_ne_zero (by omega) (Int.mul_ne_zero (by omega) he)), valP_mul_self hp (Int.mul_ne_zero (by omega) he), valP_mul_self hp he, valP_not hd]
    rfl
/-- the symbol of an additive kind without a star of its own. -/
def addS (n : Nat) : ByteArray := if n = 2 then ⟨#[73, 73]⟩ else if n = 3 then ⟨#[73, 73, 73]⟩ else if n = 4 then ⟨#[73, 86]⟩ else if n = 6 then ⟨#[73, 48, 42]⟩ else if n = 8 then ⟨#[73, 86, 42]⟩ else if n = 9 then ⟨#[73, 73, 73, 42]⟩ else ⟨#[73, 73, 42]⟩
/-- is it a star with a number? -/
def starB (A B p : Int) (n : Nat) : Bool := decide ((A ≠ 0 ∧ valP A p = 2) ∧ (B ≠ 0 ∧ valP B p = 3) ∧ 6 < n)
def symS (A B p : Int) (k n : Nat) : ByteArray := if k = 1 then (if starB A B p n = true then ⟨#[73]⟩ ++ numS (n - 6) ++ ⟨#[42]⟩ else addS n) else ⟨#[73]⟩ ++ numS n
end Go.Proofs.YtakilincclnpdaaGreatDoor
/- Ita: contract: strconv.Itoa with the table of powers of ten. No conditions. -/
namespace Go.Proofs.YtakilincclnpdaaGreatDoor
open Go.RowKit

/-- the table of powers of ten lies as the program's text lays it. -/
def PowT (w : World) : Prop := Lib.TabIs Tryz.prog w "internal/strconv.uint64pow10" .u64 Lib.pow10Tab ∧ 2 < w.heap.size
theorem gPow : Tryz.prog.globalNamed "internal/strconv.uint64pow10" = some 2 := by kernel_rfl
theorem PowT.keep {w w' : World} (h : PowT w) (hb : Below w.heap.size w w') : PowT w' :=
  ⟨var?_below hb gPow h.2 h.1, Nat.lt_of_lt_of_le h.2 hb.size⟩
theorem itoaT (i : Nat) (hi : i ≤ 1000000) (w : World) (ht : PowT w) : Calls Tryz.prog 115 #[.int .i64 i] w (Ret (.string (numS i)) w) :=
  (Tryz.strconv_Itoa i (by omega) (by omega) w ht.1).mono fun _ w' ⟨h1, k, os, h2⟩ => by
    subst h2
    have e : Lib.itoa (i : Int) = Lib.decDigits i := by unfold Lib.itoa; rw [if_neg (by omega)]; rfl
    rw [e] at h1
    exact ⟨h1, below_regrown w (w.drewN k).drawn os⟩
end Go.Proofs.YtakilincclnpdaaGreatDoor
/- Cv: contracts: numerals with a sign, the reference's text of a curve. No conditions. -/
namespace Go.Proofs.YtakilincclnpdaaGreatDoor
open Go.RowKit

def intS (n : Int) : ByteArray := if n < 0 then ⟨#[45]⟩ ++ numS n.natAbs else numS n.natAbs
theorem intS_itoa (n : Int) : (⟨(Lib.itoa n).toArray⟩ : ByteArray) = intS n := by
  unfold intS Lib.itoa
  by_cases h : n < 0
  · rw [if_pos h, if_pos h]
    unfold numS
    apply ByteArray.ext
    simp
  · rw [if_neg h, if_neg h]
    unfold numS
    rw [show n.toNat = n.natAbs by omega]
theorem intS_size (n : Int) : (intS n).size ≤ n.natAbs + 2 := by
  have := numS_size n.natAbs
  unfold intS
  split
  · rw [ByteArray.size_append]; show 1 + _ ≤ _; omega
  · omega
theorem itoaI (n : Int) (h0 : -10000000000 ≤ n) (h1 : n ≤ 10000000000) (w : World) (ht : PowT w) : Calls Tryz.prog 115 #[.int .i64 n] w (Ret (.string (intS n)) w) :=
  (Tryz.strconv_Itoa n (by omega) (by omega) w ht.1).mono fun _ w' ⟨h1, k, os, h2⟩ => by
    subst h2
    rw [intS_itoa] at h1
    exact ⟨h1, below_regrown w (w.drewN k).drawn os⟩
theorem l1Int_any (n : Int) (w : World) (h0 : -10000000000 ≤ n) (h1 : n ≤ 10000000000) : Calls Tryz.prog 173 #[.int .i64 n] w (Ret (.string (intS n)) w) := by
  have hz := numS_size n.natAbs
  obtain ⟨m, hm⟩ : ∃ m : Nat, n.natAbs = m := ⟨_, rfl⟩
  by_cases h : n < 0
  · have hn : n = -(m : Int) := by omega
    have e : intS n = ⟨#[45]⟩ ++ numS m := by unfold intS; rw [if_pos h, hm]
    rw [e]
    rw [hm] at hz
    subst hn
    have hw : IntKind.i64.wrap (m : Int) = m := i64_wrap (by omega) (by omega)
    have hm0 : 0 < m := by omega
    go_enter Tryz.func173, Tryz.ntmps173
    go_wp2_with fail
    refine (l1Num_any m _ (by omega)).mono ?_; rintro e w1 ⟨rfl, hb1⟩
    go_wp2_with fail
    go_ret
    exact ret_eq (by rfl) hb1
  · have hn : n = (m : Int) := by omega
    have e : intS n = numS m := by unfold intS; rw [if_neg h, hm]
    rw [e]
    subst hn
    have hm0 : (0 : Int) ≤ (m : Int) := by omega
    go_enter Tryz.func173, Tryz.ntmps173
    go_wp2_with fail
    refine (l1Num_any m _ (by omega)).mono ?_; rintro e w1 ⟨rfl, hb1⟩
    go_wp2_with fail
    go_ret
    exact ret_eq (by rfl) hb1
def cvT (a b : Int) : ByteArray := intS a ++ ⟨#[32]⟩ ++ intS b
noncomputable def cvV (a b : Int) : Value := if curveB a b = true then .tuple #[.string (cvT a b), .bool true] else .tuple #[.string ⟨#[]⟩, .bool false]
end Go.Proofs.YtakilincclnpdaaGreatDoor
/- Pq: contracts: texts of fractions and points, both PointTexts. No conditions. -/
namespace Go.Proofs.YtakilincclnpdaaGreatDoor
open Go.RowKit

def frT (n d : Int) : ByteArray := if d = 1 then intS n else intS n ++ ⟨#[47]⟩ ++ intS d
def ptT (x y e : Int) : ByteArray := if e = 0 then ⟨#[79]⟩ else ⟨#[40]⟩ ++ frT x (e * e) ++ ⟨#[44]⟩ ++ frT y (e * e * e) ++ ⟨#[41]⟩
noncomputable def ptV (a b x y e : Int) : Value := if pointB a b x y e = true then .tuple #[.string (ptT x y e), .bool true] else .tuple #[.string ⟨#[]⟩, .bool false]
theorem frT_size {n d : Int} (h0 : -1000000000 ≤ n) (h1 : n ≤ 1000000000) (h2 : 0 ≤ d) (h3 : d ≤ 1000000000) : (frT n d).size ≤ 3000000000 := by
  have s1 := intS_size n
  have s2 := intS_size d
  unfold frT
  split
  · omega
  · rw [ByteArray.size_append, ByteArray.size_append]; show (intS n).size + 1 + (intS d).size ≤ _; omega
theorem intS_nat (m : Nat) : intS (m : Int) = numS m := by unfold intS; rw [if_neg (by omega), Int.natAbs_natCast]
set_option maxHeartbeats 1000000 in
theorem fractionText_any (n d : Int) (w : World) (h0 : -1000000000 ≤ n) (h1 : n ≤ 1000000000) (h2 : 1 ≤ d) (h3 : d ≤ 1000000000) (ht : PowT w) :
    Calls Tryz.prog 127 #[.agg #[.int .i64 n, .int .i64 d]] w (Ret (.string (frT n d)) w) := by
  have s1 := intS_size n
  have s2 := intS_size d
  have z1 : (intS n).size ≤ 1000000002 := by omega
  have z2 : (intS d).size ≤ 1000000002 := by omega
  have hta := ht.keep (Below.alloc (Below.refl w.heap.size w) (Nat.le_refl _) (.cells #[.int .i64 n, .int .i64 d] 62))
  have HT := Lib.hid hta
  clear s1 s2 ht hta
  unfold frT
  by_cases hd : d = 1
  · rw [if_pos hd]
    subst hd
    go_enter Tryz.func127, Tryz.ntmps127
    go_wp2_with fail
    refine (itoaI n (by omega) (by omega) _ HT.out).mono ?_; rintro ee w1 ⟨rfl, hb1⟩
    go_wp2_with fail
    go_ret
    exact ret_eq (by rfl) (by repeat (first | exact Below.refl _ _ | (with_reducible assumption) | refine bel_alloc ?_ _ | refine bel_drew ?_ | refine bel_drewN ?_ _ | refine Below.setCell ?_ (by dsimp only; omega) _ | refine bel_trans (by assumption) ?_))
  · rw [if_neg hd]
    have hdb : (d == 1) = false := by simp [hd]
    have hg : ∀ (m : Int) (g : Grow (w.alloc (.cells #[.int .i64 n, .int .i64 d] 62))), -1000000000 ≤ m → m ≤ 1000000000 → Calls Tryz.prog 115 #[.int .i64 m] g.wd (Ret (.string (intS m)) g.wd) := fun m g h h' => itoaI m (by omega) (by omega) g.wd (HT.out.keep g.2)
    have HG := Lib.hid hg; clear hg
    go_enter Tryz.func127, Tryz.ntmps127
    go_wp2_with fail
    refine wp_region_grow (by kernel_rfl) (by kernel_rfl) ?_
    repeat (go_big_quiet_step (((go_at_call 115; exact grow_ret (HG.out _ _ (by omega) (by omega))))))
    refine wpQuiet_nil ?_
    rintro wg hbg
    (try replace hbg := aft2 hbg (by assumption))
    obtain ⟨hcg, hfg, hg1, hg2, hg3, hg4⟩ := aftz hbg
    go_wp2_with fail
    go_ret
    exact ret_eq (by rfl) (by repeat (first | exact Below.refl _ _ | (with_reducible assumption) | refine bel_alloc ?_ _ | refine bel_drew ?_ | refine bel_drewN ?_ _ | refine Below.setCell ?_ (by dsimp only; omega) _ | refine bel_trans (by assumption) ?_))
set_option maxHeartbeats 1000000 in
theorem frText_any (n d : Int) (w : World) (h0 : -1000000000 ≤ n) (h1 : n ≤ 1000000000) (h2 : 1 ≤ d) (h3 : d ≤ 1000000000) :
    Calls Tryz.prog 156 #[.agg #[.int .i64 n, .int .i64 d]] w (Ret (.string (frT n d)) w) := by
  have s1 := intS_size n
  have s2 := intS_size d
  have z1 : (intS n).size ≤ 1000000002 := by omega
  have z2 : (intS d).size ≤ 1000000002 := by omega
  obtain ⟨m, hm⟩ : ∃ m : Nat, d = m := ⟨d.toNat, by omega⟩
  have hn : ∀ w, Calls Tryz.prog 118 #[.int .i64 d] w (Ret (.string (intS d)) w) := fun w => by rw [hm, intS_nat]; exact l1Num_any m w (by omega)
  have HN := Lib.hid hn
  clear s1 s2 hn hm
  unfold frT
  by_cases hd : d = 1
  · rw [if_pos hd]
    subst hd
    go_enter Tryz.func156, Tryz.ntmps156
    go_wp2_with fail
    refine (l1Int_any n _ (by omega) (by omega)).mono ?_; rintro ee w1 ⟨rfl, hb1⟩
    go_wp2_with fail
    go_ret
    exact ret_eq (by rfl) (by repeat (first | exact Below.refl _ _ | (with_reducible assumption) | refine bel_alloc ?_ _ | refine bel_drew ?_ | refine bel_drewN ?_ _ | refine Below.setCell ?_ (by dsimp only; omega) _ | refine bel_trans (by assumption) ?_))
  · rw [if_neg hd]
    have hdb : (d == 1) = false := by simp [hd]
    go_enter Tryz.func156, Tryz.ntmps156
    go_wp2_with fail
    refine wp_region_grow (by kernel_rfl) (by kernel_rfl) ?_
    repeat (go_big_quiet_step (((first | (go_at_call 173; exact grow_ret (l1Int_any _ _ (by omega) (by omega))) | (go_at_call 118; exact grow_ret (HN.out _))))))
    refine wpQuiet_nil ?_
    rintro wg hbg
    (try replace hbg := aft2 hbg (by assumption))
    obtain ⟨hcg, hfg, hg1, hg2, hg3, hg4⟩ := aftz hbg
    go_wp2_with fail
    go_ret
    exact ret_eq (by rfl) (by repeat (first | exact Below.refl _ _ | (with_reducible assumption) | refine bel_alloc ?_ _ | refine bel_drew ?_ | refine bel_drewN ?_ _ | refine Below.setCell ?_ (by dsimp only; omega) _ | refine bel_trans (by assumption) ?_))
set_option maxHeartbeats 2000000 in
theorem pointText_any (x y e : Int) (w : World) (h0 : -10000 ≤ x) (h1 : x ≤ 10000) (h2 : -1800000 ≤ y) (h3 : y ≤ 1800000) (h4 : 0 ≤ e) (h5 : e ≤ 20) (ht : PowT w) :
    Calls Tryz.prog 86 #[.agg #[.int .i64 x, .int .i64 y, .int .i64 e]] w (Ret (.string (ptT x y e)) w) := by
  unfold ptT
  by_cases he : e = 0
  · rw [if_pos he]
    subst he
    go_enter Tryz.func86, Tryz.ntmps86
    go_wp2_with fail
    go_ret
    exact ret_eq (by rfl) (by repeat (first | exact Below.refl _ _ | (with_reducible assumption) | refine bel_alloc ?_ _ | refine bel_drew ?_ | refine bel_drewN ?_ _ | refine Below.setCell ?_ (by dsimp only; omega) _ | refine bel_trans (by assumption) ?_))
  · rw [if_neg he]
    have heb : (e == 0) = false := by simp [he]
    have b2 := mul_bd (a := e) (b := e) (A := 20) (B := 20) (by omega) h5 (by omega) h5
    have b3 := mul_bd (a := e * e) (b := e) (A := 400) (B := 20) b2.1 b2.2 (by omega) h5
    have p2 : 1 ≤ e * e := by have := Int.mul_le_mul_of_nonneg_left (a := 1) (b := e) (c := e) (by omega) (by omega); omega
    have p3 : 1 ≤ e * e * e := by have := Int.mul_le_mul_of_nonneg_left (a := 1) (b := e) (c := e * e) (by omega) (by omega); omega
    have x2 : IntKind.i64.wrap (e * e) = e * e := i64_wrap (by omega) (by omega)
    have x3 : IntKind.i64.wrap (e * e * e) = e * e * e := i64_wrap (by omega) (by omega)
    have z1 := frT_size (n := x) (d := e * e) (by omega) (by omega) (by omega) (by omega)
    have z2 := frT_size (n := y) (d := e * e * e) (by omega) (by omega) (by omega) (by omega)
    have hta := ht.keep (Below.alloc (Below.refl w.heap.size w) (Nat.le_refl _) (.cells #[.int .i64 x, .int .i64 y, .int .i64 e] 52))
    have HT := Lib.hid hta
    clear ht hta
    have hf : ∀ (n d : Int) (g : Grow (w.alloc (.cells #[.int .i64 x, .int .i64 y, .int .i64 e] 52))), -2000000 ≤ n → n ≤ 2000000 → 1 ≤ d → d ≤ 10000 → Calls Tryz.prog 127 #[.agg #[.int .i64 n, .int .i64 d]] g.wd (Ret (.string (frT n d)) g.wd) := fun n d g k0 k1 k2 k3 => fractionText_any n d g.wd (by omega) (by omega) k2 (by omega) (HT.out.keep g.2)
    have HF := Lib.hid hf; clear hf
    go_enter Tryz.func86, Tryz.ntmps86
    go_wp2_with fail
    refine wp_region_grow (by kernel_rfl) (by kernel_rfl) ?_
    repeat (go_big_quiet_step (((go_at_call 127; exact grow_ret (HF.out _ _ _ (by omega) (by omega) (by omega) (by omega))))))
    refine wpQuiet_nil ?_
    rintro wg hbg
    (try replace hbg := aft2 hbg (by assumption))
    obtain ⟨hcg, hfg, hg1, hg2, hg3, hg4⟩ := aftz hbg
    go_wp2_with fail
    go_ret
    exact ret_eq (by rfl) (by repeat (first | exact Below.refl _ _ | (with_reducible assumption) | refine bel_alloc ?_ _ | refine bel_drew ?_ | refine bel_drewN ?_ _ | refine Below.setCell ?_ (by dsimp only; omega) _ | refine bel_trans (by assumption) ?_))
theorem ptPart_any (n d : Int) (w : World) (h0 : -2000000 ≤ n) (h1 : n ≤ 2000000) (h2 : 1 ≤ d) (h3 : d ≤ 10000) :
    Calls Tryz.prog 129 #[.int .i64 n, .int .i64 d] w (Ret (.string (frT n d)) w) := by
  go_enter Tryz.func129, Tryz.ntmps129
  go_wp2_with fail
  refine (frText_any n d _ (by omega) (by omega) h2 (by omega)).mono ?_; rintro ee w1 ⟨rfl, hb1⟩
  go_wp2_with fail
  go_ret
  exact ret_eq (by rfl) (by repeat (first | exact Below.refl _ _ | (with_reducible assumption) | refine bel_alloc ?_ _ | refine bel_drew ?_ | refine bel_drewN ?_ _ | refine Below.setCell ?_ (by dsimp only; omega) _ | refine bel_trans (by assumption) ?_))
set_option maxHeartbeats 2000000 in
theorem ptText_any (x y e : Int) (w : World) (h0 : -10000 ≤ x) (h1 : x ≤ 10000) (h2 : -1800000 ≤ y) (h3 : y ≤ 1800000) (h4 : 0 ≤ e) (h5 : e ≤ 20) :
    Calls Tryz.prog 88 #[.agg #[.int .i64 x, .int .i64 y, .int .i64 e]] w (Ret (.string (ptT x y e)) w) := by
  unfold ptT
  by_cases he : e = 0
  · rw [if_pos he]
    subst he
    go_enter Tryz.func88, Tryz.ntmps88
    go_wp2_with fail
    go_ret
    exact ret_eq (by rfl) (by repeat (first | exact Below.refl _ _ | (with_reducible assumption) | refine bel_alloc ?_ _ | refine bel_drew ?_ | refine bel_drewN ?_ _ | refine Below.setCell ?_ (by dsimp only; omega) _ | refine bel_trans (by assumption) ?_))
  · rw [if_neg he]
    have heb : (e == 0) = false := by simp [he]
    have b2 := mul_bd (a := e) (b := e) (A := 20) (B := 20) (by omega) h5 (by omega) h5
    have b3 := mul_bd (a := e * e) (b := e) (A := 400) (B := 20) b2.1 b2.2 (by omega) h5
    have p2 : 1 ≤ e * e := by have := Int.mul_le_mul_of_nonneg_left (a := 1) (b := e) (c := e) (by omega) (by omega); omega
    have p3 : 1 ≤ e * e * e := by have := Int.mul_le_mul_of_nonneg_left (a := 1) (b := e) (c := e * e) (by omega) (by omega); omega
    have x2 : IntKind.i64.wrap (e * e) = e * e := i64_wrap (by omega) (by omega)
    have x3 : IntKind.i64.wrap (e * e * e) = e * e * e := i64_wrap (by omega) (by omega)
    have z1 := frT_size (n := x) (d := e * e) (by omega) (by omega) (by omega) (by omega)
    have z2 := frT_size (n := y) (d := e * e * e) (by omega) (by omega) (by omega) (by omega)
    go_enter Tryz.func88, Tryz.ntmps88
    go_wp2_with fail
    refine wp_region_grow (by kernel_rfl) (by kernel_rfl) ?_
    repeat (go_big_quiet_step (((go_at_call 129; exact grow_ret (ptPart_any _ _ _ (by omega) (by omega) (by omega) (by omega))))))
    refine wpQuiet_nil ?_
    rintro wg hbg
    (try replace hbg := aft2 hbg (by assumption))
    obtain ⟨hcg, hfg, hg1, hg2, hg3, hg4⟩ := aftz hbg
    go_wp2_with fail
    go_ret
    exact ret_eq (by rfl) (by repeat (first | exact Below.refl _ _ | (with_reducible assumption) | refine bel_alloc ?_ _ | refine bel_drew ?_ | refine bel_drewN ?_ _ | refine Below.setCell ?_ (by dsimp only; omega) _ | refine bel_trans (by assumption) ?_))
set_option maxHeartbeats 1000000 in
theorem iPointText_any (a b x y e : Int) (w : World) (ht : PowT w) :
    Calls Tryz.prog 33 #[.agg #[.int .i64 a, .int .i64 b], .agg #[.int .i64 x, .int .i64 y, .int .i64 e]] w (Ret (ptV a b x y e) w) := by
  unfold ptV
  cases hpt : pointB a b x y e
  · rw [if_neg (by decide)]
    go_enter Tryz.func33, Tryz.ntmps33
    go_wp2_with fail
    refine (isPoint_any _ _ _ _ _ _).mono ?_; rintro ee w1 ⟨rfl, hb1⟩
    rw [hpt]
    go_wp2_with fail
    go_returns
    exact ret_eq (by rfl) (by repeat (first | exact Below.refl _ _ | (with_reducible assumption) | refine bel_alloc ?_ _ | refine bel_drew ?_ | refine bel_drewN ?_ _ | refine Below.setCell ?_ (by dsimp only; omega) _ | refine bel_trans (by assumption) ?_))
  · rw [if_pos rfl]
    obtain ⟨h1, h2, h3, h4, h5, h6, _, _⟩ := pointB_bd hpt
    go_enter Tryz.func33, Tryz.ntmps33
    go_wp2_with fail
    refine (isPoint_any _ _ _ _ _ _).mono ?_; rintro ee w1 ⟨rfl, hb1⟩
    have hbw : Below w.heap.size w w1 := (by repeat (first | exact Below.refl _ _ | (with_reducible assumption) | refine bel_alloc ?_ _ | refine bel_drew ?_ | refine bel_drewN ?_ _ | refine Below.setCell ?_ (by dsimp only; omega) _ | refine bel_trans (by assumption) ?_))
    obtain ⟨hc1, hf1, hs11, hs12, hs13, hs14⟩ := aftz hb1
    rw [hpt]
    go_wp2_with fail
    refine (pointText_any x y e _ h1 h2 h5 h6 h3 h4 (ht.keep hbw)).mono ?_; rintro ee w2 ⟨rfl, hb2⟩
    have hbx := bel_trans hb2 hbw
    clear hb1 hbw hb2
    go_wp2_with fail
    go_returns
    exact ret_eq (by rfl) hbx
set_option maxHeartbeats 1000000 in
theorem sPointText_any (a b x y e : Int) (w : World) :
    Calls Tryz.prog 34 #[.agg #[.int .i64 a, .int .i64 b], .agg #[.int .i64 x, .int .i64 y, .int .i64 e]] w (Ret (ptV a b x y e) w) := by
  unfold ptV
  cases hpt : pointB a b x y e
  · rw [if_neg (by decide)]
    go_enter Tryz.func34, Tryz.ntmps34
    go_wp2_with fail
    refine (sIsPointOf_any _ _ _ _ _ _).mono ?_; rintro ee w1 ⟨rfl, hb1⟩
    rw [hpt]
    go_wp2_with fail
    go_returns
    exact ret_eq (by rfl) (by repeat (first | exact Below.refl _ _ | (with_reducible assumption) | refine bel_alloc ?_ _ | refine bel_drew ?_ | refine bel_drewN ?_ _ | refine Below.setCell ?_ (by dsimp only; omega) _ | refine bel_trans (by assumption) ?_))
  · rw [if_pos rfl]
    obtain ⟨h1, h2, h3, h4, h5, h6, _, _⟩ := pointB_bd hpt
    go_enter Tryz.func34, Tryz.ntmps34
    go_wp2_with fail
    refine (sIsPointOf_any _ _ _ _ _ _).mono ?_; rintro ee w1 ⟨rfl, hb1⟩
    have hbw : Below w.heap.size w w1 := (by repeat (first | exact Below.refl _ _ | (with_reducible assumption) | refine bel_alloc ?_ _ | refine bel_drew ?_ | refine bel_drewN ?_ _ | refine Below.setCell ?_ (by dsimp only; omega) _ | refine bel_trans (by assumption) ?_))
    obtain ⟨hc1, hf1, hs11, hs12, hs13, hs14⟩ := aftz hb1
    rw [hpt]
    go_wp2_with fail
    refine (ptText_any x y e _ h1 h2 h5 h6 h3 h4).mono ?_; rintro ee w2 ⟨rfl, hb2⟩
    have hbx := bel_trans hb2 hbw
    clear hb1 hbw hb2
    go_wp2_with fail
    go_returns
    exact ret_eq (by rfl) hbx
end Go.Proofs.YtakilincclnpdaaGreatDoor
/- Pa: plain: numerals are read back; texts cut at a byte. No conditions. -/
namespace Go.Proofs.YtakilincclnpdaaGreatDoor
open Go.RowKit

theorem decFrom_cons (acc : Nat) (b : UInt8) (l : List UInt8) : Lib.decFrom acc (b :: l) = match Lib.digitVal b with | some d => Lib.decFrom (acc * 10 + d) l | none => none := rfl
theorem decFrom_append : ∀ (l m : List UInt8) (acc : Nat), Lib.decFrom acc (l ++ m) = (Lib.decFrom acc l).bind fun a => Lib.decFrom a m
  | [], m, acc => by simp [Lib.decFrom]
  | b :: l, m, acc => by
    show Lib.decFrom acc (b :: (l ++ m)) = _
    rw [decFrom_cons, decFrom_cons]
    cases h : Lib.digitVal b with
    | none => rfl
    | some d => exact decFrom_append l m _
theorem u8_dig {d : Nat} (h : d < 10) : (UInt8.ofNat (48 + d)).toNat = 48 + d := by
  rw [UInt8.toNat_ofNat']; omega
theorem digitVal_dig {d : Nat} (h : d < 10) : Lib.digitVal (UInt8.ofNat (48 + d)) = some d := by
  unfold Lib.digitVal
  rw [u8_dig h, if_pos (by omega)]
  congr 1; omega
theorem decFrom_dec (u : Nat) : Lib.decFrom 0 (Lib.decDigits u) = some u := by
  induction u using Nat.strongRecOn with
  | ind u ih =>
    by_cases h : u < 10
    · rw [Lib.decDigits, dif_pos h]
      simp only [Lib.decFrom, digitVal_dig h, Nat.zero_mul, Nat.zero_add]
    · rw [Lib.decDigits, dif_neg h, decFrom_append, ih (u / 10) (by omega)]
      simp only [Option.bind_some, Lib.decFrom, digitVal_dig (show u % 10 < 10 by omega)]
      congr 1; omega
theorem dec_digits (u : Nat) : ∀ b ∈ Lib.decDigits u, 48 ≤ b.toNat ∧ b.toNat ≤ 57 := by
  induction u using Nat.strongRecOn with
  | ind u ih =>
    intro b hb
    by_cases h : u < 10
    · rw [Lib.decDigits, dif_pos h, List.mem_singleton] at hb
      subst hb
      rw [u8_dig h]; omega
    · rw [Lib.decDigits, dif_neg h, List.mem_append, List.mem_singleton] at hb
      rcases hb with hb | rfl
      · exact ih (u / 10) (by omega) b hb
      · rw [u8_dig (by omega)]; omega
theorem dec_ne (u : Nat) : Lib.decDigits u ≠ [] := by
  rw [Lib.decDigits]
  split
  · simp
  · simp
theorem dec_length : ∀ (k u : Nat), u < 10 ^ (k + 1) → (Lib.decDigits u).length ≤ k + 1
  | 0, u, h => by rw [Lib.decDigits, dif_pos (by simpa using h)]; simp
  | k + 1, u, h => by
    by_cases h' : u < 10
    · rw [Lib.decDigits, dif_pos h']; simp
    · rw [Lib.decDigits, dif_neg h', List.length_append]
      have := dec_length k (u / 10) (by rw [Nat.pow_succ] at h; omega)
      simp; omega
/-- a numeral of two digits or more does not begin with a zero. -/
theorem dec_head (u : Nat) : (Lib.decDigits u).head? = some 48 → u = 0 := by
  induction u using Nat.strongRecOn with
  | ind u ih =>
    intro hh
    by_cases h : u < 10
    · rw [Lib.decDigits, dif_pos h] at hh
      have := congrArg (Option.map UInt8.toNat) hh
      simp only [List.head?_cons, Option.map_some, Option.some.injEq] at this
      rw [u8_dig h] at this
      have e : (48 : UInt8).toNat = 48 := rfl
      omega
    · rw [Lib.decDigits, dif_neg h, List.head?_append, Option.or_of_isSome (by rw [List.isSome_head?]; simp [dec_ne])] at hh
      have := ih (u / 10) (by omega) hh
      omega
/-- the reference's reading of a numeral. -/
def rdL (l : List UInt8) : Option Nat := if 1 ≤ l.length ∧ l.length ≤ 6 ∧ ¬ (l.head? = some 48 ∧ 1 < l.length) then Lib.decFrom 0 l else none
theorem rdL_dec {u : Nat} (h : u < 1000000) : rdL (Lib.decDigits u) = some u := by
  have h1 := dec_length 5 u h
  have h2 : 1 ≤ (Lib.decDigits u).length := by
    rcases Nat.eq_zero_or_pos (Lib.decDigits u).length with h' | h'
    · exact absurd (List.length_eq_zero_iff.1 h') (dec_ne u)
    · exact h'
  have h6 : ¬ ((Lib.decDigits u).head? = some 48 ∧ 1 < (Lib.decDigits u).length) := by
    rintro ⟨h3, h4⟩
    obtain rfl := dec_head u h3
    have h5 := dec_length 0 0 (by decide)
    omega
  unfold rdL
  rw [if_pos ⟨h2, h1, h6⟩, decFrom_dec]
/-- the reference's reading of a numeral with a sign. -/
def sgL : List UInt8 → Int
  | [] => 100000
  | c :: r => if c = 45 then (match rdL r with | some m => -(m : Int) | none => 100000) else (match rdL (c :: r) with | some m => m | none => 100000)
theorem sgL_cons (c : UInt8) (r : List UInt8) : sgL (c :: r) = if c = 45 then (match rdL r with | some m => -(m : Int) | none => 100000) else (match rdL (c :: r) with | some m => (m : Int) | none => 100000) := rfl
theorem intS_list (n : Int) : (intS n).data.toList = Lib.itoa n := by rw [← intS_itoa]
theorem dec_head_ne (u : Nat) : ∃ c r, Lib.decDigits u = c :: r ∧ c ≠ 45 ∧ c ≠ 43 ∧ c ≠ 32 := by
  obtain ⟨c, r, h⟩ := List.exists_cons_of_ne_nil (dec_ne u)
  have := dec_digits u c (by rw [h]; simp)
  refine ⟨c, r, h, ?_, ?_, ?_⟩
  · rintro rfl; have e : (45 : UInt8).toNat = 45 := rfl; omega
  · rintro rfl; have e : (43 : UInt8).toNat = 43 := rfl; omega
  · rintro rfl; have e : (32 : UInt8).toNat = 32 := rfl; omega
theorem sgL_int {n : Int} (h0 : -1000000 < n) (h1 : n < 1000000) : sgL (intS n).data.toList = n := by
  rw [intS_list]
  unfold Lib.itoa
  by_cases h : n < 0
  · rw [if_pos h]
    rw [sgL_cons, if_pos rfl, rdL_dec (by omega)]
    show -(n.natAbs : Int) = n
    omega
  · rw [if_neg h]
    obtain ⟨c, r, e, hc, _⟩ := dec_head_ne n.toNat
    have hr := rdL_dec (u := n.toNat) (by omega)
    rw [e] at hr ⊢
    rw [sgL_cons, if_neg hc, hr]
    show (n.toNat : Int) = n
    omega
theorem int_none {b : UInt8} (h1 : b.toNat < 45 ∨ 57 < b.toNat ∨ b.toNat = 46 ∨ b.toNat = 47) (n : Int) : b ∉ (intS n).data.toList := by
  rw [intS_list]
  unfold Lib.itoa
  intro hb
  split at hb
  · rcases List.mem_cons.1 hb with rfl | hb
    · have e : (45 : UInt8).toNat = 45 := rfl
      omega
    · have := dec_digits _ b hb; omega
  · have := dec_digits _ b hb; omega
theorem int_size {n : Int} {k : Nat} (h0 : n.natAbs < 10 ^ (k + 1)) : (intS n).data.toList.length ≤ k + 2 := by
  rw [intS_list]
  unfold Lib.itoa
  split
  · have := dec_length k n.natAbs h0
    simp; omega
  · have := dec_length k n.toNat (by omega)
    omega
theorem atoi_cons (b : UInt8) (r : List UInt8) : Lib.atoi (b :: r) = if b == 45 then (Lib.decNat r).map fun (m : Nat) => -(m : Int) else if b == 43 then (Lib.decNat r).map fun (m : Nat) => (m : Int) else (Lib.decNat (b :: r)).map fun (m : Nat) => (m : Int) := rfl
theorem atoi_int {n : Int} (h0 : -1000000 < n) (h1 : n < 1000000) : Lib.atoiAll (intS n).data.toList = .ok n := by
  have hl := int_size (n := n) (k := 5) (by omega)
  rw [Lib.atoiAll_short _ (by omega), intS_list]
  have hne : ∀ u, (Lib.decDigits u).isEmpty = false := fun u => by
    cases h : Lib.decDigits u with
    | nil => exact absurd h (dec_ne u)
    | cons _ _ => rfl
  unfold Lib.itoa
  by_cases h : n < 0
  · rw [if_pos h, atoi_cons, if_pos (by rfl)]
    unfold Lib.decNat
    rw [hne, if_neg (by decide), decFrom_dec]
    show Lib.NumEnd.ok (-(n.natAbs : Int)) = _
    congr 1; omega
  · rw [if_neg h]
    obtain ⟨c, r, e, hc, hc', _⟩ := dec_head_ne n.toNat
    have hd : Lib.decNat (c :: r) = some n.toNat := by
      rw [← e]; unfold Lib.decNat
      rw [hne, if_neg (by decide), decFrom_dec]
    rw [e, atoi_cons, if_neg (by simpa using hc), if_neg (by simpa using hc'), hd]
    show Lib.NumEnd.ok (n.toNat : Int) = _
    congr 1; omega
/-- the pieces of a text between the places of a byte. -/
def pcs (b : UInt8) : List UInt8 → List (List UInt8)
  | [] => [[]]
  | c :: l => if c = b then [] :: pcs b l else match pcs b l with | h :: t => (c :: h) :: t | [] => [[c]]
theorem pcs_cons (b c : UInt8) (l : List UInt8) : pcs b (c :: l) = if c = b then [] :: pcs b l else match pcs b l with | h :: t => (c :: h) :: t | [] => [[c]] := rfl
theorem pcs_none {b : UInt8} : ∀ {l : List UInt8}, b ∉ l → pcs b l = [l]
  | [], _ => rfl
  | c :: l, h => by
    rw [List.mem_cons, not_or] at h
    rw [pcs_cons, if_neg (fun e => h.1 e.symm), pcs_none h.2]
theorem pcs_cut {b : UInt8} : ∀ {l : List UInt8} (m : List UInt8), b ∉ l → pcs b (l ++ b :: m) = l :: pcs b m
  | [], m, _ => by rw [List.nil_append, pcs_cons, if_pos rfl]
  | c :: l, m, h => by
    rw [List.mem_cons, not_or] at h
    rw [List.cons_append, pcs_cons, if_neg (fun e => h.1 e.symm), pcs_cut m h.2]
theorem pcs_two {b : UInt8} {l m : List UInt8} (h1 : b ∉ l) (h2 : b ∉ m) : pcs b (l ++ b :: m) = [l, m] := by rw [pcs_cut m h1, pcs_none h2]
theorem indexByte_two {b : UInt8} : ∀ {l : List UInt8} (m : List UInt8), b ∉ l → Lib.indexByte (l ++ b :: m) b = l.length
  | [], m, _ => by simp [Lib.indexByte]
  | c :: l, m, h => by
    rw [List.mem_cons, not_or] at h
    show Lib.indexByte (c :: (l ++ b :: m)) b = _
    have e : (c == b) = false := beq_eq_false_iff_ne.2 (fun e => h.1 e.symm)
    unfold Lib.indexByte
    rw [indexByte_two m h.2, e]
    simp
theorem cut_two {b : UInt8} {l : List UInt8} (m : List UInt8) (h : b ∉ l) : Lib.cut (l ++ b :: m) [b] = (l, m, true) := by
  unfold Lib.cut
  rw [Lib.index_one, indexByte_two m h, if_pos (by omega)]
  simp
theorem cvT_list (a b : Int) : (cvT a b).data.toList = (intS a).data.toList ++ 32 :: (intS b).data.toList := by
  unfold cvT
  simp
theorem cvT_inj {a b a' b' : Int} (h1 : -1000000 < a) (h2 : a < 1000000) (h3 : -1000000 < b) (h4 : b < 1000000) (h1' : -1000000 < a') (h2' : a' < 1000000) (h3' : -1000000 < b') (h4' : b' < 1000000) (h : cvT a b = cvT a' b') : a = a' ∧ b = b' := by
  have h0 := congrArg (fun s => pcs 32 s.data.toList) h
  simp only [cvT_list] at h0
  rw [pcs_two (int_none (.inl (by decide)) a) (int_none (.inl (by decide)) b), pcs_two (int_none (.inl (by decide)) a') (int_none (.inl (by decide)) b')] at h0
  injection h0 with e1 e2
  injection e2 with e2 _
  have k1 := congrArg sgL e1
  have k2 := congrArg sgL e2
  rw [sgL_int h1 h2, sgL_int h1' h2'] at k1
  rw [sgL_int h3 h4, sgL_int h3' h4'] at k2
  exact ⟨k1, k2⟩
end Go.Proofs.YtakilincclnpdaaGreatDoor
/-
  DERIVED: THE SHELF's CONTRACTS AT THIS DUMP, IN PLAIN WORDS (tools/lay-plain.mjs out of 'TryzShq.lean', which tools/lay-shelf.mjs wrote): THE SAME DECLARATIONS UNDER THE SAME NAMES: 'import', 'namespace', 'open', 'def', 'theorem' AND NOTHING ELSE: no command of the shelf's: FOR A HAND-IN. Each laying: the table of numbers ('.._ren') and one theorem, a field a fact of the dump's own or the kernel's comparison; each contract: ONE APPLICATION.
-/
namespace Go.Proofs
end Go.Proofs
/- Cu: contracts: the program's text of two numbers, both CurveTexts. No conditions. -/
namespace Go.Proofs.YtakilincclnpdaaGreatDoor
open Go.RowKit

theorem Tryz.info_str : (Tryz.prog.info? 9).map (fun i => (i.zero, i.size, i.bytes)) = some (some (.string ⟨#[]⟩), 1, 16) := by kernel_rfl
theorem rowS_keep {w w' : World} {base n : Nat} {v : Value} {e : TypeId} {vs : List Value} (h : w.ownsRow base e 1 v n vs) (hb : Below w.heap.size w w') : w'.ownsRow base e 1 v n vs := by
  obtain ⟨h1, h2⟩ := h
  refine ⟨h1, ?_⟩
  rcases h2 with h2 | ⟨g, cap, cur, hv, hg, hh, r⟩
  · exact .inl h2
  · have hlt : g < w.heap.size := by
      rcases Nat.lt_or_ge g w.heap.size with h' | h'
      · exact h'
      · rw [Array.getElem?_eq_none h'] at hh; cases hh
    exact .inr ⟨g, cap, cur, hv, hg, (hb.block g hlt).trans hh, r⟩
theorem join_two (A B : ByteArray) : (⟨(Lib.join ([A, B].map (·.data.toList)) (ByteArray.mk #[32]).data.toList).toArray⟩ : ByteArray) = A ++ ⟨#[32]⟩ ++ B := by
  apply ByteArray.ext
  simp [Lib.join]
theorem join_len (A B : ByteArray) : (Lib.join ([A, B].map (·.data.toList)) (ByteArray.mk #[32]).data.toList).length = A.size + 1 + B.size := by
  have h := congrArg ByteArray.size (join_two A B)
  rw [ByteArray.size_append, ByteArray.size_append] at h
  exact h
end Go.Proofs.YtakilincclnpdaaGreatDoor
namespace Go.Proofs.YtakilincclnpdaaGreatDoor
open Go.RowKit

/-- a call's result: its own slice of the pieces of a text. -/
def RetStr (b : UInt8) (s : ByteArray) (w : World) (e : Ending) (w' : World) : Prop :=
  ∃ (v : Value) (outs : List ByteArray), e = .returned v ∧ outs.map (·.data.toList) = pcs b s.data.toList ∧ w'.ownsRow w.heap.size 9 1 v outs.length (outs.map .string) ∧ outs.length ≤ s.size + 1 ∧ Below w.heap.size w w'
theorem ext_list (s : ByteArray) (i j : Nat) : (s.extract i j).data.toList = (s.data.toList.take j).drop i := by
  rw [ByteArray.data_extract, Array.toList_extract, List.extract_eq_take_drop, List.drop_take]
theorem idx_run {s : ByteArray} {k : Nat} (hk : k < s.size) (w : World) : (Instr.index 9 (.string s) (.int .i64 (k : Int))).run Tryz.prog w = .ok (.int .u8 ((s.data.toList.getD k 0).toNat : Int)) w := by
  rw [run_index_string _ _ _ _ _ Tryz.underlying9, dif_pos ⟨Int.natCast_nonneg _, by omega⟩]
  congr 3
  have h2 : k < s.data.toList.length := by simpa using hk
  rw [List.getD_eq_getElem?_getD, List.getElem?_eq_getElem h2]
  rfl
theorem list_at {s : ByteArray} {k : Nat} (hk : k < s.size) : s.data.toList[k]? = some (s.data.toList.getD k 0) := by
  have h2 : k < s.data.toList.length := by simpa using hk
  rw [List.getD_eq_getElem?_getD, List.getElem?_eq_getElem h2]
  rfl
theorem pcs_at {b : UInt8} {l : List UInt8} {fr k : Nat} (hfr : fr ≤ k) (hk : l[k]? = some b) (hno : b ∉ (l.take k).drop fr) :
    pcs b (l.drop fr) = (l.take k).drop fr :: pcs b (l.drop (k + 1)) := by
  have hlt : k < l.length := by
    rcases Nat.lt_or_ge k l.length with h | h
    · exact h
    · rw [List.getElem?_eq_none h] at hk; cases hk
  have e1 : l = l.take k ++ b :: l.drop (k + 1) := by
    have h1 : l[k] = b := by rw [List.getElem?_eq_getElem hlt] at hk; exact Option.some.inj hk
    rw [← h1, List.getElem_cons_drop, List.take_append_drop]
  have e2 : l.drop fr = (l.take k).drop fr ++ b :: l.drop (k + 1) := by
    conv => lhs; rw [e1]
    rw [List.drop_append, List.length_take, show fr - min k l.length = 0 by omega, List.drop_zero]
  rw [e2, pcs_cut _ hno]
theorem take_snoc {b : UInt8} {l : List UInt8} {fr k : Nat} {c : UInt8} (hfr : fr ≤ k) (hk : l[k]? = some c) (hc : c ≠ b) (hno : b ∉ (l.take k).drop fr) : b ∉ (l.take (k + 1)).drop fr := by
  have hlt : k < l.length := by
    rcases Nat.lt_or_ge k l.length with h | h
    · exact h
    · rw [List.getElem?_eq_none h] at hk; cases hk
  rw [List.take_add_one, hk, Option.toList_some, List.drop_append, List.length_take, show fr - min k l.length = 0 by omega, List.drop_zero, List.mem_append, not_or]
  exact ⟨hno, by simpa using fun e => hc e.symm⟩
set_option maxHeartbeats 4000000 in
theorem l1Split_any (s : ByteArray) (b : UInt8) (w : World) (hs : s.size ≤ 1048576) :
    Calls Tryz.prog 138 #[.string s, .int .u8 (b.toNat : Int)] w (RetStr b s w) := by
  obtain ⟨i0, hi, hz0, hz1, hz2⟩ := info_parts Tryz.info_str
  have hlen : s.data.toList.length = s.size := by simp
  go_enter Tryz.func138, Tryz.ntmps138
  go_wp2_with fail
  go_loopw [5, 6, 7] (fun v f i wr => ∃ (outs : List ByteArray) (fr k : Nat), f = .int .i64 fr ∧ i = .int .i64 k ∧ fr ≤ k ∧ k ≤ s.size ∧ outs.length ≤ k ∧ outs.map (·.data.toList) ++ pcs b (s.data.toList.drop fr) = pcs b s.data.toList ∧ b ∉ (s.data.toList.take k).drop fr ∧ Below w.heap.size w wr ∧ wr.ownsRow w.heap.size 9 1 v outs.length (outs.map .string)) (fun _ _ i _ => s.size - (intOf i).toNat)
  case atStart => exact ⟨[], 0, 0, rfl, rfl, Nat.le_refl _, Nat.zero_le _, Nat.le_refl _, by simp, by simp, Below.refl _ _, World.ownsRow_nil _ _ _ _⟩
  case round =>
    obtain ⟨outs, fr, k, rfl, rfl, hfr, hk, hol, hp, hno, hbel, hown⟩ := hrel
    have hw1 := i64_wrap (r := (k : Int) + 1) (by omega) (by omega)
    by_cases hks : k < s.size
    · have hix := fun w => idx_run hks w
      have hat := list_at hks
      generalize hc : s.data.toList.getD k 0 = c at hix hat
      have HP := Lib.hid hp; clear hp
      have HNO := Lib.hid hno; clear hno
      have HAT := Lib.hid hat; clear hat
      have HBEL := Lib.hid hbel; clear hbel
      have HOWN := Lib.hid hown; clear hown
      have HC := Lib.hid hc; clear hc
      have hks' : (k : Int) < (s.size : Int) := by omega
      by_cases hcb : c = b
      · subst hcb
        have hfr' : (0 : Int) ≤ (fr : Int) ∧ (fr : Int) ≤ (k : Int) := ⟨by omega, by omega⟩
        go_wp2_with (first | (at_builtin; refine wpList_append_own _ rfl _ _ 101 rfl w.heap.size 9 i0 (.string ⟨#[]⟩) 1 16 Tryz.underlying101 hi hz0 hz1 hz2 rfl (by decide) _ _ _ rfl (HOWN.out.alloc _) ⟨wr.heap.size, 0, none⟩ 1 1 [.string (s.extract fr k)] rfl rfl (cell_one_new _ _ _) ?_ ?_ ?_ ?_ ?_))
        · intro u hu; simp at hu; subst hu; rfl
        · unfold maxLen; simp; omega
        · first | omega | (simp; omega)
        · have := HBEL.out.size; simp; omega
        intro v' w2 hown2 hgrow _
        have hb2 := ((HBEL.out.alloc HBEL.out.size _).grown hgrow (Nat.le_trans HBEL.out.size (by simp)) (fun k hk => (HOWN.out.lt k hk).1))
        have hrow : w2.ownsRow w.heap.size 9 1 v' (outs ++ [s.extract fr k]).length ((outs ++ [s.extract fr k]).map .string) := by simpa using hown2
        clear hown2 hgrow HBEL HOWN
        go_wp2_with fail
        go_roundw
        case rel => exact ⟨outs ++ [s.extract fr k], k + 1, k + 1, by go_num, by go_num, Nat.le_refl _, by omega, by simp; omega, by
            rw [List.map_append, List.map_cons, List.map_nil, ext_list, List.append_assoc, List.singleton_append, ← pcs_at hfr HAT.out HNO.out]; exact HP.out, by simp, hb2, hrow⟩
        case measure => simp [intOf]; omega
      · have hcb' : ((c.toNat : Int) == (b.toNat : Int)) = false := by
          rw [beq_eq_false_iff_ne]; intro e; exact hcb (UInt8.toNat_inj.1 (by omega))
        go_wp2_with fail
        go_roundw
        case rel => exact ⟨outs, fr, k + 1, rfl, by go_num, by omega, by omega, by omega, HP.out, take_snoc hfr HAT.out hcb HNO.out, HBEL.out, HOWN.out⟩
        case measure => simp [intOf]; omega
    · have hk' : k = s.size := by omega
      subst hk'
      have hfr' : (0 : Int) ≤ (fr : Int) ∧ (fr : Int) ≤ (s.size : Int) := ⟨by omega, by omega⟩
      have e0 : s.data.toList.take s.size = s.data.toList := by rw [← hlen, List.take_length]
      rw [e0] at hno
      rw [pcs_none hno] at hp
      have HP := Lib.hid hp; clear hp hno e0
      have HBEL := Lib.hid hbel; clear hbel
      have HOWN := Lib.hid hown; clear hown
      go_wp2_with (first | (at_builtin; refine wpList_append_own _ rfl _ _ 101 rfl w.heap.size 9 i0 (.string ⟨#[]⟩) 1 16 Tryz.underlying101 hi hz0 hz1 hz2 rfl (by decide) _ _ _ rfl (HOWN.out.alloc _) ⟨wr.heap.size, 0, none⟩ 1 1 [.string (s.extract fr s.size)] rfl rfl (cell_one_new _ _ _) ?_ ?_ ?_ ?_ ?_))
      · intro u hu; simp at hu; subst hu; rfl
      · unfold maxLen; simp; omega
      · first | omega | (simp; omega)
      · have := HBEL.out.size; simp; omega
      intro v' w2 hown2 hgrow _
      have hb2 := ((HBEL.out.alloc HBEL.out.size _).grown hgrow (Nat.le_trans HBEL.out.size (by simp)) (fun k hk => (HOWN.out.lt k hk).1))
      have hrow : w2.ownsRow w.heap.size 9 1 v' (outs ++ [s.extract fr s.size]).length ((outs ++ [s.extract fr s.size]).map .string) := by simpa using hown2
      clear hown2 hgrow HBEL HOWN
      go_wp2_with fail
      go_ret
      exact ⟨v', outs ++ [s.extract fr s.size], rfl, by
        rw [List.map_append, List.map_cons, List.map_nil, ext_list, ← hlen, List.take_length]; exact HP.out, hrow, by simp; omega, hb2⟩
def rdI (l : List UInt8) : Int := match rdL l with | some m => m | none => -1
theorem rdI_bd {l : List UInt8} : -1 ≤ rdI l ∧ rdI l ≤ 10000000 := by
  unfold rdI
  cases h : rdL l with
  | none => exact ⟨by decide, by decide⟩
  | some m =>
    unfold rdL at h
    split at h
    · rename_i hc
      have h1 := Lib.decFrom_lt l 0 m h
      have h2 := Nat.pow_le_pow_right (n := 10) (by decide) hc.2.1
      have e : (10 : Nat) ^ 6 = 1000000 := by decide
      show -1 ≤ (m : Int) ∧ (m : Int) ≤ 10000000
      omega
    · cases h
theorem sgL_rd : ∀ (l : List UInt8), sgL l = if l.head? = some 45 then (if rdI l.tail < 0 then 100000 else -rdI l.tail) else (if rdI l < 0 then 100000 else rdI l)
  | [] => by simp [sgL, rdI, rdL]
  | c :: r => by
    rw [sgL_cons]
    simp only [List.head?_cons, List.tail_cons, Option.some.injEq]
    unfold rdI
    by_cases hc : c = 45
    · rw [if_pos hc, if_pos hc]
      obtain h | ⟨m, h⟩ : rdL r = none ∨ ∃ m, rdL r = some m := by cases rdL r <;> simp
      · simp only [h]; rfl
      · simp only [h]; rw [if_neg (by omega)]
    · rw [if_neg hc, if_neg hc]
      obtain h | ⟨m, h⟩ : rdL (c :: r) = none ∨ ∃ m, rdL (c :: r) = some m := by cases rdL (c :: r) <;> simp
      · simp only [h]; rfl
      · simp only [h]; rw [if_neg (by omega)]
theorem not_digit {l : List UInt8} {k : Nat} {c : UInt8} (h : l[k]? = some c) (hc : c.toNat < 48 ∨ 57 < c.toNat) : Lib.decFrom 0 l = none := by
  cases hd : Lib.decFrom 0 l with
  | none => rfl
  | some m =>
    obtain ⟨d, hd⟩ := Lib.digit_of_decFrom l 0 m hd k c h
    obtain ⟨h1, h2, _⟩ := Lib.digitVal_eq hd
    omega
theorem head_at {s : ByteArray} (h : 0 < s.size) : s.data.toList.head? = some (s.data.toList.getD 0 0) := by
  rw [← list_at h, List.head?_eq_getElem?]
theorem tail_at (s : ByteArray) : (s.extract 1 s.size).data.toList = s.data.toList.tail := by
  rw [ext_list]
  have hlen : s.data.toList.length = s.size := by simp
  rw [← hlen, List.take_length, List.drop_one]
end Go.Proofs.YtakilincclnpdaaGreatDoor
