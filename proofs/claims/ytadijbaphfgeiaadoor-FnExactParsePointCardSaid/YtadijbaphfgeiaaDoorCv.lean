/- Cv: contracts: numerals with a sign, the reference's text of a curve. No conditions. -/
import Derived.Test.YtadijbaphfgeiaaDoorIta
import Derived.Test.YtadijbaphfgeiaaDoorCur
namespace Go.Proofs.YtadijbaphfgeiaaDoor
open Go.RowKit

def intS (n : Int) : ByteArray := if n < 0 then ⟨#[45]⟩ ++ numS n.natAbs else numS n.natAbs
theorem intS_itoa (n : Int) : (⟨(Lib.itoa n).toArray⟩ : ByteArray) = intS n := by
  unfold intS Lib.itoa
  by_cases h : n < 0
  · rw [if_pos h, if_pos h]
    unfold numS
    apply ByteArray.ext
    simp
  · rw [if_neg h, if_neg h]
    unfold numS
    rw [show n.toNat = n.natAbs by omega]
theorem intS_size (n : Int) : (intS n).size ≤ n.natAbs + 2 := by
  have := numS_size n.natAbs
  unfold intS
  split
  · rw [ByteArray.size_append]; show 1 + _ ≤ _; omega
  · omega
theorem itoaI (n : Int) (h0 : -10000000000 ≤ n) (h1 : n ≤ 10000000000) (w : World) (ht : PowT w) : Calls Tryd.prog 44 #[.int .i64 n] w (Ret (.string (intS n)) w) :=
  (Tryd.strconv_Itoa n (by omega) (by omega) w ht.1).mono fun _ w' ⟨h1, k, os, h2⟩ => by
    subst h2
    rw [intS_itoa] at h1
    exact ⟨h1, below_regrown w (w.drewN k).drawn os⟩
theorem l1Int_any (n : Int) (w : World) (h0 : -10000000000 ≤ n) (h1 : n ≤ 10000000000) : Calls Tryd.prog 40 #[.int .i64 n] w (Ret (.string (intS n)) w) := by
  have hz := numS_size n.natAbs
  obtain ⟨m, hm⟩ : ∃ m : Nat, n.natAbs = m := ⟨_, rfl⟩
  by_cases h : n < 0
  · have hn : n = -(m : Int) := by omega
    have e : intS n = ⟨#[45]⟩ ++ numS m := by unfold intS; rw [if_pos h, hm]
    rw [e]
    rw [hm] at hz
    subst hn
    have hw : IntKind.i64.wrap (m : Int) = m := i64_wrap (by omega) (by omega)
    have hm0 : 0 < m := by omega
    go_enter Tryd.func40, Tryd.ntmps40
    go_wp2_with fail
    refine (l1Num_any m _ (by omega)).mono ?_; rintro e w1 ⟨rfl, hb1⟩
    go_wp2_with fail
    go_ret
    exact ret_eq (by rfl) hb1
  · have hn : n = (m : Int) := by omega
    have e : intS n = numS m := by unfold intS; rw [if_neg h, hm]
    rw [e]
    subst hn
    have hm0 : (0 : Int) ≤ (m : Int) := by omega
    go_enter Tryd.func40, Tryd.ntmps40
    go_wp2_with fail
    refine (l1Num_any m _ (by omega)).mono ?_; rintro e w1 ⟨rfl, hb1⟩
    go_wp2_with fail
    go_ret
    exact ret_eq (by rfl) hb1
def cvT (a b : Int) : ByteArray := intS a ++ ⟨#[32]⟩ ++ intS b
noncomputable def cvV (a b : Int) : Value := if curveB a b = true then .tuple #[.string (cvT a b), .bool true] else .tuple #[.string ⟨#[]⟩, .bool false]
theorem ecText_any (a b : Int) (w : World) (h1 : -1000 ≤ a) (h2 : a ≤ 1000) (h3 : -10000 ≤ b) (h4 : b ≤ 10000) :
    Calls Tryd.prog 20 #[.agg #[.int .i64 a, .int .i64 b]] w (Ret (.string (cvT a b)) w) := by
  have s1 := intS_size a
  have s2 := intS_size b
  have z1 : (intS a).size ≤ 2000 := by omega
  have z2 : (intS b).size ≤ 20000 := by omega
  clear s1 s2
  go_enter Tryd.func20, Tryd.ntmps20
  go_wp2_with fail
  refine wp_region_grow (by kernel_rfl) (by kernel_rfl) ?_
  repeat (go_big_quiet_step (((go_at_call 40; exact grow_ret (l1Int_any _ _ (by omega) (by omega))))))
  refine wpQuiet_nil ?_
  rintro wg hbg
  (try replace hbg := aft2 hbg (by assumption))
  obtain ⟨hcg, hfg, hg1, hg2, hg3, hg4⟩ := aftz hbg
  go_wp2_with fail
  go_ret
  exact ret_eq (by rfl) (by repeat (first | exact Below.refl _ _ | (with_reducible assumption) | refine bel_alloc ?_ _ | refine bel_drew ?_ | refine bel_drewN ?_ _ | refine Below.setCell ?_ (by dsimp only; omega) _ | refine bel_trans (by assumption) ?_))
end Go.Proofs.YtadijbaphfgeiaaDoor
