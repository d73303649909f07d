/- If: contracts: searching a list with a function. No conditions. -/
import Derived.Test.YtpjcfnjagknocaaDoorKi
import Derived.Test.YtpjcfnjagknocaaDoorMk
namespace Go.Proofs.YtpjcfnjagknocaaDoor
open Go.RowKit

def addB (a b p : Int) : Bool := kindN (minA a b p) b p == 1
theorem addClosure_any (a b p : Int) (B : Nat) (w : World) (c0 : w.cell? ⟨B, 0, none⟩ = some (.int .i64 a)) (c1 : w.cell? ⟨B, 1, none⟩ = some (.int .i64 b)) (hcur : curveB a b = true) (hpr : p5B p = true) :
    Calls Tryd.prog 32 #[.int .i64 p, .pointer (some ⟨B, 0, none⟩)] w (Ret (.bool (addB a b p)) w) := by
  have hk := fun w => kindAt_any a b p w hcur hpr
  unfold addB
  rcases kind_cases (minA a b p) b p with h | h | h | h
  all_goals
    rw [h] at hk ⊢
    go_enter Tryd.func32, Tryd.ntmps32
    go_wp2_with (go_at_call 33; refine (hk _).mono ?_; rintro e w' ⟨rfl, hb⟩; (try replace hb := aft2 hb (by assumption)); obtain ⟨hc, hf⟩ := aft hb)
    go_ret
    exact ret_eq rfl (by repeat (first | exact Below.refl _ _ | (with_reducible assumption) | refine bel_alloc ?_ _ | refine bel_drew ?_ | refine bel_drewN ?_ _ | refine Below.setCell ?_ (by dsimp only; omega) _ | refine bel_trans (by assumption) ?_))
/-- the first place at which P holds, from k on; -1 if there is none. -/
def idxF (P : Int → Bool) : List Int → Nat → Int
  | [], _ => -1
  | x :: r, k => if P x = true then (k : Int) else idxF P r (k + 1)
theorem idxF_step {P : Int → Bool} {xs : List Int} {k : Nat} (hk : k < xs.length) : idxF P (xs.drop k) k = if P (xs.getD k 0) = true then (k : Int) else idxF P (xs.drop (k + 1)) (k + 1) := by
  rw [List.drop_eq_getElem_cons hk]
  simp only [idxF, List.getD_eq_getElem?_getD, List.getElem?_eq_getElem hk, Option.getD_some]
theorem idxF_any (P : Int → Bool) : ∀ (xs : List Int) (k : Nat), decide (0 ≤ idxF P xs k) = xs.any P
  | [], k => by simp [idxF]
  | x :: r, k => by
    rw [idxF, List.any_cons]
    cases h : P x
    · rw [if_neg (by simp), Bool.false_or]; exact idxF_any P r (k + 1)
    · rw [if_pos rfl, Bool.true_or]; simp
theorem indexFunc_any (P : Int → Bool) (xs : List Int) (v : Value) (cap : Value) (w : World) (hrd : Rd w v xs)
    (hcl : ∀ (w' : World) (x : Int), Below w.heap.size w w' → x ∈ xs → Calls Tryd.prog 32 #[.int .i64 x, cap] w' (Ret (.bool (P x)) w')) :
    Calls Tryd.prog 58 #[v, .func (.func 32) #[] #[cap]] w (Ret (.int .i64 (idxF P xs 0)) w) := by
  obtain ⟨ad, c, rfl, hl, hcs⟩ := hrd
  unfold maxLen at hl
  by_cases hn : xs.length = 0
  · have hx := List.eq_nil_of_length_eq_zero hn
    subst hx
    go_enter Tryd.func58, Tryd.ntmps58
    go_wp2_with fail
    refine wp_loop_rounds 1 ?_; rw [rounds_succ]
    go_wp2_with fail
    go_ret
    exact ret_eq rfl (by repeat (first | exact Below.refl _ _ | (with_reducible assumption) | refine bel_alloc ?_ _ | refine bel_drew ?_ | refine bel_drewN ?_ _ | refine Below.setCell ?_ (by dsimp only; omega) _ | refine bel_trans (by assumption) ?_))
  · obtain ⟨bb, off, rfl, hbb, hcell⟩ := hcs (by omega)
    have HC := Lib.hid hcell; clear hcell hcs
    have HCL := Lib.hid hcl; clear hcl
    go_enter Tryd.func58, Tryd.ntmps58
    go_wp2_with fail
    go_loopw [8] (fun i wr => ∃ k : Nat, i = .int .i64 k ∧ k ≤ xs.length ∧ Below w.heap.size w wr ∧ Hid (idxF P xs 0 = idxF P (xs.drop k) k)) (fun i _ => xs.length - (intOf i).toNat)
    case atStart => exact ⟨0, rfl, Nat.zero_le _, Below.refl _ _, rfl⟩
    case round =>
      obtain ⟨k, rfl, hk, hbel, HE⟩ := hrel
      by_cases hlt : k < xs.length
      · have hck := (hbel.cell (p := ⟨bb, off + k, none⟩) hbb).trans (HC.out k hlt)
        have hst := idxF_step (P := P) hlt
        have hmem : xs.getD k 0 ∈ xs := by
          rw [List.getD_eq_getElem?_getD, List.getElem?_eq_getElem hlt]; exact List.getElem_mem hlt
        have hcall := HCL.out wr (xs.getD k 0) hbel hmem
        obtain ⟨x, hx⟩ : ∃ x, xs.getD k 0 = x := ⟨_, rfl⟩
        rw [hx] at hck hst hcall
        clear hx hmem
        have HST := Lib.hid hst; clear hst
        have hk0 : (0 : Int) ≤ (k : Int) := Int.natCast_nonneg _
        have hk1 : (k : Int) < (xs.length : Int) := by omega
        go_wp2_with fail
        refine hcall.mono ?_; rintro e w2 ⟨rfl, hb2⟩
        have hb3 := bel_trans hb2 hbel
        cases hp : P x
        · have hx : Hid (idxF P xs 0 = idxF P (xs.drop (k + 1)) (k + 1)) := by unfold Hid; rw [HE.out, HST.out, if_neg (by simp [hp])]
          go_wp2_with fail
          go_roundw
          case rel => exact ⟨k + 1, by go_num, by omega, hb3, hx⟩
          case measure => simp [intOf]; omega
        · have hx : Hid (idxF P xs 0 = (k : Int)) := by unfold Hid; rw [HE.out, HST.out, if_pos hp]
          go_wp2_with fail
          go_ret
          exact ret_eq (by rw [hx.out]; rfl) hb3
      · have hkl : k = xs.length := by omega
        have hx : Hid (idxF P xs 0 = -1) := by unfold Hid; rw [HE.out, hkl, List.drop_length]; rfl
        go_wp2_with fail
        go_ret
        exact ret_eq (by rw [hx.out]; rfl) hbel
theorem containsFunc_any (P : Int → Bool) (xs : List Int) (v : Value) (cap : Value) (w : World) (hrd : Rd w v xs)
    (hcl : ∀ (w' : World) (x : Int), Below w.heap.size w w' → x ∈ xs → Calls Tryd.prog 32 #[.int .i64 x, cap] w' (Ret (.bool (P x)) w')) :
    Calls Tryd.prog 31 #[v, .func (.func 32) #[] #[cap]] w (Ret (.bool (xs.any P)) w) := by
  have h := indexFunc_any P xs v cap w hrd hcl
  have he := idxF_any P xs 0
  obtain ⟨i, hi⟩ : ∃ i, idxF P xs 0 = i := ⟨_, rfl⟩
  rw [hi] at h he
  clear hi hcl
  have HE := Lib.hid he; clear he
  go_enter Tryd.func31, Tryd.ntmps31
  go_wp2_with (go_at_call 58; refine (h).mono ?_; rintro e w' ⟨rfl, hb⟩; (try replace hb := aft2 hb (by assumption)); obtain ⟨hc, hf⟩ := aft hb)
  go_ret
  exact ret_eq (by rw [← HE.out]; rfl) (by repeat (first | exact Below.refl _ _ | (with_reducible assumption) | refine bel_alloc ?_ _ | refine bel_drew ?_ | refine bel_drewN ?_ _ | refine Below.setCell ?_ (by dsimp only; omega) _ | refine bel_trans (by assumption) ?_))
end Go.Proofs.YtpjcfnjagknocaaDoor
