/- Bl: small facts for the walk of FnBadPrimes. No conditions. -/
import Derived.Test.YtpjcfnjagknocaaDoorBk
import Derived.Test.YtpjcfnjagknocaaDoorDe
import Derived.Test.YtpjcfnjagknocaaDoorDo
namespace Go.Proofs.YtpjcfnjagknocaaDoor
open Go.RowKit
def BxR (n : Nat) (a b : Int) (w : World) : Prop := n < w.heap.size ∧ w.cell? ⟨n, 0, none⟩ = some (.int .i64 a) ∧ w.cell? ⟨n, 1, none⟩ = some (.int .i64 b)
theorem BxR.new (a b : Int) (w : World) (t : TypeId) : BxR w.heap.size a b (w.alloc (.cells #[.int .i64 a, .int .i64 b] t)) := ⟨by simp, by simp [go_sem], by simp [go_sem]⟩
theorem BxR.keep {n : Nat} {a b : Int} {w w' : World} (h : BxR n a b w) (hb : Below w.heap.size w w') : BxR n a b w' :=
  ⟨Nat.lt_of_lt_of_le h.1 hb.size, (hb.cell (p := ⟨n, 0, none⟩) h.1).trans h.2.1, (hb.cell (p := ⟨n, 1, none⟩) h.1).trans h.2.2⟩
theorem len_wrap {len len' : Nat} (h1 : len ≤ 140737488355328) (h2 : len' ≤ 140737488355328) : IntKind.i64.wrap ((len : Int) + (len' : Int)) = (len : Int) + (len' : Int) := i64_wrap (by omega) (by omega)
theorem len_wrap' {len len' : Nat} (h1 : len ≤ 140737488355328) (h2 : len' ≤ 140737488355328) : wrap64 ((len : Int) + (len' : Int)) = (len : Int) + (len' : Int) := by
  unfold wrap64
  omega
theorem qsame {v u : Value} {s : List Int} {w : World} (h : Rd w v s) (h' : Rd w u s) : Calls Tryd.prog 16 #[v, u] w (Ret (.bool true) w) := by
  have := qInts_any v u s s w h h'
  rwa [decide_eq_true rfl] at this
theorem inc_lt {l : List Int} (h : Inc l) {i j : Nat} (hij : i < j) (hj : j < l.length) : l.getD i 0 < l.getD j 0 := by
  rw [List.getD_eq_getElem?_getD, List.getD_eq_getElem?_getD, List.getElem?_eq_getElem hj, List.getElem?_eq_getElem (Nat.lt_trans hij hj)]
  exact List.pairwise_iff_getElem.1 h i j _ hj hij
theorem prE_step (E : Int → Int) {xs : List Int} {i : Nat} (h : i < xs.length) : prE E (xs.drop i) = (if E (xs.getD i 0) = 2 then xs.getD i 0 * xs.getD i 0 else xs.getD i 0) * prE E (xs.drop (i + 1)) := by
  rw [List.drop_eq_getElem_cons h, List.getD_eq_getElem?_getD, List.getElem?_eq_getElem h]
  rfl
theorem any_step (E : Int → Int) {xs : List Int} {i : Nat} (h : i < xs.length) : ((xs.take (i + 1)).any fun p => E p == 2) = ((xs.take i).any (fun p => E p == 2) || E (xs.getD i 0) == 2) := by
  rw [List.take_add_one, List.any_append, List.getElem?_eq_getElem h, List.getD_eq_getElem?_getD, List.getElem?_eq_getElem h]
  simp
theorem prE_pos {E : Int → Int} : ∀ {l : List Int}, (∀ p ∈ l, 2 ≤ p) → 1 ≤ prE E l
  | [], _ => by unfold prE; omega
  | p :: l, h => by
    have h1 : 1 ≤ (if E p = 2 then p * p else p) := by
      have hp := h p (List.mem_cons_self ..)
      split
      · have := Int.mul_le_mul hp hp (by omega) (by omega); omega
      · omega
    have h2 := prE_pos (E := E) (l := l) (fun x hx => h x (List.mem_cons_of_mem _ hx))
    have := Int.mul_le_mul h1 h2 (by omega) (by omega)
    show 1 ≤ _ * prE E l
    omega
theorem wrapJ {j : Nat} (h : j ≤ 1000) : wrap64 (j : Int) = (j : Int) ∧ IntKind.i64.wrap (j : Int) = (j : Int) := by
  have e : IntKind.i64.wrap (j : Int) = (j : Int) := i64_wrap (by omega) (by omega)
  exact ⟨by unfold wrap64; omega, e⟩
theorem st_one {E : Int → Int} {p rest R : Int} (h : rest = (if E p = 2 then p * p else p) * R) (hE : E p = 1) : rest = p * R := by
  rw [h, hE, if_neg (by decide)]
theorem st_two {E : Int → Int} {p rest R : Int} (h : rest = (if E p = 2 then p * p else p) * R) (hE : E p = 2) : rest = p * (p * R) := by
  rw [h, hE, if_pos rfl, Int.mul_assoc]
theorem sq_one {E : Int → Int} {p : Int} {S2 sq : Bool} (h : S2 = (sq || E p == 2)) (hE : E p = 1) : S2 = sq := by
  rw [h, hE]; simp
theorem sq_two {E : Int → Int} {p : Int} {S2 sq : Bool} (h : S2 = (sq || E p == 2)) (hE : E p = 2) : S2 = true := by
  rw [h, hE]; simp
theorem ile {i n : Nat} (h : i < n) (hl : n ≤ 1000) : i ≤ 1000 := by omega
theorem jle {j n : Nat} (h : j + 1 < n) (hl : n ≤ 1000) : j ≤ 1000 := by omega
theorem wrapN {i : Nat} (h : i ≤ 1000) : wrap64 ((i : Int) + 1) = ((i + 1 : Nat) : Int) := by unfold wrap64; omega
theorem wrapJ2 {j : Nat} (h : j ≤ 1000) : wrap64 ((j : Int) + 1 + 1) = ((j + 1 + 1 : Nat) : Int) := by unfold wrap64; omega
/-- what is left of the conductor divided by a prime, once or twice. -/
theorem rest_one {p R rest : Int} (hp : 5 ≤ p) (hR : 1 ≤ R) (h : rest = p * R) : rest.tmod p = 0 ∧ rest % p = 0 ∧ rest.tdiv p = R ∧ rest / p = R ∧ R ≤ rest := by
  subst h
  refine ⟨Int.mul_tmod_right p R, Int.mul_emod_right p R, Int.mul_tdiv_cancel_left _ (by omega), Int.mul_ediv_cancel_left _ (by omega), ?_⟩
  have := Int.mul_le_mul_of_nonneg_right (show 1 ≤ p by omega) (show 0 ≤ R by omega)
  omega
end Go.Proofs.YtpjcfnjagknocaaDoor
