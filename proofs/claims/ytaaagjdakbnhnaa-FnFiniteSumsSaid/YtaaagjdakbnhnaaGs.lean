/- Gs: contracts: the shape of the group of the points modulo a prime. No conditions. -/
import Derived.Test.YtaaagjdakbnhnaaAs
import Derived.Test.YtaaagjdakbnhnaaCo
import Derived.Test.YtaaagjdakbnhnaaOd
import Derived.Test.YtaaagjdakbnhnaaMf
namespace Go.Proofs.Ytaaagjdakbnhnaa
open Go.RowKit
set_option linter.unusedVariables false

theorem seq_add {a b p : Int} {s : List Int} (hp : p5B p = true) (hdisc : discI a b % p ≠ 0) (hs : onF a b p s = true) (m : Nat) : ∀ n, seqI a p s (m + n) = addI a p (seqI a p s m) (seqI a p s n)
  | 0 => by show seqI a p s m = addI a p _ []; rw [addI_nil']
  | n + 1 => by
    show addI a p (seqI a p s (m + n)) s = addI a p (seqI a p s m) (addI a p (seqI a p s n) s)
    rw [seq_add hp hdisc hs m n, add_assoc_pt hp hdisc (on_seq hp hs m) (on_seq hp hs n) hs]
theorem seq_one (a p : Int) (s : List Int) : seqI a p s 1 = s := by show addI a p [] s = s; rw [addI_nil]
theorem seq_dbl {a b p : Int} {s : List Int} (hp : p5B p = true) (hdisc : discI a b % p ≠ 0) (hs : onF a b p s = true) : ∀ m, seqI a p (addI a p s s) m = seqI a p s (m + m)
  | 0 => rfl
  | m + 1 => by
    show addI a p (seqI a p (addI a p s s) m) (addI a p s s) = _
    rw [seq_dbl hp hdisc hs m, show m + 1 + (m + 1) = (m + m) + 2 by omega, seq_add hp hdisc hs (m + m) 2]
    have e : seqI a p s 2 = addI a p s s := by show addI a p (seqI a p s 1) s = _; rw [seq_one]
    rw [e]
theorem tim_seq {a b p : Int} (hp : p5B p = true) (hdisc : discI a b % p ≠ 0) : ∀ (n : Nat) (out s : List Int), onF a b p out = true → onF a b p s = true → timI a p n out s = addI a p out (seqI a p s n) := by
  intro n
  induction n using Nat.strongRecOn with
  | ind n ih =>
    intro out s ho hs
    by_cases h0 : n = 0
    · subst h0
      rw [timI_zero]; show out = addI a p out []; rw [addI_nil']
    by_cases h1 : n % 2 = 1
    · rw [timI_odd a p out s h1, ih (n / 2) (by omega) _ _ (on_add hp ho hs) (on_add hp hs hs), seq_dbl hp hdisc hs, add_assoc_pt hp hdisc ho hs (on_seq hp hs _)]
      congr 1
      have := seq_add hp hdisc hs 1 (n / 2 + n / 2)
      rw [seq_one, show 1 + (n / 2 + n / 2) = n by omega] at this
      exact this.symm
    · rw [timI_even a p out s h0 h1, ih (n / 2) (by omega) _ _ ho (on_add hp hs hs), seq_dbl hp hdisc hs, show n / 2 + n / 2 = n by omega]
noncomputable def ordN (a p : Int) (s : List Int) : Nat := @dite _ (∃ K, IsOrd a p s K) (Classical.propDecidable _) (fun h => h.choose) (fun _ => 0)
theorem ordN_is {a b p : Int} {s : List Int} (hp : p5B p = true) (hdisc : discI a b % p ≠ 0) (hs : onF a b p s = true) : IsOrd a p s (ordN a p s) := by
  have h := ord_ex hp hdisc hs
  unfold ordN
  rw [dif_pos h]
  exact h.choose_spec
theorem times_ord {a b p n : Int} {s : List Int} (hp : p5B p = true) (hdisc : discI a b % p ≠ 0) (hs : onF a b p s = true) (n1 : 1 ≤ n) (h : timesL a p n s = []) : (ordN a p s : Int) ≤ n := by
  unfold timesL at h
  rw [if_neg (by omega), tim_seq hp hdisc _ _ _ rfl hs, addI_nil] at h
  obtain ⟨_, _, _, h4⟩ := ordN_is hp hdisc hs
  rcases Nat.lt_or_ge n.natAbs (ordN a p s) with g | g
  · exact absurd h (h4 n.natAbs (by omega) g)
  · omega
/-- the greatest order in a list of points. -/
noncomputable def moL (a p : Int) (l : List (List Int)) : Nat := l.foldl (fun m s => max m (ordN a p s)) 0
theorem moL_step {a p : Int} {L : List (List Int)} {k : Nat} (hk : k < L.length) : moL a p (L.take (k + 1)) = max (moL a p (L.take k)) (ordN a p (L.getD k [])) := by
  have e : L.take (k + 1) = L.take k ++ [L.getD k []] := by rw [List.take_add_one, List.getD_eq_getElem?_getD, List.getElem?_eq_getElem hk]; rfl
  unfold moL
  rw [e, List.foldl_append]
  rfl
theorem moL_le {a p : Int} {L : List (List Int)} (h : ∀ k, k < L.length → ordN a p (L.getD k []) ≤ 1000000) : ∀ k, k ≤ L.length → moL a p (L.take k) ≤ 1000000
  | 0, _ => by show (0 : Nat) ≤ _; omega
  | k + 1, hk => by rw [moL_step hk]; have := moL_le h k (by omega); have := h k hk; omega
theorem moL_pos {a p : Int} {L : List (List Int)} (h : ∀ k, k < L.length → 1 ≤ ordN a p (L.getD k [])) : ∀ k, 1 ≤ k → k ≤ L.length → 1 ≤ moL a p (L.take k)
  | 0, h0, _ => by omega
  | k + 1, _, hk => by rw [moL_step hk]; have := h k hk; omega
noncomputable def shM (a b p : Int) : Int := (moL a p (ptsL a b p) : Nat)
noncomputable def shV (a b p : Int) : Value := if smallB a b p = true then .tuple #[.int .i64 (((ptsL a b p).length : Int) / (shM a b p)), .int .i64 (shM a b p), .bool true] else .tuple #[.int .i64 0, .int .i64 0, .bool false]
theorem ptsL_pos (a b p : Int) : 1 ≤ (ptsL a b p).length := by unfold ptsL; rw [List.length_cons]; omega
end Go.Proofs.Ytaaagjdakbnhnaa
