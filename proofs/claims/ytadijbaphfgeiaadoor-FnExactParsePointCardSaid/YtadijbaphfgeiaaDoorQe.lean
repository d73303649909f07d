/- Qe: the point whose text it is: both readers return it. No conditions. -/
import Derived.Test.YtadijbaphfgeiaaDoorQd
import Derived.Test.YtadijbaphfgeiaaDoorPz
namespace Go.Proofs.YtadijbaphfgeiaaDoor
open Go.RowKit

/-- the point of a curve whose text it is, or none. -/
noncomputable def ppt (a b : Int) (s : ByteArray) : Value :=
  @dite _ (∃ q : Int × Int × Int, pointB a b q.1 q.2.1 q.2.2 = true ∧ ptT q.1 q.2.1 q.2.2 = s) (Classical.propDecidable _) (fun h => .tuple #[.agg #[.int .i64 h.choose.1, .int .i64 h.choose.2.1, .int .i64 h.choose.2.2], .bool true]) (fun _ => .tuple #[.agg #[.int .i64 0, .int .i64 0, .int .i64 0], .bool false])
theorem pointB_fin {a b x y e : Int} (h : pointB a b x y e = true) (he : e ≠ 0) : FinP a b x y e := FinP.of (by unfold pointB at h; simp at h; exact h.2) he
theorem pointB_zero {a b x y : Int} (h : pointB a b x y 0 = true) : x = 0 ∧ y = 0 := by
  unfold pointB at h
  simp only [Bool.and_eq_true] at h
  rcases onB_true.1 h.2 with ⟨h1, h2, _⟩ | ⟨_, _, h, _⟩
  · exact ⟨h1, h2⟩
  · omega
theorem frT_inj {n d n' d' : Int} (h : fracB n d = true) (h' : fracB n' d' = true) (e : (frT n d).data.toList = (frT n' d').data.toList) : n = n' ∧ d = d' := by
  have e1 : frT n d = frT n' d' := by
    apply ByteArray.ext
    exact Array.ext' e
  have k1 := fpV_yes h
  rw [e1, fpV_yes h'] at k1
  simp at k1
  exact ⟨k1.1.symm, k1.2.symm⟩
theorem parts_of {a b x y e : Int} (h : pointB a b x y e = true) (he : e ≠ 0) : fracB x (e * e) = true ∧ fracB y (e * e * e) = true := by
  have f := pointB_fin h he
  obtain ⟨k1, k2, k3, k4, k5, k6, _⟩ := pointB_bd h
  exact ⟨frac_x f.x0 f.x1 f.e0 f.e1 f.g, frac_y k5 k6 f.e0 f.e1 f.g f.on⟩
theorem sq_inj {e f : Int} (he : 1 ≤ e) (hf : 1 ≤ f) (h : e * e = f * f) : e = f := by
  rcases Int.lt_trichotomy e f with k | k | k
  · have := Int.mul_lt_mul k (Int.le_of_lt k) (by omega) (by omega); omega
  · exact k
  · have := Int.mul_lt_mul k (Int.le_of_lt k) (by omega) (by omega); omega
theorem ptT_inj {a b x y e x' y' e' : Int} (h : pointB a b x y e = true) (h' : pointB a b x' y' e' = true) (k : ptT x y e = ptT x' y' e') : x = x' ∧ y = y' ∧ e = e' := by
  by_cases he : e = 0
  · subst he
    by_cases he' : e' = 0
    · subst he'
      obtain ⟨rfl, rfl⟩ := pointB_zero h
      obtain ⟨rfl, rfl⟩ := pointB_zero h'
      exact ⟨rfl, rfl, rfl⟩
    · have k1 : (ptT x y 0).data.toList = (ptT x' y' e').data.toList := by rw [k]
      rw [ptT_list he'] at k1
      unfold ptT at k1
      rw [if_pos rfl] at k1
      cases k1
  · by_cases he' : e' = 0
    · subst he'
      have k1 : (ptT x y e).data.toList = (ptT x' y' 0).data.toList := by rw [k]
      rw [ptT_list he] at k1
      unfold ptT at k1
      rw [if_pos rfl] at k1
      cases k1
    · have k1 : (ptT x y e).data.toList = (ptT x' y' e').data.toList := by rw [k]
      rw [ptT_list he, ptT_list he'] at k1
      have k2 := List.append_cancel_right (List.cons.inj k1).2
      have k3 : pcs 44 ((frT x (e * e)).data.toList ++ 44 :: (frT y (e * e * e)).data.toList) = pcs 44 ((frT x' (e' * e')).data.toList ++ 44 :: (frT y' (e' * e' * e')).data.toList) := by rw [k2]
      rw [pcs_two (no44 _ _) (no44 _ _), pcs_two (no44 _ _) (no44 _ _)] at k3
      obtain ⟨p1, p2⟩ := parts_of h he
      obtain ⟨p1', p2'⟩ := parts_of h' he'
      simp only [List.cons.injEq, and_true] at k3
      obtain ⟨q1, q2⟩ := frT_inj p1 p1' k3.1
      obtain ⟨q3, _⟩ := frT_inj p2 p2' k3.2
      exact ⟨q1, q3, sq_inj (pointB_fin h he).e0 (pointB_fin h' he').e0 q2⟩
theorem ppt_yes {a b x y e : Int} (h : pointB a b x y e = true) : ppt a b (ptT x y e) = .tuple #[.agg #[.int .i64 x, .int .i64 y, .int .i64 e], .bool true] := by
  unfold ppt
  have hex : ∃ q : Int × Int × Int, pointB a b q.1 q.2.1 q.2.2 = true ∧ ptT q.1 q.2.1 q.2.2 = ptT x y e := ⟨(x, y, e), h, rfl⟩
  rw [dif_pos hex]
  obtain ⟨q1, q2, q3⟩ := ptT_inj hex.choose_spec.1 h hex.choose_spec.2
  rw [q1, q2, q3]
theorem ppt_no {a b : Int} {s : ByteArray} (h : ∀ x y e, pointB a b x y e = true → ptT x y e ≠ s) : ppt a b s = .tuple #[.agg #[.int .i64 0, .int .i64 0, .int .i64 0], .bool false] := by
  unfold ppt
  rw [dif_neg (fun ⟨q, h1, h2⟩ => h _ _ _ h1 h2)]
theorem ppt_parts (a b : Int) (s : ByteArray) : ∃ x y e ok, ppt a b s = .tuple #[.agg #[.int .i64 x, .int .i64 y, .int .i64 e], .bool ok] ∧ ((ok = true ∧ pointB a b x y e = true ∧ ptT x y e = s) ∨ (ok = false ∧ x = 0 ∧ y = 0 ∧ e = 0)) := by
  by_cases h : ∃ x y e, pointB a b x y e = true ∧ ptT x y e = s
  · obtain ⟨x, y, e, hc, rfl⟩ := h
    exact ⟨x, y, e, true, ppt_yes hc, .inl ⟨rfl, hc, rfl⟩⟩
  · exact ⟨0, 0, 0, false, ppt_no (fun x y e h1 h2 => h ⟨x, y, e, h1, h2⟩), .inr ⟨rfl, rfl, rfl, rfl⟩⟩
theorem pointB_O {a b : Int} (hc : curveB a b = true) : pointB a b 0 0 0 = true := by
  unfold pointB
  rw [hc, onB_true.2 (.inl ⟨rfl, rfl, rfl⟩)]
  rfl
theorem ppt_O {a b : Int} (hc : curveB a b = true) : ppt a b ⟨#[79]⟩ = .tuple #[.agg #[.int .i64 0, .int .i64 0, .int .i64 0], .bool true] := by
  have h := ppt_yes (pointB_O hc)
  unfold ptT at h
  rwa [if_pos rfl] at h
theorem root_of {d : Int} (h : 0 ≤ d) : ∃ k : Int, 0 ≤ k ∧ k * k ≤ d ∧ d < (k + 1) * (k + 1) := by
  have key : ∀ n : Nat, ∃ k : Nat, k * k ≤ n ∧ n < (k + 1) * (k + 1) := by
    intro n
    induction n with
    | zero => exact ⟨0, by omega, by omega⟩
    | succ n ih =>
      obtain ⟨k, h1, h2⟩ := ih
      by_cases h3 : n + 1 < (k + 1) * (k + 1)
      · exact ⟨k, by omega, h3⟩
      · refine ⟨k + 1, by omega, ?_⟩
        have : (k + 1 + 1) * (k + 1 + 1) = (k + 1) * (k + 1) + 2 * (k + 1) + 1 := by simp [Nat.mul_add, Nat.add_mul]; omega
        omega
  obtain ⟨k, h1, h2⟩ := key d.toNat
  refine ⟨k, by omega, ?_, ?_⟩
  · have : (k : Int) * k = ((k * k : Nat) : Int) := by simp
    omega
  · have : ((k : Int) + 1) * (k + 1) = (((k + 1) * (k + 1) : Nat) : Int) := by simp
    omega
theorem trim_list (L : List UInt8) : Lib.trimSuffix (Lib.trimPrefix (40 :: (L ++ [41])) [40]) [41] = L := by rw [trimP, trimS]
theorem pt_cut {x y e : Int} (he : e ≠ 0) : Lib.cut (Lib.trimSuffix (Lib.trimPrefix (ptT x y e).data.toList [40]) [41]) [44] = ((frT x (e * e)).data.toList, (frT y (e * e * e)).data.toList, true) := by
  rw [ptT_list he, trim_list, cut_two _ (no44 _ _)]
theorem mk_list (s : ByteArray) : (⟨s.data.toList.toArray⟩ : ByteArray) = s := by cases s; simp
theorem parsePoint_any (a b : Int) (s : ByteArray) (w : World) (hcur : curveB a b = true) (hs : s.size ≤ 1048576) (ht : LibT w) :
    Calls Tryd.prog 17 #[.agg #[.int .i64 a, .int .i64 b], .string s] w (Ret (ppt a b s) w) := by
  by_cases hO : s = ⟨#[79]⟩
  · subst hO
    rw [ppt_O hcur]
    exact parsePoint_O a b w
  · obtain ⟨n1, d1, ok1, hfx, hx⟩ := fpV_parts ⟨(Lib.cut (Lib.trimSuffix (Lib.trimPrefix s.data.toList [40]) [41]) [44]).1.toArray⟩
    obtain ⟨n2, d2, ok2, hfy, hy⟩ := fpV_parts ⟨(Lib.cut (Lib.trimSuffix (Lib.trimPrefix s.data.toList [40]) [41]) [44]).2.1.toArray⟩
    have hd : 0 ≤ d1 ∧ d1 ≤ 1000000000 := by
      rcases hx with ⟨_, h, _⟩ | ⟨_, _, rfl⟩
      · obtain ⟨_, _, h3, h4⟩ := frac_bd h
        omega
      · omega
    obtain ⟨k, k0, k1, k2⟩ := root_of hd.1
    obtain ⟨e, ok3, hr, he⟩ : ∃ (e : Int) (ok3 : Bool), (if k * k = d1 then Value.tuple #[.int .i64 k, .bool true] else .tuple #[.int .i64 0, .bool false]) = .tuple #[.int .i64 e, .bool ok3] ∧ ((k * k = d1 ∧ e = k ∧ ok3 = true) ∨ (k * k ≠ d1 ∧ ok3 = false)) := by
      by_cases h : k * k = d1
      · exact ⟨k, true, by rw [if_pos h], .inl ⟨h, rfl, rfl⟩⟩
      · exact ⟨0, false, by rw [if_neg h], .inr ⟨h, rfl⟩⟩
    have hroot : ∀ w, Calls Tryd.prog 36 #[.int .i64 d1] w (Ret (.tuple #[.int .i64 e, .bool ok3]) w) := fun w => by
      have := exactRoot_any d1 k w hd.1 (by omega) k0 k1 k2
      rwa [hr] at this
    have hv : ppV a b s n1 n2 e ok1 ok2 ok3 = ppt a b s := by
      by_cases hex : ∃ x y f, pointB a b x y f = true ∧ ptT x y f = s
      · obtain ⟨x, y, f, hp, rfl⟩ := hex
        have hf : f ≠ 0 := by
          rintro rfl
          exact hO (by unfold ptT; rw [if_pos rfl])
        obtain ⟨p1, p2⟩ := parts_of hp hf
        rw [pt_cut hf] at hfx hfy
        simp only [mk_list] at hfx hfy
        rw [fpV_yes p1] at hfx
        rw [fpV_yes p2] at hfy
        simp only [Value.tuple.injEq, Array.mk.injEq, List.cons.injEq, Value.agg.injEq, Value.int.injEq, Value.bool.injEq, true_and, and_true] at hfx hfy
        obtain ⟨⟨rfl, rfl⟩, rfl⟩ := hfx
        obtain ⟨⟨rfl, rfl⟩, rfl⟩ := hfy
        have hk : k = f := root_eq k0 (by have := (pointB_fin hp hf).e0; omega) k1 k2
        subst hk
        rcases he with ⟨_, rfl, rfl⟩ | ⟨h, _⟩
        · rw [ppt_yes hp]
          unfold ppV
          rw [if_pos ⟨rfl, rfl, rfl, hp, rfl⟩]
        · exact absurd rfl h
      · rw [ppt_no (fun x y f h1 h2 => hex ⟨x, y, f, h1, h2⟩)]
        unfold ppV
        rw [if_neg (fun ⟨_, _, _, h1, h2⟩ => hex ⟨_, _, _, h1, h2⟩)]
    rw [← hv]
    exact parsePoint_run a b s _ _ n1 d1 n2 d2 e ok1 ok2 ok3 w hs hO rfl rfl hfx hfy hroot ht
end Go.Proofs.YtadijbaphfgeiaaDoor
