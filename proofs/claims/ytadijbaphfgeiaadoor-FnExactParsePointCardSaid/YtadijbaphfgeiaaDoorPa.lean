/- Pa: plain: numerals are read back; texts cut at a byte. No conditions. -/
import Derived.Test.YtadijbaphfgeiaaDoorCv
import Derived.Lib.AtoiTie
import Derived.Lib.IndexBytes
import Derived.Lib.IndexMore
namespace Go.Proofs.YtadijbaphfgeiaaDoor
open Go.RowKit

theorem decFrom_cons (acc : Nat) (b : UInt8) (l : List UInt8) : Lib.decFrom acc (b :: l) = match Lib.digitVal b with | some d => Lib.decFrom (acc * 10 + d) l | none => none := rfl
theorem decFrom_append : ∀ (l m : List UInt8) (acc : Nat), Lib.decFrom acc (l ++ m) = (Lib.decFrom acc l).bind fun a => Lib.decFrom a m
  | [], m, acc => by simp [Lib.decFrom]
  | b :: l, m, acc => by
    show Lib.decFrom acc (b :: (l ++ m)) = _
    rw [decFrom_cons, decFrom_cons]
    cases h : Lib.digitVal b with
    | none => rfl
    | some d => exact decFrom_append l m _
theorem u8_dig {d : Nat} (h : d < 10) : (UInt8.ofNat (48 + d)).toNat = 48 + d := by
  rw [UInt8.toNat_ofNat']; omega
theorem digitVal_dig {d : Nat} (h : d < 10) : Lib.digitVal (UInt8.ofNat (48 + d)) = some d := by
  unfold Lib.digitVal
  rw [u8_dig h, if_pos (by omega)]
  congr 1; omega
theorem decFrom_dec (u : Nat) : Lib.decFrom 0 (Lib.decDigits u) = some u := by
  induction u using Nat.strongRecOn with
  | ind u ih =>
    by_cases h : u < 10
    · rw [Lib.decDigits, dif_pos h]
      simp only [Lib.decFrom, digitVal_dig h, Nat.zero_mul, Nat.zero_add]
    · rw [Lib.decDigits, dif_neg h, decFrom_append, ih (u / 10) (by omega)]
      simp only [Option.bind_some, Lib.decFrom, digitVal_dig (show u % 10 < 10 by omega)]
      congr 1; omega
theorem dec_digits (u : Nat) : ∀ b ∈ Lib.decDigits u, 48 ≤ b.toNat ∧ b.toNat ≤ 57 := by
  induction u using Nat.strongRecOn with
  | ind u ih =>
    intro b hb
    by_cases h : u < 10
    · rw [Lib.decDigits, dif_pos h, List.mem_singleton] at hb
      subst hb
      rw [u8_dig h]; omega
    · rw [Lib.decDigits, dif_neg h, List.mem_append, List.mem_singleton] at hb
      rcases hb with hb | rfl
      · exact ih (u / 10) (by omega) b hb
      · rw [u8_dig (by omega)]; omega
theorem dec_ne (u : Nat) : Lib.decDigits u ≠ [] := by
  rw [Lib.decDigits]
  split
  · simp
  · simp
theorem dec_length : ∀ (k u : Nat), u < 10 ^ (k + 1) → (Lib.decDigits u).length ≤ k + 1
  | 0, u, h => by rw [Lib.decDigits, dif_pos (by simpa using h)]; simp
  | k + 1, u, h => by
    by_cases h' : u < 10
    · rw [Lib.decDigits, dif_pos h']; simp
    · rw [Lib.decDigits, dif_neg h', List.length_append]
      have := dec_length k (u / 10) (by rw [Nat.pow_succ] at h; omega)
      simp; omega
/-- a numeral of two digits or more does not begin with a zero. -/
theorem dec_head (u : Nat) : (Lib.decDigits u).head? = some 48 → u = 0 := by
  induction u using Nat.strongRecOn with
  | ind u ih =>
    intro hh
    by_cases h : u < 10
    · rw [Lib.decDigits, dif_pos h] at hh
      have := congrArg (Option.map UInt8.toNat) hh
      simp only [List.head?_cons, Option.map_some, Option.some.injEq] at this
      rw [u8_dig h] at this
      have e : (48 : UInt8).toNat = 48 := rfl
      omega
    · rw [Lib.decDigits, dif_neg h, List.head?_append, Option.or_of_isSome (by rw [List.isSome_head?]; simp [dec_ne])] at hh
      have := ih (u / 10) (by omega) hh
      omega
/-- the reference's reading of a numeral. -/
def rdL (l : List UInt8) : Option Nat := if 1 ≤ l.length ∧ l.length ≤ 6 ∧ ¬ (l.head? = some 48 ∧ 1 < l.length) then Lib.decFrom 0 l else none
theorem rdL_dec {u : Nat} (h : u < 1000000) : rdL (Lib.decDigits u) = some u := by
  have h1 := dec_length 5 u h
  have h2 : 1 ≤ (Lib.decDigits u).length := by
    rcases Nat.eq_zero_or_pos (Lib.decDigits u).length with h' | h'
    · exact absurd (List.length_eq_zero_iff.1 h') (dec_ne u)
    · exact h'
  have h6 : ¬ ((Lib.decDigits u).head? = some 48 ∧ 1 < (Lib.decDigits u).length) := by
    rintro ⟨h3, h4⟩
    obtain rfl := dec_head u h3
    have h5 := dec_length 0 0 (by decide)
    omega
  unfold rdL
  rw [if_pos ⟨h2, h1, h6⟩, decFrom_dec]
/-- the reference's reading of a numeral with a sign. -/
def sgL : List UInt8 → Int
  | [] => 100000
  | c :: r => if c = 45 then (match rdL r with | some m => -(m : Int) | none => 100000) else (match rdL (c :: r) with | some m => m | none => 100000)
theorem sgL_cons (c : UInt8) (r : List UInt8) : sgL (c :: r) = if c = 45 then (match rdL r with | some m => -(m : Int) | none => 100000) else (match rdL (c :: r) with | some m => (m : Int) | none => 100000) := rfl
theorem intS_list (n : Int) : (intS n).data.toList = Lib.itoa n := by rw [← intS_itoa]
theorem dec_head_ne (u : Nat) : ∃ c r, Lib.decDigits u = c :: r ∧ c ≠ 45 ∧ c ≠ 43 ∧ c ≠ 32 := by
  obtain ⟨c, r, h⟩ := List.exists_cons_of_ne_nil (dec_ne u)
  have := dec_digits u c (by rw [h]; simp)
  refine ⟨c, r, h, ?_, ?_, ?_⟩
  · rintro rfl; have e : (45 : UInt8).toNat = 45 := rfl; omega
  · rintro rfl; have e : (43 : UInt8).toNat = 43 := rfl; omega
  · rintro rfl; have e : (32 : UInt8).toNat = 32 := rfl; omega
theorem sgL_int {n : Int} (h0 : -1000000 < n) (h1 : n < 1000000) : sgL (intS n).data.toList = n := by
  rw [intS_list]
  unfold Lib.itoa
  by_cases h : n < 0
  · rw [if_pos h]
    rw [sgL_cons, if_pos rfl, rdL_dec (by omega)]
    show -(n.natAbs : Int) = n
    omega
  · rw [if_neg h]
    obtain ⟨c, r, e, hc, _⟩ := dec_head_ne n.toNat
    have hr := rdL_dec (u := n.toNat) (by omega)
    rw [e] at hr ⊢
    rw [sgL_cons, if_neg hc, hr]
    show (n.toNat : Int) = n
    omega
theorem int_none {b : UInt8} (h1 : b.toNat < 45 ∨ 57 < b.toNat ∨ b.toNat = 46 ∨ b.toNat = 47) (n : Int) : b ∉ (intS n).data.toList := by
  rw [intS_list]
  unfold Lib.itoa
  intro hb
  split at hb
  · rcases List.mem_cons.1 hb with rfl | hb
    · have e : (45 : UInt8).toNat = 45 := rfl
      omega
    · have := dec_digits _ b hb; omega
  · have := dec_digits _ b hb; omega
theorem int_size {n : Int} {k : Nat} (h0 : n.natAbs < 10 ^ (k + 1)) : (intS n).data.toList.length ≤ k + 2 := by
  rw [intS_list]
  unfold Lib.itoa
  split
  · have := dec_length k n.natAbs h0
    simp; omega
  · have := dec_length k n.toNat (by omega)
    omega
theorem atoi_cons (b : UInt8) (r : List UInt8) : Lib.atoi (b :: r) = if b == 45 then (Lib.decNat r).map fun (m : Nat) => -(m : Int) else if b == 43 then (Lib.decNat r).map fun (m : Nat) => (m : Int) else (Lib.decNat (b :: r)).map fun (m : Nat) => (m : Int) := rfl
theorem atoi_int {n : Int} (h0 : -1000000 < n) (h1 : n < 1000000) : Lib.atoiAll (intS n).data.toList = .ok n := by
  have hl := int_size (n := n) (k := 5) (by omega)
  rw [Lib.atoiAll_short _ (by omega), intS_list]
  have hne : ∀ u, (Lib.decDigits u).isEmpty = false := fun u => by
    cases h : Lib.decDigits u with
    | nil => exact absurd h (dec_ne u)
    | cons _ _ => rfl
  unfold Lib.itoa
  by_cases h : n < 0
  · rw [if_pos h, atoi_cons, if_pos (by rfl)]
    unfold Lib.decNat
    rw [hne, if_neg (by decide), decFrom_dec]
    show Lib.NumEnd.ok (-(n.natAbs : Int)) = _
    congr 1; omega
  · rw [if_neg h]
    obtain ⟨c, r, e, hc, hc', _⟩ := dec_head_ne n.toNat
    have hd : Lib.decNat (c :: r) = some n.toNat := by
      rw [← e]; unfold Lib.decNat
      rw [hne, if_neg (by decide), decFrom_dec]
    rw [e, atoi_cons, if_neg (by simpa using hc), if_neg (by simpa using hc'), hd]
    show Lib.NumEnd.ok (n.toNat : Int) = _
    congr 1; omega
/-- the pieces of a text between the places of a byte. -/
def pcs (b : UInt8) : List UInt8 → List (List UInt8)
  | [] => [[]]
  | c :: l => if c = b then [] :: pcs b l else match pcs b l with | h :: t => (c :: h) :: t | [] => [[c]]
theorem pcs_cons (b c : UInt8) (l : List UInt8) : pcs b (c :: l) = if c = b then [] :: pcs b l else match pcs b l with | h :: t => (c :: h) :: t | [] => [[c]] := rfl
theorem pcs_none {b : UInt8} : ∀ {l : List UInt8}, b ∉ l → pcs b l = [l]
  | [], _ => rfl
  | c :: l, h => by
    rw [List.mem_cons, not_or] at h
    rw [pcs_cons, if_neg (fun e => h.1 e.symm), pcs_none h.2]
theorem pcs_cut {b : UInt8} : ∀ {l : List UInt8} (m : List UInt8), b ∉ l → pcs b (l ++ b :: m) = l :: pcs b m
  | [], m, _ => by rw [List.nil_append, pcs_cons, if_pos rfl]
  | c :: l, m, h => by
    rw [List.mem_cons, not_or] at h
    rw [List.cons_append, pcs_cons, if_neg (fun e => h.1 e.symm), pcs_cut m h.2]
theorem pcs_two {b : UInt8} {l m : List UInt8} (h1 : b ∉ l) (h2 : b ∉ m) : pcs b (l ++ b :: m) = [l, m] := by rw [pcs_cut m h1, pcs_none h2]
theorem indexByte_two {b : UInt8} : ∀ {l : List UInt8} (m : List UInt8), b ∉ l → Lib.indexByte (l ++ b :: m) b = l.length
  | [], m, _ => by simp [Lib.indexByte]
  | c :: l, m, h => by
    rw [List.mem_cons, not_or] at h
    show Lib.indexByte (c :: (l ++ b :: m)) b = _
    have e : (c == b) = false := beq_eq_false_iff_ne.2 (fun e => h.1 e.symm)
    unfold Lib.indexByte
    rw [indexByte_two m h.2, e]
    simp
theorem cut_two {b : UInt8} {l : List UInt8} (m : List UInt8) (h : b ∉ l) : Lib.cut (l ++ b :: m) [b] = (l, m, true) := by
  unfold Lib.cut
  rw [Lib.index_one, indexByte_two m h, if_pos (by omega)]
  simp
theorem cvT_list (a b : Int) : (cvT a b).data.toList = (intS a).data.toList ++ 32 :: (intS b).data.toList := by
  unfold cvT
  simp
theorem cvT_inj {a b a' b' : Int} (h1 : -1000000 < a) (h2 : a < 1000000) (h3 : -1000000 < b) (h4 : b < 1000000) (h1' : -1000000 < a') (h2' : a' < 1000000) (h3' : -1000000 < b') (h4' : b' < 1000000) (h : cvT a b = cvT a' b') : a = a' ∧ b = b' := by
  have h0 := congrArg (fun s => pcs 32 s.data.toList) h
  simp only [cvT_list] at h0
  rw [pcs_two (int_none (.inl (by decide)) a) (int_none (.inl (by decide)) b), pcs_two (int_none (.inl (by decide)) a') (int_none (.inl (by decide)) b')] at h0
  injection h0 with e1 e2
  injection e2 with e2 _
  have k1 := congrArg sgL e1
  have k2 := congrArg sgL e2
  rw [sgL_int h1 h2, sgL_int h1' h2'] at k1
  rw [sgL_int h3 h4, sgL_int h3' h4'] at k2
  exact ⟨k1, k2⟩
end Go.Proofs.YtadijbaphfgeiaaDoor
