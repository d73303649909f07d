/- Sl: slices of integers: what a walk is told of one that is read (Rd), of one that the call has made (Own); contracts of the helpers that read, copy, compare, mark them. No conditions. -/
import Derived.Test.YtadijbaphfgeiaaDoorPri
import Derived.Laws.CopyOwn
namespace Go.Proofs.YtadijbaphfgeiaaDoor
open Go.RowKit

/-- the slice value v reads as the integers xs in w. -/
def Rd (w : World) (v : Value) (xs : List Int) : Prop :=
  ∃ (ad : Option Addr) (cap : Nat), v = .slice ad xs.length cap ∧ xs.length ≤ maxLen ∧
    (0 < xs.length → ∃ b off, ad = some ⟨b, off, none⟩ ∧ b < w.heap.size ∧ ∀ i, i < xs.length → w.cell? ⟨b, off + i, none⟩ = some (.int .i64 (xs.getD i 0)))
/-- the call's own slice. -/
def Own (w : World) (base : Nat) (v : Value) (xs : List Int) : Prop := w.ownsRow base 3 1 v xs.length (xs.map (Value.int .i64))

theorem Rd.keep {w w' : World} {v : Value} {xs : List Int} (h : Rd w v xs) (hb : Below w.heap.size w w') : Rd w' v xs := by
  obtain ⟨ad, cap, hv, hl, hc⟩ := h
  refine ⟨ad, cap, hv, hl, fun hp => ?_⟩
  obtain ⟨b, off, ha, hlt, hcell⟩ := hc hp
  exact ⟨b, off, ha, Nat.lt_of_lt_of_le hlt hb.size, fun i hi => (hb.cell (p := ⟨b, off + i, none⟩) hlt).trans (hcell i hi)⟩
theorem Own.keep {w w' : World} {base : Nat} {v : Value} {xs : List Int} (h : Own w base v xs) (hb : Below w.heap.size w w') : Own w' base v xs := by
  obtain ⟨h1, h2⟩ := h
  refine ⟨h1, ?_⟩
  rcases h2 with h2 | ⟨g, cap, cur, hv, hg, hh, r⟩
  · exact .inl h2
  · have hlt : g < w.heap.size := by
      rcases Nat.lt_or_ge g w.heap.size with h' | h'
      · exact h'
      · rw [Array.getElem?_eq_none h'] at hh; cases hh
    exact .inr ⟨g, cap, cur, hv, hg, (hb.block g hlt).trans hh, r⟩
theorem Own.le {w : World} {base base' : Nat} {v : Value} {xs : List Int} (h : Own w base v xs) (hb : base' ≤ base) : Own w base' v xs := Joins.ownsRow_le h hb
theorem Own.nil (w : World) (base : Nat) : Own w base (.slice none 0 0) [] := World.ownsRow_nil _ _ _ _
theorem Own.shape {w : World} {base : Nat} {v : Value} {xs : List Int} (h : Own w base v xs) :
    (v = .slice none 0 0 ∧ xs = []) ∨ ∃ g cap, v = .slice (some ⟨g, 0, none⟩) xs.length cap ∧ base ≤ g ∧ g < w.heap.size ∧ xs.length ≤ cap ∧ cap ≤ maxLen := by
  rcases h.2 with ⟨h1, h2⟩ | ⟨g, cap, cur, hv, hg, hh, hn, hm, _⟩
  · exact .inl ⟨h1, List.eq_nil_of_length_eq_zero h2⟩
  · have hlt : g < w.heap.size := by
      rcases Nat.lt_or_ge g w.heap.size with h' | h'
      · exact h'
      · rw [Array.getElem?_eq_none h'] at hh; cases hh
    exact .inr ⟨g, cap, hv, hg, hlt, hn, hm⟩
theorem getD_map_int (xs : List Int) (i : Nat) (h : i < xs.length) : (xs.map (Value.int .i64))[i]? = some (.int .i64 (xs.getD i 0)) := by
  simp [List.getElem?_map, List.getElem?_eq_getElem h]
theorem Own.cellAt {w : World} {base g cap : Nat} {xs : List Int} (h : Own w base (.slice (some ⟨g, 0, none⟩) xs.length cap) xs) (i : Nat) (hi : i < xs.length) : w.cell? ⟨g, i, none⟩ = some (.int .i64 (xs.getD i 0)) := by
  rw [World.ownsRow.cellAt h i (by omega), getD_map_int xs i hi]
theorem Own.rd {w : World} {base : Nat} {v : Value} {xs : List Int} (h : Own w base v xs) : Rd w v xs := by
  rcases h.shape with ⟨rfl, rfl⟩ | ⟨g, cap, rfl, hg, hlt, hn, hm⟩
  · exact ⟨none, 0, rfl, Nat.zero_le _, fun h => by simp at h⟩
  · exact ⟨_, cap, rfl, by omega, fun _ => ⟨g, 0, rfl, hlt, fun i hi => by rw [Nat.zero_add]; exact h.cellAt i hi⟩⟩
theorem IsRow.len {k : IntKind} {w : World} {ad : Option Addr} {len cap : Nat} {zs : List Int} (h : IsRow k w ad len cap zs) : (zs.take len).length = len := by
  rcases h with ⟨rfl, rfl, rfl, rfl⟩ | ⟨x, rfl, hl, hm, hz, _⟩
  · rfl
  · rw [List.length_take]; omega
theorem IsRow.le {k : IntKind} {w : World} {ad : Option Addr} {len cap : Nat} {zs : List Int} (h : IsRow k w ad len cap zs) : len ≤ maxLen := by
  rcases h with ⟨rfl, rfl, rfl, rfl⟩ | ⟨x, rfl, hl, hm, hz, _⟩
  · exact Nat.zero_le _
  · omega
theorem Rd.of_row {w : World} {ad : Option Addr} {len cap : Nat} {zs : List Int} (h : IsRow .i64 w ad len cap zs) : Rd w (.slice ad len cap) (zs.take len) ∧ (∀ n ∈ zs.take len, I64 n) := by
  rcases h with ⟨rfl, rfl, rfl, rfl⟩ | ⟨x, rfl, hl, hm, hz, hcell, hwz⟩
  · exact ⟨⟨none, 0, rfl, Nat.zero_le _, fun h => by simp at h⟩, fun n hn => by simp at hn⟩
  · have hlen : (zs.take len).length = len := by rw [List.length_take]; omega
    refine ⟨⟨some x, cap, by rw [hlen], by omega, fun hp => ?_⟩, fun n hn => i64_of (hwz n (List.mem_of_mem_take hn))⟩
    rw [hlen] at hp ⊢
    obtain ⟨b, off, spot⟩ := x
    have h0 := hcell 0 (by omega)
    have hspot : spot = none := by simpa [Addr.add] using World.cell?_spot h0
    subst hspot
    refine ⟨b, off, rfl, ?_, fun i hi => ?_⟩
    · have := World.block_lt_of_cell? w _ h0
      simpa [Addr.add] using this
    · have hi' := hcell i (by omega)
      have he : ((⟨b, off, none⟩ : Addr).add i) = ⟨b, off + i, none⟩ := by unfold Addr.add; split <;> simp_all
      rw [he] at hi'
      rw [hi']
      congr 2
      simp [List.getD_eq_getElem?_getD, hi]

theorem Tryd.info_int : (Tryd.prog.info? 3).map (fun i => (i.zero, i.size, i.bytes)) = some (some (.int .i64 0), 1, 8) := by kernel_rfl

/-- returned the call's own slice xs. -/
def RetSl (xs : List Int) (w : World) (e : Ending) (w' : World) : Prop := ∃ v, e = .returned v ∧ Below w.heap.size w w' ∧ Own w' w.heap.size v xs

def allB (xs : List Int) (lo hi : Int) : Bool := xs.all fun n => inB n lo hi
theorem allB_step {xs : List Int} {lo hi : Int} {k : Nat} (hk : k < xs.length) : allB (xs.drop k) lo hi = (inB (xs.getD k 0) lo hi && allB (xs.drop (k + 1)) lo hi) := by
  rw [List.drop_eq_getElem_cons hk]
  simp only [allB, List.all_cons, List.getD_eq_getElem?_getD, List.getElem?_eq_getElem hk, Option.getD_some]
theorem set_next (xs : List Int) (k : Nat) (hk : k < xs.length) :
    ((xs.take k ++ List.replicate (xs.length - k) 0).map (Value.int .i64)).set k (.int .i64 (xs.getD k 0)) = (xs.take (k + 1) ++ List.replicate (xs.length - (k + 1)) 0).map (Value.int .i64) := by
  rw [← List.map_set]
  congr 1
  apply List.ext_getElem?
  intro i
  simp only [List.getElem?_set, List.getElem?_append, List.length_append, List.length_take, List.length_replicate, List.getElem?_replicate, List.getElem?_take]
  rw [Nat.min_eq_left (by omega), Nat.min_eq_left (by omega)]
  by_cases h : k = i
  · subst h
    rw [if_pos rfl, if_pos (by omega), if_pos (by omega), if_pos (by omega)]
    simp [List.getD_eq_getElem?_getD, List.getElem?_eq_getElem hk]
  · rw [if_neg h]
    by_cases h1 : i < k
    · rw [if_pos h1, if_pos h1, if_pos (by omega), if_pos (by omega)]
    · simp only [if_neg h1, if_neg (show ¬ i < k + 1 by omega)]
      by_cases h2 : i - k < xs.length - k
      · simp only [if_pos h2, if_pos (show i - (k + 1) < xs.length - (k + 1) by omega)]
      · simp only [if_neg h2, if_neg (show ¬ i - (k + 1) < xs.length - (k + 1) by omega)]
end Go.Proofs.YtadijbaphfgeiaaDoor
