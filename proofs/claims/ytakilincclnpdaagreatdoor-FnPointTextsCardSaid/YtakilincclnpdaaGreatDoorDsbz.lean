/- Dsb: the world of a region that reads and writes boxes of curves and points, whatever they hold. No conditions. -/
import Derived.Test.YtakilincclnpdaaGreatDoorDwz
namespace Go.Proofs.YtakilincclnpdaaGreatDoor
open Go.RowKit

structure SB (w : World) (B : Nat) (cs ps : List Nat) (lim : Int) (X : World) : Prop where
  cr : Cr X B lim
  gr : w.grownBy X (some B)
  c : ∀ n ∈ cs, ∃ a b, BoxC B X n a b
  p : ∀ n ∈ ps, ∃ a b e, BoxP B X n a b e
section
variable {w X Y : World} {B m : Nat} {cs ps : List Nat} {lim lim' : Int}
theorem SB.le (h : SB w B cs ps lim X) (hl : lim ≤ lim') : SB w B cs ps lim' X := ⟨h.cr.le hl, h.gr, h.c, h.p⟩
theorem SB.drew (h : SB w B cs ps lim X) : SB w B cs ps lim X.drew := ⟨h.cr, grown_drew h.gr, h.c, h.p⟩
theorem SB.grow (h : SB w B cs ps lim X) (g : X.grownBy Y (some B)) (hc : Cr Y B lim') : SB w B cs ps lim' Y :=
  ⟨hc, grown_trans h.gr g, fun n hn => by obtain ⟨a, b, k⟩ := h.c n hn; exact ⟨a, b, k.keep g⟩, fun n hn => by obtain ⟨a, b, e, k⟩ := h.p n hn; exact ⟨a, b, e, k.keep g⟩⟩
theorem SB.putC (h : SB w B cs ps lim X) (hm : m ∈ cs) (h1 : w.heap.size ≤ m) (h2 : m ∉ ps) (a1 b1 : Int) : SB w B cs ps lim ((X.setCell ⟨m, 0, none⟩ (.int .i64 a1)).setCell ⟨m, 1, none⟩ (.int .i64 b1)) := by
  obtain ⟨a, b, hr⟩ := h.c m hm
  refine ⟨cr_putb (cr_putb h.cr hr.2.1 hr.2.2.1 _) hr.2.1 (hr.put0 a1).2.2.2.1 _, set_grown (set_grown h.gr h1 _) h1 _, fun n hn => ?_, fun n hn => ?_⟩
  · by_cases e : n = m
    · subst e; exact ⟨_, _, hr.put a1 b1⟩
    · obtain ⟨c, d, k⟩ := h.c n hn
      exact ⟨c, d, (k.far1 (v := .int .i64 a1) e).far1 e⟩
  · obtain ⟨c, d, f, k⟩ := h.p n hn
    have e : n ≠ m := fun e => h2 (e ▸ hn)
    exact ⟨c, d, f, (k.far1 (v := .int .i64 a1) e).far1 e⟩
theorem SB.putP (h : SB w B cs ps lim X) (hm : m ∈ ps) (h1 : w.heap.size ≤ m) (h2 : m ∉ cs) (x y e : Int) : SB w B cs ps lim (((X.setCell ⟨m, 0, none⟩ (.int .i64 x)).setCell ⟨m, 1, none⟩ (.int .i64 y)).setCell ⟨m, 2, none⟩ (.int .i64 e)) := by
  obtain ⟨a, b, c, hp⟩ := h.p m hm
  refine ⟨cr_putb (cr_putb (cr_putb h.cr hp.2.1 hp.2.2.1 _) hp.2.1 (hp.put0 x).2.2.2.1 _) hp.2.1 ((hp.put0 x).put1 y).2.2.2.2.1 _, set_grown (set_grown (set_grown h.gr h1 _) h1 _) h1 _, fun n hn => ?_, fun n hn => ?_⟩
  · obtain ⟨c', d', k⟩ := h.c n hn
    have q : n ≠ m := fun q => h2 (q ▸ hn)
    exact ⟨c', d', ((k.far1 (v := .int .i64 x) q).far1 (v := .int .i64 y) q).far1 (v := .int .i64 e) q⟩
  · by_cases q : n = m
    · subst q; exact ⟨_, _, _, hp.put x y e⟩
    · obtain ⟨c', d', f', k⟩ := h.p n hn
      exact ⟨c', d', f', k.far3 q⟩
end
end Go.Proofs.YtakilincclnpdaaGreatDoor
