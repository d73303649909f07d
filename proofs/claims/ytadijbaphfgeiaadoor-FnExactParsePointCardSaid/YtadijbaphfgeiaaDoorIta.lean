/- Ita: contract: strconv.Itoa with the table of powers of ten. No conditions. -/
import Derived.Test.YtadijbaphfgeiaaDoorItl
import Derived.Test.YtadijbaphfgeiaaDoorSz
import Derived.Lib.LaidTab
import Derived.Lib.QuietBelow
import Derived.WalkSmall
import Derived.LaidSub
import Derived.MakeChecks
namespace Go.Proofs.YtadijbaphfgeiaaDoor
open Go.RowKit

/-- the table of powers of ten lies as the program's text lays it. -/
def PowT (w : World) : Prop := Lib.TabIs Tryd.prog w "internal/strconv.uint64pow10" .u64 Lib.pow10Tab ∧ 4 < w.heap.size
theorem gPow : Tryd.prog.globalNamed "internal/strconv.uint64pow10" = some 4 := by kernel_rfl
theorem PowT.keep {w w' : World} (h : PowT w) (hb : Below w.heap.size w w') : PowT w' :=
  ⟨var?_below hb gPow h.2 h.1, Nat.lt_of_lt_of_le h.2 hb.size⟩
theorem itoaT (i : Nat) (hi : i ≤ 1000000) (w : World) (ht : PowT w) : Calls Tryd.prog 44 #[.int .i64 i] w (Ret (.string (numS i)) w) :=
  (Tryd.strconv_Itoa i (by omega) (by omega) w ht.1).mono fun _ w' ⟨h1, k, os, h2⟩ => by
    subst h2
    have e : Lib.itoa (i : Int) = Lib.decDigits i := by unfold Lib.itoa; rw [if_neg (by omega)]; rfl
    rw [e] at h1
    exact ⟨h1, below_regrown w (w.drewN k).drawn os⟩
end Go.Proofs.YtadijbaphfgeiaaDoor
