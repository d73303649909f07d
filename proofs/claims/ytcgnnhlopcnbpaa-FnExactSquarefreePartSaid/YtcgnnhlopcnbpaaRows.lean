/-
  No cell of these rows narrows 'for every input' (looked for: loops, veiled, ifaces, maps, wideKeys, modest, calm, conditions, laid).
  DERIVED. THE GIVEN ROWS OF THIS SEAT. 12 by the template 'for every input the law returns true; each argument reads behind the call as it read before'; 0 by the template 'total and deterministic' (their statements: YtcgnnhlopcnbpaaTotals.lean).
  GIVEN WITH THE SEED: the statements are not yours to turn. If you find one false, say at which input.
  Laid BY PROGRAM, IN A SANDBOX (cutbox-rows.mjs): the forced cells as the released guide's own fill.sh prints them over the translation c0123ede0d85d61b… (all of the seat's roots in one cut). By AI agents, Wed Nov 11 2026. No macro, syntax, notation, axiom, sorry.
-/
import Derived.Test.YtcgnnhlopcnbpaaChecked
import GoSem.Claim
import GoSem.ClaimJoined
import GoSem.ClaimMapViews
import Derived.JoinedTies
import Derived.KernelRfl
namespace Go.Proofs.Ytcgnnhlopcnbpaa
/- THE CELL 'sum', in the pinned program and in every row, IS THE sha256 OF THE DUMP (.gsa) THAT YtcgnnhlopcnbpaaProg.lean LOADS. Nothing in Lean hashes anything: it is a label: what it is worth is what the hold of that sum in a sandbox is worth. -/
noncomputable def Try.pinned : Pinned := { name := "ytcgnnhlopcnbpaa", sum := "c0123ede0d85d61bda4d9beaac4ac3501ee5daa84d2d29c5238bd1256a8fd09a", checked := Try.checked }
namespace Rows
def none {H : Type} : Left H := { results := [], args := [] }

/-- 'laws.FnExactIsTwoCurve': WHATEVER THE INPUT: true; the input reads as it did. -/
def fnExactIsTwoCurveSpec : ChangeSpec := { name := "fnExactIsTwoCurve", fn := fun _ => fun
  | [d] => { results := [.lit (.bool true)], args := [d] }
  | _ => none }
def fnExactIsTwoCurveRow : OpenClaim := { program := "ytcgnnhlopcnbpaa", sum := "c0123ede0d85d61bda4d9beaac4ac3501ee5daa84d2d29c5238bd1256a8fd09a", func := "loop.example/g01004/laws.FnExactIsTwoCurve", spec := "fnExactIsTwoCurve", apart := false }
def FnExactIsTwoCurveSaid : Prop := fnExactIsTwoCurveRow.holds Try.pinned (OpenSpec.ofChange fnExactIsTwoCurveSpec)

/-- ITS FALSE NEIGHBOUR: 'it returns false'. Refute it at one input. -/
def fnExactIsTwoCurveWrong : ChangeSpec := { name := "fnExactIsTwoCurve", fn := fun _ => fun
  | [d] => { results := [.lit (.bool false)], args := [d] }
  | _ => none }
def FnExactIsTwoCurveWrongFalsely : Prop := fnExactIsTwoCurveRow.holds Try.pinned (OpenSpec.ofChange fnExactIsTwoCurveWrong)

/-- 'laws.FnExactDualOf': WHATEVER THE INPUT: true; the input reads as it did. -/
def fnExactDualOfSpec : ChangeSpec := { name := "fnExactDualOf", fn := fun _ => fun
  | [d] => { results := [.lit (.bool true)], args := [d] }
  | _ => none }
def fnExactDualOfRow : OpenClaim := { program := "ytcgnnhlopcnbpaa", sum := "c0123ede0d85d61bda4d9beaac4ac3501ee5daa84d2d29c5238bd1256a8fd09a", func := "loop.example/g01004/laws.FnExactDualOf", spec := "fnExactDualOf", apart := false }
def FnExactDualOfSaid : Prop := fnExactDualOfRow.holds Try.pinned (OpenSpec.ofChange fnExactDualOfSpec)

/-- ITS FALSE NEIGHBOUR: 'it returns false'. Refute it at one input. -/
def fnExactDualOfWrong : ChangeSpec := { name := "fnExactDualOf", fn := fun _ => fun
  | [d] => { results := [.lit (.bool false)], args := [d] }
  | _ => none }
def FnExactDualOfWrongFalsely : Prop := fnExactDualOfRow.holds Try.pinned (OpenSpec.ofChange fnExactDualOfWrong)

/-- 'laws.FnExactDescentCoefficients': WHATEVER THE INPUT: true; the input reads as it did. -/
def fnExactDescentCoefficientsSpec : ChangeSpec := { name := "fnExactDescentCoefficients", fn := fun _ => fun
  | [d1, d2] => { results := [.lit (.bool true)], args := [d1, d2] }
  | _ => none }
def fnExactDescentCoefficientsRow : OpenClaim := { program := "ytcgnnhlopcnbpaa", sum := "c0123ede0d85d61bda4d9beaac4ac3501ee5daa84d2d29c5238bd1256a8fd09a", func := "loop.example/g01004/laws.FnExactDescentCoefficients", spec := "fnExactDescentCoefficients", apart := false }
def FnExactDescentCoefficientsSaid : Prop := fnExactDescentCoefficientsRow.holds Try.pinned (OpenSpec.ofChange fnExactDescentCoefficientsSpec)

/-- ITS FALSE NEIGHBOUR: 'it returns false'. Refute it at one input. -/
def fnExactDescentCoefficientsWrong : ChangeSpec := { name := "fnExactDescentCoefficients", fn := fun _ => fun
  | [d1, d2] => { results := [.lit (.bool false)], args := [d1, d2] }
  | _ => none }
def FnExactDescentCoefficientsWrongFalsely : Prop := fnExactDescentCoefficientsRow.holds Try.pinned (OpenSpec.ofChange fnExactDescentCoefficientsWrong)

/-- 'laws.FnExactQuarticOf': WHATEVER THE INPUT: true; the input reads as it did. -/
def fnExactQuarticOfSpec : ChangeSpec := { name := "fnExactQuarticOf", fn := fun _ => fun
  | [d1, d2] => { results := [.lit (.bool true)], args := [d1, d2] }
  | _ => none }
def fnExactQuarticOfRow : OpenClaim := { program := "ytcgnnhlopcnbpaa", sum := "c0123ede0d85d61bda4d9beaac4ac3501ee5daa84d2d29c5238bd1256a8fd09a", func := "loop.example/g01004/laws.FnExactQuarticOf", spec := "fnExactQuarticOf", apart := false }
def FnExactQuarticOfSaid : Prop := fnExactQuarticOfRow.holds Try.pinned (OpenSpec.ofChange fnExactQuarticOfSpec)

/-- ITS FALSE NEIGHBOUR: 'it returns false'. Refute it at one input. -/
def fnExactQuarticOfWrong : ChangeSpec := { name := "fnExactQuarticOf", fn := fun _ => fun
  | [d1, d2] => { results := [.lit (.bool false)], args := [d1, d2] }
  | _ => none }
def FnExactQuarticOfWrongFalsely : Prop := fnExactQuarticOfRow.holds Try.pinned (OpenSpec.ofChange fnExactQuarticOfWrong)

/-- 'laws.FnExactIsGoodPrime': WHATEVER THE INPUT: true; the input reads as it did. -/
def fnExactIsGoodPrimeSpec : ChangeSpec := { name := "fnExactIsGoodPrime", fn := fun _ => fun
  | [d1, d2] => { results := [.lit (.bool true)], args := [d1, d2] }
  | _ => none }
def fnExactIsGoodPrimeRow : OpenClaim := { program := "ytcgnnhlopcnbpaa", sum := "c0123ede0d85d61bda4d9beaac4ac3501ee5daa84d2d29c5238bd1256a8fd09a", func := "loop.example/g01004/laws.FnExactIsGoodPrime", spec := "fnExactIsGoodPrime", apart := false }
def FnExactIsGoodPrimeSaid : Prop := fnExactIsGoodPrimeRow.holds Try.pinned (OpenSpec.ofChange fnExactIsGoodPrimeSpec)

/-- ITS FALSE NEIGHBOUR: 'it returns false'. Refute it at one input. -/
def fnExactIsGoodPrimeWrong : ChangeSpec := { name := "fnExactIsGoodPrime", fn := fun _ => fun
  | [d1, d2] => { results := [.lit (.bool false)], args := [d1, d2] }
  | _ => none }
def FnExactIsGoodPrimeWrongFalsely : Prop := fnExactIsGoodPrimeRow.holds Try.pinned (OpenSpec.ofChange fnExactIsGoodPrimeWrong)

/-- 'laws.FnExactPlainModel': WHATEVER THE INPUT: true; the input reads as it did. -/
def fnExactPlainModelSpec : ChangeSpec := { name := "fnExactPlainModel", fn := fun _ => fun
  | [d] => { results := [.lit (.bool true)], args := [d] }
  | _ => none }
def fnExactPlainModelRow : OpenClaim := { program := "ytcgnnhlopcnbpaa", sum := "c0123ede0d85d61bda4d9beaac4ac3501ee5daa84d2d29c5238bd1256a8fd09a", func := "loop.example/g01004/laws.FnExactPlainModel", spec := "fnExactPlainModel", apart := false }
def FnExactPlainModelSaid : Prop := fnExactPlainModelRow.holds Try.pinned (OpenSpec.ofChange fnExactPlainModelSpec)

/-- ITS FALSE NEIGHBOUR: 'it returns false'. Refute it at one input. -/
def fnExactPlainModelWrong : ChangeSpec := { name := "fnExactPlainModel", fn := fun _ => fun
  | [d] => { results := [.lit (.bool false)], args := [d] }
  | _ => none }
def FnExactPlainModelWrongFalsely : Prop := fnExactPlainModelRow.holds Try.pinned (OpenSpec.ofChange fnExactPlainModelWrong)

/-- 'laws.FnExactIsPointOf': WHATEVER THE INPUT: true; the input reads as it did. -/
def fnExactIsPointOfSpec : ChangeSpec := { name := "fnExactIsPointOf", fn := fun _ => fun
  | [d1, d2] => { results := [.lit (.bool true)], args := [d1, d2] }
  | _ => none }
def fnExactIsPointOfRow : OpenClaim := { program := "ytcgnnhlopcnbpaa", sum := "c0123ede0d85d61bda4d9beaac4ac3501ee5daa84d2d29c5238bd1256a8fd09a", func := "loop.example/g01004/laws.FnExactIsPointOf", spec := "fnExactIsPointOf", apart := false }
def FnExactIsPointOfSaid : Prop := fnExactIsPointOfRow.holds Try.pinned (OpenSpec.ofChange fnExactIsPointOfSpec)

/-- ITS FALSE NEIGHBOUR: 'it returns false'. Refute it at one input. -/
def fnExactIsPointOfWrong : ChangeSpec := { name := "fnExactIsPointOf", fn := fun _ => fun
  | [d1, d2] => { results := [.lit (.bool false)], args := [d1, d2] }
  | _ => none }
def FnExactIsPointOfWrongFalsely : Prop := fnExactIsPointOfRow.holds Try.pinned (OpenSpec.ofChange fnExactIsPointOfWrong)

/-- 'laws.FnExactMinimalAt': WHATEVER THE INPUT: true; the input reads as it did. -/
def fnExactMinimalAtSpec : ChangeSpec := { name := "fnExactMinimalAt", fn := fun _ => fun
  | [d1, d2] => { results := [.lit (.bool true)], args := [d1, d2] }
  | _ => none }
def fnExactMinimalAtRow : OpenClaim := { program := "ytcgnnhlopcnbpaa", sum := "c0123ede0d85d61bda4d9beaac4ac3501ee5daa84d2d29c5238bd1256a8fd09a", func := "loop.example/g01004/laws.FnExactMinimalAt", spec := "fnExactMinimalAt", apart := false }
def FnExactMinimalAtSaid : Prop := fnExactMinimalAtRow.holds Try.pinned (OpenSpec.ofChange fnExactMinimalAtSpec)

/-- ITS FALSE NEIGHBOUR: 'it returns false'. Refute it at one input. -/
def fnExactMinimalAtWrong : ChangeSpec := { name := "fnExactMinimalAt", fn := fun _ => fun
  | [d1, d2] => { results := [.lit (.bool false)], args := [d1, d2] }
  | _ => none }
def FnExactMinimalAtWrongFalsely : Prop := fnExactMinimalAtRow.holds Try.pinned (OpenSpec.ofChange fnExactMinimalAtWrong)

/-- 'laws.FnExactDiscriminantValuation': WHATEVER THE INPUT: true; the input reads as it did. -/
def fnExactDiscriminantValuationSpec : ChangeSpec := { name := "fnExactDiscriminantValuation", fn := fun _ => fun
  | [d1, d2] => { results := [.lit (.bool true)], args := [d1, d2] }
  | _ => none }
def fnExactDiscriminantValuationRow : OpenClaim := { program := "ytcgnnhlopcnbpaa", sum := "c0123ede0d85d61bda4d9beaac4ac3501ee5daa84d2d29c5238bd1256a8fd09a", func := "loop.example/g01004/laws.FnExactDiscriminantValuation", spec := "fnExactDiscriminantValuation", apart := false }
def FnExactDiscriminantValuationSaid : Prop := fnExactDiscriminantValuationRow.holds Try.pinned (OpenSpec.ofChange fnExactDiscriminantValuationSpec)

/-- ITS FALSE NEIGHBOUR: 'it returns false'. Refute it at one input. -/
def fnExactDiscriminantValuationWrong : ChangeSpec := { name := "fnExactDiscriminantValuation", fn := fun _ => fun
  | [d1, d2] => { results := [.lit (.bool false)], args := [d1, d2] }
  | _ => none }
def FnExactDiscriminantValuationWrongFalsely : Prop := fnExactDiscriminantValuationRow.holds Try.pinned (OpenSpec.ofChange fnExactDiscriminantValuationWrong)

/-- 'laws.FnExactPointHeight': WHATEVER THE INPUT: true; the input reads as it did. -/
def fnExactPointHeightSpec : ChangeSpec := { name := "fnExactPointHeight", fn := fun _ => fun
  | [d1, d2] => { results := [.lit (.bool true)], args := [d1, d2] }
  | _ => none }
def fnExactPointHeightRow : OpenClaim := { program := "ytcgnnhlopcnbpaa", sum := "c0123ede0d85d61bda4d9beaac4ac3501ee5daa84d2d29c5238bd1256a8fd09a", func := "loop.example/g01004/laws.FnExactPointHeight", spec := "fnExactPointHeight", apart := false }
def FnExactPointHeightSaid : Prop := fnExactPointHeightRow.holds Try.pinned (OpenSpec.ofChange fnExactPointHeightSpec)

/-- ITS FALSE NEIGHBOUR: 'it returns false'. Refute it at one input. -/
def fnExactPointHeightWrong : ChangeSpec := { name := "fnExactPointHeight", fn := fun _ => fun
  | [d1, d2] => { results := [.lit (.bool false)], args := [d1, d2] }
  | _ => none }
def FnExactPointHeightWrongFalsely : Prop := fnExactPointHeightRow.holds Try.pinned (OpenSpec.ofChange fnExactPointHeightWrong)

/-- 'laws.FnExactIsPointModulo': WHATEVER THE INPUT: true; the input reads as it did. -/
def fnExactIsPointModuloSpec : ChangeSpec := { name := "fnExactIsPointModulo", fn := fun _ => fun
  | [d1, d2, d3] => { results := [.lit (.bool true)], args := [d1, d2, d3] }
  | _ => none }
def fnExactIsPointModuloRow : OpenClaim := { program := "ytcgnnhlopcnbpaa", sum := "c0123ede0d85d61bda4d9beaac4ac3501ee5daa84d2d29c5238bd1256a8fd09a", func := "loop.example/g01004/laws.FnExactIsPointModulo", spec := "fnExactIsPointModulo", apart := false }
def FnExactIsPointModuloSaid : Prop := fnExactIsPointModuloRow.holds Try.pinned (OpenSpec.ofChange fnExactIsPointModuloSpec)

/-- ITS FALSE NEIGHBOUR: 'it returns false'. Refute it at one input. -/
def fnExactIsPointModuloWrong : ChangeSpec := { name := "fnExactIsPointModulo", fn := fun _ => fun
  | [d1, d2, d3] => { results := [.lit (.bool false)], args := [d1, d2, d3] }
  | _ => none }
def FnExactIsPointModuloWrongFalsely : Prop := fnExactIsPointModuloRow.holds Try.pinned (OpenSpec.ofChange fnExactIsPointModuloWrong)

/-- 'laws.FnExactSquarefreePart': WHATEVER THE INPUT: true; the input reads as it did. -/
def fnExactSquarefreePartSpec : ChangeSpec := { name := "fnExactSquarefreePart", fn := fun _ => fun
  | [d] => { results := [.lit (.bool true)], args := [d] }
  | _ => none }
def fnExactSquarefreePartRow : OpenClaim := { program := "ytcgnnhlopcnbpaa", sum := "c0123ede0d85d61bda4d9beaac4ac3501ee5daa84d2d29c5238bd1256a8fd09a", func := "loop.example/g01004/laws.FnExactSquarefreePart", spec := "fnExactSquarefreePart", apart := false }
def FnExactSquarefreePartSaid : Prop := fnExactSquarefreePartRow.holds Try.pinned (OpenSpec.ofChange fnExactSquarefreePartSpec)

/-- ITS FALSE NEIGHBOUR: 'it returns false'. Refute it at one input. -/
def fnExactSquarefreePartWrong : ChangeSpec := { name := "fnExactSquarefreePart", fn := fun _ => fun
  | [d] => { results := [.lit (.bool false)], args := [d] }
  | _ => none }
def FnExactSquarefreePartWrongFalsely : Prop := fnExactSquarefreePartRow.holds Try.pinned (OpenSpec.ofChange fnExactSquarefreePartWrong)

/- THE SECOND FORM. 'bulk': how many values and letters a reading holds, each counted each time it is reached (what is shared counts as often as it is met; a slice's spare places count too). A statement '..UptoSaid' is the law's where the arguments, and the package variables that the reading takes, are together of bulk at most 1048576: NARROWER than '..Said'. Prove '..Said' where nothing that the law and all that it calls make is longer than what came in: it says more and counts as full. Else prove '..UptoSaid'. A law counts once. -/
mutual
def uptoBulk {H : Type} : DataW H → Nat
  | .lit (.string bytes) => bytes.length + 1
  | .lit _ => 1
  | .nil => 1
  | .ptr d => uptoBulk d + 1
  | .slice elems spare => uptoBulkAll elems + uptoBulkAll spare + 1
  | .agg parts => uptoBulkAll parts + 1
  | .iface _ d => uptoBulk d + 1
  | .map entries => uptoBulkEntries entries + 1
  | .held _ => 1
def uptoBulkAll {H : Type} : List (DataW H) → Nat
  | [] => 0
  | d :: r => uptoBulk d + uptoBulkAll r
def uptoBulkEntries {H : Type} : List (Lit × DataW H) → Nat
  | [] => 0
  | x :: r => uptoBulkEntry x + uptoBulkEntries r
def uptoBulkEntry {H : Type} : Lit × DataW H → Nat
  | (.string bytes, d) => bytes.length + uptoBulk d + 1
  | (_, d) => uptoBulk d + 1
 end
def uptoSmall : (H : Type) → List (DataW H) → Bool := fun _ ds => decide (uptoBulkAll ds ≤ 1048576)
def OpenSpec.upto (s : _root_.Go.ChangeSpec) : _root_.Go.OpenSpec := { _root_.Go.OpenSpec.ofChange s with cond := some uptoSmall }

/-- 'laws.FnExactIsTwoCurve', WHERE WHAT IT READS IS OF BULK AT MOST 1048576: true; the input reads as it did. -/
def fnExactIsTwoCurveUptoRow : OpenClaim := { program := "ytcgnnhlopcnbpaa", sum := "c0123ede0d85d61bda4d9beaac4ac3501ee5daa84d2d29c5238bd1256a8fd09a", func := "loop.example/g01004/laws.FnExactIsTwoCurve", spec := "fnExactIsTwoCurve", apart := false, narrowed := true }
def FnExactIsTwoCurveUptoSaid : Prop := fnExactIsTwoCurveUptoRow.holds Try.pinned (OpenSpec.upto fnExactIsTwoCurveSpec)

/-- 'laws.FnExactDualOf', WHERE WHAT IT READS IS OF BULK AT MOST 1048576: true; the input reads as it did. -/
def fnExactDualOfUptoRow : OpenClaim := { program := "ytcgnnhlopcnbpaa", sum := "c0123ede0d85d61bda4d9beaac4ac3501ee5daa84d2d29c5238bd1256a8fd09a", func := "loop.example/g01004/laws.FnExactDualOf", spec := "fnExactDualOf", apart := false, narrowed := true }
def FnExactDualOfUptoSaid : Prop := fnExactDualOfUptoRow.holds Try.pinned (OpenSpec.upto fnExactDualOfSpec)

/-- 'laws.FnExactDescentCoefficients', WHERE WHAT IT READS IS OF BULK AT MOST 1048576: true; the input reads as it did. -/
def fnExactDescentCoefficientsUptoRow : OpenClaim := { program := "ytcgnnhlopcnbpaa", sum := "c0123ede0d85d61bda4d9beaac4ac3501ee5daa84d2d29c5238bd1256a8fd09a", func := "loop.example/g01004/laws.FnExactDescentCoefficients", spec := "fnExactDescentCoefficients", apart := false, narrowed := true }
def FnExactDescentCoefficientsUptoSaid : Prop := fnExactDescentCoefficientsUptoRow.holds Try.pinned (OpenSpec.upto fnExactDescentCoefficientsSpec)

/-- 'laws.FnExactQuarticOf', WHERE WHAT IT READS IS OF BULK AT MOST 1048576: true; the input reads as it did. -/
def fnExactQuarticOfUptoRow : OpenClaim := { program := "ytcgnnhlopcnbpaa", sum := "c0123ede0d85d61bda4d9beaac4ac3501ee5daa84d2d29c5238bd1256a8fd09a", func := "loop.example/g01004/laws.FnExactQuarticOf", spec := "fnExactQuarticOf", apart := false, narrowed := true }
def FnExactQuarticOfUptoSaid : Prop := fnExactQuarticOfUptoRow.holds Try.pinned (OpenSpec.upto fnExactQuarticOfSpec)

/-- 'laws.FnExactIsGoodPrime', WHERE WHAT IT READS IS OF BULK AT MOST 1048576: true; the input reads as it did. -/
def fnExactIsGoodPrimeUptoRow : OpenClaim := { program := "ytcgnnhlopcnbpaa", sum := "c0123ede0d85d61bda4d9beaac4ac3501ee5daa84d2d29c5238bd1256a8fd09a", func := "loop.example/g01004/laws.FnExactIsGoodPrime", spec := "fnExactIsGoodPrime", apart := false, narrowed := true }
def FnExactIsGoodPrimeUptoSaid : Prop := fnExactIsGoodPrimeUptoRow.holds Try.pinned (OpenSpec.upto fnExactIsGoodPrimeSpec)

/-- 'laws.FnExactPlainModel', WHERE WHAT IT READS IS OF BULK AT MOST 1048576: true; the input reads as it did. -/
def fnExactPlainModelUptoRow : OpenClaim := { program := "ytcgnnhlopcnbpaa", sum := "c0123ede0d85d61bda4d9beaac4ac3501ee5daa84d2d29c5238bd1256a8fd09a", func := "loop.example/g01004/laws.FnExactPlainModel", spec := "fnExactPlainModel", apart := false, narrowed := true }
def FnExactPlainModelUptoSaid : Prop := fnExactPlainModelUptoRow.holds Try.pinned (OpenSpec.upto fnExactPlainModelSpec)

/-- 'laws.FnExactIsPointOf', WHERE WHAT IT READS IS OF BULK AT MOST 1048576: true; the input reads as it did. -/
def fnExactIsPointOfUptoRow : OpenClaim := { program := "ytcgnnhlopcnbpaa", sum := "c0123ede0d85d61bda4d9beaac4ac3501ee5daa84d2d29c5238bd1256a8fd09a", func := "loop.example/g01004/laws.FnExactIsPointOf", spec := "fnExactIsPointOf", apart := false, narrowed := true }
def FnExactIsPointOfUptoSaid : Prop := fnExactIsPointOfUptoRow.holds Try.pinned (OpenSpec.upto fnExactIsPointOfSpec)

/-- 'laws.FnExactMinimalAt', WHERE WHAT IT READS IS OF BULK AT MOST 1048576: true; the input reads as it did. -/
def fnExactMinimalAtUptoRow : OpenClaim := { program := "ytcgnnhlopcnbpaa", sum := "c0123ede0d85d61bda4d9beaac4ac3501ee5daa84d2d29c5238bd1256a8fd09a", func := "loop.example/g01004/laws.FnExactMinimalAt", spec := "fnExactMinimalAt", apart := false, narrowed := true }
def FnExactMinimalAtUptoSaid : Prop := fnExactMinimalAtUptoRow.holds Try.pinned (OpenSpec.upto fnExactMinimalAtSpec)

/-- 'laws.FnExactDiscriminantValuation', WHERE WHAT IT READS IS OF BULK AT MOST 1048576: true; the input reads as it did. -/
def fnExactDiscriminantValuationUptoRow : OpenClaim := { program := "ytcgnnhlopcnbpaa", sum := "c0123ede0d85d61bda4d9beaac4ac3501ee5daa84d2d29c5238bd1256a8fd09a", func := "loop.example/g01004/laws.FnExactDiscriminantValuation", spec := "fnExactDiscriminantValuation", apart := false, narrowed := true }
def FnExactDiscriminantValuationUptoSaid : Prop := fnExactDiscriminantValuationUptoRow.holds Try.pinned (OpenSpec.upto fnExactDiscriminantValuationSpec)

/-- 'laws.FnExactPointHeight', WHERE WHAT IT READS IS OF BULK AT MOST 1048576: true; the input reads as it did. -/
def fnExactPointHeightUptoRow : OpenClaim := { program := "ytcgnnhlopcnbpaa", sum := "c0123ede0d85d61bda4d9beaac4ac3501ee5daa84d2d29c5238bd1256a8fd09a", func := "loop.example/g01004/laws.FnExactPointHeight", spec := "fnExactPointHeight", apart := false, narrowed := true }
def FnExactPointHeightUptoSaid : Prop := fnExactPointHeightUptoRow.holds Try.pinned (OpenSpec.upto fnExactPointHeightSpec)

/-- 'laws.FnExactIsPointModulo', WHERE WHAT IT READS IS OF BULK AT MOST 1048576: true; the input reads as it did. -/
def fnExactIsPointModuloUptoRow : OpenClaim := { program := "ytcgnnhlopcnbpaa", sum := "c0123ede0d85d61bda4d9beaac4ac3501ee5daa84d2d29c5238bd1256a8fd09a", func := "loop.example/g01004/laws.FnExactIsPointModulo", spec := "fnExactIsPointModulo", apart := false, narrowed := true }
def FnExactIsPointModuloUptoSaid : Prop := fnExactIsPointModuloUptoRow.holds Try.pinned (OpenSpec.upto fnExactIsPointModuloSpec)

/-- 'laws.FnExactSquarefreePart', WHERE WHAT IT READS IS OF BULK AT MOST 1048576: true; the input reads as it did. -/
def fnExactSquarefreePartUptoRow : OpenClaim := { program := "ytcgnnhlopcnbpaa", sum := "c0123ede0d85d61bda4d9beaac4ac3501ee5daa84d2d29c5238bd1256a8fd09a", func := "loop.example/g01004/laws.FnExactSquarefreePart", spec := "fnExactSquarefreePart", apart := false, narrowed := true }
def FnExactSquarefreePartUptoSaid : Prop := fnExactSquarefreePartUptoRow.holds Try.pinned (OpenSpec.upto fnExactSquarefreePartSpec)

end Rows
end Go.Proofs.Ytcgnnhlopcnbpaa
