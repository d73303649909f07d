/-
  No cell of these rows narrows 'for every input' (looked for: loops, veiled, ifaces, maps, wideKeys, modest, calm, conditions, laid).
  DERIVED. THE GIVEN ROWS OF THIS SEAT. 12 by the template 'for every input the law returns true; each argument reads behind the call as it read before'; 0 by the template 'total and deterministic' (their statements: YtppecifjblaodaaTotals.lean).
  GIVEN WITH THE SEED: the statements are not yours to turn. If you find one false, say at which input.
  Laid BY PROGRAM, IN A SANDBOX (cutbox-rows.mjs): the forced cells as the released guide's own fill.sh prints them over the translation 98a680ee856b0abc… (all of the seat's roots in one cut). By AI agents, Wed Nov 11 2026. No macro, syntax, notation, axiom, sorry.
-/
import Derived.Test.YtppecifjblaodaaChecked
import GoSem.Claim
import GoSem.ClaimJoined
import GoSem.ClaimMapViews
import Derived.JoinedTies
import Derived.KernelRfl
namespace Go.Proofs.Ytppecifjblaodaa
/- THE CELL 'sum', in the pinned program and in every row, IS THE sha256 OF THE DUMP (.gsa) THAT YtppecifjblaodaaProg.lean LOADS. Nothing in Lean hashes anything: it is a label: what it is worth is what the hold of that sum in a sandbox is worth. -/
noncomputable def Try.pinned : Pinned := { name := "ytppecifjblaodaa", sum := "98a680ee856b0abc759a3b1ce73c85fc2dd29c76e8d71b6ce6c2dc8d6336ce51", checked := Try.checked }
namespace Rows
def none {H : Type} : Left H := { results := [], args := [] }

/-- 'laws.FnExactBadPrimes': WHATEVER THE INPUT: true; the input reads as it did. -/
def fnExactBadPrimesSpec : ChangeSpec := { name := "fnExactBadPrimes", fn := fun _ => fun
  | [d] => { results := [.lit (.bool true)], args := [d] }
  | _ => none }
def fnExactBadPrimesRow : OpenClaim := { program := "ytppecifjblaodaa", sum := "98a680ee856b0abc759a3b1ce73c85fc2dd29c76e8d71b6ce6c2dc8d6336ce51", func := "loop.example/g01004/laws.FnExactBadPrimes", spec := "fnExactBadPrimes", apart := false }
def FnExactBadPrimesSaid : Prop := fnExactBadPrimesRow.holds Try.pinned (OpenSpec.ofChange fnExactBadPrimesSpec)

/-- ITS FALSE NEIGHBOUR: 'it returns false'. Refute it at one input. -/
def fnExactBadPrimesWrong : ChangeSpec := { name := "fnExactBadPrimes", fn := fun _ => fun
  | [d] => { results := [.lit (.bool false)], args := [d] }
  | _ => none }
def FnExactBadPrimesWrongFalsely : Prop := fnExactBadPrimesRow.holds Try.pinned (OpenSpec.ofChange fnExactBadPrimesWrong)

/-- 'laws.FnExactTwoTorsion': WHATEVER THE INPUT: true; the input reads as it did. -/
def fnExactTwoTorsionSpec : ChangeSpec := { name := "fnExactTwoTorsion", fn := fun _ => fun
  | [d] => { results := [.lit (.bool true)], args := [d] }
  | _ => none }
def fnExactTwoTorsionRow : OpenClaim := { program := "ytppecifjblaodaa", sum := "98a680ee856b0abc759a3b1ce73c85fc2dd29c76e8d71b6ce6c2dc8d6336ce51", func := "loop.example/g01004/laws.FnExactTwoTorsion", spec := "fnExactTwoTorsion", inPlace := ["math.sqrt"], apart := false }
def FnExactTwoTorsionSaid : Prop := fnExactTwoTorsionRow.holds Try.pinned (OpenSpec.ofChange fnExactTwoTorsionSpec)

/-- ITS FALSE NEIGHBOUR: 'it returns false'. Refute it at one input. -/
def fnExactTwoTorsionWrong : ChangeSpec := { name := "fnExactTwoTorsion", fn := fun _ => fun
  | [d] => { results := [.lit (.bool false)], args := [d] }
  | _ => none }
def FnExactTwoTorsionWrongFalsely : Prop := fnExactTwoTorsionRow.holds Try.pinned (OpenSpec.ofChange fnExactTwoTorsionWrong)

/-- 'laws.FnExactReductionKind': WHATEVER THE INPUT: true; the input reads as it did. -/
def fnExactReductionKindSpec : ChangeSpec := { name := "fnExactReductionKind", fn := fun _ => fun
  | [d1, d2] => { results := [.lit (.bool true)], args := [d1, d2] }
  | _ => none }
def fnExactReductionKindRow : OpenClaim := { program := "ytppecifjblaodaa", sum := "98a680ee856b0abc759a3b1ce73c85fc2dd29c76e8d71b6ce6c2dc8d6336ce51", func := "loop.example/g01004/laws.FnExactReductionKind", spec := "fnExactReductionKind", apart := false }
def FnExactReductionKindSaid : Prop := fnExactReductionKindRow.holds Try.pinned (OpenSpec.ofChange fnExactReductionKindSpec)

/-- ITS FALSE NEIGHBOUR: 'it returns false'. Refute it at one input. -/
def fnExactReductionKindWrong : ChangeSpec := { name := "fnExactReductionKind", fn := fun _ => fun
  | [d1, d2] => { results := [.lit (.bool false)], args := [d1, d2] }
  | _ => none }
def FnExactReductionKindWrongFalsely : Prop := fnExactReductionKindRow.holds Try.pinned (OpenSpec.ofChange fnExactReductionKindWrong)

/-- 'laws.FnExactSquareClass': WHATEVER THE INPUT: true; the input reads as it did. -/
def fnExactSquareClassSpec : ChangeSpec := { name := "fnExactSquareClass", fn := fun _ => fun
  | [d1, d2] => { results := [.lit (.bool true)], args := [d1, d2] }
  | _ => none }
def fnExactSquareClassRow : OpenClaim := { program := "ytppecifjblaodaa", sum := "98a680ee856b0abc759a3b1ce73c85fc2dd29c76e8d71b6ce6c2dc8d6336ce51", func := "loop.example/g01004/laws.FnExactSquareClass", spec := "fnExactSquareClass", apart := false }
def FnExactSquareClassSaid : Prop := fnExactSquareClassRow.holds Try.pinned (OpenSpec.ofChange fnExactSquareClassSpec)

/-- ITS FALSE NEIGHBOUR: 'it returns false'. Refute it at one input. -/
def fnExactSquareClassWrong : ChangeSpec := { name := "fnExactSquareClass", fn := fun _ => fun
  | [d1, d2] => { results := [.lit (.bool false)], args := [d1, d2] }
  | _ => none }
def FnExactSquareClassWrongFalsely : Prop := fnExactSquareClassRow.holds Try.pinned (OpenSpec.ofChange fnExactSquareClassWrong)

/-- 'laws.FnExactNodeAt': WHATEVER THE INPUT: true; the input reads as it did. -/
def fnExactNodeAtSpec : ChangeSpec := { name := "fnExactNodeAt", fn := fun _ => fun
  | [d1, d2] => { results := [.lit (.bool true)], args := [d1, d2] }
  | _ => none }
def fnExactNodeAtRow : OpenClaim := { program := "ytppecifjblaodaa", sum := "98a680ee856b0abc759a3b1ce73c85fc2dd29c76e8d71b6ce6c2dc8d6336ce51", func := "loop.example/g01004/laws.FnExactNodeAt", spec := "fnExactNodeAt", apart := false }
def FnExactNodeAtSaid : Prop := fnExactNodeAtRow.holds Try.pinned (OpenSpec.ofChange fnExactNodeAtSpec)

/-- ITS FALSE NEIGHBOUR: 'it returns false'. Refute it at one input. -/
def fnExactNodeAtWrong : ChangeSpec := { name := "fnExactNodeAt", fn := fun _ => fun
  | [d1, d2] => { results := [.lit (.bool false)], args := [d1, d2] }
  | _ => none }
def FnExactNodeAtWrongFalsely : Prop := fnExactNodeAtRow.holds Try.pinned (OpenSpec.ofChange fnExactNodeAtWrong)

/-- 'laws.FnExactConductorExponent': WHATEVER THE INPUT: true; the input reads as it did. -/
def fnExactConductorExponentSpec : ChangeSpec := { name := "fnExactConductorExponent", fn := fun _ => fun
  | [d1, d2] => { results := [.lit (.bool true)], args := [d1, d2] }
  | _ => none }
def fnExactConductorExponentRow : OpenClaim := { program := "ytppecifjblaodaa", sum := "98a680ee856b0abc759a3b1ce73c85fc2dd29c76e8d71b6ce6c2dc8d6336ce51", func := "loop.example/g01004/laws.FnExactConductorExponent", spec := "fnExactConductorExponent", apart := false }
def FnExactConductorExponentSaid : Prop := fnExactConductorExponentRow.holds Try.pinned (OpenSpec.ofChange fnExactConductorExponentSpec)

/-- ITS FALSE NEIGHBOUR: 'it returns false'. Refute it at one input. -/
def fnExactConductorExponentWrong : ChangeSpec := { name := "fnExactConductorExponent", fn := fun _ => fun
  | [d1, d2] => { results := [.lit (.bool false)], args := [d1, d2] }
  | _ => none }
def FnExactConductorExponentWrongFalsely : Prop := fnExactConductorExponentRow.holds Try.pinned (OpenSpec.ofChange fnExactConductorExponentWrong)

/-- 'laws.FnExactSlopeOf': WHATEVER THE INPUT: true; the input reads as it did. -/
def fnExactSlopeOfSpec : ChangeSpec := { name := "fnExactSlopeOf", fn := fun _ => fun
  | [d1, d2, d3] => { results := [.lit (.bool true)], args := [d1, d2, d3] }
  | _ => none }
def fnExactSlopeOfRow : OpenClaim := { program := "ytppecifjblaodaa", sum := "98a680ee856b0abc759a3b1ce73c85fc2dd29c76e8d71b6ce6c2dc8d6336ce51", func := "loop.example/g01004/laws.FnExactSlopeOf", spec := "fnExactSlopeOf", apart := false }
def FnExactSlopeOfSaid : Prop := fnExactSlopeOfRow.holds Try.pinned (OpenSpec.ofChange fnExactSlopeOfSpec)

/-- ITS FALSE NEIGHBOUR: 'it returns false'. Refute it at one input. -/
def fnExactSlopeOfWrong : ChangeSpec := { name := "fnExactSlopeOf", fn := fun _ => fun
  | [d1, d2, d3] => { results := [.lit (.bool false)], args := [d1, d2, d3] }
  | _ => none }
def FnExactSlopeOfWrongFalsely : Prop := fnExactSlopeOfRow.holds Try.pinned (OpenSpec.ofChange fnExactSlopeOfWrong)

/-- 'laws.FnExactNonsingularCount': WHATEVER THE INPUT: true; the input reads as it did. -/
def fnExactNonsingularCountSpec : ChangeSpec := { name := "fnExactNonsingularCount", fn := fun _ => fun
  | [d1, d2] => { results := [.lit (.bool true)], args := [d1, d2] }
  | _ => none }
def fnExactNonsingularCountRow : OpenClaim := { program := "ytppecifjblaodaa", sum := "98a680ee856b0abc759a3b1ce73c85fc2dd29c76e8d71b6ce6c2dc8d6336ce51", func := "loop.example/g01004/laws.FnExactNonsingularCount", spec := "fnExactNonsingularCount", apart := false }
def FnExactNonsingularCountSaid : Prop := fnExactNonsingularCountRow.holds Try.pinned (OpenSpec.ofChange fnExactNonsingularCountSpec)

/-- ITS FALSE NEIGHBOUR: 'it returns false'. Refute it at one input. -/
def fnExactNonsingularCountWrong : ChangeSpec := { name := "fnExactNonsingularCount", fn := fun _ => fun
  | [d1, d2] => { results := [.lit (.bool false)], args := [d1, d2] }
  | _ => none }
def FnExactNonsingularCountWrongFalsely : Prop := fnExactNonsingularCountRow.holds Try.pinned (OpenSpec.ofChange fnExactNonsingularCountWrong)

/-- 'laws.FnExactIsSemistableFromFive': WHATEVER THE INPUT: true; the input reads as it did. -/
def fnExactIsSemistableFromFiveSpec : ChangeSpec := { name := "fnExactIsSemistableFromFive", fn := fun _ => fun
  | [d] => { results := [.lit (.bool true)], args := [d] }
  | _ => none }
def fnExactIsSemistableFromFiveRow : OpenClaim := { program := "ytppecifjblaodaa", sum := "98a680ee856b0abc759a3b1ce73c85fc2dd29c76e8d71b6ce6c2dc8d6336ce51", func := "loop.example/g01004/laws.FnExactIsSemistableFromFive", spec := "fnExactIsSemistableFromFive", unfollowed := true, recurses := true, apart := false }
def FnExactIsSemistableFromFiveSaid : Prop := fnExactIsSemistableFromFiveRow.holds Try.pinned (OpenSpec.ofChange fnExactIsSemistableFromFiveSpec)

/-- ITS FALSE NEIGHBOUR: 'it returns false'. Refute it at one input. -/
def fnExactIsSemistableFromFiveWrong : ChangeSpec := { name := "fnExactIsSemistableFromFive", fn := fun _ => fun
  | [d] => { results := [.lit (.bool false)], args := [d] }
  | _ => none }
def FnExactIsSemistableFromFiveWrongFalsely : Prop := fnExactIsSemistableFromFiveRow.holds Try.pinned (OpenSpec.ofChange fnExactIsSemistableFromFiveWrong)

/-- 'laws.FnExactBadFromFive': WHATEVER THE INPUT: true; the input reads as it did. -/
def fnExactBadFromFiveSpec : ChangeSpec := { name := "fnExactBadFromFive", fn := fun _ => fun
  | [d] => { results := [.lit (.bool true)], args := [d] }
  | _ => none }
def fnExactBadFromFiveRow : OpenClaim := { program := "ytppecifjblaodaa", sum := "98a680ee856b0abc759a3b1ce73c85fc2dd29c76e8d71b6ce6c2dc8d6336ce51", func := "loop.example/g01004/laws.FnExactBadFromFive", spec := "fnExactBadFromFive", apart := false }
def FnExactBadFromFiveSaid : Prop := fnExactBadFromFiveRow.holds Try.pinned (OpenSpec.ofChange fnExactBadFromFiveSpec)

/-- ITS FALSE NEIGHBOUR: 'it returns false'. Refute it at one input. -/
def fnExactBadFromFiveWrong : ChangeSpec := { name := "fnExactBadFromFive", fn := fun _ => fun
  | [d] => { results := [.lit (.bool false)], args := [d] }
  | _ => none }
def FnExactBadFromFiveWrongFalsely : Prop := fnExactBadFromFiveRow.holds Try.pinned (OpenSpec.ofChange fnExactBadFromFiveWrong)

/-- 'laws.FnExactConductorPart': WHATEVER THE INPUT: true; the input reads as it did. -/
def fnExactConductorPartSpec : ChangeSpec := { name := "fnExactConductorPart", fn := fun _ => fun
  | [d] => { results := [.lit (.bool true)], args := [d] }
  | _ => none }
def fnExactConductorPartRow : OpenClaim := { program := "ytppecifjblaodaa", sum := "98a680ee856b0abc759a3b1ce73c85fc2dd29c76e8d71b6ce6c2dc8d6336ce51", func := "loop.example/g01004/laws.FnExactConductorPart", spec := "fnExactConductorPart", apart := false }
def FnExactConductorPartSaid : Prop := fnExactConductorPartRow.holds Try.pinned (OpenSpec.ofChange fnExactConductorPartSpec)

/-- ITS FALSE NEIGHBOUR: 'it returns false'. Refute it at one input. -/
def fnExactConductorPartWrong : ChangeSpec := { name := "fnExactConductorPart", fn := fun _ => fun
  | [d] => { results := [.lit (.bool false)], args := [d] }
  | _ => none }
def FnExactConductorPartWrongFalsely : Prop := fnExactConductorPartRow.holds Try.pinned (OpenSpec.ofChange fnExactConductorPartWrong)

/-- 'laws.FnExactPrimesOfKind': WHATEVER THE INPUT: true; the input reads as it did. -/
def fnExactPrimesOfKindSpec : ChangeSpec := { name := "fnExactPrimesOfKind", fn := fun _ => fun
  | [d1, d2] => { results := [.lit (.bool true)], args := [d1, d2] }
  | _ => none }
def fnExactPrimesOfKindRow : OpenClaim := { program := "ytppecifjblaodaa", sum := "98a680ee856b0abc759a3b1ce73c85fc2dd29c76e8d71b6ce6c2dc8d6336ce51", func := "loop.example/g01004/laws.FnExactPrimesOfKind", spec := "fnExactPrimesOfKind", unfollowed := true, recurses := true, apart := false }
def FnExactPrimesOfKindSaid : Prop := fnExactPrimesOfKindRow.holds Try.pinned (OpenSpec.ofChange fnExactPrimesOfKindSpec)

/-- ITS FALSE NEIGHBOUR: 'it returns false'. Refute it at one input. -/
def fnExactPrimesOfKindWrong : ChangeSpec := { name := "fnExactPrimesOfKind", fn := fun _ => fun
  | [d1, d2] => { results := [.lit (.bool false)], args := [d1, d2] }
  | _ => none }
def FnExactPrimesOfKindWrongFalsely : Prop := fnExactPrimesOfKindRow.holds Try.pinned (OpenSpec.ofChange fnExactPrimesOfKindWrong)

/- THE SECOND FORM. 'bulk': how many values and letters a reading holds, each counted each time it is reached (what is shared counts as often as it is met; a slice's spare places count too). A statement '..UptoSaid' is the law's where the arguments, and the package variables that the reading takes, are together of bulk at most 1048576: NARROWER than '..Said'. Prove '..Said' where nothing that the law and all that it calls make is longer than what came in: it says more and counts as full. Else prove '..UptoSaid'. A law counts once. -/
mutual
def uptoBulk {H : Type} : DataW H → Nat
  | .lit (.string bytes) => bytes.length + 1
  | .lit _ => 1
  | .nil => 1
  | .ptr d => uptoBulk d + 1
  | .slice elems spare => uptoBulkAll elems + uptoBulkAll spare + 1
  | .agg parts => uptoBulkAll parts + 1
  | .iface _ d => uptoBulk d + 1
  | .map entries => uptoBulkEntries entries + 1
  | .held _ => 1
def uptoBulkAll {H : Type} : List (DataW H) → Nat
  | [] => 0
  | d :: r => uptoBulk d + uptoBulkAll r
def uptoBulkEntries {H : Type} : List (Lit × DataW H) → Nat
  | [] => 0
  | x :: r => uptoBulkEntry x + uptoBulkEntries r
def uptoBulkEntry {H : Type} : Lit × DataW H → Nat
  | (.string bytes, d) => bytes.length + uptoBulk d + 1
  | (_, d) => uptoBulk d + 1
 end
def uptoSmall : (H : Type) → List (DataW H) → Bool := fun _ ds => decide (uptoBulkAll ds ≤ 1048576)
def OpenSpec.upto (s : _root_.Go.ChangeSpec) : _root_.Go.OpenSpec := { _root_.Go.OpenSpec.ofChange s with cond := some uptoSmall }

/-- 'laws.FnExactBadPrimes', WHERE WHAT IT READS IS OF BULK AT MOST 1048576: true; the input reads as it did. -/
def fnExactBadPrimesUptoRow : OpenClaim := { program := "ytppecifjblaodaa", sum := "98a680ee856b0abc759a3b1ce73c85fc2dd29c76e8d71b6ce6c2dc8d6336ce51", func := "loop.example/g01004/laws.FnExactBadPrimes", spec := "fnExactBadPrimes", apart := false, narrowed := true }
def FnExactBadPrimesUptoSaid : Prop := fnExactBadPrimesUptoRow.holds Try.pinned (OpenSpec.upto fnExactBadPrimesSpec)

/-- 'laws.FnExactTwoTorsion', WHERE WHAT IT READS IS OF BULK AT MOST 1048576: true; the input reads as it did. -/
def fnExactTwoTorsionUptoRow : OpenClaim := { program := "ytppecifjblaodaa", sum := "98a680ee856b0abc759a3b1ce73c85fc2dd29c76e8d71b6ce6c2dc8d6336ce51", func := "loop.example/g01004/laws.FnExactTwoTorsion", spec := "fnExactTwoTorsion", inPlace := ["math.sqrt"], apart := false, narrowed := true }
def FnExactTwoTorsionUptoSaid : Prop := fnExactTwoTorsionUptoRow.holds Try.pinned (OpenSpec.upto fnExactTwoTorsionSpec)

/-- 'laws.FnExactReductionKind', WHERE WHAT IT READS IS OF BULK AT MOST 1048576: true; the input reads as it did. -/
def fnExactReductionKindUptoRow : OpenClaim := { program := "ytppecifjblaodaa", sum := "98a680ee856b0abc759a3b1ce73c85fc2dd29c76e8d71b6ce6c2dc8d6336ce51", func := "loop.example/g01004/laws.FnExactReductionKind", spec := "fnExactReductionKind", apart := false, narrowed := true }
def FnExactReductionKindUptoSaid : Prop := fnExactReductionKindUptoRow.holds Try.pinned (OpenSpec.upto fnExactReductionKindSpec)

/-- 'laws.FnExactSquareClass', WHERE WHAT IT READS IS OF BULK AT MOST 1048576: true; the input reads as it did. -/
def fnExactSquareClassUptoRow : OpenClaim := { program := "ytppecifjblaodaa", sum := "98a680ee856b0abc759a3b1ce73c85fc2dd29c76e8d71b6ce6c2dc8d6336ce51", func := "loop.example/g01004/laws.FnExactSquareClass", spec := "fnExactSquareClass", apart := false, narrowed := true }
def FnExactSquareClassUptoSaid : Prop := fnExactSquareClassUptoRow.holds Try.pinned (OpenSpec.upto fnExactSquareClassSpec)

/-- 'laws.FnExactNodeAt', WHERE WHAT IT READS IS OF BULK AT MOST 1048576: true; the input reads as it did. -/
def fnExactNodeAtUptoRow : OpenClaim := { program := "ytppecifjblaodaa", sum := "98a680ee856b0abc759a3b1ce73c85fc2dd29c76e8d71b6ce6c2dc8d6336ce51", func := "loop.example/g01004/laws.FnExactNodeAt", spec := "fnExactNodeAt", apart := false, narrowed := true }
def FnExactNodeAtUptoSaid : Prop := fnExactNodeAtUptoRow.holds Try.pinned (OpenSpec.upto fnExactNodeAtSpec)

/-- 'laws.FnExactConductorExponent', WHERE WHAT IT READS IS OF BULK AT MOST 1048576: true; the input reads as it did. -/
def fnExactConductorExponentUptoRow : OpenClaim := { program := "ytppecifjblaodaa", sum := "98a680ee856b0abc759a3b1ce73c85fc2dd29c76e8d71b6ce6c2dc8d6336ce51", func := "loop.example/g01004/laws.FnExactConductorExponent", spec := "fnExactConductorExponent", apart := false, narrowed := true }
def FnExactConductorExponentUptoSaid : Prop := fnExactConductorExponentUptoRow.holds Try.pinned (OpenSpec.upto fnExactConductorExponentSpec)

/-- 'laws.FnExactSlopeOf', WHERE WHAT IT READS IS OF BULK AT MOST 1048576: true; the input reads as it did. -/
def fnExactSlopeOfUptoRow : OpenClaim := { program := "ytppecifjblaodaa", sum := "98a680ee856b0abc759a3b1ce73c85fc2dd29c76e8d71b6ce6c2dc8d6336ce51", func := "loop.example/g01004/laws.FnExactSlopeOf", spec := "fnExactSlopeOf", apart := false, narrowed := true }
def FnExactSlopeOfUptoSaid : Prop := fnExactSlopeOfUptoRow.holds Try.pinned (OpenSpec.upto fnExactSlopeOfSpec)

/-- 'laws.FnExactNonsingularCount', WHERE WHAT IT READS IS OF BULK AT MOST 1048576: true; the input reads as it did. -/
def fnExactNonsingularCountUptoRow : OpenClaim := { program := "ytppecifjblaodaa", sum := "98a680ee856b0abc759a3b1ce73c85fc2dd29c76e8d71b6ce6c2dc8d6336ce51", func := "loop.example/g01004/laws.FnExactNonsingularCount", spec := "fnExactNonsingularCount", apart := false, narrowed := true }
def FnExactNonsingularCountUptoSaid : Prop := fnExactNonsingularCountUptoRow.holds Try.pinned (OpenSpec.upto fnExactNonsingularCountSpec)

/-- 'laws.FnExactIsSemistableFromFive', WHERE WHAT IT READS IS OF BULK AT MOST 1048576: true; the input reads as it did. -/
def fnExactIsSemistableFromFiveUptoRow : OpenClaim := { program := "ytppecifjblaodaa", sum := "98a680ee856b0abc759a3b1ce73c85fc2dd29c76e8d71b6ce6c2dc8d6336ce51", func := "loop.example/g01004/laws.FnExactIsSemistableFromFive", spec := "fnExactIsSemistableFromFive", unfollowed := true, recurses := true, apart := false, narrowed := true }
def FnExactIsSemistableFromFiveUptoSaid : Prop := fnExactIsSemistableFromFiveUptoRow.holds Try.pinned (OpenSpec.upto fnExactIsSemistableFromFiveSpec)

/-- 'laws.FnExactBadFromFive', WHERE WHAT IT READS IS OF BULK AT MOST 1048576: true; the input reads as it did. -/
def fnExactBadFromFiveUptoRow : OpenClaim := { program := "ytppecifjblaodaa", sum := "98a680ee856b0abc759a3b1ce73c85fc2dd29c76e8d71b6ce6c2dc8d6336ce51", func := "loop.example/g01004/laws.FnExactBadFromFive", spec := "fnExactBadFromFive", apart := false, narrowed := true }
def FnExactBadFromFiveUptoSaid : Prop := fnExactBadFromFiveUptoRow.holds Try.pinned (OpenSpec.upto fnExactBadFromFiveSpec)

/-- 'laws.FnExactConductorPart', WHERE WHAT IT READS IS OF BULK AT MOST 1048576: true; the input reads as it did. -/
def fnExactConductorPartUptoRow : OpenClaim := { program := "ytppecifjblaodaa", sum := "98a680ee856b0abc759a3b1ce73c85fc2dd29c76e8d71b6ce6c2dc8d6336ce51", func := "loop.example/g01004/laws.FnExactConductorPart", spec := "fnExactConductorPart", apart := false, narrowed := true }
def FnExactConductorPartUptoSaid : Prop := fnExactConductorPartUptoRow.holds Try.pinned (OpenSpec.upto fnExactConductorPartSpec)

/-- 'laws.FnExactPrimesOfKind', WHERE WHAT IT READS IS OF BULK AT MOST 1048576: true; the input reads as it did. -/
def fnExactPrimesOfKindUptoRow : OpenClaim := { program := "ytppecifjblaodaa", sum := "98a680ee856b0abc759a3b1ce73c85fc2dd29c76e8d71b6ce6c2dc8d6336ce51", func := "loop.example/g01004/laws.FnExactPrimesOfKind", spec := "fnExactPrimesOfKind", unfollowed := true, recurses := true, apart := false, narrowed := true }
def FnExactPrimesOfKindUptoSaid : Prop := fnExactPrimesOfKindUptoRow.holds Try.pinned (OpenSpec.upto fnExactPrimesOfKindSpec)

end Rows
end Go.Proofs.Ytppecifjblaodaa
