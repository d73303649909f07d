/-
  No cell of these rows narrows 'for every input' (looked for: loops, veiled, ifaces, maps, wideKeys, modest, calm, conditions, laid).
  DERIVED. THE GIVEN ROWS OF THIS SEAT. 12 by the template 'for every input the law returns true; each argument reads behind the call as it read before'; 0 by the template 'total and deterministic' (their statements: YtieaihlckmfnmaaTotals.lean).
  GIVEN WITH THE SEED: the statements are not yours to turn. If you find one false, say at which input.
  Laid BY PROGRAM, IN A SANDBOX (cutbox-rows.mjs): the forced cells as the released guide's own fill.sh prints them over the translation a73cffe0b516f9c5… (all of the seat's roots in one cut). By AI agents, Wed Nov 11 2026. No macro, syntax, notation, axiom, sorry.
-/
import Derived.Test.YtieaihlckmfnmaaChecked
import GoSem.Claim
import GoSem.ClaimJoined
import GoSem.ClaimMapViews
import Derived.JoinedTies
import Derived.KernelRfl
namespace Go.Proofs.Ytieaihlckmfnmaa
/- THE CELL 'sum', in the pinned program and in every row, IS THE sha256 OF THE DUMP (.gsa) THAT YtieaihlckmfnmaaProg.lean LOADS. Nothing in Lean hashes anything: it is a label: what it is worth is what the hold of that sum in a sandbox is worth. -/
noncomputable def Try.pinned : Pinned := { name := "ytieaihlckmfnmaa", sum := "a73cffe0b516f9c593674fcb44c4d3dc72372c8d998bcc689a04f2b3952df075", checked := Try.checked }
namespace Rows
def none {H : Type} : Left H := { results := [], args := [] }

/-- 'laws.FnExactNegatePoint': WHATEVER THE INPUT: true; the input reads as it did. -/
def fnExactNegatePointSpec : ChangeSpec := { name := "fnExactNegatePoint", fn := fun _ => fun
  | [d1, d2] => { results := [.lit (.bool true)], args := [d1, d2] }
  | _ => none }
def fnExactNegatePointRow : OpenClaim := { program := "ytieaihlckmfnmaa", sum := "a73cffe0b516f9c593674fcb44c4d3dc72372c8d998bcc689a04f2b3952df075", func := "loop.example/g01004/laws.FnExactNegatePoint", spec := "fnExactNegatePoint", apart := false }
def FnExactNegatePointSaid : Prop := fnExactNegatePointRow.holds Try.pinned (OpenSpec.ofChange fnExactNegatePointSpec)

/-- ITS FALSE NEIGHBOUR: 'it returns false'. Refute it at one input. -/
def fnExactNegatePointWrong : ChangeSpec := { name := "fnExactNegatePoint", fn := fun _ => fun
  | [d1, d2] => { results := [.lit (.bool false)], args := [d1, d2] }
  | _ => none }
def FnExactNegatePointWrongFalsely : Prop := fnExactNegatePointRow.holds Try.pinned (OpenSpec.ofChange fnExactNegatePointWrong)

/-- 'laws.FnExactOppositeModulo': WHATEVER THE INPUT: true; the input reads as it did. -/
def fnExactOppositeModuloSpec : ChangeSpec := { name := "fnExactOppositeModulo", fn := fun _ => fun
  | [d1, d2, d3] => { results := [.lit (.bool true)], args := [d1, d2, d3] }
  | _ => none }
def fnExactOppositeModuloRow : OpenClaim := { program := "ytieaihlckmfnmaa", sum := "a73cffe0b516f9c593674fcb44c4d3dc72372c8d998bcc689a04f2b3952df075", func := "loop.example/g01004/laws.FnExactOppositeModulo", spec := "fnExactOppositeModulo", apart := false }
def FnExactOppositeModuloSaid : Prop := fnExactOppositeModuloRow.holds Try.pinned (OpenSpec.ofChange fnExactOppositeModuloSpec)

/-- ITS FALSE NEIGHBOUR: 'it returns false'. Refute it at one input. -/
def fnExactOppositeModuloWrong : ChangeSpec := { name := "fnExactOppositeModulo", fn := fun _ => fun
  | [d1, d2, d3] => { results := [.lit (.bool false)], args := [d1, d2, d3] }
  | _ => none }
def FnExactOppositeModuloWrongFalsely : Prop := fnExactOppositeModuloRow.holds Try.pinned (OpenSpec.ofChange fnExactOppositeModuloWrong)

/-- 'laws.FnExactPointsModulo': WHATEVER THE INPUT: true; the input reads as it did. -/
def fnExactPointsModuloSpec : ChangeSpec := { name := "fnExactPointsModulo", fn := fun _ => fun
  | [d1, d2] => { results := [.lit (.bool true)], args := [d1, d2] }
  | _ => none }
def fnExactPointsModuloRow : OpenClaim := { program := "ytieaihlckmfnmaa", sum := "a73cffe0b516f9c593674fcb44c4d3dc72372c8d998bcc689a04f2b3952df075", func := "loop.example/g01004/laws.FnExactPointsModulo", spec := "fnExactPointsModulo", apart := false }
def FnExactPointsModuloSaid : Prop := fnExactPointsModuloRow.holds Try.pinned (OpenSpec.ofChange fnExactPointsModuloSpec)

/-- ITS FALSE NEIGHBOUR: 'it returns false'. Refute it at one input. -/
def fnExactPointsModuloWrong : ChangeSpec := { name := "fnExactPointsModulo", fn := fun _ => fun
  | [d1, d2] => { results := [.lit (.bool false)], args := [d1, d2] }
  | _ => none }
def FnExactPointsModuloWrongFalsely : Prop := fnExactPointsModuloRow.holds Try.pinned (OpenSpec.ofChange fnExactPointsModuloWrong)

/-- 'laws.FnExactReducePoint': WHATEVER THE INPUT: true; the input reads as it did. -/
def fnExactReducePointSpec : ChangeSpec := { name := "fnExactReducePoint", fn := fun _ => fun
  | [d1, d2, d3] => { results := [.lit (.bool true)], args := [d1, d2, d3] }
  | _ => none }
def fnExactReducePointRow : OpenClaim := { program := "ytieaihlckmfnmaa", sum := "a73cffe0b516f9c593674fcb44c4d3dc72372c8d998bcc689a04f2b3952df075", func := "loop.example/g01004/laws.FnExactReducePoint", spec := "fnExactReducePoint", apart := false }
def FnExactReducePointSaid : Prop := fnExactReducePointRow.holds Try.pinned (OpenSpec.ofChange fnExactReducePointSpec)

/-- ITS FALSE NEIGHBOUR: 'it returns false'. Refute it at one input. -/
def fnExactReducePointWrong : ChangeSpec := { name := "fnExactReducePoint", fn := fun _ => fun
  | [d1, d2, d3] => { results := [.lit (.bool false)], args := [d1, d2, d3] }
  | _ => none }
def FnExactReducePointWrongFalsely : Prop := fnExactReducePointRow.holds Try.pinned (OpenSpec.ofChange fnExactReducePointWrong)

/-- 'laws.FnExactOrderModulo': WHATEVER THE INPUT: true; the input reads as it did. -/
def fnExactOrderModuloSpec : ChangeSpec := { name := "fnExactOrderModulo", fn := fun _ => fun
  | [d1, d2, d3] => { results := [.lit (.bool true)], args := [d1, d2, d3] }
  | _ => none }
def fnExactOrderModuloRow : OpenClaim := { program := "ytieaihlckmfnmaa", sum := "a73cffe0b516f9c593674fcb44c4d3dc72372c8d998bcc689a04f2b3952df075", func := "loop.example/g01004/laws.FnExactOrderModulo", spec := "fnExactOrderModulo", apart := false }
def FnExactOrderModuloSaid : Prop := fnExactOrderModuloRow.holds Try.pinned (OpenSpec.ofChange fnExactOrderModuloSpec)

/-- ITS FALSE NEIGHBOUR: 'it returns false'. Refute it at one input. -/
def fnExactOrderModuloWrong : ChangeSpec := { name := "fnExactOrderModulo", fn := fun _ => fun
  | [d1, d2, d3] => { results := [.lit (.bool false)], args := [d1, d2, d3] }
  | _ => none }
def FnExactOrderModuloWrongFalsely : Prop := fnExactOrderModuloRow.holds Try.pinned (OpenSpec.ofChange fnExactOrderModuloWrong)

/-- 'laws.FnExactAddModulo': WHATEVER THE INPUT: true; the input reads as it did. -/
def fnExactAddModuloSpec : ChangeSpec := { name := "fnExactAddModulo", fn := fun _ => fun
  | [d1, d2, d3, d4] => { results := [.lit (.bool true)], args := [d1, d2, d3, d4] }
  | _ => none }
def fnExactAddModuloRow : OpenClaim := { program := "ytieaihlckmfnmaa", sum := "a73cffe0b516f9c593674fcb44c4d3dc72372c8d998bcc689a04f2b3952df075", func := "loop.example/g01004/laws.FnExactAddModulo", spec := "fnExactAddModulo", apart := false }
def FnExactAddModuloSaid : Prop := fnExactAddModuloRow.holds Try.pinned (OpenSpec.ofChange fnExactAddModuloSpec)

/-- ITS FALSE NEIGHBOUR: 'it returns false'. Refute it at one input. -/
def fnExactAddModuloWrong : ChangeSpec := { name := "fnExactAddModulo", fn := fun _ => fun
  | [d1, d2, d3, d4] => { results := [.lit (.bool false)], args := [d1, d2, d3, d4] }
  | _ => none }
def FnExactAddModuloWrongFalsely : Prop := fnExactAddModuloRow.holds Try.pinned (OpenSpec.ofChange fnExactAddModuloWrong)

/-- 'laws.FnExactCountOrders': WHATEVER THE INPUT: true; the input reads as it did. -/
def fnExactCountOrdersSpec : ChangeSpec := { name := "fnExactCountOrders", fn := fun _ => fun
  | [d1, d2, d3] => { results := [.lit (.bool true)], args := [d1, d2, d3] }
  | _ => none }
def fnExactCountOrdersRow : OpenClaim := { program := "ytieaihlckmfnmaa", sum := "a73cffe0b516f9c593674fcb44c4d3dc72372c8d998bcc689a04f2b3952df075", func := "loop.example/g01004/laws.FnExactCountOrders", spec := "fnExactCountOrders", apart := false }
def FnExactCountOrdersSaid : Prop := fnExactCountOrdersRow.holds Try.pinned (OpenSpec.ofChange fnExactCountOrdersSpec)

/-- ITS FALSE NEIGHBOUR: 'it returns false'. Refute it at one input. -/
def fnExactCountOrdersWrong : ChangeSpec := { name := "fnExactCountOrders", fn := fun _ => fun
  | [d1, d2, d3] => { results := [.lit (.bool false)], args := [d1, d2, d3] }
  | _ => none }
def FnExactCountOrdersWrongFalsely : Prop := fnExactCountOrdersRow.holds Try.pinned (OpenSpec.ofChange fnExactCountOrdersWrong)

/-- 'laws.FnExactGroupShape': WHATEVER THE INPUT: true; the input reads as it did. -/
def fnExactGroupShapeSpec : ChangeSpec := { name := "fnExactGroupShape", fn := fun _ => fun
  | [d1, d2] => { results := [.lit (.bool true)], args := [d1, d2] }
  | _ => none }
def fnExactGroupShapeRow : OpenClaim := { program := "ytieaihlckmfnmaa", sum := "a73cffe0b516f9c593674fcb44c4d3dc72372c8d998bcc689a04f2b3952df075", func := "loop.example/g01004/laws.FnExactGroupShape", spec := "fnExactGroupShape", apart := false }
def FnExactGroupShapeSaid : Prop := fnExactGroupShapeRow.holds Try.pinned (OpenSpec.ofChange fnExactGroupShapeSpec)

/-- ITS FALSE NEIGHBOUR: 'it returns false'. Refute it at one input. -/
def fnExactGroupShapeWrong : ChangeSpec := { name := "fnExactGroupShape", fn := fun _ => fun
  | [d1, d2] => { results := [.lit (.bool false)], args := [d1, d2] }
  | _ => none }
def FnExactGroupShapeWrongFalsely : Prop := fnExactGroupShapeRow.holds Try.pinned (OpenSpec.ofChange fnExactGroupShapeWrong)

/-- 'laws.FnExactTimesModulo': WHATEVER THE INPUT: true; the input reads as it did. -/
def fnExactTimesModuloSpec : ChangeSpec := { name := "fnExactTimesModulo", fn := fun _ => fun
  | [d1, d2, d3, d4] => { results := [.lit (.bool true)], args := [d1, d2, d3, d4] }
  | _ => none }
def fnExactTimesModuloRow : OpenClaim := { program := "ytieaihlckmfnmaa", sum := "a73cffe0b516f9c593674fcb44c4d3dc72372c8d998bcc689a04f2b3952df075", func := "loop.example/g01004/laws.FnExactTimesModulo", spec := "fnExactTimesModulo", apart := false }
def FnExactTimesModuloSaid : Prop := fnExactTimesModuloRow.holds Try.pinned (OpenSpec.ofChange fnExactTimesModuloSpec)

/-- ITS FALSE NEIGHBOUR: 'it returns false'. Refute it at one input. -/
def fnExactTimesModuloWrong : ChangeSpec := { name := "fnExactTimesModulo", fn := fun _ => fun
  | [d1, d2, d3, d4] => { results := [.lit (.bool false)], args := [d1, d2, d3, d4] }
  | _ => none }
def FnExactTimesModuloWrongFalsely : Prop := fnExactTimesModuloRow.holds Try.pinned (OpenSpec.ofChange fnExactTimesModuloWrong)

/-- 'laws.FnExactBadPrimes': WHATEVER THE INPUT: true; the input reads as it did. -/
def fnExactBadPrimesSpec : ChangeSpec := { name := "fnExactBadPrimes", fn := fun _ => fun
  | [d] => { results := [.lit (.bool true)], args := [d] }
  | _ => none }
def fnExactBadPrimesRow : OpenClaim := { program := "ytieaihlckmfnmaa", sum := "a73cffe0b516f9c593674fcb44c4d3dc72372c8d998bcc689a04f2b3952df075", func := "loop.example/g01004/laws.FnExactBadPrimes", spec := "fnExactBadPrimes", apart := false }
def FnExactBadPrimesSaid : Prop := fnExactBadPrimesRow.holds Try.pinned (OpenSpec.ofChange fnExactBadPrimesSpec)

/-- ITS FALSE NEIGHBOUR: 'it returns false'. Refute it at one input. -/
def fnExactBadPrimesWrong : ChangeSpec := { name := "fnExactBadPrimes", fn := fun _ => fun
  | [d] => { results := [.lit (.bool false)], args := [d] }
  | _ => none }
def FnExactBadPrimesWrongFalsely : Prop := fnExactBadPrimesRow.holds Try.pinned (OpenSpec.ofChange fnExactBadPrimesWrong)

/-- 'laws.FnExactTwoTorsion': WHATEVER THE INPUT: true; the input reads as it did. -/
def fnExactTwoTorsionSpec : ChangeSpec := { name := "fnExactTwoTorsion", fn := fun _ => fun
  | [d] => { results := [.lit (.bool true)], args := [d] }
  | _ => none }
def fnExactTwoTorsionRow : OpenClaim := { program := "ytieaihlckmfnmaa", sum := "a73cffe0b516f9c593674fcb44c4d3dc72372c8d998bcc689a04f2b3952df075", func := "loop.example/g01004/laws.FnExactTwoTorsion", spec := "fnExactTwoTorsion", inPlace := ["math.sqrt"], apart := false }
def FnExactTwoTorsionSaid : Prop := fnExactTwoTorsionRow.holds Try.pinned (OpenSpec.ofChange fnExactTwoTorsionSpec)

/-- ITS FALSE NEIGHBOUR: 'it returns false'. Refute it at one input. -/
def fnExactTwoTorsionWrong : ChangeSpec := { name := "fnExactTwoTorsion", fn := fun _ => fun
  | [d] => { results := [.lit (.bool false)], args := [d] }
  | _ => none }
def FnExactTwoTorsionWrongFalsely : Prop := fnExactTwoTorsionRow.holds Try.pinned (OpenSpec.ofChange fnExactTwoTorsionWrong)

/-- 'laws.FnExactSlopeOf': WHATEVER THE INPUT: true; the input reads as it did. -/
def fnExactSlopeOfSpec : ChangeSpec := { name := "fnExactSlopeOf", fn := fun _ => fun
  | [d1, d2, d3] => { results := [.lit (.bool true)], args := [d1, d2, d3] }
  | _ => none }
def fnExactSlopeOfRow : OpenClaim := { program := "ytieaihlckmfnmaa", sum := "a73cffe0b516f9c593674fcb44c4d3dc72372c8d998bcc689a04f2b3952df075", func := "loop.example/g01004/laws.FnExactSlopeOf", spec := "fnExactSlopeOf", apart := false }
def FnExactSlopeOfSaid : Prop := fnExactSlopeOfRow.holds Try.pinned (OpenSpec.ofChange fnExactSlopeOfSpec)

/-- ITS FALSE NEIGHBOUR: 'it returns false'. Refute it at one input. -/
def fnExactSlopeOfWrong : ChangeSpec := { name := "fnExactSlopeOf", fn := fun _ => fun
  | [d1, d2, d3] => { results := [.lit (.bool false)], args := [d1, d2, d3] }
  | _ => none }
def FnExactSlopeOfWrongFalsely : Prop := fnExactSlopeOfRow.holds Try.pinned (OpenSpec.ofChange fnExactSlopeOfWrong)

/- THE SECOND FORM. 'bulk': how many values and letters a reading holds, each counted each time it is reached (what is shared counts as often as it is met; a slice's spare places count too). A statement '..UptoSaid' is the law's where the arguments, and the package variables that the reading takes, are together of bulk at most 1048576: NARROWER than '..Said'. Prove '..Said' where nothing that the law and all that it calls make is longer than what came in: it says more and counts as full. Else prove '..UptoSaid'. A law counts once. -/
mutual
def uptoBulk {H : Type} : DataW H → Nat
  | .lit (.string bytes) => bytes.length + 1
  | .lit _ => 1
  | .nil => 1
  | .ptr d => uptoBulk d + 1
  | .slice elems spare => uptoBulkAll elems + uptoBulkAll spare + 1
  | .agg parts => uptoBulkAll parts + 1
  | .iface _ d => uptoBulk d + 1
  | .map entries => uptoBulkEntries entries + 1
  | .held _ => 1
def uptoBulkAll {H : Type} : List (DataW H) → Nat
  | [] => 0
  | d :: r => uptoBulk d + uptoBulkAll r
def uptoBulkEntries {H : Type} : List (Lit × DataW H) → Nat
  | [] => 0
  | x :: r => uptoBulkEntry x + uptoBulkEntries r
def uptoBulkEntry {H : Type} : Lit × DataW H → Nat
  | (.string bytes, d) => bytes.length + uptoBulk d + 1
  | (_, d) => uptoBulk d + 1
 end
def uptoSmall : (H : Type) → List (DataW H) → Bool := fun _ ds => decide (uptoBulkAll ds ≤ 1048576)
def OpenSpec.upto (s : _root_.Go.ChangeSpec) : _root_.Go.OpenSpec := { _root_.Go.OpenSpec.ofChange s with cond := some uptoSmall }

/-- 'laws.FnExactNegatePoint', WHERE WHAT IT READS IS OF BULK AT MOST 1048576: true; the input reads as it did. -/
def fnExactNegatePointUptoRow : OpenClaim := { program := "ytieaihlckmfnmaa", sum := "a73cffe0b516f9c593674fcb44c4d3dc72372c8d998bcc689a04f2b3952df075", func := "loop.example/g01004/laws.FnExactNegatePoint", spec := "fnExactNegatePoint", apart := false, narrowed := true }
def FnExactNegatePointUptoSaid : Prop := fnExactNegatePointUptoRow.holds Try.pinned (OpenSpec.upto fnExactNegatePointSpec)

/-- 'laws.FnExactOppositeModulo', WHERE WHAT IT READS IS OF BULK AT MOST 1048576: true; the input reads as it did. -/
def fnExactOppositeModuloUptoRow : OpenClaim := { program := "ytieaihlckmfnmaa", sum := "a73cffe0b516f9c593674fcb44c4d3dc72372c8d998bcc689a04f2b3952df075", func := "loop.example/g01004/laws.FnExactOppositeModulo", spec := "fnExactOppositeModulo", apart := false, narrowed := true }
def FnExactOppositeModuloUptoSaid : Prop := fnExactOppositeModuloUptoRow.holds Try.pinned (OpenSpec.upto fnExactOppositeModuloSpec)

/-- 'laws.FnExactPointsModulo', WHERE WHAT IT READS IS OF BULK AT MOST 1048576: true; the input reads as it did. -/
def fnExactPointsModuloUptoRow : OpenClaim := { program := "ytieaihlckmfnmaa", sum := "a73cffe0b516f9c593674fcb44c4d3dc72372c8d998bcc689a04f2b3952df075", func := "loop.example/g01004/laws.FnExactPointsModulo", spec := "fnExactPointsModulo", apart := false, narrowed := true }
def FnExactPointsModuloUptoSaid : Prop := fnExactPointsModuloUptoRow.holds Try.pinned (OpenSpec.upto fnExactPointsModuloSpec)

/-- 'laws.FnExactReducePoint', WHERE WHAT IT READS IS OF BULK AT MOST 1048576: true; the input reads as it did. -/
def fnExactReducePointUptoRow : OpenClaim := { program := "ytieaihlckmfnmaa", sum := "a73cffe0b516f9c593674fcb44c4d3dc72372c8d998bcc689a04f2b3952df075", func := "loop.example/g01004/laws.FnExactReducePoint", spec := "fnExactReducePoint", apart := false, narrowed := true }
def FnExactReducePointUptoSaid : Prop := fnExactReducePointUptoRow.holds Try.pinned (OpenSpec.upto fnExactReducePointSpec)

/-- 'laws.FnExactOrderModulo', WHERE WHAT IT READS IS OF BULK AT MOST 1048576: true; the input reads as it did. -/
def fnExactOrderModuloUptoRow : OpenClaim := { program := "ytieaihlckmfnmaa", sum := "a73cffe0b516f9c593674fcb44c4d3dc72372c8d998bcc689a04f2b3952df075", func := "loop.example/g01004/laws.FnExactOrderModulo", spec := "fnExactOrderModulo", apart := false, narrowed := true }
def FnExactOrderModuloUptoSaid : Prop := fnExactOrderModuloUptoRow.holds Try.pinned (OpenSpec.upto fnExactOrderModuloSpec)

/-- 'laws.FnExactAddModulo', WHERE WHAT IT READS IS OF BULK AT MOST 1048576: true; the input reads as it did. -/
def fnExactAddModuloUptoRow : OpenClaim := { program := "ytieaihlckmfnmaa", sum := "a73cffe0b516f9c593674fcb44c4d3dc72372c8d998bcc689a04f2b3952df075", func := "loop.example/g01004/laws.FnExactAddModulo", spec := "fnExactAddModulo", apart := false, narrowed := true }
def FnExactAddModuloUptoSaid : Prop := fnExactAddModuloUptoRow.holds Try.pinned (OpenSpec.upto fnExactAddModuloSpec)

/-- 'laws.FnExactCountOrders', WHERE WHAT IT READS IS OF BULK AT MOST 1048576: true; the input reads as it did. -/
def fnExactCountOrdersUptoRow : OpenClaim := { program := "ytieaihlckmfnmaa", sum := "a73cffe0b516f9c593674fcb44c4d3dc72372c8d998bcc689a04f2b3952df075", func := "loop.example/g01004/laws.FnExactCountOrders", spec := "fnExactCountOrders", apart := false, narrowed := true }
def FnExactCountOrdersUptoSaid : Prop := fnExactCountOrdersUptoRow.holds Try.pinned (OpenSpec.upto fnExactCountOrdersSpec)

/-- 'laws.FnExactGroupShape', WHERE WHAT IT READS IS OF BULK AT MOST 1048576: true; the input reads as it did. -/
def fnExactGroupShapeUptoRow : OpenClaim := { program := "ytieaihlckmfnmaa", sum := "a73cffe0b516f9c593674fcb44c4d3dc72372c8d998bcc689a04f2b3952df075", func := "loop.example/g01004/laws.FnExactGroupShape", spec := "fnExactGroupShape", apart := false, narrowed := true }
def FnExactGroupShapeUptoSaid : Prop := fnExactGroupShapeUptoRow.holds Try.pinned (OpenSpec.upto fnExactGroupShapeSpec)

/-- 'laws.FnExactTimesModulo', WHERE WHAT IT READS IS OF BULK AT MOST 1048576: true; the input reads as it did. -/
def fnExactTimesModuloUptoRow : OpenClaim := { program := "ytieaihlckmfnmaa", sum := "a73cffe0b516f9c593674fcb44c4d3dc72372c8d998bcc689a04f2b3952df075", func := "loop.example/g01004/laws.FnExactTimesModulo", spec := "fnExactTimesModulo", apart := false, narrowed := true }
def FnExactTimesModuloUptoSaid : Prop := fnExactTimesModuloUptoRow.holds Try.pinned (OpenSpec.upto fnExactTimesModuloSpec)

/-- 'laws.FnExactBadPrimes', WHERE WHAT IT READS IS OF BULK AT MOST 1048576: true; the input reads as it did. -/
def fnExactBadPrimesUptoRow : OpenClaim := { program := "ytieaihlckmfnmaa", sum := "a73cffe0b516f9c593674fcb44c4d3dc72372c8d998bcc689a04f2b3952df075", func := "loop.example/g01004/laws.FnExactBadPrimes", spec := "fnExactBadPrimes", apart := false, narrowed := true }
def FnExactBadPrimesUptoSaid : Prop := fnExactBadPrimesUptoRow.holds Try.pinned (OpenSpec.upto fnExactBadPrimesSpec)

/-- 'laws.FnExactTwoTorsion', WHERE WHAT IT READS IS OF BULK AT MOST 1048576: true; the input reads as it did. -/
def fnExactTwoTorsionUptoRow : OpenClaim := { program := "ytieaihlckmfnmaa", sum := "a73cffe0b516f9c593674fcb44c4d3dc72372c8d998bcc689a04f2b3952df075", func := "loop.example/g01004/laws.FnExactTwoTorsion", spec := "fnExactTwoTorsion", inPlace := ["math.sqrt"], apart := false, narrowed := true }
def FnExactTwoTorsionUptoSaid : Prop := fnExactTwoTorsionUptoRow.holds Try.pinned (OpenSpec.upto fnExactTwoTorsionSpec)

/-- 'laws.FnExactSlopeOf', WHERE WHAT IT READS IS OF BULK AT MOST 1048576: true; the input reads as it did. -/
def fnExactSlopeOfUptoRow : OpenClaim := { program := "ytieaihlckmfnmaa", sum := "a73cffe0b516f9c593674fcb44c4d3dc72372c8d998bcc689a04f2b3952df075", func := "loop.example/g01004/laws.FnExactSlopeOf", spec := "fnExactSlopeOf", apart := false, narrowed := true }
def FnExactSlopeOfUptoSaid : Prop := fnExactSlopeOfUptoRow.holds Try.pinned (OpenSpec.upto fnExactSlopeOfSpec)

end Rows
end Go.Proofs.Ytieaihlckmfnmaa
