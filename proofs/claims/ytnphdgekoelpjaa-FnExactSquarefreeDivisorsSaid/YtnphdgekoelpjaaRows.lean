/-
  No cell of these rows narrows 'for every input' (looked for: loops, veiled, ifaces, maps, wideKeys, modest, calm, conditions, laid).
  DERIVED. THE GIVEN ROWS OF THIS SEAT. 12 by the template 'for every input the law returns true; each argument reads behind the call as it read before'; 0 by the template 'total and deterministic' (their statements: YtnphdgekoelpjaaTotals.lean).
  GIVEN WITH THE SEED: the statements are not yours to turn. If you find one false, say at which input.
  Laid BY PROGRAM, IN A SANDBOX (cutbox-rows.mjs): the forced cells as the released guide's own fill.sh prints them over the translation 1c48004f5b268c40… (all of the seat's roots in one cut). By AI agents, Wed Nov 11 2026. No macro, syntax, notation, axiom, sorry.
-/
import Derived.Test.YtnphdgekoelpjaaChecked
import GoSem.Claim
import GoSem.ClaimJoined
import GoSem.ClaimMapViews
import Derived.JoinedTies
import Derived.KernelRfl
namespace Go.Proofs.Ytnphdgekoelpjaa
/- THE CELL 'sum', in the pinned program and in every row, IS THE sha256 OF THE DUMP (.gsa) THAT YtnphdgekoelpjaaProg.lean LOADS. Nothing in Lean hashes anything: it is a label: what it is worth is what the hold of that sum in a sandbox is worth. -/
noncomputable def Try.pinned : Pinned := { name := "ytnphdgekoelpjaa", sum := "1c48004f5b268c40379128aa9ef6337758c96c38d6fa62bc899308d65b57e8d5", checked := Try.checked }
namespace Rows
def none {H : Type} : Left H := { results := [], args := [] }

/-- 'laws.FnExactAddPoints': WHATEVER THE INPUT: true; the input reads as it did. -/
def fnExactAddPointsSpec : ChangeSpec := { name := "fnExactAddPoints", fn := fun _ => fun
  | [d1, d2, d3] => { results := [.lit (.bool true)], args := [d1, d2, d3] }
  | _ => none }
def fnExactAddPointsRow : OpenClaim := { program := "ytnphdgekoelpjaa", sum := "1c48004f5b268c40379128aa9ef6337758c96c38d6fa62bc899308d65b57e8d5", func := "loop.example/g01004/laws.FnExactAddPoints", spec := "fnExactAddPoints", inPlace := ["math.sqrt"], apart := false }
def FnExactAddPointsSaid : Prop := fnExactAddPointsRow.holds Try.pinned (OpenSpec.ofChange fnExactAddPointsSpec)

/-- ITS FALSE NEIGHBOUR: 'it returns false'. Refute it at one input. -/
def fnExactAddPointsWrong : ChangeSpec := { name := "fnExactAddPoints", fn := fun _ => fun
  | [d1, d2, d3] => { results := [.lit (.bool false)], args := [d1, d2, d3] }
  | _ => none }
def FnExactAddPointsWrongFalsely : Prop := fnExactAddPointsRow.holds Try.pinned (OpenSpec.ofChange fnExactAddPointsWrong)

/-- 'laws.FnExactDoublePoint': WHATEVER THE INPUT: true; the input reads as it did. -/
def fnExactDoublePointSpec : ChangeSpec := { name := "fnExactDoublePoint", fn := fun _ => fun
  | [d1, d2] => { results := [.lit (.bool true)], args := [d1, d2] }
  | _ => none }
def fnExactDoublePointRow : OpenClaim := { program := "ytnphdgekoelpjaa", sum := "1c48004f5b268c40379128aa9ef6337758c96c38d6fa62bc899308d65b57e8d5", func := "loop.example/g01004/laws.FnExactDoublePoint", spec := "fnExactDoublePoint", inPlace := ["math.sqrt"], apart := false }
def FnExactDoublePointSaid : Prop := fnExactDoublePointRow.holds Try.pinned (OpenSpec.ofChange fnExactDoublePointSpec)

/-- ITS FALSE NEIGHBOUR: 'it returns false'. Refute it at one input. -/
def fnExactDoublePointWrong : ChangeSpec := { name := "fnExactDoublePoint", fn := fun _ => fun
  | [d1, d2] => { results := [.lit (.bool false)], args := [d1, d2] }
  | _ => none }
def FnExactDoublePointWrongFalsely : Prop := fnExactDoublePointRow.holds Try.pinned (OpenSpec.ofChange fnExactDoublePointWrong)

/-- 'laws.FnExactAreCollinear': WHATEVER THE INPUT: true; the input reads as it did. -/
def fnExactAreCollinearSpec : ChangeSpec := { name := "fnExactAreCollinear", fn := fun _ => fun
  | [d1, d2, d3, d4] => { results := [.lit (.bool true)], args := [d1, d2, d3, d4] }
  | _ => none }
def fnExactAreCollinearRow : OpenClaim := { program := "ytnphdgekoelpjaa", sum := "1c48004f5b268c40379128aa9ef6337758c96c38d6fa62bc899308d65b57e8d5", func := "loop.example/g01004/laws.FnExactAreCollinear", spec := "fnExactAreCollinear", inPlace := ["math.sqrt"], apart := false }
def FnExactAreCollinearSaid : Prop := fnExactAreCollinearRow.holds Try.pinned (OpenSpec.ofChange fnExactAreCollinearSpec)

/-- ITS FALSE NEIGHBOUR: 'it returns false'. Refute it at one input. -/
def fnExactAreCollinearWrong : ChangeSpec := { name := "fnExactAreCollinear", fn := fun _ => fun
  | [d1, d2, d3, d4] => { results := [.lit (.bool false)], args := [d1, d2, d3, d4] }
  | _ => none }
def FnExactAreCollinearWrongFalsely : Prop := fnExactAreCollinearRow.holds Try.pinned (OpenSpec.ofChange fnExactAreCollinearWrong)

/-- 'laws.FnExactOrderOfPoint': WHATEVER THE INPUT: true; the input reads as it did. -/
def fnExactOrderOfPointSpec : ChangeSpec := { name := "fnExactOrderOfPoint", fn := fun _ => fun
  | [d1, d2] => { results := [.lit (.bool true)], args := [d1, d2] }
  | _ => none }
def fnExactOrderOfPointRow : OpenClaim := { program := "ytnphdgekoelpjaa", sum := "1c48004f5b268c40379128aa9ef6337758c96c38d6fa62bc899308d65b57e8d5", func := "loop.example/g01004/laws.FnExactOrderOfPoint", spec := "fnExactOrderOfPoint", inPlace := ["math.sqrt"], apart := false }
def FnExactOrderOfPointSaid : Prop := fnExactOrderOfPointRow.holds Try.pinned (OpenSpec.ofChange fnExactOrderOfPointSpec)

/-- ITS FALSE NEIGHBOUR: 'it returns false'. Refute it at one input. -/
def fnExactOrderOfPointWrong : ChangeSpec := { name := "fnExactOrderOfPoint", fn := fun _ => fun
  | [d1, d2] => { results := [.lit (.bool false)], args := [d1, d2] }
  | _ => none }
def FnExactOrderOfPointWrongFalsely : Prop := fnExactOrderOfPointRow.holds Try.pinned (OpenSpec.ofChange fnExactOrderOfPointWrong)

/-- 'laws.FnExactMultiplePoint': WHATEVER THE INPUT: true; the input reads as it did. -/
def fnExactMultiplePointSpec : ChangeSpec := { name := "fnExactMultiplePoint", fn := fun _ => fun
  | [d1, d2, d3] => { results := [.lit (.bool true)], args := [d1, d2, d3] }
  | _ => none }
def fnExactMultiplePointRow : OpenClaim := { program := "ytnphdgekoelpjaa", sum := "1c48004f5b268c40379128aa9ef6337758c96c38d6fa62bc899308d65b57e8d5", func := "loop.example/g01004/laws.FnExactMultiplePoint", spec := "fnExactMultiplePoint", inPlace := ["math.sqrt"], apart := false }
def FnExactMultiplePointSaid : Prop := fnExactMultiplePointRow.holds Try.pinned (OpenSpec.ofChange fnExactMultiplePointSpec)

/-- ITS FALSE NEIGHBOUR: 'it returns false'. Refute it at one input. -/
def fnExactMultiplePointWrong : ChangeSpec := { name := "fnExactMultiplePoint", fn := fun _ => fun
  | [d1, d2, d3] => { results := [.lit (.bool false)], args := [d1, d2, d3] }
  | _ => none }
def FnExactMultiplePointWrongFalsely : Prop := fnExactMultiplePointRow.holds Try.pinned (OpenSpec.ofChange fnExactMultiplePointWrong)

/-- 'laws.FnExactMultiplesOf': WHATEVER THE INPUT: true; the input reads as it did. -/
def fnExactMultiplesOfSpec : ChangeSpec := { name := "fnExactMultiplesOf", fn := fun _ => fun
  | [d1, d2, d3] => { results := [.lit (.bool true)], args := [d1, d2, d3] }
  | _ => none }
def fnExactMultiplesOfRow : OpenClaim := { program := "ytnphdgekoelpjaa", sum := "1c48004f5b268c40379128aa9ef6337758c96c38d6fa62bc899308d65b57e8d5", func := "loop.example/g01004/laws.FnExactMultiplesOf", spec := "fnExactMultiplesOf", inPlace := ["math.sqrt"], apart := false }
def FnExactMultiplesOfSaid : Prop := fnExactMultiplesOfRow.holds Try.pinned (OpenSpec.ofChange fnExactMultiplesOfSpec)

/-- ITS FALSE NEIGHBOUR: 'it returns false'. Refute it at one input. -/
def fnExactMultiplesOfWrong : ChangeSpec := { name := "fnExactMultiplesOf", fn := fun _ => fun
  | [d1, d2, d3] => { results := [.lit (.bool false)], args := [d1, d2, d3] }
  | _ => none }
def FnExactMultiplesOfWrongFalsely : Prop := fnExactMultiplesOfRow.holds Try.pinned (OpenSpec.ofChange fnExactMultiplesOfWrong)

/-- 'laws.FnExactPointsAtX': WHATEVER THE INPUT: true; the input reads as it did. -/
def fnExactPointsAtXSpec : ChangeSpec := { name := "fnExactPointsAtX", fn := fun _ => fun
  | [d1, d2] => { results := [.lit (.bool true)], args := [d1, d2] }
  | _ => none }
def fnExactPointsAtXRow : OpenClaim := { program := "ytnphdgekoelpjaa", sum := "1c48004f5b268c40379128aa9ef6337758c96c38d6fa62bc899308d65b57e8d5", func := "loop.example/g01004/laws.FnExactPointsAtX", spec := "fnExactPointsAtX", inPlace := ["math.sqrt"], apart := false }
def FnExactPointsAtXSaid : Prop := fnExactPointsAtXRow.holds Try.pinned (OpenSpec.ofChange fnExactPointsAtXSpec)

/-- ITS FALSE NEIGHBOUR: 'it returns false'. Refute it at one input. -/
def fnExactPointsAtXWrong : ChangeSpec := { name := "fnExactPointsAtX", fn := fun _ => fun
  | [d1, d2] => { results := [.lit (.bool false)], args := [d1, d2] }
  | _ => none }
def FnExactPointsAtXWrongFalsely : Prop := fnExactPointsAtXRow.holds Try.pinned (OpenSpec.ofChange fnExactPointsAtXWrong)

/-- 'laws.FnExactSquarefreeDivisors': WHATEVER THE INPUT: true; the input reads as it did. -/
def fnExactSquarefreeDivisorsSpec : ChangeSpec := { name := "fnExactSquarefreeDivisors", fn := fun _ => fun
  | [d] => { results := [.lit (.bool true)], args := [d] }
  | _ => none }
def fnExactSquarefreeDivisorsRow : OpenClaim := { program := "ytnphdgekoelpjaa", sum := "1c48004f5b268c40379128aa9ef6337758c96c38d6fa62bc899308d65b57e8d5", func := "loop.example/g01004/laws.FnExactSquarefreeDivisors", spec := "fnExactSquarefreeDivisors", recurses := true, apart := false }
def FnExactSquarefreeDivisorsSaid : Prop := fnExactSquarefreeDivisorsRow.holds Try.pinned (OpenSpec.ofChange fnExactSquarefreeDivisorsSpec)

/-- ITS FALSE NEIGHBOUR: 'it returns false'. Refute it at one input. -/
def fnExactSquarefreeDivisorsWrong : ChangeSpec := { name := "fnExactSquarefreeDivisors", fn := fun _ => fun
  | [d] => { results := [.lit (.bool false)], args := [d] }
  | _ => none }
def FnExactSquarefreeDivisorsWrongFalsely : Prop := fnExactSquarefreeDivisorsRow.holds Try.pinned (OpenSpec.ofChange fnExactSquarefreeDivisorsWrong)

/-- 'laws.FnCurvePoints': WHATEVER THE INPUT: true; the input reads as it did. -/
def fnCurvePointsSpec : ChangeSpec := { name := "fnCurvePoints", fn := fun _ => fun
  | [d1, d2] => { results := [.lit (.bool true)], args := [d1, d2] }
  | _ => none }
def fnCurvePointsRow : OpenClaim := { program := "ytnphdgekoelpjaa", sum := "1c48004f5b268c40379128aa9ef6337758c96c38d6fa62bc899308d65b57e8d5", func := "loop.example/g01004/laws.FnCurvePoints", spec := "fnCurvePoints", apart := false }
def FnCurvePointsSaid : Prop := fnCurvePointsRow.holds Try.pinned (OpenSpec.ofChange fnCurvePointsSpec)

/-- ITS FALSE NEIGHBOUR: 'it returns false'. Refute it at one input. -/
def fnCurvePointsWrong : ChangeSpec := { name := "fnCurvePoints", fn := fun _ => fun
  | [d1, d2] => { results := [.lit (.bool false)], args := [d1, d2] }
  | _ => none }
def FnCurvePointsWrongFalsely : Prop := fnCurvePointsRow.holds Try.pinned (OpenSpec.ofChange fnCurvePointsWrong)

/-- 'laws.FnWholes': WHATEVER THE INPUT: true; the input reads as it did. -/
def fnWholesSpec : ChangeSpec := { name := "fnWholes", fn := fun _ => fun
  | [d1, d2] => { results := [.lit (.bool true)], args := [d1, d2] }
  | _ => none }
def fnWholesRow : OpenClaim := { program := "ytnphdgekoelpjaa", sum := "1c48004f5b268c40379128aa9ef6337758c96c38d6fa62bc899308d65b57e8d5", func := "loop.example/g01004/laws.FnWholes", spec := "fnWholes", apart := false }
def FnWholesSaid : Prop := fnWholesRow.holds Try.pinned (OpenSpec.ofChange fnWholesSpec)

/-- ITS FALSE NEIGHBOUR: 'it returns false'. Refute it at one input. -/
def fnWholesWrong : ChangeSpec := { name := "fnWholes", fn := fun _ => fun
  | [d1, d2] => { results := [.lit (.bool false)], args := [d1, d2] }
  | _ => none }
def FnWholesWrongFalsely : Prop := fnWholesRow.holds Try.pinned (OpenSpec.ofChange fnWholesWrong)

/-- 'laws.FnExactGroupShape': WHATEVER THE INPUT: true; the input reads as it did. -/
def fnExactGroupShapeSpec : ChangeSpec := { name := "fnExactGroupShape", fn := fun _ => fun
  | [d1, d2] => { results := [.lit (.bool true)], args := [d1, d2] }
  | _ => none }
def fnExactGroupShapeRow : OpenClaim := { program := "ytnphdgekoelpjaa", sum := "1c48004f5b268c40379128aa9ef6337758c96c38d6fa62bc899308d65b57e8d5", func := "loop.example/g01004/laws.FnExactGroupShape", spec := "fnExactGroupShape", apart := false }
def FnExactGroupShapeSaid : Prop := fnExactGroupShapeRow.holds Try.pinned (OpenSpec.ofChange fnExactGroupShapeSpec)

/-- ITS FALSE NEIGHBOUR: 'it returns false'. Refute it at one input. -/
def fnExactGroupShapeWrong : ChangeSpec := { name := "fnExactGroupShape", fn := fun _ => fun
  | [d1, d2] => { results := [.lit (.bool false)], args := [d1, d2] }
  | _ => none }
def FnExactGroupShapeWrongFalsely : Prop := fnExactGroupShapeRow.holds Try.pinned (OpenSpec.ofChange fnExactGroupShapeWrong)

/-- 'laws.FnGroupLaw': WHATEVER THE INPUT: true; the input reads as it did. -/
def fnGroupLawSpec : ChangeSpec := { name := "fnGroupLaw", fn := fun _ => fun
  | [d1, d2] => { results := [.lit (.bool true)], args := [d1, d2] }
  | _ => none }
def fnGroupLawRow : OpenClaim := { program := "ytnphdgekoelpjaa", sum := "1c48004f5b268c40379128aa9ef6337758c96c38d6fa62bc899308d65b57e8d5", func := "loop.example/g01004/laws.FnGroupLaw", spec := "fnGroupLaw", inPlace := ["math.sqrt"], apart := false }
def FnGroupLawSaid : Prop := fnGroupLawRow.holds Try.pinned (OpenSpec.ofChange fnGroupLawSpec)

/-- ITS FALSE NEIGHBOUR: 'it returns false'. Refute it at one input. -/
def fnGroupLawWrong : ChangeSpec := { name := "fnGroupLaw", fn := fun _ => fun
  | [d1, d2] => { results := [.lit (.bool false)], args := [d1, d2] }
  | _ => none }
def FnGroupLawWrongFalsely : Prop := fnGroupLawRow.holds Try.pinned (OpenSpec.ofChange fnGroupLawWrong)

/- THE SECOND FORM. 'bulk': how many values and letters a reading holds, each counted each time it is reached (what is shared counts as often as it is met; a slice's spare places count too). A statement '..UptoSaid' is the law's where the arguments, and the package variables that the reading takes, are together of bulk at most 1048576: NARROWER than '..Said'. Prove '..Said' where nothing that the law and all that it calls make is longer than what came in: it says more and counts as full. Else prove '..UptoSaid'. A law counts once. -/
mutual
def uptoBulk {H : Type} : DataW H → Nat
  | .lit (.string bytes) => bytes.length + 1
  | .lit _ => 1
  | .nil => 1
  | .ptr d => uptoBulk d + 1
  | .slice elems spare => uptoBulkAll elems + uptoBulkAll spare + 1
  | .agg parts => uptoBulkAll parts + 1
  | .iface _ d => uptoBulk d + 1
  | .map entries => uptoBulkEntries entries + 1
  | .held _ => 1
def uptoBulkAll {H : Type} : List (DataW H) → Nat
  | [] => 0
  | d :: r => uptoBulk d + uptoBulkAll r
def uptoBulkEntries {H : Type} : List (Lit × DataW H) → Nat
  | [] => 0
  | x :: r => uptoBulkEntry x + uptoBulkEntries r
def uptoBulkEntry {H : Type} : Lit × DataW H → Nat
  | (.string bytes, d) => bytes.length + uptoBulk d + 1
  | (_, d) => uptoBulk d + 1
 end
def uptoSmall : (H : Type) → List (DataW H) → Bool := fun _ ds => decide (uptoBulkAll ds ≤ 1048576)
def OpenSpec.upto (s : _root_.Go.ChangeSpec) : _root_.Go.OpenSpec := { _root_.Go.OpenSpec.ofChange s with cond := some uptoSmall }

/-- 'laws.FnExactAddPoints', WHERE WHAT IT READS IS OF BULK AT MOST 1048576: true; the input reads as it did. -/
def fnExactAddPointsUptoRow : OpenClaim := { program := "ytnphdgekoelpjaa", sum := "1c48004f5b268c40379128aa9ef6337758c96c38d6fa62bc899308d65b57e8d5", func := "loop.example/g01004/laws.FnExactAddPoints", spec := "fnExactAddPoints", inPlace := ["math.sqrt"], apart := false, narrowed := true }
def FnExactAddPointsUptoSaid : Prop := fnExactAddPointsUptoRow.holds Try.pinned (OpenSpec.upto fnExactAddPointsSpec)

/-- 'laws.FnExactDoublePoint', WHERE WHAT IT READS IS OF BULK AT MOST 1048576: true; the input reads as it did. -/
def fnExactDoublePointUptoRow : OpenClaim := { program := "ytnphdgekoelpjaa", sum := "1c48004f5b268c40379128aa9ef6337758c96c38d6fa62bc899308d65b57e8d5", func := "loop.example/g01004/laws.FnExactDoublePoint", spec := "fnExactDoublePoint", inPlace := ["math.sqrt"], apart := false, narrowed := true }
def FnExactDoublePointUptoSaid : Prop := fnExactDoublePointUptoRow.holds Try.pinned (OpenSpec.upto fnExactDoublePointSpec)

/-- 'laws.FnExactAreCollinear', WHERE WHAT IT READS IS OF BULK AT MOST 1048576: true; the input reads as it did. -/
def fnExactAreCollinearUptoRow : OpenClaim := { program := "ytnphdgekoelpjaa", sum := "1c48004f5b268c40379128aa9ef6337758c96c38d6fa62bc899308d65b57e8d5", func := "loop.example/g01004/laws.FnExactAreCollinear", spec := "fnExactAreCollinear", inPlace := ["math.sqrt"], apart := false, narrowed := true }
def FnExactAreCollinearUptoSaid : Prop := fnExactAreCollinearUptoRow.holds Try.pinned (OpenSpec.upto fnExactAreCollinearSpec)

/-- 'laws.FnExactOrderOfPoint', WHERE WHAT IT READS IS OF BULK AT MOST 1048576: true; the input reads as it did. -/
def fnExactOrderOfPointUptoRow : OpenClaim := { program := "ytnphdgekoelpjaa", sum := "1c48004f5b268c40379128aa9ef6337758c96c38d6fa62bc899308d65b57e8d5", func := "loop.example/g01004/laws.FnExactOrderOfPoint", spec := "fnExactOrderOfPoint", inPlace := ["math.sqrt"], apart := false, narrowed := true }
def FnExactOrderOfPointUptoSaid : Prop := fnExactOrderOfPointUptoRow.holds Try.pinned (OpenSpec.upto fnExactOrderOfPointSpec)

/-- 'laws.FnExactMultiplePoint', WHERE WHAT IT READS IS OF BULK AT MOST 1048576: true; the input reads as it did. -/
def fnExactMultiplePointUptoRow : OpenClaim := { program := "ytnphdgekoelpjaa", sum := "1c48004f5b268c40379128aa9ef6337758c96c38d6fa62bc899308d65b57e8d5", func := "loop.example/g01004/laws.FnExactMultiplePoint", spec := "fnExactMultiplePoint", inPlace := ["math.sqrt"], apart := false, narrowed := true }
def FnExactMultiplePointUptoSaid : Prop := fnExactMultiplePointUptoRow.holds Try.pinned (OpenSpec.upto fnExactMultiplePointSpec)

/-- 'laws.FnExactMultiplesOf', WHERE WHAT IT READS IS OF BULK AT MOST 1048576: true; the input reads as it did. -/
def fnExactMultiplesOfUptoRow : OpenClaim := { program := "ytnphdgekoelpjaa", sum := "1c48004f5b268c40379128aa9ef6337758c96c38d6fa62bc899308d65b57e8d5", func := "loop.example/g01004/laws.FnExactMultiplesOf", spec := "fnExactMultiplesOf", inPlace := ["math.sqrt"], apart := false, narrowed := true }
def FnExactMultiplesOfUptoSaid : Prop := fnExactMultiplesOfUptoRow.holds Try.pinned (OpenSpec.upto fnExactMultiplesOfSpec)

/-- 'laws.FnExactPointsAtX', WHERE WHAT IT READS IS OF BULK AT MOST 1048576: true; the input reads as it did. -/
def fnExactPointsAtXUptoRow : OpenClaim := { program := "ytnphdgekoelpjaa", sum := "1c48004f5b268c40379128aa9ef6337758c96c38d6fa62bc899308d65b57e8d5", func := "loop.example/g01004/laws.FnExactPointsAtX", spec := "fnExactPointsAtX", inPlace := ["math.sqrt"], apart := false, narrowed := true }
def FnExactPointsAtXUptoSaid : Prop := fnExactPointsAtXUptoRow.holds Try.pinned (OpenSpec.upto fnExactPointsAtXSpec)

/-- 'laws.FnExactSquarefreeDivisors', WHERE WHAT IT READS IS OF BULK AT MOST 1048576: true; the input reads as it did. -/
def fnExactSquarefreeDivisorsUptoRow : OpenClaim := { program := "ytnphdgekoelpjaa", sum := "1c48004f5b268c40379128aa9ef6337758c96c38d6fa62bc899308d65b57e8d5", func := "loop.example/g01004/laws.FnExactSquarefreeDivisors", spec := "fnExactSquarefreeDivisors", recurses := true, apart := false, narrowed := true }
def FnExactSquarefreeDivisorsUptoSaid : Prop := fnExactSquarefreeDivisorsUptoRow.holds Try.pinned (OpenSpec.upto fnExactSquarefreeDivisorsSpec)

/-- 'laws.FnCurvePoints', WHERE WHAT IT READS IS OF BULK AT MOST 1048576: true; the input reads as it did. -/
def fnCurvePointsUptoRow : OpenClaim := { program := "ytnphdgekoelpjaa", sum := "1c48004f5b268c40379128aa9ef6337758c96c38d6fa62bc899308d65b57e8d5", func := "loop.example/g01004/laws.FnCurvePoints", spec := "fnCurvePoints", apart := false, narrowed := true }
def FnCurvePointsUptoSaid : Prop := fnCurvePointsUptoRow.holds Try.pinned (OpenSpec.upto fnCurvePointsSpec)

/-- 'laws.FnWholes', WHERE WHAT IT READS IS OF BULK AT MOST 1048576: true; the input reads as it did. -/
def fnWholesUptoRow : OpenClaim := { program := "ytnphdgekoelpjaa", sum := "1c48004f5b268c40379128aa9ef6337758c96c38d6fa62bc899308d65b57e8d5", func := "loop.example/g01004/laws.FnWholes", spec := "fnWholes", apart := false, narrowed := true }
def FnWholesUptoSaid : Prop := fnWholesUptoRow.holds Try.pinned (OpenSpec.upto fnWholesSpec)

/-- 'laws.FnExactGroupShape', WHERE WHAT IT READS IS OF BULK AT MOST 1048576: true; the input reads as it did. -/
def fnExactGroupShapeUptoRow : OpenClaim := { program := "ytnphdgekoelpjaa", sum := "1c48004f5b268c40379128aa9ef6337758c96c38d6fa62bc899308d65b57e8d5", func := "loop.example/g01004/laws.FnExactGroupShape", spec := "fnExactGroupShape", apart := false, narrowed := true }
def FnExactGroupShapeUptoSaid : Prop := fnExactGroupShapeUptoRow.holds Try.pinned (OpenSpec.upto fnExactGroupShapeSpec)

/-- 'laws.FnGroupLaw', WHERE WHAT IT READS IS OF BULK AT MOST 1048576: true; the input reads as it did. -/
def fnGroupLawUptoRow : OpenClaim := { program := "ytnphdgekoelpjaa", sum := "1c48004f5b268c40379128aa9ef6337758c96c38d6fa62bc899308d65b57e8d5", func := "loop.example/g01004/laws.FnGroupLaw", spec := "fnGroupLaw", inPlace := ["math.sqrt"], apart := false, narrowed := true }
def FnGroupLawUptoSaid : Prop := fnGroupLawUptoRow.holds Try.pinned (OpenSpec.upto fnGroupLawSpec)

end Rows
end Go.Proofs.Ytnphdgekoelpjaa
