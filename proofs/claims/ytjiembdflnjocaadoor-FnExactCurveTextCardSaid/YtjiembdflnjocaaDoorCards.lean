/-
  DERIVED. GIVEN WITH THE SEED: THE CARDS: each row of YtjiembdflnjocaaDoorRows.lean that lists a variable, with what it lists TIED to the program's text (the seventh form; the later family's looks); each row that meets fmt, with fmt's text TOLD by the authors' own Lean function (tested against real Go, not proved from fmt's source: count such statements apart). THE CARD IS WHAT COUNTS. Prove the row's statement (the work); the ties are given (YtjiembdflnjocaaDoorTie.lean); close each card by the builder's one call (the guide's Derived/Test/ToyasCard.lean, 'card_holds'). Laid BY PROGRAM, IN A SANDBOX (cutbox-door.mjs). By AI agents, Wed Nov 11 2026. No macro, syntax, notation, axiom, sorry.
-/
import Derived.Test.YtjiembdflnjocaaDoorRows
import GoSem.ClaimSeven
namespace Go.Proofs.YtjiembdflnjocaaDoor
namespace Rows

/-- THE TIED CARD OF 'laws.FnExactCurveText'. -/
def fnExactCurveTextCard : Claim7 := { stood := { row := fnExactCurveTextRow, standIns := [], harness := (true, "6f76a053cd6c22a308d026a5c6ab9b0478defb7d973ce4bef65b3eb160a8a7f9"), looks := false }, kinds := [], alts := [], laidByText := true, laidKinds := [.data, .data, .data], laidTests := true, laidLooks := .later }
def FnExactCurveTextCardSaid : Prop := Claim7.holds Tryd.pinned (.plain (OpenSpec.ofChange fnExactCurveTextSpec)) fnExactCurveTextCard

/-- THE TIED CARD OF 'laws.FnExactReductionSymbol'. -/
def fnExactReductionSymbolCard : Claim7 := { stood := { row := fnExactReductionSymbolRow, standIns := [], harness := (true, "6f76a053cd6c22a308d026a5c6ab9b0478defb7d973ce4bef65b3eb160a8a7f9"), looks := false }, kinds := [], alts := [], laidByText := true, laidKinds := [.data, .data, .data], laidTests := true, laidLooks := .later }
def FnExactReductionSymbolCardSaid : Prop := Claim7.holds Tryd.pinned (.plain (OpenSpec.ofChange fnExactReductionSymbolSpec)) fnExactReductionSymbolCard

/-- THE TIED CARD OF 'laws.FnExactReductionText'. -/
def fnExactReductionTextCard : Claim7 := { stood := { row := fnExactReductionTextRow, standIns := [], harness := (true, "6f76a053cd6c22a308d026a5c6ab9b0478defb7d973ce4bef65b3eb160a8a7f9"), looks := false }, kinds := [], alts := [], laidByText := true, laidKinds := [.data, .data, .data], laidTests := true, laidLooks := .later }
def FnExactReductionTextCardSaid : Prop := Claim7.holds Tryd.pinned (.plain (OpenSpec.ofChange fnExactReductionTextSpec)) fnExactReductionTextCard

/-- THE SECOND FORM's CARD OF 'laws.FnExactCurveText'. -/
def fnExactCurveTextUptoCard : Claim7 := { stood := { row := fnExactCurveTextUptoRow, standIns := [], harness := (true, "6f76a053cd6c22a308d026a5c6ab9b0478defb7d973ce4bef65b3eb160a8a7f9"), looks := false }, kinds := [], alts := [], laidByText := true, laidKinds := [.data, .data, .data], laidTests := true, laidLooks := .later }
def FnExactCurveTextUptoCardSaid : Prop := Claim7.holds Tryd.pinned (.plain (OpenSpec.upto fnExactCurveTextSpec)) fnExactCurveTextUptoCard

/-- THE SECOND FORM's CARD OF 'laws.FnExactReductionSymbol'. -/
def fnExactReductionSymbolUptoCard : Claim7 := { stood := { row := fnExactReductionSymbolUptoRow, standIns := [], harness := (true, "6f76a053cd6c22a308d026a5c6ab9b0478defb7d973ce4bef65b3eb160a8a7f9"), looks := false }, kinds := [], alts := [], laidByText := true, laidKinds := [.data, .data, .data], laidTests := true, laidLooks := .later }
def FnExactReductionSymbolUptoCardSaid : Prop := Claim7.holds Tryd.pinned (.plain (OpenSpec.upto fnExactReductionSymbolSpec)) fnExactReductionSymbolUptoCard

/-- THE SECOND FORM's CARD OF 'laws.FnExactReductionText'. -/
def fnExactReductionTextUptoCard : Claim7 := { stood := { row := fnExactReductionTextUptoRow, standIns := [], harness := (true, "6f76a053cd6c22a308d026a5c6ab9b0478defb7d973ce4bef65b3eb160a8a7f9"), looks := false }, kinds := [], alts := [], laidByText := true, laidKinds := [.data, .data, .data], laidTests := true, laidLooks := .later }
def FnExactReductionTextUptoCardSaid : Prop := Claim7.holds Tryd.pinned (.plain (OpenSpec.upto fnExactReductionTextSpec)) fnExactReductionTextUptoCard
end Rows
end Go.Proofs.YtjiembdflnjocaaDoor
