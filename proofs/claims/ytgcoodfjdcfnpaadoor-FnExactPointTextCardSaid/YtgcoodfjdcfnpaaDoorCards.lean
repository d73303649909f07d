/-
  DERIVED. GIVEN WITH THE SEED: THE CARDS: each row of YtgcoodfjdcfnpaaDoorRows.lean that lists a variable, with what it lists TIED to the program's text (the seventh form; the later family's looks); each row that meets fmt, with fmt's text TOLD by the authors' own Lean function (tested against real Go, not proved from fmt's source: count such statements apart). THE CARD IS WHAT COUNTS. Prove the row's statement (the work); the ties are given (YtgcoodfjdcfnpaaDoorTie.lean); close each card by the builder's one call (the guide's Derived/Test/ToyasCard.lean, 'card_holds'). Laid BY PROGRAM, IN A SANDBOX (cutbox-door.mjs). By AI agents, Wed Nov 11 2026. No macro, syntax, notation, axiom, sorry.
-/
import Derived.Test.YtgcoodfjdcfnpaaDoorRows
import GoSem.ClaimSeven
namespace Go.Proofs.YtgcoodfjdcfnpaaDoor
namespace Rows

/-- THE TIED CARD OF 'laws.FnExactPointText'. -/
def fnExactPointTextCard : Claim7 := { stood := { row := fnExactPointTextRow, standIns := [], harness := (true, "89c240ba6a4c3f4f50a3ccb84e8e54b790384f1e6db9130c5740bda0573b431d"), looks := false }, kinds := [], alts := [], laidByText := true, laidKinds := [.data, .data, .data], laidTests := true, laidLooks := .later }
def FnExactPointTextCardSaid : Prop := Claim7.holds Tryd.pinned (.plain (OpenSpec.ofChange fnExactPointTextSpec)) fnExactPointTextCard

/-- THE SECOND FORM's CARD OF 'laws.FnExactPointText'. -/
def fnExactPointTextUptoCard : Claim7 := { stood := { row := fnExactPointTextUptoRow, standIns := [], harness := (true, "89c240ba6a4c3f4f50a3ccb84e8e54b790384f1e6db9130c5740bda0573b431d"), looks := false }, kinds := [], alts := [], laidByText := true, laidKinds := [.data, .data, .data], laidTests := true, laidLooks := .later }
def FnExactPointTextUptoCardSaid : Prop := Claim7.holds Tryd.pinned (.plain (OpenSpec.upto fnExactPointTextSpec)) fnExactPointTextUptoCard
end Rows
end Go.Proofs.YtgcoodfjdcfnpaaDoor
