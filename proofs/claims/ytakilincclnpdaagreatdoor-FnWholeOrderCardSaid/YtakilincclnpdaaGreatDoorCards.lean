/-
  DERIVED. GIVEN WITH THE SEED: THE CARDS: each row of YtakilincclnpdaaGreatDoorRows.lean that lists a variable, with what it lists TIED to the program's text (the seventh form; the later family's looks); each row that meets fmt, with fmt's text TOLD by the authors' own Lean function (tested against real Go, not proved from fmt's source: count such statements apart). THE CARD IS WHAT COUNTS. Prove the row's statement (the work); the ties are given (YtakilincclnpdaaGreatDoorTie.lean); close each card by the builder's one call (the guide's Derived/Test/ToyasCard.lean, 'card_holds'). Laid BY PROGRAM, IN A SANDBOX (cutbox-door.mjs). By AI agents, Wed Nov 11 2026. No macro, syntax, notation, axiom, sorry.
-/
import Derived.Test.YtakilincclnpdaaGreatDoorRows
import GoSem.ClaimSeven
namespace Go.Proofs.YtakilincclnpdaaGreatDoor
namespace Rows

/-- THE TIED CARD OF 'laws.FnWholeOrder'. -/
def fnWholeOrderCard : Claim7 := { stood := { row := fnWholeOrderRow, standIns := [], harness := (true, "6c2f785700442c2efc69f1ccdcac37f8e3901e3a5a8fc6360c589cc34d071f06"), looks := true }, kinds := [], alts := [], laidByText := true, laidKinds := [.data, .data, .data], laidTests := true, laidLooks := .later }
def FnWholeOrderCardSaid : Prop := Claim7.holds Tryz.pinned (.plain (OpenSpec.ofChange fnWholeOrderSpec)) fnWholeOrderCard

/-- THE TIED CARD OF 'laws.FnPointTexts'. -/
def fnPointTextsCard : Claim7 := { stood := { row := fnPointTextsRow, standIns := [], harness := (true, "6c2f785700442c2efc69f1ccdcac37f8e3901e3a5a8fc6360c589cc34d071f06"), looks := true }, kinds := [], alts := [], laidByText := true, laidKinds := [.data, .data, .data, .sentinel, .sentinel], laidTests := true, laidLooks := .later }
def FnPointTextsCardSaid : Prop := Claim7.holds Tryz.pinned (.plain (OpenSpec.ofChange fnPointTextsSpec)) fnPointTextsCard

/-- THE SECOND FORM's CARD OF 'laws.FnWholeOrder'. -/
def fnWholeOrderUptoCard : Claim7 := { stood := { row := fnWholeOrderUptoRow, standIns := [], harness := (true, "6c2f785700442c2efc69f1ccdcac37f8e3901e3a5a8fc6360c589cc34d071f06"), looks := true }, kinds := [], alts := [], laidByText := true, laidKinds := [.data, .data, .data], laidTests := true, laidLooks := .later }
def FnWholeOrderUptoCardSaid : Prop := Claim7.holds Tryz.pinned (.plain (OpenSpec.upto fnWholeOrderSpec)) fnWholeOrderUptoCard

/-- THE SECOND FORM's CARD OF 'laws.FnPointTexts'. -/
def fnPointTextsUptoCard : Claim7 := { stood := { row := fnPointTextsUptoRow, standIns := [], harness := (true, "6c2f785700442c2efc69f1ccdcac37f8e3901e3a5a8fc6360c589cc34d071f06"), looks := true }, kinds := [], alts := [], laidByText := true, laidKinds := [.data, .data, .data, .sentinel, .sentinel], laidTests := true, laidLooks := .later }
def FnPointTextsUptoCardSaid : Prop := Claim7.holds Tryz.pinned (.plain (OpenSpec.upto fnPointTextsSpec)) fnPointTextsUptoCard
end Rows
end Go.Proofs.YtakilincclnpdaaGreatDoor
