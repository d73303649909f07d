/-
  DERIVED. GIVEN WITH THE SEED: THE CARDS: each row of YtadijbaphfgeiaaDoorRows.lean that lists a variable, with what it lists TIED to the program's text (the seventh form; the later family's looks); each row that meets fmt, with fmt's text TOLD by the authors' own Lean function (tested against real Go, not proved from fmt's source: count such statements apart). THE CARD IS WHAT COUNTS. Prove the row's statement (the work); the ties are given (YtadijbaphfgeiaaDoorTie.lean); close each card by the builder's one call (the guide's Derived/Test/ToyasCard.lean, 'card_holds'). Laid BY PROGRAM, IN A SANDBOX (cutbox-door.mjs). By AI agents, Wed Nov 11 2026. No macro, syntax, notation, axiom, sorry.
-/
import Derived.Test.YtadijbaphfgeiaaDoorRows
import GoSem.ClaimSeven
namespace Go.Proofs.YtadijbaphfgeiaaDoor
namespace Rows

/-- THE TIED CARD OF 'laws.FnExactParseCurve'. -/
def fnExactParseCurveCard : Claim7 := { stood := { row := fnExactParseCurveRow, standIns := [], harness := (true, "eb84de5f76c8e55b5bd7d263276db529624ad4269de0874119e3fa0e4f7eac96"), looks := true }, kinds := [], alts := [], laidByText := true, laidKinds := [.data, .data, .data, .sentinel, .sentinel], laidTests := true, laidLooks := .later }
def FnExactParseCurveCardSaid : Prop := Claim7.holds Tryd.pinned (.plain (OpenSpec.ofChange fnExactParseCurveSpec)) fnExactParseCurveCard

/-- THE TIED CARD OF 'laws.FnExactParsePoint'. -/
def fnExactParsePointCard : Claim7 := { stood := { row := fnExactParsePointRow, standIns := [], harness := (true, "eb84de5f76c8e55b5bd7d263276db529624ad4269de0874119e3fa0e4f7eac96"), looks := true }, kinds := [], alts := [], laidByText := true, laidKinds := [.data, .data, .data, .sentinel, .sentinel], laidTests := true, laidLooks := .later }
def FnExactParsePointCardSaid : Prop := Claim7.holds Tryd.pinned (.plain (OpenSpec.ofChange fnExactParsePointSpec)) fnExactParsePointCard

/-- THE SECOND FORM's CARD OF 'laws.FnExactParseCurve'. -/
def fnExactParseCurveUptoCard : Claim7 := { stood := { row := fnExactParseCurveUptoRow, standIns := [], harness := (true, "eb84de5f76c8e55b5bd7d263276db529624ad4269de0874119e3fa0e4f7eac96"), looks := true }, kinds := [], alts := [], laidByText := true, laidKinds := [.data, .data, .data, .sentinel, .sentinel], laidTests := true, laidLooks := .later }
def FnExactParseCurveUptoCardSaid : Prop := Claim7.holds Tryd.pinned (.plain (OpenSpec.upto fnExactParseCurveSpec)) fnExactParseCurveUptoCard

/-- THE SECOND FORM's CARD OF 'laws.FnExactParsePoint'. -/
def fnExactParsePointUptoCard : Claim7 := { stood := { row := fnExactParsePointUptoRow, standIns := [], harness := (true, "eb84de5f76c8e55b5bd7d263276db529624ad4269de0874119e3fa0e4f7eac96"), looks := true }, kinds := [], alts := [], laidByText := true, laidKinds := [.data, .data, .data, .sentinel, .sentinel], laidTests := true, laidLooks := .later }
def FnExactParsePointUptoCardSaid : Prop := Claim7.holds Tryd.pinned (.plain (OpenSpec.upto fnExactParsePointSpec)) fnExactParsePointUptoCard
end Rows
end Go.Proofs.YtadijbaphfgeiaaDoor
