/-
  DERIVED. GIVEN WITH THE SEED: THE CARDS: each row of YtcplmdnaboplnaaDoorRows.lean that lists a variable, with what it lists TIED to the program's text (the seventh form; the later family's looks); each row that meets fmt, with fmt's text TOLD by the authors' own Lean function (tested against real Go, not proved from fmt's source: count such statements apart). THE CARD IS WHAT COUNTS. Prove the row's statement (the work); the ties are given (YtcplmdnaboplnaaDoorTie.lean); close each card by the builder's one call (the guide's Derived/Test/ToyasCard.lean, 'card_holds'). Laid BY PROGRAM, IN A SANDBOX (cutbox-door.mjs). By AI agents, Wed Nov 11 2026. No macro, syntax, notation, axiom, sorry.
-/
import Derived.Test.YtcplmdnaboplnaaDoorRows
import GoSem.ClaimSeven
namespace Go.Proofs.YtcplmdnaboplnaaDoor
namespace Rows

/-- THE TIED CARD OF 'laws.FnExactParsePoint'. -/
def fnExactParsePointCard : Claim7 := { stood := { row := fnExactParsePointRow, standIns := [], harness := (true, "d2b5eea9a1fb74640e1e2819d04a3c2f4d47b33a175b0b8e872a3cb9a008b50d"), looks := true }, kinds := [], alts := [], laidByText := true, laidKinds := [.data, .data, .data, .sentinel, .sentinel], laidTests := true, laidLooks := .later }
def FnExactParsePointCardSaid : Prop := Claim7.holds Tryd.pinned (.plain (OpenSpec.ofChange fnExactParsePointSpec)) fnExactParsePointCard

/-- THE TIED CARD OF 'laws.FnReduction'. -/
def fnReductionCard : Claim7 := { stood := { row := fnReductionRow, standIns := [], harness := (true, "d2b5eea9a1fb74640e1e2819d04a3c2f4d47b33a175b0b8e872a3cb9a008b50d"), looks := true }, kinds := [], alts := [], laidByText := true, laidKinds := [.data, .data, .data], laidTests := true, laidLooks := .later }
def FnReductionCardSaid : Prop := Claim7.holds Tryd.pinned (.plain (OpenSpec.ofChange fnReductionSpec)) fnReductionCard

/-- THE TIED CARD OF 'laws.FnBadPrimes'. -/
def fnBadPrimesCard : Claim7 := { stood := { row := fnBadPrimesRow, standIns := [], harness := (true, "d2b5eea9a1fb74640e1e2819d04a3c2f4d47b33a175b0b8e872a3cb9a008b50d"), looks := true }, kinds := [], alts := [], laidByText := true, laidKinds := [.data, .data, .data], laidTests := true, laidLooks := .later }
def FnBadPrimesCardSaid : Prop := Claim7.holds Tryd.pinned (.plain (OpenSpec.ofChange fnBadPrimesSpec)) fnBadPrimesCard

/-- THE SECOND FORM's CARD OF 'laws.FnExactParsePoint'. -/
def fnExactParsePointUptoCard : Claim7 := { stood := { row := fnExactParsePointUptoRow, standIns := [], harness := (true, "d2b5eea9a1fb74640e1e2819d04a3c2f4d47b33a175b0b8e872a3cb9a008b50d"), looks := true }, kinds := [], alts := [], laidByText := true, laidKinds := [.data, .data, .data, .sentinel, .sentinel], laidTests := true, laidLooks := .later }
def FnExactParsePointUptoCardSaid : Prop := Claim7.holds Tryd.pinned (.plain (OpenSpec.upto fnExactParsePointSpec)) fnExactParsePointUptoCard

/-- THE SECOND FORM's CARD OF 'laws.FnReduction'. -/
def fnReductionUptoCard : Claim7 := { stood := { row := fnReductionUptoRow, standIns := [], harness := (true, "d2b5eea9a1fb74640e1e2819d04a3c2f4d47b33a175b0b8e872a3cb9a008b50d"), looks := true }, kinds := [], alts := [], laidByText := true, laidKinds := [.data, .data, .data], laidTests := true, laidLooks := .later }
def FnReductionUptoCardSaid : Prop := Claim7.holds Tryd.pinned (.plain (OpenSpec.upto fnReductionSpec)) fnReductionUptoCard

/-- THE SECOND FORM's CARD OF 'laws.FnBadPrimes'. -/
def fnBadPrimesUptoCard : Claim7 := { stood := { row := fnBadPrimesUptoRow, standIns := [], harness := (true, "d2b5eea9a1fb74640e1e2819d04a3c2f4d47b33a175b0b8e872a3cb9a008b50d"), looks := true }, kinds := [], alts := [], laidByText := true, laidKinds := [.data, .data, .data], laidTests := true, laidLooks := .later }
def FnBadPrimesUptoCardSaid : Prop := Claim7.holds Tryd.pinned (.plain (OpenSpec.upto fnBadPrimesSpec)) fnBadPrimesUptoCard
end Rows
end Go.Proofs.YtcplmdnaboplnaaDoor
