/-
  DERIVED. GIVEN WITH THE SEED: THE CARDS: each row of YtpigaahgmbladaaDoorRows.lean that lists a variable, with what it lists TIED to the program's text (the seventh form; the later family's looks); each row that meets fmt, with fmt's text TOLD by the authors' own Lean function (tested against real Go, not proved from fmt's source: count such statements apart). THE CARD IS WHAT COUNTS. Prove the row's statement (the work); the ties are given (YtpigaahgmbladaaDoorTie.lean); close each card by the builder's one call (the guide's Derived/Test/ToyasCard.lean, 'card_holds'). Laid BY PROGRAM, IN A SANDBOX (cutbox-door.mjs). By AI agents, Wed Nov 11 2026. No macro, syntax, notation, axiom, sorry.
-/
import Derived.Test.YtpigaahgmbladaaDoorRows
import GoSem.ClaimSeven
namespace Go.Proofs.YtpigaahgmbladaaDoor
namespace Rows

/-- THE TIED CARD OF 'laws.FnReduction'. -/
def fnReductionCard : Claim7 := { stood := { row := fnReductionRow, standIns := [], harness := (true, "02d30a1b1130feb5f2a76fc824e54d0a808e4ef5831fda115eacddac03a71ee4"), looks := false }, kinds := [], alts := [], laidByText := true, laidKinds := [.data, .data, .data], laidTests := true, laidLooks := .later }
def FnReductionCardSaid : Prop := Claim7.holds Tryd.pinned (.plain (OpenSpec.ofChange fnReductionSpec)) fnReductionCard

/-- THE TIED CARD OF 'laws.FnBadPrimes'. -/
def fnBadPrimesCard : Claim7 := { stood := { row := fnBadPrimesRow, standIns := [], harness := (true, "02d30a1b1130feb5f2a76fc824e54d0a808e4ef5831fda115eacddac03a71ee4"), looks := false }, kinds := [], alts := [], laidByText := true, laidKinds := [.data, .data, .data], laidTests := true, laidLooks := .later }
def FnBadPrimesCardSaid : Prop := Claim7.holds Tryd.pinned (.plain (OpenSpec.ofChange fnBadPrimesSpec)) fnBadPrimesCard

/-- THE SECOND FORM's CARD OF 'laws.FnReduction'. -/
def fnReductionUptoCard : Claim7 := { stood := { row := fnReductionUptoRow, standIns := [], harness := (true, "02d30a1b1130feb5f2a76fc824e54d0a808e4ef5831fda115eacddac03a71ee4"), looks := false }, kinds := [], alts := [], laidByText := true, laidKinds := [.data, .data, .data], laidTests := true, laidLooks := .later }
def FnReductionUptoCardSaid : Prop := Claim7.holds Tryd.pinned (.plain (OpenSpec.upto fnReductionSpec)) fnReductionUptoCard

/-- THE SECOND FORM's CARD OF 'laws.FnBadPrimes'. -/
def fnBadPrimesUptoCard : Claim7 := { stood := { row := fnBadPrimesUptoRow, standIns := [], harness := (true, "02d30a1b1130feb5f2a76fc824e54d0a808e4ef5831fda115eacddac03a71ee4"), looks := false }, kinds := [], alts := [], laidByText := true, laidKinds := [.data, .data, .data], laidTests := true, laidLooks := .later }
def FnBadPrimesUptoCardSaid : Prop := Claim7.holds Tryd.pinned (.plain (OpenSpec.upto fnBadPrimesSpec)) fnBadPrimesUptoCard
end Rows
end Go.Proofs.YtpigaahgmbladaaDoor
