/-
  DERIVED. GIVEN WITH THE SEED: THE CARDS: each row of YtpjcfnjagknocaaDoorRows.lean that lists a variable, with what it lists TIED to the program's text (the seventh form; the later family's looks); each row that meets fmt, with fmt's text TOLD by the authors' own Lean function (tested against real Go, not proved from fmt's source: count such statements apart). THE CARD IS WHAT COUNTS. Prove the row's statement (the work); the ties are given (YtpjcfnjagknocaaDoorTie.lean); close each card by the builder's one call (the guide's Derived/Test/ToyasCard.lean, 'card_holds'). Laid BY PROGRAM, IN A SANDBOX (cutbox-door.mjs). By AI agents, Wed Nov 11 2026. No macro, syntax, notation, axiom, sorry.
-/
import Derived.Test.YtpjcfnjagknocaaDoorRows
import GoSem.ClaimSeven
namespace Go.Proofs.YtpjcfnjagknocaaDoor
namespace Rows

/-- THE TIED CARD OF 'laws.FnBadPrimes'. -/
def fnBadPrimesCard : Claim7 := { stood := { row := fnBadPrimesRow, standIns := [], harness := (true, "30701a650246b181e31bee8defb6523b1bddcee8b8dcee9f5ee3a732ac807e62"), looks := false }, kinds := [], alts := [], laidByText := true, laidKinds := [.data, .data, .data], laidTests := true, laidLooks := .later }
def FnBadPrimesCardSaid : Prop := Claim7.holds Tryd.pinned (.plain (OpenSpec.ofChange fnBadPrimesSpec)) fnBadPrimesCard

/-- THE SECOND FORM's CARD OF 'laws.FnBadPrimes'. -/
def fnBadPrimesUptoCard : Claim7 := { stood := { row := fnBadPrimesUptoRow, standIns := [], harness := (true, "30701a650246b181e31bee8defb6523b1bddcee8b8dcee9f5ee3a732ac807e62"), looks := false }, kinds := [], alts := [], laidByText := true, laidKinds := [.data, .data, .data], laidTests := true, laidLooks := .later }
def FnBadPrimesUptoCardSaid : Prop := Claim7.holds Tryd.pinned (.plain (OpenSpec.upto fnBadPrimesSpec)) fnBadPrimesUptoCard
end Rows
end Go.Proofs.YtpjcfnjagknocaaDoor
