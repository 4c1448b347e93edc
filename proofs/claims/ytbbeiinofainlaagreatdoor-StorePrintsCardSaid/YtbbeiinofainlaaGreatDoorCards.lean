/-
  DERIVED. GIVEN WITH THE SEED: THE CARDS: each row of YtbbeiinofainlaaGreatDoorRows.lean that lists a variable, with what it lists TIED to the program's text (the seventh form; the later family's looks); each row that meets fmt, with fmt's text TOLD by the authors' own Lean function (tested against real Go, not proved from fmt's source: count such statements apart). THE CARD IS WHAT COUNTS. Prove the row's statement (the work); the ties are given (YtbbeiinofainlaaGreatDoorTie.lean); close each card by the builder's one call (the guide's Derived/Test/ToyasCard.lean, 'card_holds'). Laid BY PROGRAM, IN A SANDBOX (cutbox-door.mjs). By AI agents, Wed Nov 11 2026. No macro, syntax, notation, axiom, sorry.
-/
import Derived.Test.YtbbeiinofainlaaGreatDoorRows
import GoSem.ClaimSeven
namespace Go.Proofs.YtbbeiinofainlaaGreatDoor
namespace Rows

/-- THE TIED CARD OF 'sondagelaw36.StorePrints'. -/
def storePrintsCard : Claim7 := { stood := { row := storePrintsRow, standIns := [], harness := (true, "37e02393b3c756f8573adf4e4447cf663699db13d77b6e87ef424b9029f49a03"), looks := true }, kinds := [], alts := [], laidByText := true, laidKinds := [.data, .data, .data], laidTests := true, laidLooks := .later }
def StorePrintsCardSaid : Prop := Claim7.holds Tryz.pinned (.plain (OpenSpec.ofChange storePrintsSpec)) storePrintsCard

/-- THE SECOND FORM's CARD OF 'sondagelaw36.StorePrints'. -/
def storePrintsUptoCard : Claim7 := { stood := { row := storePrintsUptoRow, standIns := [], harness := (true, "37e02393b3c756f8573adf4e4447cf663699db13d77b6e87ef424b9029f49a03"), looks := true }, kinds := [], alts := [], laidByText := true, laidKinds := [.data, .data, .data], laidTests := true, laidLooks := .later }
def StorePrintsUptoCardSaid : Prop := Claim7.holds Tryz.pinned (.plain (OpenSpec.upto storePrintsSpec)) storePrintsUptoCard
end Rows
end Go.Proofs.YtbbeiinofainlaaGreatDoor
