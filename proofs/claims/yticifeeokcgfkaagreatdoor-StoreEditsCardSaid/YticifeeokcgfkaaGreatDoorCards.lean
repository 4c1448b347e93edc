/-
  DERIVED. GIVEN WITH THE SEED: THE CARDS: each row of YticifeeokcgfkaaGreatDoorRows.lean that lists a variable, with what it lists TIED to the program's text (the seventh form; the later family's looks); each row that meets fmt, with fmt's text TOLD by the authors' own Lean function (tested against real Go, not proved from fmt's source: count such statements apart). THE CARD IS WHAT COUNTS. Prove the row's statement (the work); the ties are given (YticifeeokcgfkaaGreatDoorTie.lean); close each card by the builder's one call (the guide's Derived/Test/ToyasCard.lean, 'card_holds'). Laid BY PROGRAM, IN A SANDBOX (cutbox-door.mjs). By AI agents, Wed Nov 11 2026. No macro, syntax, notation, axiom, sorry.
-/
import Derived.Test.YticifeeokcgfkaaGreatDoorRows
import GoSem.ClaimSeven
namespace Go.Proofs.YticifeeokcgfkaaGreatDoor
namespace Rows

/-- THE TIED CARD OF 'sondagelaw36.StoreEdits'. -/
def storeEditsCard : Claim7 := { stood := { row := storeEditsRow, standIns := [], harness := (true, "5727faae769ba2d16b559c5fc7bc527cd99d173dd50590e3e37185f6a6b8b1ee"), looks := true }, kinds := [], alts := [], laidByText := true, laidKinds := [.data, .data, .data], laidTests := true, laidLooks := .later }
def StoreEditsCardSaid : Prop := Claim7.holds Tryz.pinned (.plain (OpenSpec.ofChange storeEditsSpec)) storeEditsCard

/-- THE SECOND FORM's CARD OF 'sondagelaw36.StoreEdits'. -/
def storeEditsUptoCard : Claim7 := { stood := { row := storeEditsUptoRow, standIns := [], harness := (true, "5727faae769ba2d16b559c5fc7bc527cd99d173dd50590e3e37185f6a6b8b1ee"), looks := true }, kinds := [], alts := [], laidByText := true, laidKinds := [.data, .data, .data], laidTests := true, laidLooks := .later }
def StoreEditsUptoCardSaid : Prop := Claim7.holds Tryz.pinned (.plain (OpenSpec.upto storeEditsSpec)) storeEditsUptoCard
end Rows
end Go.Proofs.YticifeeokcgfkaaGreatDoor
