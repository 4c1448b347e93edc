/-
  DERIVED. GIVEN WITH THE SEED: THE CARDS: each row of YtipfljkjjddapaaGreatDoorRows.lean that lists a variable, with what it lists TIED to the program's text (the seventh form; the later family's looks); each row that meets fmt, with fmt's text TOLD by the authors' own Lean function (tested against real Go, not proved from fmt's source: count such statements apart). THE CARD IS WHAT COUNTS. Prove the row's statement (the work); the ties are given (YtipfljkjjddapaaGreatDoorTie.lean); close each card by the builder's one call (the guide's Derived/Test/ToyasCard.lean, 'card_holds'). Laid BY PROGRAM, IN A SANDBOX (cutbox-door.mjs). By AI agents, Wed Nov 11 2026. No macro, syntax, notation, axiom, sorry.
-/
import Derived.Test.YtipfljkjjddapaaGreatDoorRows
import GoSem.ClaimSeven
namespace Go.Proofs.YtipfljkjjddapaaGreatDoor
namespace Rows

/-- THE TIED CARD OF 'sondagelaw36.StoreEdits'. -/
def storeEditsCard : Claim7 := { stood := { row := storeEditsRow, standIns := [], harness := (true, "3829c5667f4f1a449105a7f71f43c87507b9a8b1a8700e7c848ad40b219868b4"), looks := true }, kinds := [], alts := [], laidByText := true, laidKinds := [.data, .data, .data], laidTests := true, laidLooks := .later }
def StoreEditsCardSaid : Prop := Claim7.holds Tryz.pinned (.plain (OpenSpec.ofChange storeEditsSpec)) storeEditsCard

/-- THE TIED CARD OF 'sondagelaw36.StorePrints'. -/
def storePrintsCard : Claim7 := { stood := { row := storePrintsRow, standIns := [], harness := (true, "3829c5667f4f1a449105a7f71f43c87507b9a8b1a8700e7c848ad40b219868b4"), looks := true }, kinds := [], alts := [], laidByText := true, laidKinds := [.data, .data, .data], laidTests := true, laidLooks := .later }
def StorePrintsCardSaid : Prop := Claim7.holds Tryz.pinned (.plain (OpenSpec.ofChange storePrintsSpec)) storePrintsCard

/-- THE TIED CARD OF 'sondagelaw36.StoreOf'. -/
def storeOfCard : Claim7 := { stood := { row := storeOfRow, standIns := [], harness := (true, "3829c5667f4f1a449105a7f71f43c87507b9a8b1a8700e7c848ad40b219868b4"), looks := true }, kinds := [], alts := [], laidByText := true, laidKinds := [.data, .data, .data], laidTests := true, laidLooks := .later }
def StoreOfCardSaid : Prop := Claim7.holds Tryz.pinned (.plain (OpenSpec.ofChange storeOfSpec)) storeOfCard

/-- THE SECOND FORM's CARD OF 'sondagelaw36.StoreEdits'. -/
def storeEditsUptoCard : Claim7 := { stood := { row := storeEditsUptoRow, standIns := [], harness := (true, "3829c5667f4f1a449105a7f71f43c87507b9a8b1a8700e7c848ad40b219868b4"), looks := true }, kinds := [], alts := [], laidByText := true, laidKinds := [.data, .data, .data], laidTests := true, laidLooks := .later }
def StoreEditsUptoCardSaid : Prop := Claim7.holds Tryz.pinned (.plain (OpenSpec.upto storeEditsSpec)) storeEditsUptoCard

/-- THE SECOND FORM's CARD OF 'sondagelaw36.StorePrints'. -/
def storePrintsUptoCard : Claim7 := { stood := { row := storePrintsUptoRow, standIns := [], harness := (true, "3829c5667f4f1a449105a7f71f43c87507b9a8b1a8700e7c848ad40b219868b4"), looks := true }, kinds := [], alts := [], laidByText := true, laidKinds := [.data, .data, .data], laidTests := true, laidLooks := .later }
def StorePrintsUptoCardSaid : Prop := Claim7.holds Tryz.pinned (.plain (OpenSpec.upto storePrintsSpec)) storePrintsUptoCard

/-- THE SECOND FORM's CARD OF 'sondagelaw36.StoreOf'. -/
def storeOfUptoCard : Claim7 := { stood := { row := storeOfUptoRow, standIns := [], harness := (true, "3829c5667f4f1a449105a7f71f43c87507b9a8b1a8700e7c848ad40b219868b4"), looks := true }, kinds := [], alts := [], laidByText := true, laidKinds := [.data, .data, .data], laidTests := true, laidLooks := .later }
def StoreOfUptoCardSaid : Prop := Claim7.holds Tryz.pinned (.plain (OpenSpec.upto storeOfSpec)) storeOfUptoCard
end Rows
end Go.Proofs.YtipfljkjjddapaaGreatDoor
