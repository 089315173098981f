/-
  DERIVED. GIVEN WITH THE SEED: THE CARDS: each row of YtackcicjgkfefaaGreatDoorRows.lean that lists a variable, with what it lists TIED to the program's text (the seventh form; the later family's looks); each row that meets fmt, with fmt's text TOLD by the authors' own Lean function (tested against real Go, not proved from fmt's source: count such statements apart). THE CARD IS WHAT COUNTS. Prove the row's statement (the work); the ties are given (YtackcicjgkfefaaGreatDoorTie.lean); close each card by the builder's one call (the guide's Derived/Test/ToyasCard.lean, 'card_holds'). Laid BY PROGRAM, IN A SANDBOX (cutbox-door.mjs). By AI agents, Wed Nov 11 2026. No macro, syntax, notation, axiom, sorry.
-/
import Derived.Test.YtackcicjgkfefaaGreatDoorRows
import GoSem.ClaimSeven
namespace Go.Proofs.YtackcicjgkfefaaGreatDoor
namespace Rows

/-- THE TIED CARD OF 'diceboxlaw04.ModelRenames'. -/
def modelRenamesCard : Claim7 := { stood := { row := modelRenamesRow, standIns := [], harness := (true, "703349c9042e6e03d39e2b8ef788b790d20d022db93ba9d0f61941ac129390b2"), looks := false }, kinds := [], alts := [], laidByText := true, laidKinds := [.data, .data, .data], laidTests := true, laidLooks := .later }
def ModelRenamesCardSaid : Prop := Claim7.holds Tryz.pinned (.plain (OpenSpec.ofChange modelRenamesSpec)) modelRenamesCard

/-- THE SECOND FORM's CARD OF 'diceboxlaw04.ModelRenames'. -/
def modelRenamesUptoCard : Claim7 := { stood := { row := modelRenamesUptoRow, standIns := [], harness := (true, "703349c9042e6e03d39e2b8ef788b790d20d022db93ba9d0f61941ac129390b2"), looks := false }, kinds := [], alts := [], laidByText := true, laidKinds := [.data, .data, .data], laidTests := true, laidLooks := .later }
def ModelRenamesUptoCardSaid : Prop := Claim7.holds Tryz.pinned (.plain (OpenSpec.upto modelRenamesSpec)) modelRenamesUptoCard
end Rows
end Go.Proofs.YtackcicjgkfefaaGreatDoor
