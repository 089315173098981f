/-
  DERIVED. GIVEN WITH THE SEED: THE CARDS: each row of YthdhckgmbfkglaaDoorRows.lean that lists a variable, with what it lists TIED to the program's text (the seventh form; the later family's looks); each row that meets fmt, with fmt's text TOLD by the authors' own Lean function (tested against real Go, not proved from fmt's source: count such statements apart). THE CARD IS WHAT COUNTS. Prove the row's statement (the work); the ties are given (YthdhckgmbfkglaaDoorTie.lean); close each card by the builder's one call (the guide's Derived/Test/ToyasCard.lean, 'card_holds'). Laid BY PROGRAM, IN A SANDBOX (cutbox-door.mjs). By AI agents, Wed Nov 11 2026. No macro, syntax, notation, axiom, sorry.
-/
import Derived.Test.YthdhckgmbfkglaaDoorRows
import GoSem.ClaimSeven
namespace Go.Proofs.YthdhckgmbfkglaaDoor
namespace Rows

/-- THE TIED CARD OF 'diceboxlaw04.ModelMeans'. -/
def modelMeansCard : Claim7 := { stood := { row := modelMeansRow, standIns := [], harness := (true, "b444f2f54613ace16422bc191104d694efdab3b11ce7d019c64ba5212a6f079f"), looks := false }, kinds := [], alts := [], laidByText := true, laidKinds := [.data, .data, .data], laidTests := true, laidLooks := .later }
def ModelMeansCardSaid : Prop := Claim7.holds Tryd.pinned (.plain (OpenSpec.ofChange modelMeansSpec)) modelMeansCard

/-- THE SECOND FORM's CARD OF 'diceboxlaw04.ModelMeans'. -/
def modelMeansUptoCard : Claim7 := { stood := { row := modelMeansUptoRow, standIns := [], harness := (true, "b444f2f54613ace16422bc191104d694efdab3b11ce7d019c64ba5212a6f079f"), looks := false }, kinds := [], alts := [], laidByText := true, laidKinds := [.data, .data, .data], laidTests := true, laidLooks := .later }
def ModelMeansUptoCardSaid : Prop := Claim7.holds Tryd.pinned (.plain (OpenSpec.upto modelMeansSpec)) modelMeansUptoCard
end Rows
end Go.Proofs.YthdhckgmbfkglaaDoor
