/-
  DERIVED. GIVEN WITH THE SEED: THE CARDS: each row of YtgddcbpbadookaaGreatDoorRows.lean that lists a variable, with what it lists TIED to the program's text (the seventh form; the later family's looks); each row that meets fmt, with fmt's text TOLD by the authors' own Lean function (tested against real Go, not proved from fmt's source: count such statements apart). THE CARD IS WHAT COUNTS. Prove the row's statement (the work); the ties are given (YtgddcbpbadookaaGreatDoorTie.lean); close each card by the builder's one call (the guide's Derived/Test/ToyasCard.lean, 'card_holds'). Laid BY PROGRAM, IN A SANDBOX (cutbox-door.mjs). By AI agents, Wed Nov 11 2026. No macro, syntax, notation, axiom, sorry.
-/
import Derived.Test.YtgddcbpbadookaaGreatDoorRows
import GoSem.ClaimSeven
namespace Go.Proofs.YtgddcbpbadookaaGreatDoor
namespace Rows

/-- THE TIED CARD OF 'barragetop.TopWarned'. -/
def topWarnedCard : Claim7 := { stood := { row := topWarnedRow, standIns := [], harness := (true, "846f7c6a78b60d79aa74797979864d61907fb45467f4e40d1691ccdecdac86d9"), looks := true }, kinds := [], alts := [], laidByText := true, laidKinds := [.handle], laidTests := true, laidLooks := .later }
def TopWarnedCardSaid : Prop := Claim7.holds Tryz.pinned (.plain (OpenSpec.ofChange topWarnedSpec)) topWarnedCard

/-- THE SECOND FORM's CARD OF 'barragetop.TopWarned'. -/
def topWarnedUptoCard : Claim7 := { stood := { row := topWarnedUptoRow, standIns := [], harness := (true, "846f7c6a78b60d79aa74797979864d61907fb45467f4e40d1691ccdecdac86d9"), looks := true }, kinds := [], alts := [], laidByText := true, laidKinds := [.handle], laidTests := true, laidLooks := .later }
def TopWarnedUptoCardSaid : Prop := Claim7.holds Tryz.pinned (.plain (OpenSpec.upto topWarnedSpec)) topWarnedUptoCard
end Rows
end Go.Proofs.YtgddcbpbadookaaGreatDoor
