/-
  DERIVED. GIVEN WITH THE SEED: THE CARDS: each row of YtmckmlmfilmiaaaGreatDoorRows.lean that lists a variable, with what it lists TIED to the program's text (the seventh form; the later family's looks); each row that meets fmt, with fmt's text TOLD by the authors' own Lean function (tested against real Go, not proved from fmt's source: count such statements apart). THE CARD IS WHAT COUNTS. Prove the row's statement (the work); the ties are given (YtmckmlmfilmiaaaGreatDoorTie.lean); close each card by the builder's one call (the guide's Derived/Test/ToyasCard.lean, 'card_holds'). Laid BY PROGRAM, IN A SANDBOX (cutbox-door.mjs). By AI agents, Wed Nov 11 2026. No macro, syntax, notation, axiom, sorry.
-/
import Derived.Test.YtmckmlmfilmiaaaGreatDoorRows
import GoSem.ClaimSeven
namespace Go.Proofs.YtmckmlmfilmiaaaGreatDoor
namespace Rows

/-- THE TIED CARD OF 'barragetop.TopNeed'. -/
def topNeedCard : Claim7 := { stood := { row := topNeedRow, standIns := [], harness := (true, "79af88d9cc8551fbd5ca808f023ec5dd6400c4d187346ea15f3672994774b726"), looks := true }, kinds := [], alts := [], laidByText := true, laidKinds := [.handle], laidTests := true, laidLooks := .later }
def TopNeedCardSaid : Prop := Claim7.holds Tryz.pinned (.plain (OpenSpec.ofChange topNeedSpec)) topNeedCard

/-- THE SECOND FORM's CARD OF 'barragetop.TopNeed'. -/
def topNeedUptoCard : Claim7 := { stood := { row := topNeedUptoRow, standIns := [], harness := (true, "79af88d9cc8551fbd5ca808f023ec5dd6400c4d187346ea15f3672994774b726"), looks := true }, kinds := [], alts := [], laidByText := true, laidKinds := [.handle], laidTests := true, laidLooks := .later }
def TopNeedUptoCardSaid : Prop := Claim7.holds Tryz.pinned (.plain (OpenSpec.upto topNeedSpec)) topNeedUptoCard
end Rows
end Go.Proofs.YtmckmlmfilmiaaaGreatDoor
