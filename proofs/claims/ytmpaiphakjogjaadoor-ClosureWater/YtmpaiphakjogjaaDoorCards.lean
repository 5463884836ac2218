/-
  DERIVED. GIVEN WITH THE SEED: THE CARDS: each row of YtmpaiphakjogjaaDoorRows.lean that lists a variable, with what it lists TIED to the program's text (the seventh form; the later family's looks); each row that meets fmt, with fmt's text TOLD by the authors' own Lean function (tested against real Go, not proved from fmt's source: count such statements apart). THE CARD IS WHAT COUNTS. Prove the row's statement (the work); the ties are given (YtmpaiphakjogjaaDoorTie.lean); close each card by the builder's one call (the guide's Derived/Test/ToyasCard.lean, 'card_holds'). Laid BY PROGRAM, IN A SANDBOX (cutbox-door.mjs). By AI agents, Wed Nov 11 2026. No macro, syntax, notation, axiom, sorry.
-/
import Derived.Test.YtmpaiphakjogjaaDoorRows
import GoSem.ClaimSeven
namespace Go.Proofs.YtmpaiphakjogjaaDoor
namespace Rows

/-- THE TIED CARD OF 'barragelaw05.ClosureWater'. -/
def closureWaterCard : Claim7 := { stood := { row := closureWaterRow, standIns := [], harness := (true, "ba6264d6ef25822f021cd1edce903e1c3b2da1f71be8b73179f54b79add59ebb"), looks := true }, kinds := [], alts := [], laidByText := true, laidKinds := [.handle], laidTests := true, laidLooks := .later }
def ClosureWaterCardSaid : Prop := Claim7.holds Tryd.pinned (.plain (OpenSpec.ofChange closureWaterSpec)) closureWaterCard

/-- THE SECOND FORM's CARD OF 'barragelaw05.ClosureWater'. -/
def closureWaterUptoCard : Claim7 := { stood := { row := closureWaterUptoRow, standIns := [], harness := (true, "ba6264d6ef25822f021cd1edce903e1c3b2da1f71be8b73179f54b79add59ebb"), looks := true }, kinds := [], alts := [], laidByText := true, laidKinds := [.handle], laidTests := true, laidLooks := .later }
def ClosureWaterUptoCardSaid : Prop := Claim7.holds Tryd.pinned (.plain (OpenSpec.upto closureWaterSpec)) closureWaterUptoCard
end Rows
end Go.Proofs.YtmpaiphakjogjaaDoor
