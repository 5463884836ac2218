/-
  DERIVED. GIVEN WITH THE SEED: THE CARDS: each row of YtmckmlmfilmiaaaDoorRows.lean that lists a variable, with what it lists TIED to the program's text (the seventh form; the later family's looks); each row that meets fmt, with fmt's text TOLD by the authors' own Lean function (tested against real Go, not proved from fmt's source: count such statements apart). THE CARD IS WHAT COUNTS. Prove the row's statement (the work); the ties are given (YtmckmlmfilmiaaaDoorTie.lean); close each card by the builder's one call (the guide's Derived/Test/ToyasCard.lean, 'card_holds'). Laid BY PROGRAM, IN A SANDBOX (cutbox-door.mjs). By AI agents, Wed Nov 11 2026. No macro, syntax, notation, axiom, sorry.
-/
import Derived.Test.YtmckmlmfilmiaaaDoorRows
import GoSem.ClaimSeven
namespace Go.Proofs.YtmckmlmfilmiaaaDoor
namespace Rows

/-- THE TIED CARD OF 'barragelaw07.RunoffKeeps'. -/
def runoffKeepsCard : Claim7 := { stood := { row := runoffKeepsRow, standIns := [], harness := (true, "ef75f4a67bea56f6f992027f071e3259a1ef18dabc5a80bf70352123c3cd2457"), looks := true }, kinds := [], alts := [], laidByText := true, laidKinds := [.handle], laidTests := true, laidLooks := .later }
def RunoffKeepsCardSaid : Prop := Claim7.holds Tryd.pinned (.plain (OpenSpec.ofChange runoffKeepsSpec)) runoffKeepsCard

/-- THE SECOND FORM's CARD OF 'barragelaw07.RunoffKeeps'. -/
def runoffKeepsUptoCard : Claim7 := { stood := { row := runoffKeepsUptoRow, standIns := [], harness := (true, "ef75f4a67bea56f6f992027f071e3259a1ef18dabc5a80bf70352123c3cd2457"), looks := true }, kinds := [], alts := [], laidByText := true, laidKinds := [.handle], laidTests := true, laidLooks := .later }
def RunoffKeepsUptoCardSaid : Prop := Claim7.holds Tryd.pinned (.plain (OpenSpec.upto runoffKeepsSpec)) runoffKeepsUptoCard
end Rows
end Go.Proofs.YtmckmlmfilmiaaaDoor
