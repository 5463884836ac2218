/-
  DERIVED. GIVEN WITH THE SEED: THE CARDS: each row of YtoiepgcjinccpaaDoorRows.lean that lists a variable, with what it lists TIED to the program's text (the seventh form; the later family's looks); each row that meets fmt, with fmt's text TOLD by the authors' own Lean function (tested against real Go, not proved from fmt's source: count such statements apart). THE CARD IS WHAT COUNTS. Prove the row's statement (the work); the ties are given (YtoiepgcjinccpaaDoorTie.lean); close each card by the builder's one call (the guide's Derived/Test/ToyasCard.lean, 'card_holds'). Laid BY PROGRAM, IN A SANDBOX (cutbox-door.mjs). By AI agents, Wed Nov 11 2026. No macro, syntax, notation, axiom, sorry.
-/
import Derived.Test.YtoiepgcjinccpaaDoorRows
import GoSem.ClaimSeven
namespace Go.Proofs.YtoiepgcjinccpaaDoor
namespace Rows

/-- THE TIED CARD OF 'barragelaw04.BasinSteps'. -/
def basinStepsCard : Claim7 := { stood := { row := basinStepsRow, standIns := [], harness := (true, "f92532ca87e15e5e582a91ea4d71f65de3d8437f6b456523a0e01558f3a69da7"), looks := true }, kinds := [], alts := [], laidByText := true, laidKinds := [.handle], laidTests := true, laidLooks := .later }
def BasinStepsCardSaid : Prop := Claim7.holds Tryd.pinned (.plain (OpenSpec.ofChange basinStepsSpec)) basinStepsCard

/-- THE TIED CARD OF 'barragelaw04.BasinRuns'. -/
def basinRunsCard : Claim7 := { stood := { row := basinRunsRow, standIns := [], harness := (true, "f92532ca87e15e5e582a91ea4d71f65de3d8437f6b456523a0e01558f3a69da7"), looks := true }, kinds := [], alts := [], laidByText := true, laidKinds := [.handle], laidTests := true, laidLooks := .later }
def BasinRunsCardSaid : Prop := Claim7.holds Tryd.pinned (.plain (OpenSpec.ofChange basinRunsSpec)) basinRunsCard

/-- THE TIED CARD OF 'barragelaw04.BasinParts'. -/
def basinPartsCard : Claim7 := { stood := { row := basinPartsRow, standIns := [], harness := (true, "f92532ca87e15e5e582a91ea4d71f65de3d8437f6b456523a0e01558f3a69da7"), looks := true }, kinds := [], alts := [], laidByText := true, laidKinds := [.handle], laidTests := true, laidLooks := .later }
def BasinPartsCardSaid : Prop := Claim7.holds Tryd.pinned (.plain (OpenSpec.ofChange basinPartsSpec)) basinPartsCard

/-- THE TIED CARD OF 'barragelaw04.BasinStays'. -/
def basinStaysCard : Claim7 := { stood := { row := basinStaysRow, standIns := [], harness := (true, "f92532ca87e15e5e582a91ea4d71f65de3d8437f6b456523a0e01558f3a69da7"), looks := true }, kinds := [], alts := [], laidByText := true, laidKinds := [.handle], laidTests := true, laidLooks := .later }
def BasinStaysCardSaid : Prop := Claim7.holds Tryd.pinned (.plain (OpenSpec.ofChange basinStaysSpec)) basinStaysCard

/-- THE TIED CARD OF 'barragelaw04.BasinChecks'. -/
def basinChecksCard : Claim7 := { stood := { row := basinChecksRow, standIns := [], harness := (true, "f92532ca87e15e5e582a91ea4d71f65de3d8437f6b456523a0e01558f3a69da7"), looks := true }, kinds := [], alts := [], laidByText := true, laidKinds := [.handle], laidTests := true, laidLooks := .later }
def BasinChecksCardSaid : Prop := Claim7.holds Tryd.pinned (.plain (OpenSpec.ofChange basinChecksSpec)) basinChecksCard

/-- THE TIED CARD OF 'barragelaw04.BasinLevels'. -/
def basinLevelsCard : Claim7 := { stood := { row := basinLevelsRow, standIns := [], harness := (true, "f92532ca87e15e5e582a91ea4d71f65de3d8437f6b456523a0e01558f3a69da7"), looks := true }, kinds := [], alts := [], laidByText := true, laidKinds := [.handle], laidTests := true, laidLooks := .later }
def BasinLevelsCardSaid : Prop := Claim7.holds Tryd.pinned (.plain (OpenSpec.ofChange basinLevelsSpec)) basinLevelsCard

/-- THE TIED CARD OF 'barragelaw04.BasinMonotone'. -/
def basinMonotoneCard : Claim7 := { stood := { row := basinMonotoneRow, standIns := [], harness := (true, "f92532ca87e15e5e582a91ea4d71f65de3d8437f6b456523a0e01558f3a69da7"), looks := true }, kinds := [], alts := [], laidByText := true, laidKinds := [.handle], laidTests := true, laidLooks := .later }
def BasinMonotoneCardSaid : Prop := Claim7.holds Tryd.pinned (.plain (OpenSpec.ofChange basinMonotoneSpec)) basinMonotoneCard

/-- THE TIED CARD OF 'barragelaw04.BasinLasts'. -/
def basinLastsCard : Claim7 := { stood := { row := basinLastsRow, standIns := [], harness := (true, "f92532ca87e15e5e582a91ea4d71f65de3d8437f6b456523a0e01558f3a69da7"), looks := true }, kinds := [], alts := [], laidByText := true, laidKinds := [.handle], laidTests := true, laidLooks := .later }
def BasinLastsCardSaid : Prop := Claim7.holds Tryd.pinned (.plain (OpenSpec.ofChange basinLastsSpec)) basinLastsCard

/-- THE TIED CARD OF 'barragelaw04.BasinRests'. -/
def basinRestsCard : Claim7 := { stood := { row := basinRestsRow, standIns := [], harness := (true, "f92532ca87e15e5e582a91ea4d71f65de3d8437f6b456523a0e01558f3a69da7"), looks := true }, kinds := [], alts := [], laidByText := true, laidKinds := [.handle], laidTests := true, laidLooks := .later }
def BasinRestsCardSaid : Prop := Claim7.holds Tryd.pinned (.plain (OpenSpec.ofChange basinRestsSpec)) basinRestsCard

/-- THE TIED CARD OF 'barragelaw04.BasinKnown'. -/
def basinKnownCard : Claim7 := { stood := { row := basinKnownRow, standIns := [], harness := (true, "f92532ca87e15e5e582a91ea4d71f65de3d8437f6b456523a0e01558f3a69da7"), looks := true }, kinds := [], alts := [], laidByText := true, laidKinds := [.handle], laidTests := true, laidLooks := .later }
def BasinKnownCardSaid : Prop := Claim7.holds Tryd.pinned (.plain (OpenSpec.ofChange basinKnownSpec)) basinKnownCard

/-- THE TIED CARD OF 'barragelaw04.BasinTotals'. -/
def basinTotalsCard : Claim7 := { stood := { row := basinTotalsRow, standIns := [], harness := (true, "f92532ca87e15e5e582a91ea4d71f65de3d8437f6b456523a0e01558f3a69da7"), looks := true }, kinds := [], alts := [], laidByText := true, laidKinds := [.handle], laidTests := true, laidLooks := .later }
def BasinTotalsCardSaid : Prop := Claim7.holds Tryd.pinned (.plain (OpenSpec.ofChange basinTotalsSpec)) basinTotalsCard

/-- THE TIED CARD OF 'barragelaw04.BasinBalance'. -/
def basinBalanceCard : Claim7 := { stood := { row := basinBalanceRow, standIns := [], harness := (true, "f92532ca87e15e5e582a91ea4d71f65de3d8437f6b456523a0e01558f3a69da7"), looks := true }, kinds := [], alts := [], laidByText := true, laidKinds := [.handle], laidTests := true, laidLooks := .later }
def BasinBalanceCardSaid : Prop := Claim7.holds Tryd.pinned (.plain (OpenSpec.ofChange basinBalanceSpec)) basinBalanceCard

/-- THE TIED CARD OF 'barragelaw04.BasinNeedsMore'. -/
def basinNeedsMoreCard : Claim7 := { stood := { row := basinNeedsMoreRow, standIns := [], harness := (true, "f92532ca87e15e5e582a91ea4d71f65de3d8437f6b456523a0e01558f3a69da7"), looks := true }, kinds := [], alts := [], laidByText := true, laidKinds := [.handle], laidTests := true, laidLooks := .later }
def BasinNeedsMoreCardSaid : Prop := Claim7.holds Tryd.pinned (.plain (OpenSpec.ofChange basinNeedsMoreSpec)) basinNeedsMoreCard

/-- THE TIED CARD OF 'barragelaw04.BasinTides'. -/
def basinTidesCard : Claim7 := { stood := { row := basinTidesRow, standIns := [], harness := (true, "f92532ca87e15e5e582a91ea4d71f65de3d8437f6b456523a0e01558f3a69da7"), looks := true }, kinds := [], alts := [], laidByText := true, laidKinds := [.handle], laidTests := true, laidLooks := .later }
def BasinTidesCardSaid : Prop := Claim7.holds Tryd.pinned (.plain (OpenSpec.ofChange basinTidesSpec)) basinTidesCard

/-- THE SECOND FORM's CARD OF 'barragelaw04.BasinSteps'. -/
def basinStepsUptoCard : Claim7 := { stood := { row := basinStepsUptoRow, standIns := [], harness := (true, "f92532ca87e15e5e582a91ea4d71f65de3d8437f6b456523a0e01558f3a69da7"), looks := true }, kinds := [], alts := [], laidByText := true, laidKinds := [.handle], laidTests := true, laidLooks := .later }
def BasinStepsUptoCardSaid : Prop := Claim7.holds Tryd.pinned (.plain (OpenSpec.upto basinStepsSpec)) basinStepsUptoCard

/-- THE SECOND FORM's CARD OF 'barragelaw04.BasinRuns'. -/
def basinRunsUptoCard : Claim7 := { stood := { row := basinRunsUptoRow, standIns := [], harness := (true, "f92532ca87e15e5e582a91ea4d71f65de3d8437f6b456523a0e01558f3a69da7"), looks := true }, kinds := [], alts := [], laidByText := true, laidKinds := [.handle], laidTests := true, laidLooks := .later }
def BasinRunsUptoCardSaid : Prop := Claim7.holds Tryd.pinned (.plain (OpenSpec.upto basinRunsSpec)) basinRunsUptoCard

/-- THE SECOND FORM's CARD OF 'barragelaw04.BasinParts'. -/
def basinPartsUptoCard : Claim7 := { stood := { row := basinPartsUptoRow, standIns := [], harness := (true, "f92532ca87e15e5e582a91ea4d71f65de3d8437f6b456523a0e01558f3a69da7"), looks := true }, kinds := [], alts := [], laidByText := true, laidKinds := [.handle], laidTests := true, laidLooks := .later }
def BasinPartsUptoCardSaid : Prop := Claim7.holds Tryd.pinned (.plain (OpenSpec.upto basinPartsSpec)) basinPartsUptoCard

/-- THE SECOND FORM's CARD OF 'barragelaw04.BasinStays'. -/
def basinStaysUptoCard : Claim7 := { stood := { row := basinStaysUptoRow, standIns := [], harness := (true, "f92532ca87e15e5e582a91ea4d71f65de3d8437f6b456523a0e01558f3a69da7"), looks := true }, kinds := [], alts := [], laidByText := true, laidKinds := [.handle], laidTests := true, laidLooks := .later }
def BasinStaysUptoCardSaid : Prop := Claim7.holds Tryd.pinned (.plain (OpenSpec.upto basinStaysSpec)) basinStaysUptoCard

/-- THE SECOND FORM's CARD OF 'barragelaw04.BasinChecks'. -/
def basinChecksUptoCard : Claim7 := { stood := { row := basinChecksUptoRow, standIns := [], harness := (true, "f92532ca87e15e5e582a91ea4d71f65de3d8437f6b456523a0e01558f3a69da7"), looks := true }, kinds := [], alts := [], laidByText := true, laidKinds := [.handle], laidTests := true, laidLooks := .later }
def BasinChecksUptoCardSaid : Prop := Claim7.holds Tryd.pinned (.plain (OpenSpec.upto basinChecksSpec)) basinChecksUptoCard

/-- THE SECOND FORM's CARD OF 'barragelaw04.BasinLevels'. -/
def basinLevelsUptoCard : Claim7 := { stood := { row := basinLevelsUptoRow, standIns := [], harness := (true, "f92532ca87e15e5e582a91ea4d71f65de3d8437f6b456523a0e01558f3a69da7"), looks := true }, kinds := [], alts := [], laidByText := true, laidKinds := [.handle], laidTests := true, laidLooks := .later }
def BasinLevelsUptoCardSaid : Prop := Claim7.holds Tryd.pinned (.plain (OpenSpec.upto basinLevelsSpec)) basinLevelsUptoCard

/-- THE SECOND FORM's CARD OF 'barragelaw04.BasinMonotone'. -/
def basinMonotoneUptoCard : Claim7 := { stood := { row := basinMonotoneUptoRow, standIns := [], harness := (true, "f92532ca87e15e5e582a91ea4d71f65de3d8437f6b456523a0e01558f3a69da7"), looks := true }, kinds := [], alts := [], laidByText := true, laidKinds := [.handle], laidTests := true, laidLooks := .later }
def BasinMonotoneUptoCardSaid : Prop := Claim7.holds Tryd.pinned (.plain (OpenSpec.upto basinMonotoneSpec)) basinMonotoneUptoCard

/-- THE SECOND FORM's CARD OF 'barragelaw04.BasinLasts'. -/
def basinLastsUptoCard : Claim7 := { stood := { row := basinLastsUptoRow, standIns := [], harness := (true, "f92532ca87e15e5e582a91ea4d71f65de3d8437f6b456523a0e01558f3a69da7"), looks := true }, kinds := [], alts := [], laidByText := true, laidKinds := [.handle], laidTests := true, laidLooks := .later }
def BasinLastsUptoCardSaid : Prop := Claim7.holds Tryd.pinned (.plain (OpenSpec.upto basinLastsSpec)) basinLastsUptoCard

/-- THE SECOND FORM's CARD OF 'barragelaw04.BasinRests'. -/
def basinRestsUptoCard : Claim7 := { stood := { row := basinRestsUptoRow, standIns := [], harness := (true, "f92532ca87e15e5e582a91ea4d71f65de3d8437f6b456523a0e01558f3a69da7"), looks := true }, kinds := [], alts := [], laidByText := true, laidKinds := [.handle], laidTests := true, laidLooks := .later }
def BasinRestsUptoCardSaid : Prop := Claim7.holds Tryd.pinned (.plain (OpenSpec.upto basinRestsSpec)) basinRestsUptoCard

/-- THE SECOND FORM's CARD OF 'barragelaw04.BasinKnown'. -/
def basinKnownUptoCard : Claim7 := { stood := { row := basinKnownUptoRow, standIns := [], harness := (true, "f92532ca87e15e5e582a91ea4d71f65de3d8437f6b456523a0e01558f3a69da7"), looks := true }, kinds := [], alts := [], laidByText := true, laidKinds := [.handle], laidTests := true, laidLooks := .later }
def BasinKnownUptoCardSaid : Prop := Claim7.holds Tryd.pinned (.plain (OpenSpec.upto basinKnownSpec)) basinKnownUptoCard

/-- THE SECOND FORM's CARD OF 'barragelaw04.BasinTotals'. -/
def basinTotalsUptoCard : Claim7 := { stood := { row := basinTotalsUptoRow, standIns := [], harness := (true, "f92532ca87e15e5e582a91ea4d71f65de3d8437f6b456523a0e01558f3a69da7"), looks := true }, kinds := [], alts := [], laidByText := true, laidKinds := [.handle], laidTests := true, laidLooks := .later }
def BasinTotalsUptoCardSaid : Prop := Claim7.holds Tryd.pinned (.plain (OpenSpec.upto basinTotalsSpec)) basinTotalsUptoCard

/-- THE SECOND FORM's CARD OF 'barragelaw04.BasinBalance'. -/
def basinBalanceUptoCard : Claim7 := { stood := { row := basinBalanceUptoRow, standIns := [], harness := (true, "f92532ca87e15e5e582a91ea4d71f65de3d8437f6b456523a0e01558f3a69da7"), looks := true }, kinds := [], alts := [], laidByText := true, laidKinds := [.handle], laidTests := true, laidLooks := .later }
def BasinBalanceUptoCardSaid : Prop := Claim7.holds Tryd.pinned (.plain (OpenSpec.upto basinBalanceSpec)) basinBalanceUptoCard

/-- THE SECOND FORM's CARD OF 'barragelaw04.BasinNeedsMore'. -/
def basinNeedsMoreUptoCard : Claim7 := { stood := { row := basinNeedsMoreUptoRow, standIns := [], harness := (true, "f92532ca87e15e5e582a91ea4d71f65de3d8437f6b456523a0e01558f3a69da7"), looks := true }, kinds := [], alts := [], laidByText := true, laidKinds := [.handle], laidTests := true, laidLooks := .later }
def BasinNeedsMoreUptoCardSaid : Prop := Claim7.holds Tryd.pinned (.plain (OpenSpec.upto basinNeedsMoreSpec)) basinNeedsMoreUptoCard

/-- THE SECOND FORM's CARD OF 'barragelaw04.BasinTides'. -/
def basinTidesUptoCard : Claim7 := { stood := { row := basinTidesUptoRow, standIns := [], harness := (true, "f92532ca87e15e5e582a91ea4d71f65de3d8437f6b456523a0e01558f3a69da7"), looks := true }, kinds := [], alts := [], laidByText := true, laidKinds := [.handle], laidTests := true, laidLooks := .later }
def BasinTidesUptoCardSaid : Prop := Claim7.holds Tryd.pinned (.plain (OpenSpec.upto basinTidesSpec)) basinTidesUptoCard
end Rows
end Go.Proofs.YtoiepgcjinccpaaDoor
