/-
  No cell of these rows narrows 'for every input' (looked for: loops, veiled, ifaces, maps, wideKeys, modest, calm, conditions, laid).
  DERIVED. THE GIVEN ROWS OF THIS SEAT. 8 by the template 'for every input the law returns true; each argument reads behind the call as it read before'; 0 by the template 'total and deterministic' (their statements: YtmckmlmfilmiaaaTotals.lean).
  GIVEN WITH THE SEED: the statements are not yours to turn. If you find one false, say at which input.
  Laid BY PROGRAM, IN A SANDBOX (cutbox-rows.mjs): the forced cells as the released guide's own fill.sh prints them over the translation e65cc36554621c8d… (all of the seat's roots in one cut). By AI agents, Wed Nov 11 2026. No macro, syntax, notation, axiom, sorry.
-/
import Derived.Test.YtmckmlmfilmiaaaChecked
import GoSem.Claim
import GoSem.ClaimJoined
import GoSem.ClaimMapViews
import Derived.JoinedTies
import Derived.KernelRfl
namespace Go.Proofs.Ytmckmlmfilmiaaa
/- THE CELL 'sum', in the pinned program and in every row, IS THE sha256 OF THE DUMP (.gsa) THAT YtmckmlmfilmiaaaProg.lean LOADS. Nothing in Lean hashes anything: it is a label: what it is worth is what the hold of that sum in a sandbox is worth. -/
noncomputable def Try.pinned : Pinned := { name := "ytmckmlmfilmiaaa", sum := "e65cc36554621c8d9d1c70a4306b85795dc81682bb94533aa250c9174092322e", checked := Try.checked }
namespace Rows
def none {H : Type} : Left H := { results := [], args := [] }

/-- 'barragelaw07.RunoffFinds': WHATEVER THE INPUT: true; the input reads as it did. -/
def runoffFindsSpec : ChangeSpec := { name := "runoffFinds", fn := fun _ => fun
  | [d] => { results := [.lit (.bool true)], args := [d] }
  | _ => none }
def runoffFindsRow : OpenClaim := { program := "ytmckmlmfilmiaaa", sum := "e65cc36554621c8d9d1c70a4306b85795dc81682bb94533aa250c9174092322e", func := "barrage/barragelaw07.RunoffFinds", spec := "runoffFinds", unfollowed := true, recurses := true, plainKeys := false, apart := false }
def RunoffFindsSaid : Prop := runoffFindsRow.holds Try.pinned (OpenSpec.ofChange runoffFindsSpec)

/-- ITS FALSE NEIGHBOUR: 'it returns false'. Refute it at one input. -/
def runoffFindsWrong : ChangeSpec := { name := "runoffFinds", fn := fun _ => fun
  | [d] => { results := [.lit (.bool false)], args := [d] }
  | _ => none }
def RunoffFindsWrongFalsely : Prop := runoffFindsRow.holds Try.pinned (OpenSpec.ofChange runoffFindsWrong)

/-- 'barragelaw07.RunoffMore': WHATEVER THE INPUT: true; the input reads as it did. -/
def runoffMoreSpec : ChangeSpec := { name := "runoffMore", fn := fun _ => fun
  | [d1, d2] => { results := [.lit (.bool true)], args := [d1, d2] }
  | _ => none }
def runoffMoreRow : OpenClaim := { program := "ytmckmlmfilmiaaa", sum := "e65cc36554621c8d9d1c70a4306b85795dc81682bb94533aa250c9174092322e", func := "barrage/barragelaw07.RunoffMore", spec := "runoffMore", unfollowed := true, recurses := true, plainKeys := false, apart := false }
def RunoffMoreSaid : Prop := runoffMoreRow.holds Try.pinned (OpenSpec.ofChange runoffMoreSpec)

/-- ITS FALSE NEIGHBOUR: 'it returns false'. Refute it at one input. -/
def runoffMoreWrong : ChangeSpec := { name := "runoffMore", fn := fun _ => fun
  | [d1, d2] => { results := [.lit (.bool false)], args := [d1, d2] }
  | _ => none }
def RunoffMoreWrongFalsely : Prop := runoffMoreRow.holds Try.pinned (OpenSpec.ofChange runoffMoreWrong)

/-- 'barragelaw07.RunoffDoes': WHATEVER THE INPUT: true; the input reads as it did. -/
def runoffDoesSpec : ChangeSpec := { name := "runoffDoes", fn := fun _ => fun
  | [d1, d2] => { results := [.lit (.bool true)], args := [d1, d2] }
  | _ => none }
def runoffDoesRow : OpenClaim := { program := "ytmckmlmfilmiaaa", sum := "e65cc36554621c8d9d1c70a4306b85795dc81682bb94533aa250c9174092322e", func := "barrage/barragelaw07.RunoffDoes", spec := "runoffDoes", unfollowed := true, recurses := true, plainKeys := false, apart := false }
def RunoffDoesSaid : Prop := runoffDoesRow.holds Try.pinned (OpenSpec.ofChange runoffDoesSpec)

/-- ITS FALSE NEIGHBOUR: 'it returns false'. Refute it at one input. -/
def runoffDoesWrong : ChangeSpec := { name := "runoffDoes", fn := fun _ => fun
  | [d1, d2] => { results := [.lit (.bool false)], args := [d1, d2] }
  | _ => none }
def RunoffDoesWrongFalsely : Prop := runoffDoesRow.holds Try.pinned (OpenSpec.ofChange runoffDoesWrong)

/-- 'barragelaw07.RunoffLeast': WHATEVER THE INPUT: true; the input reads as it did. -/
def runoffLeastSpec : ChangeSpec := { name := "runoffLeast", fn := fun _ => fun
  | [d1, d2] => { results := [.lit (.bool true)], args := [d1, d2] }
  | _ => none }
def runoffLeastRow : OpenClaim := { program := "ytmckmlmfilmiaaa", sum := "e65cc36554621c8d9d1c70a4306b85795dc81682bb94533aa250c9174092322e", func := "barrage/barragelaw07.RunoffLeast", spec := "runoffLeast", unfollowed := true, recurses := true, plainKeys := false, apart := false }
def RunoffLeastSaid : Prop := runoffLeastRow.holds Try.pinned (OpenSpec.ofChange runoffLeastSpec)

/-- ITS FALSE NEIGHBOUR: 'it returns false'. Refute it at one input. -/
def runoffLeastWrong : ChangeSpec := { name := "runoffLeast", fn := fun _ => fun
  | [d1, d2] => { results := [.lit (.bool false)], args := [d1, d2] }
  | _ => none }
def RunoffLeastWrongFalsely : Prop := runoffLeastRow.holds Try.pinned (OpenSpec.ofChange runoffLeastWrong)

/-- 'barragelaw07.RunoffLow': WHATEVER THE INPUT: true; the input reads as it did. -/
def runoffLowSpec : ChangeSpec := { name := "runoffLow", fn := fun _ => fun
  | [d1, d2, d3] => { results := [.lit (.bool true)], args := [d1, d2, d3] }
  | _ => none }
def runoffLowRow : OpenClaim := { program := "ytmckmlmfilmiaaa", sum := "e65cc36554621c8d9d1c70a4306b85795dc81682bb94533aa250c9174092322e", func := "barrage/barragelaw07.RunoffLow", spec := "runoffLow", unfollowed := true, recurses := true, plainKeys := false, apart := false }
def RunoffLowSaid : Prop := runoffLowRow.holds Try.pinned (OpenSpec.ofChange runoffLowSpec)

/-- ITS FALSE NEIGHBOUR: 'it returns false'. Refute it at one input. -/
def runoffLowWrong : ChangeSpec := { name := "runoffLow", fn := fun _ => fun
  | [d1, d2, d3] => { results := [.lit (.bool false)], args := [d1, d2, d3] }
  | _ => none }
def RunoffLowWrongFalsely : Prop := runoffLowRow.holds Try.pinned (OpenSpec.ofChange runoffLowWrong)

/-- 'barragelaw07.RunoffUses': WHATEVER THE INPUT: true; the input reads as it did. -/
def runoffUsesSpec : ChangeSpec := { name := "runoffUses", fn := fun _ => fun
  | [d1, d2] => { results := [.lit (.bool true)], args := [d1, d2] }
  | _ => none }
def runoffUsesRow : OpenClaim := { program := "ytmckmlmfilmiaaa", sum := "e65cc36554621c8d9d1c70a4306b85795dc81682bb94533aa250c9174092322e", func := "barrage/barragelaw07.RunoffUses", spec := "runoffUses", unfollowed := true, recurses := true, plainKeys := false, apart := false }
def RunoffUsesSaid : Prop := runoffUsesRow.holds Try.pinned (OpenSpec.ofChange runoffUsesSpec)

/-- ITS FALSE NEIGHBOUR: 'it returns false'. Refute it at one input. -/
def runoffUsesWrong : ChangeSpec := { name := "runoffUses", fn := fun _ => fun
  | [d1, d2] => { results := [.lit (.bool false)], args := [d1, d2] }
  | _ => none }
def RunoffUsesWrongFalsely : Prop := runoffUsesRow.holds Try.pinned (OpenSpec.ofChange runoffUsesWrong)

/-- 'barragelaw07.RunoffKnown': WHATEVER THE INPUT: true; the input reads as it did. -/
def runoffKnownSpec : ChangeSpec := { name := "runoffKnown", fn := fun _ => fun
  | [] => { results := [.lit (.bool true)], args := [] }
  | _ => none }
def runoffKnownRow : OpenClaim := { program := "ytmckmlmfilmiaaa", sum := "e65cc36554621c8d9d1c70a4306b85795dc81682bb94533aa250c9174092322e", func := "barrage/barragelaw07.RunoffKnown", spec := "runoffKnown", unfollowed := true, recurses := true, plainKeys := false, apart := false }
def RunoffKnownSaid : Prop := runoffKnownRow.holds Try.pinned (OpenSpec.ofChange runoffKnownSpec)

/-- ITS FALSE NEIGHBOUR: 'it returns false'. Refute it at one input. -/
def runoffKnownWrong : ChangeSpec := { name := "runoffKnown", fn := fun _ => fun
  | [] => { results := [.lit (.bool false)], args := [] }
  | _ => none }
def RunoffKnownWrongFalsely : Prop := runoffKnownRow.holds Try.pinned (OpenSpec.ofChange runoffKnownWrong)

/-- 'barragelaw07.RunoffTides': WHATEVER THE INPUT: true; the input reads as it did. -/
def runoffTidesSpec : ChangeSpec := { name := "runoffTides", fn := fun _ => fun
  | [d1, d2, d3] => { results := [.lit (.bool true)], args := [d1, d2, d3] }
  | _ => none }
def runoffTidesRow : OpenClaim := { program := "ytmckmlmfilmiaaa", sum := "e65cc36554621c8d9d1c70a4306b85795dc81682bb94533aa250c9174092322e", func := "barrage/barragelaw07.RunoffTides", spec := "runoffTides", unfollowed := true, recurses := true, plainKeys := false, apart := false }
def RunoffTidesSaid : Prop := runoffTidesRow.holds Try.pinned (OpenSpec.ofChange runoffTidesSpec)

/-- ITS FALSE NEIGHBOUR: 'it returns false'. Refute it at one input. -/
def runoffTidesWrong : ChangeSpec := { name := "runoffTides", fn := fun _ => fun
  | [d1, d2, d3] => { results := [.lit (.bool false)], args := [d1, d2, d3] }
  | _ => none }
def RunoffTidesWrongFalsely : Prop := runoffTidesRow.holds Try.pinned (OpenSpec.ofChange runoffTidesWrong)

/- THE SECOND FORM. 'bulk': how many values and letters a reading holds, each counted each time it is reached (what is shared counts as often as it is met; a slice's spare places count too). A statement '..UptoSaid' is the law's where the arguments, and the package variables that the reading takes, are together of bulk at most 1048576: NARROWER than '..Said'. Prove '..Said' where nothing that the law and all that it calls make is longer than what came in: it says more and counts as full. Else prove '..UptoSaid'. A law counts once. -/
mutual
def uptoBulk {H : Type} : DataW H → Nat
  | .lit (.string bytes) => bytes.length + 1
  | .lit _ => 1
  | .nil => 1
  | .ptr d => uptoBulk d + 1
  | .slice elems spare => uptoBulkAll elems + uptoBulkAll spare + 1
  | .agg parts => uptoBulkAll parts + 1
  | .iface _ d => uptoBulk d + 1
  | .map entries => uptoBulkEntries entries + 1
  | .held _ => 1
def uptoBulkAll {H : Type} : List (DataW H) → Nat
  | [] => 0
  | d :: r => uptoBulk d + uptoBulkAll r
def uptoBulkEntries {H : Type} : List (Lit × DataW H) → Nat
  | [] => 0
  | x :: r => uptoBulkEntry x + uptoBulkEntries r
def uptoBulkEntry {H : Type} : Lit × DataW H → Nat
  | (.string bytes, d) => bytes.length + uptoBulk d + 1
  | (_, d) => uptoBulk d + 1
 end
def uptoSmall : (H : Type) → List (DataW H) → Bool := fun _ ds => decide (uptoBulkAll ds ≤ 1048576)
def OpenSpec.upto (s : _root_.Go.ChangeSpec) : _root_.Go.OpenSpec := { _root_.Go.OpenSpec.ofChange s with cond := some uptoSmall }

/-- 'barragelaw07.RunoffFinds', WHERE WHAT IT READS IS OF BULK AT MOST 1048576: true; the input reads as it did. -/
def runoffFindsUptoRow : OpenClaim := { program := "ytmckmlmfilmiaaa", sum := "e65cc36554621c8d9d1c70a4306b85795dc81682bb94533aa250c9174092322e", func := "barrage/barragelaw07.RunoffFinds", spec := "runoffFinds", unfollowed := true, recurses := true, plainKeys := false, apart := false, narrowed := true }
def RunoffFindsUptoSaid : Prop := runoffFindsUptoRow.holds Try.pinned (OpenSpec.upto runoffFindsSpec)

/-- 'barragelaw07.RunoffMore', WHERE WHAT IT READS IS OF BULK AT MOST 1048576: true; the input reads as it did. -/
def runoffMoreUptoRow : OpenClaim := { program := "ytmckmlmfilmiaaa", sum := "e65cc36554621c8d9d1c70a4306b85795dc81682bb94533aa250c9174092322e", func := "barrage/barragelaw07.RunoffMore", spec := "runoffMore", unfollowed := true, recurses := true, plainKeys := false, apart := false, narrowed := true }
def RunoffMoreUptoSaid : Prop := runoffMoreUptoRow.holds Try.pinned (OpenSpec.upto runoffMoreSpec)

/-- 'barragelaw07.RunoffDoes', WHERE WHAT IT READS IS OF BULK AT MOST 1048576: true; the input reads as it did. -/
def runoffDoesUptoRow : OpenClaim := { program := "ytmckmlmfilmiaaa", sum := "e65cc36554621c8d9d1c70a4306b85795dc81682bb94533aa250c9174092322e", func := "barrage/barragelaw07.RunoffDoes", spec := "runoffDoes", unfollowed := true, recurses := true, plainKeys := false, apart := false, narrowed := true }
def RunoffDoesUptoSaid : Prop := runoffDoesUptoRow.holds Try.pinned (OpenSpec.upto runoffDoesSpec)

/-- 'barragelaw07.RunoffLeast', WHERE WHAT IT READS IS OF BULK AT MOST 1048576: true; the input reads as it did. -/
def runoffLeastUptoRow : OpenClaim := { program := "ytmckmlmfilmiaaa", sum := "e65cc36554621c8d9d1c70a4306b85795dc81682bb94533aa250c9174092322e", func := "barrage/barragelaw07.RunoffLeast", spec := "runoffLeast", unfollowed := true, recurses := true, plainKeys := false, apart := false, narrowed := true }
def RunoffLeastUptoSaid : Prop := runoffLeastUptoRow.holds Try.pinned (OpenSpec.upto runoffLeastSpec)

/-- 'barragelaw07.RunoffLow', WHERE WHAT IT READS IS OF BULK AT MOST 1048576: true; the input reads as it did. -/
def runoffLowUptoRow : OpenClaim := { program := "ytmckmlmfilmiaaa", sum := "e65cc36554621c8d9d1c70a4306b85795dc81682bb94533aa250c9174092322e", func := "barrage/barragelaw07.RunoffLow", spec := "runoffLow", unfollowed := true, recurses := true, plainKeys := false, apart := false, narrowed := true }
def RunoffLowUptoSaid : Prop := runoffLowUptoRow.holds Try.pinned (OpenSpec.upto runoffLowSpec)

/-- 'barragelaw07.RunoffUses', WHERE WHAT IT READS IS OF BULK AT MOST 1048576: true; the input reads as it did. -/
def runoffUsesUptoRow : OpenClaim := { program := "ytmckmlmfilmiaaa", sum := "e65cc36554621c8d9d1c70a4306b85795dc81682bb94533aa250c9174092322e", func := "barrage/barragelaw07.RunoffUses", spec := "runoffUses", unfollowed := true, recurses := true, plainKeys := false, apart := false, narrowed := true }
def RunoffUsesUptoSaid : Prop := runoffUsesUptoRow.holds Try.pinned (OpenSpec.upto runoffUsesSpec)

/-- 'barragelaw07.RunoffKnown', WHERE WHAT IT READS IS OF BULK AT MOST 1048576: true; the input reads as it did. -/
def runoffKnownUptoRow : OpenClaim := { program := "ytmckmlmfilmiaaa", sum := "e65cc36554621c8d9d1c70a4306b85795dc81682bb94533aa250c9174092322e", func := "barrage/barragelaw07.RunoffKnown", spec := "runoffKnown", unfollowed := true, recurses := true, plainKeys := false, apart := false, narrowed := true }
def RunoffKnownUptoSaid : Prop := runoffKnownUptoRow.holds Try.pinned (OpenSpec.upto runoffKnownSpec)

/-- 'barragelaw07.RunoffTides', WHERE WHAT IT READS IS OF BULK AT MOST 1048576: true; the input reads as it did. -/
def runoffTidesUptoRow : OpenClaim := { program := "ytmckmlmfilmiaaa", sum := "e65cc36554621c8d9d1c70a4306b85795dc81682bb94533aa250c9174092322e", func := "barrage/barragelaw07.RunoffTides", spec := "runoffTides", unfollowed := true, recurses := true, plainKeys := false, apart := false, narrowed := true }
def RunoffTidesUptoSaid : Prop := runoffTidesUptoRow.holds Try.pinned (OpenSpec.upto runoffTidesSpec)

end Rows
end Go.Proofs.Ytmckmlmfilmiaaa
