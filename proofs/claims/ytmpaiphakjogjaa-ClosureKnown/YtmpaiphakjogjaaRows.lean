/-
  No cell of these rows narrows 'for every input' (looked for: loops, veiled, ifaces, maps, wideKeys, modest, calm, conditions, laid).
  DERIVED. THE GIVEN ROWS OF THIS SEAT. 8 by the template 'for every input the law returns true; each argument reads behind the call as it read before'; 0 by the template 'total and deterministic' (their statements: YtmpaiphakjogjaaTotals.lean).
  GIVEN WITH THE SEED: the statements are not yours to turn. If you find one false, say at which input.
  Laid BY PROGRAM, IN A SANDBOX (cutbox-rows.mjs): the forced cells as the released guide's own fill.sh prints them over the translation 7fc1db539dd0bcb1… (all of the seat's roots in one cut). By AI agents, Wed Nov 11 2026. No macro, syntax, notation, axiom, sorry.
-/
import Derived.Test.YtmpaiphakjogjaaChecked
import GoSem.Claim
import GoSem.ClaimJoined
import GoSem.ClaimMapViews
import Derived.JoinedTies
import Derived.KernelRfl
namespace Go.Proofs.Ytmpaiphakjogjaa
/- THE CELL 'sum', in the pinned program and in every row, IS THE sha256 OF THE DUMP (.gsa) THAT YtmpaiphakjogjaaProg.lean LOADS. Nothing in Lean hashes anything: it is a label: what it is worth is what the hold of that sum in a sandbox is worth. -/
noncomputable def Try.pinned : Pinned := { name := "ytmpaiphakjogjaa", sum := "7fc1db539dd0bcb1fe67944a9269762c4fa0a82ad9cddeaa749bd6fa7ca5720e", checked := Try.checked }
namespace Rows
def none {H : Type} : Left H := { results := [], args := [] }

/-- 'barragelaw05.ClosureChecks': WHATEVER THE INPUT: true; the input reads as it did. -/
def closureChecksSpec : ChangeSpec := { name := "closureChecks", fn := fun _ => fun
  | [d1, d2] => { results := [.lit (.bool true)], args := [d1, d2] }
  | _ => none }
def closureChecksRow : OpenClaim := { program := "ytmpaiphakjogjaa", sum := "7fc1db539dd0bcb1fe67944a9269762c4fa0a82ad9cddeaa749bd6fa7ca5720e", func := "barrage/barragelaw05.ClosureChecks", spec := "closureChecks", unfollowed := true, recurses := true, plainKeys := false, apart := false }
def ClosureChecksSaid : Prop := closureChecksRow.holds Try.pinned (OpenSpec.ofChange closureChecksSpec)

/-- ITS FALSE NEIGHBOUR: 'it returns false'. Refute it at one input. -/
def closureChecksWrong : ChangeSpec := { name := "closureChecks", fn := fun _ => fun
  | [d1, d2] => { results := [.lit (.bool false)], args := [d1, d2] }
  | _ => none }
def ClosureChecksWrongFalsely : Prop := closureChecksRow.holds Try.pinned (OpenSpec.ofChange closureChecksWrong)

/-- 'barragelaw05.ClosureLess': WHATEVER THE INPUT: true; the input reads as it did. -/
def closureLessSpec : ChangeSpec := { name := "closureLess", fn := fun _ => fun
  | [d1, d2, d3] => { results := [.lit (.bool true)], args := [d1, d2, d3] }
  | _ => none }
def closureLessRow : OpenClaim := { program := "ytmpaiphakjogjaa", sum := "7fc1db539dd0bcb1fe67944a9269762c4fa0a82ad9cddeaa749bd6fa7ca5720e", func := "barrage/barragelaw05.ClosureLess", spec := "closureLess", unfollowed := true, recurses := true, plainKeys := false, apart := false }
def ClosureLessSaid : Prop := closureLessRow.holds Try.pinned (OpenSpec.ofChange closureLessSpec)

/-- ITS FALSE NEIGHBOUR: 'it returns false'. Refute it at one input. -/
def closureLessWrong : ChangeSpec := { name := "closureLess", fn := fun _ => fun
  | [d1, d2, d3] => { results := [.lit (.bool false)], args := [d1, d2, d3] }
  | _ => none }
def ClosureLessWrongFalsely : Prop := closureLessRow.holds Try.pinned (OpenSpec.ofChange closureLessWrong)

/-- 'barragelaw05.ClosureOpens': WHATEVER THE INPUT: true; the input reads as it did. -/
def closureOpensSpec : ChangeSpec := { name := "closureOpens", fn := fun _ => fun
  | [d1, d2] => { results := [.lit (.bool true)], args := [d1, d2] }
  | _ => none }
def closureOpensRow : OpenClaim := { program := "ytmpaiphakjogjaa", sum := "7fc1db539dd0bcb1fe67944a9269762c4fa0a82ad9cddeaa749bd6fa7ca5720e", func := "barrage/barragelaw05.ClosureOpens", spec := "closureOpens", unfollowed := true, recurses := true, plainKeys := false, apart := false }
def ClosureOpensSaid : Prop := closureOpensRow.holds Try.pinned (OpenSpec.ofChange closureOpensSpec)

/-- ITS FALSE NEIGHBOUR: 'it returns false'. Refute it at one input. -/
def closureOpensWrong : ChangeSpec := { name := "closureOpens", fn := fun _ => fun
  | [d1, d2] => { results := [.lit (.bool false)], args := [d1, d2] }
  | _ => none }
def ClosureOpensWrongFalsely : Prop := closureOpensRow.holds Try.pinned (OpenSpec.ofChange closureOpensWrong)

/-- 'barragelaw05.ClosureSafe': WHATEVER THE INPUT: true; the input reads as it did. -/
def closureSafeSpec : ChangeSpec := { name := "closureSafe", fn := fun _ => fun
  | [d1, d2, d3] => { results := [.lit (.bool true)], args := [d1, d2, d3] }
  | _ => none }
def closureSafeRow : OpenClaim := { program := "ytmpaiphakjogjaa", sum := "7fc1db539dd0bcb1fe67944a9269762c4fa0a82ad9cddeaa749bd6fa7ca5720e", func := "barrage/barragelaw05.ClosureSafe", spec := "closureSafe", unfollowed := true, recurses := true, plainKeys := false, apart := false }
def ClosureSafeSaid : Prop := closureSafeRow.holds Try.pinned (OpenSpec.ofChange closureSafeSpec)

/-- ITS FALSE NEIGHBOUR: 'it returns false'. Refute it at one input. -/
def closureSafeWrong : ChangeSpec := { name := "closureSafe", fn := fun _ => fun
  | [d1, d2, d3] => { results := [.lit (.bool false)], args := [d1, d2, d3] }
  | _ => none }
def ClosureSafeWrongFalsely : Prop := closureSafeRow.holds Try.pinned (OpenSpec.ofChange closureSafeWrong)

/-- 'barragelaw05.ClosureBest': WHATEVER THE INPUT: true; the input reads as it did. -/
def closureBestSpec : ChangeSpec := { name := "closureBest", fn := fun _ => fun
  | [d1, d2, d3] => { results := [.lit (.bool true)], args := [d1, d2, d3] }
  | _ => none }
def closureBestRow : OpenClaim := { program := "ytmpaiphakjogjaa", sum := "7fc1db539dd0bcb1fe67944a9269762c4fa0a82ad9cddeaa749bd6fa7ca5720e", func := "barrage/barragelaw05.ClosureBest", spec := "closureBest", unfollowed := true, recurses := true, plainKeys := false, apart := false }
def ClosureBestSaid : Prop := closureBestRow.holds Try.pinned (OpenSpec.ofChange closureBestSpec)

/-- ITS FALSE NEIGHBOUR: 'it returns false'. Refute it at one input. -/
def closureBestWrong : ChangeSpec := { name := "closureBest", fn := fun _ => fun
  | [d1, d2, d3] => { results := [.lit (.bool false)], args := [d1, d2, d3] }
  | _ => none }
def ClosureBestWrongFalsely : Prop := closureBestRow.holds Try.pinned (OpenSpec.ofChange closureBestWrong)

/-- 'barragelaw05.ClosureProves': WHATEVER THE INPUT: true; the input reads as it did. -/
def closureProvesSpec : ChangeSpec := { name := "closureProves", fn := fun _ => fun
  | [d1, d2] => { results := [.lit (.bool true)], args := [d1, d2] }
  | _ => none }
def closureProvesRow : OpenClaim := { program := "ytmpaiphakjogjaa", sum := "7fc1db539dd0bcb1fe67944a9269762c4fa0a82ad9cddeaa749bd6fa7ca5720e", func := "barrage/barragelaw05.ClosureProves", spec := "closureProves", unfollowed := true, recurses := true, plainKeys := false, apart := false }
def ClosureProvesSaid : Prop := closureProvesRow.holds Try.pinned (OpenSpec.ofChange closureProvesSpec)

/-- ITS FALSE NEIGHBOUR: 'it returns false'. Refute it at one input. -/
def closureProvesWrong : ChangeSpec := { name := "closureProves", fn := fun _ => fun
  | [d1, d2] => { results := [.lit (.bool false)], args := [d1, d2] }
  | _ => none }
def ClosureProvesWrongFalsely : Prop := closureProvesRow.holds Try.pinned (OpenSpec.ofChange closureProvesWrong)

/-- 'barragelaw05.ClosureInTime': WHATEVER THE INPUT: true; the input reads as it did. -/
def closureInTimeSpec : ChangeSpec := { name := "closureInTime", fn := fun _ => fun
  | [d1, d2, d3] => { results := [.lit (.bool true)], args := [d1, d2, d3] }
  | _ => none }
def closureInTimeRow : OpenClaim := { program := "ytmpaiphakjogjaa", sum := "7fc1db539dd0bcb1fe67944a9269762c4fa0a82ad9cddeaa749bd6fa7ca5720e", func := "barrage/barragelaw05.ClosureInTime", spec := "closureInTime", unfollowed := true, recurses := true, plainKeys := false, apart := false }
def ClosureInTimeSaid : Prop := closureInTimeRow.holds Try.pinned (OpenSpec.ofChange closureInTimeSpec)

/-- ITS FALSE NEIGHBOUR: 'it returns false'. Refute it at one input. -/
def closureInTimeWrong : ChangeSpec := { name := "closureInTime", fn := fun _ => fun
  | [d1, d2, d3] => { results := [.lit (.bool false)], args := [d1, d2, d3] }
  | _ => none }
def ClosureInTimeWrongFalsely : Prop := closureInTimeRow.holds Try.pinned (OpenSpec.ofChange closureInTimeWrong)

/-- 'barragelaw05.ClosureKnown': WHATEVER THE INPUT: true; the input reads as it did. -/
def closureKnownSpec : ChangeSpec := { name := "closureKnown", fn := fun _ => fun
  | [] => { results := [.lit (.bool true)], args := [] }
  | _ => none }
def closureKnownRow : OpenClaim := { program := "ytmpaiphakjogjaa", sum := "7fc1db539dd0bcb1fe67944a9269762c4fa0a82ad9cddeaa749bd6fa7ca5720e", func := "barrage/barragelaw05.ClosureKnown", spec := "closureKnown", unfollowed := true, recurses := true, plainKeys := false, apart := false }
def ClosureKnownSaid : Prop := closureKnownRow.holds Try.pinned (OpenSpec.ofChange closureKnownSpec)

/-- ITS FALSE NEIGHBOUR: 'it returns false'. Refute it at one input. -/
def closureKnownWrong : ChangeSpec := { name := "closureKnown", fn := fun _ => fun
  | [] => { results := [.lit (.bool false)], args := [] }
  | _ => none }
def ClosureKnownWrongFalsely : Prop := closureKnownRow.holds Try.pinned (OpenSpec.ofChange closureKnownWrong)

/- THE SECOND FORM. 'bulk': how many values and letters a reading holds, each counted each time it is reached (what is shared counts as often as it is met; a slice's spare places count too). A statement '..UptoSaid' is the law's where the arguments, and the package variables that the reading takes, are together of bulk at most 1048576: NARROWER than '..Said'. Prove '..Said' where nothing that the law and all that it calls make is longer than what came in: it says more and counts as full. Else prove '..UptoSaid'. A law counts once. -/
mutual
def uptoBulk {H : Type} : DataW H → Nat
  | .lit (.string bytes) => bytes.length + 1
  | .lit _ => 1
  | .nil => 1
  | .ptr d => uptoBulk d + 1
  | .slice elems spare => uptoBulkAll elems + uptoBulkAll spare + 1
  | .agg parts => uptoBulkAll parts + 1
  | .iface _ d => uptoBulk d + 1
  | .map entries => uptoBulkEntries entries + 1
  | .held _ => 1
def uptoBulkAll {H : Type} : List (DataW H) → Nat
  | [] => 0
  | d :: r => uptoBulk d + uptoBulkAll r
def uptoBulkEntries {H : Type} : List (Lit × DataW H) → Nat
  | [] => 0
  | x :: r => uptoBulkEntry x + uptoBulkEntries r
def uptoBulkEntry {H : Type} : Lit × DataW H → Nat
  | (.string bytes, d) => bytes.length + uptoBulk d + 1
  | (_, d) => uptoBulk d + 1
 end
def uptoSmall : (H : Type) → List (DataW H) → Bool := fun _ ds => decide (uptoBulkAll ds ≤ 1048576)
def OpenSpec.upto (s : _root_.Go.ChangeSpec) : _root_.Go.OpenSpec := { _root_.Go.OpenSpec.ofChange s with cond := some uptoSmall }

/-- 'barragelaw05.ClosureChecks', WHERE WHAT IT READS IS OF BULK AT MOST 1048576: true; the input reads as it did. -/
def closureChecksUptoRow : OpenClaim := { program := "ytmpaiphakjogjaa", sum := "7fc1db539dd0bcb1fe67944a9269762c4fa0a82ad9cddeaa749bd6fa7ca5720e", func := "barrage/barragelaw05.ClosureChecks", spec := "closureChecks", unfollowed := true, recurses := true, plainKeys := false, apart := false, narrowed := true }
def ClosureChecksUptoSaid : Prop := closureChecksUptoRow.holds Try.pinned (OpenSpec.upto closureChecksSpec)

/-- 'barragelaw05.ClosureLess', WHERE WHAT IT READS IS OF BULK AT MOST 1048576: true; the input reads as it did. -/
def closureLessUptoRow : OpenClaim := { program := "ytmpaiphakjogjaa", sum := "7fc1db539dd0bcb1fe67944a9269762c4fa0a82ad9cddeaa749bd6fa7ca5720e", func := "barrage/barragelaw05.ClosureLess", spec := "closureLess", unfollowed := true, recurses := true, plainKeys := false, apart := false, narrowed := true }
def ClosureLessUptoSaid : Prop := closureLessUptoRow.holds Try.pinned (OpenSpec.upto closureLessSpec)

/-- 'barragelaw05.ClosureOpens', WHERE WHAT IT READS IS OF BULK AT MOST 1048576: true; the input reads as it did. -/
def closureOpensUptoRow : OpenClaim := { program := "ytmpaiphakjogjaa", sum := "7fc1db539dd0bcb1fe67944a9269762c4fa0a82ad9cddeaa749bd6fa7ca5720e", func := "barrage/barragelaw05.ClosureOpens", spec := "closureOpens", unfollowed := true, recurses := true, plainKeys := false, apart := false, narrowed := true }
def ClosureOpensUptoSaid : Prop := closureOpensUptoRow.holds Try.pinned (OpenSpec.upto closureOpensSpec)

/-- 'barragelaw05.ClosureSafe', WHERE WHAT IT READS IS OF BULK AT MOST 1048576: true; the input reads as it did. -/
def closureSafeUptoRow : OpenClaim := { program := "ytmpaiphakjogjaa", sum := "7fc1db539dd0bcb1fe67944a9269762c4fa0a82ad9cddeaa749bd6fa7ca5720e", func := "barrage/barragelaw05.ClosureSafe", spec := "closureSafe", unfollowed := true, recurses := true, plainKeys := false, apart := false, narrowed := true }
def ClosureSafeUptoSaid : Prop := closureSafeUptoRow.holds Try.pinned (OpenSpec.upto closureSafeSpec)

/-- 'barragelaw05.ClosureBest', WHERE WHAT IT READS IS OF BULK AT MOST 1048576: true; the input reads as it did. -/
def closureBestUptoRow : OpenClaim := { program := "ytmpaiphakjogjaa", sum := "7fc1db539dd0bcb1fe67944a9269762c4fa0a82ad9cddeaa749bd6fa7ca5720e", func := "barrage/barragelaw05.ClosureBest", spec := "closureBest", unfollowed := true, recurses := true, plainKeys := false, apart := false, narrowed := true }
def ClosureBestUptoSaid : Prop := closureBestUptoRow.holds Try.pinned (OpenSpec.upto closureBestSpec)

/-- 'barragelaw05.ClosureProves', WHERE WHAT IT READS IS OF BULK AT MOST 1048576: true; the input reads as it did. -/
def closureProvesUptoRow : OpenClaim := { program := "ytmpaiphakjogjaa", sum := "7fc1db539dd0bcb1fe67944a9269762c4fa0a82ad9cddeaa749bd6fa7ca5720e", func := "barrage/barragelaw05.ClosureProves", spec := "closureProves", unfollowed := true, recurses := true, plainKeys := false, apart := false, narrowed := true }
def ClosureProvesUptoSaid : Prop := closureProvesUptoRow.holds Try.pinned (OpenSpec.upto closureProvesSpec)

/-- 'barragelaw05.ClosureInTime', WHERE WHAT IT READS IS OF BULK AT MOST 1048576: true; the input reads as it did. -/
def closureInTimeUptoRow : OpenClaim := { program := "ytmpaiphakjogjaa", sum := "7fc1db539dd0bcb1fe67944a9269762c4fa0a82ad9cddeaa749bd6fa7ca5720e", func := "barrage/barragelaw05.ClosureInTime", spec := "closureInTime", unfollowed := true, recurses := true, plainKeys := false, apart := false, narrowed := true }
def ClosureInTimeUptoSaid : Prop := closureInTimeUptoRow.holds Try.pinned (OpenSpec.upto closureInTimeSpec)

/-- 'barragelaw05.ClosureKnown', WHERE WHAT IT READS IS OF BULK AT MOST 1048576: true; the input reads as it did. -/
def closureKnownUptoRow : OpenClaim := { program := "ytmpaiphakjogjaa", sum := "7fc1db539dd0bcb1fe67944a9269762c4fa0a82ad9cddeaa749bd6fa7ca5720e", func := "barrage/barragelaw05.ClosureKnown", spec := "closureKnown", unfollowed := true, recurses := true, plainKeys := false, apart := false, narrowed := true }
def ClosureKnownUptoSaid : Prop := closureKnownUptoRow.holds Try.pinned (OpenSpec.upto closureKnownSpec)

end Rows
end Go.Proofs.Ytmpaiphakjogjaa
