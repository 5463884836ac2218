/-
  No cell of these rows narrows 'for every input' (looked for: loops, veiled, ifaces, maps, wideKeys, modest, calm, conditions, laid).
  DERIVED. THE GIVEN ROWS OF THIS SEAT. 2 by the template 'for every input the law returns true; each argument reads behind the call as it read before'; 0 by the template 'total and deterministic' (their statements: YtlfjdbilblfknaaTotals.lean).
  GIVEN WITH THE SEED: the statements are not yours to turn. If you find one false, say at which input.
  Laid BY PROGRAM, IN A SANDBOX (cutbox-rows.mjs): the forced cells as the released guide's own fill.sh prints them over the translation b821252ffea95ac0… (all of the seat's roots in one cut). By AI agents, Wed Nov 11 2026. No macro, syntax, notation, axiom, sorry.
-/
import Derived.Test.YtlfjdbilblfknaaChecked
import GoSem.Claim
import GoSem.ClaimJoined
import GoSem.ClaimMapViews
import Derived.JoinedTies
import Derived.KernelRfl
namespace Go.Proofs.Ytlfjdbilblfknaa
/- THE CELL 'sum', in the pinned program and in every row, IS THE sha256 OF THE DUMP (.gsa) THAT YtlfjdbilblfknaaProg.lean LOADS. Nothing in Lean hashes anything: it is a label: what it is worth is what the hold of that sum in a sandbox is worth. -/
noncomputable def Try.pinned : Pinned := { name := "ytlfjdbilblfknaa", sum := "b821252ffea95ac04f2b6f706091a16d319e9bd8491c28e2d9377eff66bdb962", checked := Try.checked }
namespace Rows
def none {H : Type} : Left H := { results := [], args := [] }

/-- 'barragelaw07.RunoffMore': WHATEVER THE INPUT: true; the input reads as it did. -/
def runoffMoreSpec : ChangeSpec := { name := "runoffMore", fn := fun _ => fun
  | [d1, d2] => { results := [.lit (.bool true)], args := [d1, d2] }
  | _ => none }
def runoffMoreRow : OpenClaim := { program := "ytlfjdbilblfknaa", sum := "b821252ffea95ac04f2b6f706091a16d319e9bd8491c28e2d9377eff66bdb962", func := "barrage/barragelaw07.RunoffMore", spec := "runoffMore", unfollowed := true, recurses := true, plainKeys := false, apart := false }
def RunoffMoreSaid : Prop := runoffMoreRow.holds Try.pinned (OpenSpec.ofChange runoffMoreSpec)

/-- ITS FALSE NEIGHBOUR: 'it returns false'. Refute it at one input. -/
def runoffMoreWrong : ChangeSpec := { name := "runoffMore", fn := fun _ => fun
  | [d1, d2] => { results := [.lit (.bool false)], args := [d1, d2] }
  | _ => none }
def RunoffMoreWrongFalsely : Prop := runoffMoreRow.holds Try.pinned (OpenSpec.ofChange runoffMoreWrong)

/-- 'barragelaw07.RunoffKnown': WHATEVER THE INPUT: true; the input reads as it did. -/
def runoffKnownSpec : ChangeSpec := { name := "runoffKnown", fn := fun _ => fun
  | [] => { results := [.lit (.bool true)], args := [] }
  | _ => none }
def runoffKnownRow : OpenClaim := { program := "ytlfjdbilblfknaa", sum := "b821252ffea95ac04f2b6f706091a16d319e9bd8491c28e2d9377eff66bdb962", func := "barrage/barragelaw07.RunoffKnown", spec := "runoffKnown", unfollowed := true, recurses := true, plainKeys := false, apart := false }
def RunoffKnownSaid : Prop := runoffKnownRow.holds Try.pinned (OpenSpec.ofChange runoffKnownSpec)

/-- ITS FALSE NEIGHBOUR: 'it returns false'. Refute it at one input. -/
def runoffKnownWrong : ChangeSpec := { name := "runoffKnown", fn := fun _ => fun
  | [] => { results := [.lit (.bool false)], args := [] }
  | _ => none }
def RunoffKnownWrongFalsely : Prop := runoffKnownRow.holds Try.pinned (OpenSpec.ofChange runoffKnownWrong)

/- THE SECOND FORM. 'bulk': how many values and letters a reading holds, each counted each time it is reached (what is shared counts as often as it is met; a slice's spare places count too). A statement '..UptoSaid' is the law's where the arguments, and the package variables that the reading takes, are together of bulk at most 1048576: NARROWER than '..Said'. Prove '..Said' where nothing that the law and all that it calls make is longer than what came in: it says more and counts as full. Else prove '..UptoSaid'. A law counts once. -/
mutual
def uptoBulk {H : Type} : DataW H → Nat
  | .lit (.string bytes) => bytes.length + 1
  | .lit _ => 1
  | .nil => 1
  | .ptr d => uptoBulk d + 1
  | .slice elems spare => uptoBulkAll elems + uptoBulkAll spare + 1
  | .agg parts => uptoBulkAll parts + 1
  | .iface _ d => uptoBulk d + 1
  | .map entries => uptoBulkEntries entries + 1
  | .held _ => 1
def uptoBulkAll {H : Type} : List (DataW H) → Nat
  | [] => 0
  | d :: r => uptoBulk d + uptoBulkAll r
def uptoBulkEntries {H : Type} : List (Lit × DataW H) → Nat
  | [] => 0
  | x :: r => uptoBulkEntry x + uptoBulkEntries r
def uptoBulkEntry {H : Type} : Lit × DataW H → Nat
  | (.string bytes, d) => bytes.length + uptoBulk d + 1
  | (_, d) => uptoBulk d + 1
 end
def uptoSmall : (H : Type) → List (DataW H) → Bool := fun _ ds => decide (uptoBulkAll ds ≤ 1048576)
def OpenSpec.upto (s : _root_.Go.ChangeSpec) : _root_.Go.OpenSpec := { _root_.Go.OpenSpec.ofChange s with cond := some uptoSmall }

/-- 'barragelaw07.RunoffMore', WHERE WHAT IT READS IS OF BULK AT MOST 1048576: true; the input reads as it did. -/
def runoffMoreUptoRow : OpenClaim := { program := "ytlfjdbilblfknaa", sum := "b821252ffea95ac04f2b6f706091a16d319e9bd8491c28e2d9377eff66bdb962", func := "barrage/barragelaw07.RunoffMore", spec := "runoffMore", unfollowed := true, recurses := true, plainKeys := false, apart := false, narrowed := true }
def RunoffMoreUptoSaid : Prop := runoffMoreUptoRow.holds Try.pinned (OpenSpec.upto runoffMoreSpec)

/-- 'barragelaw07.RunoffKnown', WHERE WHAT IT READS IS OF BULK AT MOST 1048576: true; the input reads as it did. -/
def runoffKnownUptoRow : OpenClaim := { program := "ytlfjdbilblfknaa", sum := "b821252ffea95ac04f2b6f706091a16d319e9bd8491c28e2d9377eff66bdb962", func := "barrage/barragelaw07.RunoffKnown", spec := "runoffKnown", unfollowed := true, recurses := true, plainKeys := false, apart := false, narrowed := true }
def RunoffKnownUptoSaid : Prop := runoffKnownUptoRow.holds Try.pinned (OpenSpec.upto runoffKnownSpec)

end Rows
end Go.Proofs.Ytlfjdbilblfknaa
