/-
  No cell of these rows narrows 'for every input' (looked for: loops, veiled, ifaces, maps, wideKeys, modest, calm, conditions, laid).
  DERIVED. THE GIVEN ROWS OF THIS SEAT. 5 by the template 'for every input the law returns true; each argument reads behind the call as it read before'; 0 by the template 'total and deterministic' (their statements: YtmpaiphakjogjaaGreatTotals.lean).
  GIVEN WITH THE SEED: the statements are not yours to turn. If you find one false, say at which input.
  Laid BY PROGRAM, IN A SANDBOX (cutbox-rows.mjs): the forced cells as the released guide's own fill.sh prints them over the translation 934d7730055ac8fc… (all of the seat's roots in one cut). By AI agents, Wed Nov 11 2026. No macro, syntax, notation, axiom, sorry.
-/
import Derived.Test.YtmpaiphakjogjaaGreatChecked
import GoSem.Claim
import GoSem.ClaimJoined
import GoSem.ClaimMapViews
import Derived.JoinedTies
import Derived.KernelRfl
namespace Go.Proofs.YtmpaiphakjogjaaGreat
/- THE CELL 'sum', in the pinned program and in every row, IS THE sha256 OF THE DUMP (.gsa) THAT YtmpaiphakjogjaaGreatProg.lean LOADS. Nothing in Lean hashes anything: it is a label: what it is worth is what the hold of that sum in a sandbox is worth. -/
noncomputable def Tryz.pinned : Pinned := { name := "ytmpaiphakjogjaagreat", sum := "934d7730055ac8fce4eb2f862eb1f5d365a0395629755116a3954ea8ca7f4b9d", checked := Tryz.checked }
namespace Rows
def none {H : Type} : Left H := { results := [], args := [] }

/-- 'barragelaw05.ClosureLast': WHATEVER THE INPUT: true; the input reads as it did. -/
def closureLastSpec : ChangeSpec := { name := "closureLast", fn := fun _ => fun
  | [d1, d2, d3] => { results := [.lit (.bool true)], args := [d1, d2, d3] }
  | _ => none }
def closureLastRow : OpenClaim := { program := "ytmpaiphakjogjaagreat", sum := "934d7730055ac8fce4eb2f862eb1f5d365a0395629755116a3954ea8ca7f4b9d", func := "barrage/barragelaw05.ClosureLast", spec := "closureLast", unfollowed := true, recurses := true, plainKeys := false, apart := false }
def ClosureLastSaid : Prop := closureLastRow.holds Tryz.pinned (OpenSpec.ofChange closureLastSpec)

/-- ITS FALSE NEIGHBOUR: 'it returns false'. Refute it at one input. -/
def closureLastWrong : ChangeSpec := { name := "closureLast", fn := fun _ => fun
  | [d1, d2, d3] => { results := [.lit (.bool false)], args := [d1, d2, d3] }
  | _ => none }
def ClosureLastWrongFalsely : Prop := closureLastRow.holds Tryz.pinned (OpenSpec.ofChange closureLastWrong)

/-- 'barragelaw05.ClosureDecides': WHATEVER THE INPUT: true; the input reads as it did. -/
def closureDecidesSpec : ChangeSpec := { name := "closureDecides", fn := fun _ => fun
  | [d1, d2] => { results := [.lit (.bool true)], args := [d1, d2] }
  | _ => none }
def closureDecidesRow : OpenClaim := { program := "ytmpaiphakjogjaagreat", sum := "934d7730055ac8fce4eb2f862eb1f5d365a0395629755116a3954ea8ca7f4b9d", func := "barrage/barragelaw05.ClosureDecides", spec := "closureDecides", unfollowed := true, recurses := true, plainKeys := false, apart := false }
def ClosureDecidesSaid : Prop := closureDecidesRow.holds Tryz.pinned (OpenSpec.ofChange closureDecidesSpec)

/-- ITS FALSE NEIGHBOUR: 'it returns false'. Refute it at one input. -/
def closureDecidesWrong : ChangeSpec := { name := "closureDecides", fn := fun _ => fun
  | [d1, d2] => { results := [.lit (.bool false)], args := [d1, d2] }
  | _ => none }
def ClosureDecidesWrongFalsely : Prop := closureDecidesRow.holds Tryz.pinned (OpenSpec.ofChange closureDecidesWrong)

/-- 'barragelaw05.ClosureInner': WHATEVER THE INPUT: true; the input reads as it did. -/
def closureInnerSpec : ChangeSpec := { name := "closureInner", fn := fun _ => fun
  | [d1, d2, d3] => { results := [.lit (.bool true)], args := [d1, d2, d3] }
  | _ => none }
def closureInnerRow : OpenClaim := { program := "ytmpaiphakjogjaagreat", sum := "934d7730055ac8fce4eb2f862eb1f5d365a0395629755116a3954ea8ca7f4b9d", func := "barrage/barragelaw05.ClosureInner", spec := "closureInner", unfollowed := true, recurses := true, plainKeys := false, apart := false }
def ClosureInnerSaid : Prop := closureInnerRow.holds Tryz.pinned (OpenSpec.ofChange closureInnerSpec)

/-- ITS FALSE NEIGHBOUR: 'it returns false'. Refute it at one input. -/
def closureInnerWrong : ChangeSpec := { name := "closureInner", fn := fun _ => fun
  | [d1, d2, d3] => { results := [.lit (.bool false)], args := [d1, d2, d3] }
  | _ => none }
def ClosureInnerWrongFalsely : Prop := closureInnerRow.holds Tryz.pinned (OpenSpec.ofChange closureInnerWrong)

/-- 'barragelaw05.ClosureAccepts': WHATEVER THE INPUT: true; the input reads as it did. -/
def closureAcceptsSpec : ChangeSpec := { name := "closureAccepts", fn := fun _ => fun
  | [d1, d2, d3] => { results := [.lit (.bool true)], args := [d1, d2, d3] }
  | _ => none }
def closureAcceptsRow : OpenClaim := { program := "ytmpaiphakjogjaagreat", sum := "934d7730055ac8fce4eb2f862eb1f5d365a0395629755116a3954ea8ca7f4b9d", func := "barrage/barragelaw05.ClosureAccepts", spec := "closureAccepts", unfollowed := true, recurses := true, plainKeys := false, apart := false }
def ClosureAcceptsSaid : Prop := closureAcceptsRow.holds Tryz.pinned (OpenSpec.ofChange closureAcceptsSpec)

/-- ITS FALSE NEIGHBOUR: 'it returns false'. Refute it at one input. -/
def closureAcceptsWrong : ChangeSpec := { name := "closureAccepts", fn := fun _ => fun
  | [d1, d2, d3] => { results := [.lit (.bool false)], args := [d1, d2, d3] }
  | _ => none }
def ClosureAcceptsWrongFalsely : Prop := closureAcceptsRow.holds Tryz.pinned (OpenSpec.ofChange closureAcceptsWrong)

/-- 'barragelaw05.ClosureKeeps': WHATEVER THE INPUT: true; the input reads as it did. -/
def closureKeepsSpec : ChangeSpec := { name := "closureKeeps", fn := fun _ => fun
  | [d1, d2, d3] => { results := [.lit (.bool true)], args := [d1, d2, d3] }
  | _ => none }
def closureKeepsRow : OpenClaim := { program := "ytmpaiphakjogjaagreat", sum := "934d7730055ac8fce4eb2f862eb1f5d365a0395629755116a3954ea8ca7f4b9d", func := "barrage/barragelaw05.ClosureKeeps", spec := "closureKeeps", unfollowed := true, recurses := true, plainKeys := false, apart := false }
def ClosureKeepsSaid : Prop := closureKeepsRow.holds Tryz.pinned (OpenSpec.ofChange closureKeepsSpec)

/-- ITS FALSE NEIGHBOUR: 'it returns false'. Refute it at one input. -/
def closureKeepsWrong : ChangeSpec := { name := "closureKeeps", fn := fun _ => fun
  | [d1, d2, d3] => { results := [.lit (.bool false)], args := [d1, d2, d3] }
  | _ => none }
def ClosureKeepsWrongFalsely : Prop := closureKeepsRow.holds Tryz.pinned (OpenSpec.ofChange closureKeepsWrong)

/- THE SECOND FORM. 'bulk': how many values and letters a reading holds, each counted each time it is reached (what is shared counts as often as it is met; a slice's spare places count too). A statement '..UptoSaid' is the law's where the arguments, and the package variables that the reading takes, are together of bulk at most 1048576: NARROWER than '..Said'. Prove '..Said' where nothing that the law and all that it calls make is longer than what came in: it says more and counts as full. Else prove '..UptoSaid'. A law counts once. -/
mutual
def uptoBulk {H : Type} : DataW H → Nat
  | .lit (.string bytes) => bytes.length + 1
  | .lit _ => 1
  | .nil => 1
  | .ptr d => uptoBulk d + 1
  | .slice elems spare => uptoBulkAll elems + uptoBulkAll spare + 1
  | .agg parts => uptoBulkAll parts + 1
  | .iface _ d => uptoBulk d + 1
  | .map entries => uptoBulkEntries entries + 1
  | .held _ => 1
def uptoBulkAll {H : Type} : List (DataW H) → Nat
  | [] => 0
  | d :: r => uptoBulk d + uptoBulkAll r
def uptoBulkEntries {H : Type} : List (Lit × DataW H) → Nat
  | [] => 0
  | x :: r => uptoBulkEntry x + uptoBulkEntries r
def uptoBulkEntry {H : Type} : Lit × DataW H → Nat
  | (.string bytes, d) => bytes.length + uptoBulk d + 1
  | (_, d) => uptoBulk d + 1
 end
def uptoSmall : (H : Type) → List (DataW H) → Bool := fun _ ds => decide (uptoBulkAll ds ≤ 1048576)
def OpenSpec.upto (s : _root_.Go.ChangeSpec) : _root_.Go.OpenSpec := { _root_.Go.OpenSpec.ofChange s with cond := some uptoSmall }

/-- 'barragelaw05.ClosureLast', WHERE WHAT IT READS IS OF BULK AT MOST 1048576: true; the input reads as it did. -/
def closureLastUptoRow : OpenClaim := { program := "ytmpaiphakjogjaagreat", sum := "934d7730055ac8fce4eb2f862eb1f5d365a0395629755116a3954ea8ca7f4b9d", func := "barrage/barragelaw05.ClosureLast", spec := "closureLast", unfollowed := true, recurses := true, plainKeys := false, apart := false, narrowed := true }
def ClosureLastUptoSaid : Prop := closureLastUptoRow.holds Tryz.pinned (OpenSpec.upto closureLastSpec)

/-- 'barragelaw05.ClosureDecides', WHERE WHAT IT READS IS OF BULK AT MOST 1048576: true; the input reads as it did. -/
def closureDecidesUptoRow : OpenClaim := { program := "ytmpaiphakjogjaagreat", sum := "934d7730055ac8fce4eb2f862eb1f5d365a0395629755116a3954ea8ca7f4b9d", func := "barrage/barragelaw05.ClosureDecides", spec := "closureDecides", unfollowed := true, recurses := true, plainKeys := false, apart := false, narrowed := true }
def ClosureDecidesUptoSaid : Prop := closureDecidesUptoRow.holds Tryz.pinned (OpenSpec.upto closureDecidesSpec)

/-- 'barragelaw05.ClosureInner', WHERE WHAT IT READS IS OF BULK AT MOST 1048576: true; the input reads as it did. -/
def closureInnerUptoRow : OpenClaim := { program := "ytmpaiphakjogjaagreat", sum := "934d7730055ac8fce4eb2f862eb1f5d365a0395629755116a3954ea8ca7f4b9d", func := "barrage/barragelaw05.ClosureInner", spec := "closureInner", unfollowed := true, recurses := true, plainKeys := false, apart := false, narrowed := true }
def ClosureInnerUptoSaid : Prop := closureInnerUptoRow.holds Tryz.pinned (OpenSpec.upto closureInnerSpec)

/-- 'barragelaw05.ClosureAccepts', WHERE WHAT IT READS IS OF BULK AT MOST 1048576: true; the input reads as it did. -/
def closureAcceptsUptoRow : OpenClaim := { program := "ytmpaiphakjogjaagreat", sum := "934d7730055ac8fce4eb2f862eb1f5d365a0395629755116a3954ea8ca7f4b9d", func := "barrage/barragelaw05.ClosureAccepts", spec := "closureAccepts", unfollowed := true, recurses := true, plainKeys := false, apart := false, narrowed := true }
def ClosureAcceptsUptoSaid : Prop := closureAcceptsUptoRow.holds Tryz.pinned (OpenSpec.upto closureAcceptsSpec)

/-- 'barragelaw05.ClosureKeeps', WHERE WHAT IT READS IS OF BULK AT MOST 1048576: true; the input reads as it did. -/
def closureKeepsUptoRow : OpenClaim := { program := "ytmpaiphakjogjaagreat", sum := "934d7730055ac8fce4eb2f862eb1f5d365a0395629755116a3954ea8ca7f4b9d", func := "barrage/barragelaw05.ClosureKeeps", spec := "closureKeeps", unfollowed := true, recurses := true, plainKeys := false, apart := false, narrowed := true }
def ClosureKeepsUptoSaid : Prop := closureKeepsUptoRow.holds Tryz.pinned (OpenSpec.upto closureKeepsSpec)

end Rows
end Go.Proofs.YtmpaiphakjogjaaGreat
