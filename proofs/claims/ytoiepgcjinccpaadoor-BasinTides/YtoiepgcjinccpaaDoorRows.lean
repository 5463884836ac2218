/-
  NARROWER THAN 'FOR EVERY INPUT', by the rows' own cells (each row's printed sentence says how): BasinSteps: laid · BasinRuns: laid · BasinParts: laid · BasinStays: laid · BasinChecks: laid · BasinLevels: laid · BasinMonotone: laid · BasinLasts: laid · BasinRests: laid · BasinKnown: laid · BasinTotals: laid · BasinBalance: laid · BasinNeedsMore: laid · BasinTides: laid.
  DERIVED. THE GIVEN ROWS OF THIS SEAT. 14 by the template 'for every input the law returns true; each argument reads behind the call as it read before'; 0 by the template 'total and deterministic' (their statements: YtoiepgcjinccpaaDoorTotals.lean).
  GIVEN WITH THE SEED: the statements are not yours to turn. If you find one false, say at which input.
  Laid BY PROGRAM, IN A SANDBOX (cutbox-rows.mjs): the forced cells as the released guide's own fill.sh prints them over the translation 7de3771ae95d6a88… (all of the seat's roots in one cut). By AI agents, Wed Nov 11 2026. No macro, syntax, notation, axiom, sorry.
-/
import Derived.Test.YtoiepgcjinccpaaDoorChecked
import GoSem.Claim
import GoSem.ClaimJoined
import GoSem.ClaimMapViews
import Derived.JoinedTies
import Derived.KernelRfl
namespace Go.Proofs.YtoiepgcjinccpaaDoor
/- THE CELL 'sum', in the pinned program and in every row, IS THE sha256 OF THE DUMP (.gsa) THAT YtoiepgcjinccpaaDoorProg.lean LOADS. Nothing in Lean hashes anything: it is a label: what it is worth is what the hold of that sum in a sandbox is worth. -/
noncomputable def Tryd.pinned : Pinned := { name := "ytoiepgcjinccpaadoor", sum := "7de3771ae95d6a8829a911ffcc7656b617bb40a2a51fa447661461c62ebd6207", checked := Tryd.checked }
namespace Rows
def none {H : Type} : Left H := { results := [], args := [] }

/- WHAT THE LISTED PACKAGE-LEVEL VARIABLES READ AS WHEN THE CALL BEGINS. Each datum BY PROGRAM (the guide's laid-datum.mjs) off the statement by which the dump's own 'gosem.cut.vars' lays the variable. In a bare row this is a premise. The card (YtoiepgcjinccpaaDoorCards.lean) ties it to the program's text. -/
def laid_errors_errorType {H : Type} : DataW H := .iface "internal/reflectlite.rtype" (.agg [.ptr (.lit (.string [101, 114, 114, 111, 114]))])

/-- 'barragelaw04.BasinSteps': WHATEVER THE INPUT: true; the input reads as it did. -/
def basinStepsSpec : ChangeSpec := { name := "basinSteps", fn := fun _ => fun
  | [d1, d2, d3] => { results := [.lit (.bool true)], args := [d1, d2, d3] }
  | _ => none }
def basinStepsRow : OpenClaim := { program := "ytoiepgcjinccpaadoor", sum := "7de3771ae95d6a8829a911ffcc7656b617bb40a2a51fa447661461c62ebd6207", func := "barrage/barragelaw04.BasinSteps", spec := "basinSteps", inPlace := ["internal/reflectlite.ValueOf", "(internal/reflectlite.Value).Type", "(internal/reflectlite.Value).IsNil", "internal/reflectlite.TypeOf", "(internal/reflectlite.Value).Elem", "(internal/reflectlite.Value).Set"], unfollowed := true, recurses := true, named := ["errors.errorType"], apart := false, laid := [("errors.errorType", laid_errors_errorType)] }
def BasinStepsSaid : Prop := basinStepsRow.holds Tryd.pinned (OpenSpec.ofChange basinStepsSpec)

/-- ITS FALSE NEIGHBOUR: 'it returns false'. Refute it at one input. -/
def basinStepsWrong : ChangeSpec := { name := "basinSteps", fn := fun _ => fun
  | [d1, d2, d3] => { results := [.lit (.bool false)], args := [d1, d2, d3] }
  | _ => none }
def BasinStepsWrongFalsely : Prop := basinStepsRow.holds Tryd.pinned (OpenSpec.ofChange basinStepsWrong)

/-- 'barragelaw04.BasinRuns': WHATEVER THE INPUT: true; the input reads as it did. -/
def basinRunsSpec : ChangeSpec := { name := "basinRuns", fn := fun _ => fun
  | [d1, d2, d3] => { results := [.lit (.bool true)], args := [d1, d2, d3] }
  | _ => none }
def basinRunsRow : OpenClaim := { program := "ytoiepgcjinccpaadoor", sum := "7de3771ae95d6a8829a911ffcc7656b617bb40a2a51fa447661461c62ebd6207", func := "barrage/barragelaw04.BasinRuns", spec := "basinRuns", inPlace := ["internal/reflectlite.ValueOf", "(internal/reflectlite.Value).Type", "(internal/reflectlite.Value).IsNil", "internal/reflectlite.TypeOf", "(internal/reflectlite.Value).Elem", "(internal/reflectlite.Value).Set"], unfollowed := true, recurses := true, named := ["errors.errorType"], apart := false, laid := [("errors.errorType", laid_errors_errorType)] }
def BasinRunsSaid : Prop := basinRunsRow.holds Tryd.pinned (OpenSpec.ofChange basinRunsSpec)

/-- ITS FALSE NEIGHBOUR: 'it returns false'. Refute it at one input. -/
def basinRunsWrong : ChangeSpec := { name := "basinRuns", fn := fun _ => fun
  | [d1, d2, d3] => { results := [.lit (.bool false)], args := [d1, d2, d3] }
  | _ => none }
def BasinRunsWrongFalsely : Prop := basinRunsRow.holds Tryd.pinned (OpenSpec.ofChange basinRunsWrong)

/-- 'barragelaw04.BasinParts': WHATEVER THE INPUT: true; the input reads as it did. -/
def basinPartsSpec : ChangeSpec := { name := "basinParts", fn := fun _ => fun
  | [d1, d2, d3] => { results := [.lit (.bool true)], args := [d1, d2, d3] }
  | _ => none }
def basinPartsRow : OpenClaim := { program := "ytoiepgcjinccpaadoor", sum := "7de3771ae95d6a8829a911ffcc7656b617bb40a2a51fa447661461c62ebd6207", func := "barrage/barragelaw04.BasinParts", spec := "basinParts", inPlace := ["internal/reflectlite.ValueOf", "(internal/reflectlite.Value).Type", "(internal/reflectlite.Value).IsNil", "internal/reflectlite.TypeOf", "(internal/reflectlite.Value).Elem", "(internal/reflectlite.Value).Set"], unfollowed := true, recurses := true, named := ["errors.errorType"], apart := false, laid := [("errors.errorType", laid_errors_errorType)] }
def BasinPartsSaid : Prop := basinPartsRow.holds Tryd.pinned (OpenSpec.ofChange basinPartsSpec)

/-- ITS FALSE NEIGHBOUR: 'it returns false'. Refute it at one input. -/
def basinPartsWrong : ChangeSpec := { name := "basinParts", fn := fun _ => fun
  | [d1, d2, d3] => { results := [.lit (.bool false)], args := [d1, d2, d3] }
  | _ => none }
def BasinPartsWrongFalsely : Prop := basinPartsRow.holds Tryd.pinned (OpenSpec.ofChange basinPartsWrong)

/-- 'barragelaw04.BasinStays': WHATEVER THE INPUT: true; the input reads as it did. -/
def basinStaysSpec : ChangeSpec := { name := "basinStays", fn := fun _ => fun
  | [d1, d2] => { results := [.lit (.bool true)], args := [d1, d2] }
  | _ => none }
def basinStaysRow : OpenClaim := { program := "ytoiepgcjinccpaadoor", sum := "7de3771ae95d6a8829a911ffcc7656b617bb40a2a51fa447661461c62ebd6207", func := "barrage/barragelaw04.BasinStays", spec := "basinStays", inPlace := ["internal/reflectlite.ValueOf", "(internal/reflectlite.Value).Type", "(internal/reflectlite.Value).IsNil", "internal/reflectlite.TypeOf", "(internal/reflectlite.Value).Elem", "(internal/reflectlite.Value).Set"], unfollowed := true, recurses := true, named := ["errors.errorType"], apart := false, laid := [("errors.errorType", laid_errors_errorType)] }
def BasinStaysSaid : Prop := basinStaysRow.holds Tryd.pinned (OpenSpec.ofChange basinStaysSpec)

/-- ITS FALSE NEIGHBOUR: 'it returns false'. Refute it at one input. -/
def basinStaysWrong : ChangeSpec := { name := "basinStays", fn := fun _ => fun
  | [d1, d2] => { results := [.lit (.bool false)], args := [d1, d2] }
  | _ => none }
def BasinStaysWrongFalsely : Prop := basinStaysRow.holds Tryd.pinned (OpenSpec.ofChange basinStaysWrong)

/-- 'barragelaw04.BasinChecks': WHATEVER THE INPUT: true; the input reads as it did. -/
def basinChecksSpec : ChangeSpec := { name := "basinChecks", fn := fun _ => fun
  | [d1, d2, d3] => { results := [.lit (.bool true)], args := [d1, d2, d3] }
  | _ => none }
def basinChecksRow : OpenClaim := { program := "ytoiepgcjinccpaadoor", sum := "7de3771ae95d6a8829a911ffcc7656b617bb40a2a51fa447661461c62ebd6207", func := "barrage/barragelaw04.BasinChecks", spec := "basinChecks", inPlace := ["internal/reflectlite.ValueOf", "(internal/reflectlite.Value).Type", "(internal/reflectlite.Value).IsNil", "internal/reflectlite.TypeOf", "(internal/reflectlite.Value).Elem", "(internal/reflectlite.Value).Set"], unfollowed := true, recurses := true, named := ["errors.errorType"], apart := false, laid := [("errors.errorType", laid_errors_errorType)] }
def BasinChecksSaid : Prop := basinChecksRow.holds Tryd.pinned (OpenSpec.ofChange basinChecksSpec)

/-- ITS FALSE NEIGHBOUR: 'it returns false'. Refute it at one input. -/
def basinChecksWrong : ChangeSpec := { name := "basinChecks", fn := fun _ => fun
  | [d1, d2, d3] => { results := [.lit (.bool false)], args := [d1, d2, d3] }
  | _ => none }
def BasinChecksWrongFalsely : Prop := basinChecksRow.holds Tryd.pinned (OpenSpec.ofChange basinChecksWrong)

/-- 'barragelaw04.BasinLevels': WHATEVER THE INPUT: true; the input reads as it did. -/
def basinLevelsSpec : ChangeSpec := { name := "basinLevels", fn := fun _ => fun
  | [d1, d2, d3] => { results := [.lit (.bool true)], args := [d1, d2, d3] }
  | _ => none }
def basinLevelsRow : OpenClaim := { program := "ytoiepgcjinccpaadoor", sum := "7de3771ae95d6a8829a911ffcc7656b617bb40a2a51fa447661461c62ebd6207", func := "barrage/barragelaw04.BasinLevels", spec := "basinLevels", inPlace := ["internal/reflectlite.ValueOf", "(internal/reflectlite.Value).Type", "(internal/reflectlite.Value).IsNil", "internal/reflectlite.TypeOf", "(internal/reflectlite.Value).Elem", "(internal/reflectlite.Value).Set"], unfollowed := true, recurses := true, named := ["errors.errorType"], apart := false, laid := [("errors.errorType", laid_errors_errorType)] }
def BasinLevelsSaid : Prop := basinLevelsRow.holds Tryd.pinned (OpenSpec.ofChange basinLevelsSpec)

/-- ITS FALSE NEIGHBOUR: 'it returns false'. Refute it at one input. -/
def basinLevelsWrong : ChangeSpec := { name := "basinLevels", fn := fun _ => fun
  | [d1, d2, d3] => { results := [.lit (.bool false)], args := [d1, d2, d3] }
  | _ => none }
def BasinLevelsWrongFalsely : Prop := basinLevelsRow.holds Tryd.pinned (OpenSpec.ofChange basinLevelsWrong)

/-- 'barragelaw04.BasinMonotone': WHATEVER THE INPUT: true; the input reads as it did. -/
def basinMonotoneSpec : ChangeSpec := { name := "basinMonotone", fn := fun _ => fun
  | [d1, d2, d3] => { results := [.lit (.bool true)], args := [d1, d2, d3] }
  | _ => none }
def basinMonotoneRow : OpenClaim := { program := "ytoiepgcjinccpaadoor", sum := "7de3771ae95d6a8829a911ffcc7656b617bb40a2a51fa447661461c62ebd6207", func := "barrage/barragelaw04.BasinMonotone", spec := "basinMonotone", inPlace := ["internal/reflectlite.ValueOf", "(internal/reflectlite.Value).Type", "(internal/reflectlite.Value).IsNil", "internal/reflectlite.TypeOf", "(internal/reflectlite.Value).Elem", "(internal/reflectlite.Value).Set"], unfollowed := true, recurses := true, named := ["errors.errorType"], apart := false, laid := [("errors.errorType", laid_errors_errorType)] }
def BasinMonotoneSaid : Prop := basinMonotoneRow.holds Tryd.pinned (OpenSpec.ofChange basinMonotoneSpec)

/-- ITS FALSE NEIGHBOUR: 'it returns false'. Refute it at one input. -/
def basinMonotoneWrong : ChangeSpec := { name := "basinMonotone", fn := fun _ => fun
  | [d1, d2, d3] => { results := [.lit (.bool false)], args := [d1, d2, d3] }
  | _ => none }
def BasinMonotoneWrongFalsely : Prop := basinMonotoneRow.holds Tryd.pinned (OpenSpec.ofChange basinMonotoneWrong)

/-- 'barragelaw04.BasinLasts': WHATEVER THE INPUT: true; the input reads as it did. -/
def basinLastsSpec : ChangeSpec := { name := "basinLasts", fn := fun _ => fun
  | [d1, d2] => { results := [.lit (.bool true)], args := [d1, d2] }
  | _ => none }
def basinLastsRow : OpenClaim := { program := "ytoiepgcjinccpaadoor", sum := "7de3771ae95d6a8829a911ffcc7656b617bb40a2a51fa447661461c62ebd6207", func := "barrage/barragelaw04.BasinLasts", spec := "basinLasts", inPlace := ["internal/reflectlite.ValueOf", "(internal/reflectlite.Value).Type", "(internal/reflectlite.Value).IsNil", "internal/reflectlite.TypeOf", "(internal/reflectlite.Value).Elem", "(internal/reflectlite.Value).Set"], unfollowed := true, recurses := true, named := ["errors.errorType"], apart := false, laid := [("errors.errorType", laid_errors_errorType)] }
def BasinLastsSaid : Prop := basinLastsRow.holds Tryd.pinned (OpenSpec.ofChange basinLastsSpec)

/-- ITS FALSE NEIGHBOUR: 'it returns false'. Refute it at one input. -/
def basinLastsWrong : ChangeSpec := { name := "basinLasts", fn := fun _ => fun
  | [d1, d2] => { results := [.lit (.bool false)], args := [d1, d2] }
  | _ => none }
def BasinLastsWrongFalsely : Prop := basinLastsRow.holds Tryd.pinned (OpenSpec.ofChange basinLastsWrong)

/-- 'barragelaw04.BasinRests': WHATEVER THE INPUT: true; the input reads as it did. -/
def basinRestsSpec : ChangeSpec := { name := "basinRests", fn := fun _ => fun
  | [d1, d2, d3] => { results := [.lit (.bool true)], args := [d1, d2, d3] }
  | _ => none }
def basinRestsRow : OpenClaim := { program := "ytoiepgcjinccpaadoor", sum := "7de3771ae95d6a8829a911ffcc7656b617bb40a2a51fa447661461c62ebd6207", func := "barrage/barragelaw04.BasinRests", spec := "basinRests", inPlace := ["internal/reflectlite.ValueOf", "(internal/reflectlite.Value).Type", "(internal/reflectlite.Value).IsNil", "internal/reflectlite.TypeOf", "(internal/reflectlite.Value).Elem", "(internal/reflectlite.Value).Set"], unfollowed := true, recurses := true, named := ["errors.errorType"], apart := false, laid := [("errors.errorType", laid_errors_errorType)] }
def BasinRestsSaid : Prop := basinRestsRow.holds Tryd.pinned (OpenSpec.ofChange basinRestsSpec)

/-- ITS FALSE NEIGHBOUR: 'it returns false'. Refute it at one input. -/
def basinRestsWrong : ChangeSpec := { name := "basinRests", fn := fun _ => fun
  | [d1, d2, d3] => { results := [.lit (.bool false)], args := [d1, d2, d3] }
  | _ => none }
def BasinRestsWrongFalsely : Prop := basinRestsRow.holds Tryd.pinned (OpenSpec.ofChange basinRestsWrong)

/-- 'barragelaw04.BasinKnown': WHATEVER THE INPUT: true; the input reads as it did. -/
def basinKnownSpec : ChangeSpec := { name := "basinKnown", fn := fun _ => fun
  | [] => { results := [.lit (.bool true)], args := [] }
  | _ => none }
def basinKnownRow : OpenClaim := { program := "ytoiepgcjinccpaadoor", sum := "7de3771ae95d6a8829a911ffcc7656b617bb40a2a51fa447661461c62ebd6207", func := "barrage/barragelaw04.BasinKnown", spec := "basinKnown", inPlace := ["internal/reflectlite.ValueOf", "(internal/reflectlite.Value).Type", "(internal/reflectlite.Value).IsNil", "internal/reflectlite.TypeOf", "(internal/reflectlite.Value).Elem", "(internal/reflectlite.Value).Set"], unfollowed := true, recurses := true, named := ["errors.errorType"], apart := false, laid := [("errors.errorType", laid_errors_errorType)] }
def BasinKnownSaid : Prop := basinKnownRow.holds Tryd.pinned (OpenSpec.ofChange basinKnownSpec)

/-- ITS FALSE NEIGHBOUR: 'it returns false'. Refute it at one input. -/
def basinKnownWrong : ChangeSpec := { name := "basinKnown", fn := fun _ => fun
  | [] => { results := [.lit (.bool false)], args := [] }
  | _ => none }
def BasinKnownWrongFalsely : Prop := basinKnownRow.holds Tryd.pinned (OpenSpec.ofChange basinKnownWrong)

/-- 'barragelaw04.BasinTotals': WHATEVER THE INPUT: true; the input reads as it did. -/
def basinTotalsSpec : ChangeSpec := { name := "basinTotals", fn := fun _ => fun
  | [d1, d2] => { results := [.lit (.bool true)], args := [d1, d2] }
  | _ => none }
def basinTotalsRow : OpenClaim := { program := "ytoiepgcjinccpaadoor", sum := "7de3771ae95d6a8829a911ffcc7656b617bb40a2a51fa447661461c62ebd6207", func := "barrage/barragelaw04.BasinTotals", spec := "basinTotals", inPlace := ["internal/reflectlite.ValueOf", "(internal/reflectlite.Value).Type", "(internal/reflectlite.Value).IsNil", "internal/reflectlite.TypeOf", "(internal/reflectlite.Value).Elem", "(internal/reflectlite.Value).Set"], unfollowed := true, recurses := true, named := ["errors.errorType"], apart := false, laid := [("errors.errorType", laid_errors_errorType)] }
def BasinTotalsSaid : Prop := basinTotalsRow.holds Tryd.pinned (OpenSpec.ofChange basinTotalsSpec)

/-- ITS FALSE NEIGHBOUR: 'it returns false'. Refute it at one input. -/
def basinTotalsWrong : ChangeSpec := { name := "basinTotals", fn := fun _ => fun
  | [d1, d2] => { results := [.lit (.bool false)], args := [d1, d2] }
  | _ => none }
def BasinTotalsWrongFalsely : Prop := basinTotalsRow.holds Tryd.pinned (OpenSpec.ofChange basinTotalsWrong)

/-- 'barragelaw04.BasinBalance': WHATEVER THE INPUT: true; the input reads as it did. -/
def basinBalanceSpec : ChangeSpec := { name := "basinBalance", fn := fun _ => fun
  | [d1, d2, d3] => { results := [.lit (.bool true)], args := [d1, d2, d3] }
  | _ => none }
def basinBalanceRow : OpenClaim := { program := "ytoiepgcjinccpaadoor", sum := "7de3771ae95d6a8829a911ffcc7656b617bb40a2a51fa447661461c62ebd6207", func := "barrage/barragelaw04.BasinBalance", spec := "basinBalance", inPlace := ["internal/reflectlite.ValueOf", "(internal/reflectlite.Value).Type", "(internal/reflectlite.Value).IsNil", "internal/reflectlite.TypeOf", "(internal/reflectlite.Value).Elem", "(internal/reflectlite.Value).Set"], unfollowed := true, recurses := true, named := ["errors.errorType"], apart := false, laid := [("errors.errorType", laid_errors_errorType)] }
def BasinBalanceSaid : Prop := basinBalanceRow.holds Tryd.pinned (OpenSpec.ofChange basinBalanceSpec)

/-- ITS FALSE NEIGHBOUR: 'it returns false'. Refute it at one input. -/
def basinBalanceWrong : ChangeSpec := { name := "basinBalance", fn := fun _ => fun
  | [d1, d2, d3] => { results := [.lit (.bool false)], args := [d1, d2, d3] }
  | _ => none }
def BasinBalanceWrongFalsely : Prop := basinBalanceRow.holds Tryd.pinned (OpenSpec.ofChange basinBalanceWrong)

/-- 'barragelaw04.BasinNeedsMore': WHATEVER THE INPUT: true; the input reads as it did. -/
def basinNeedsMoreSpec : ChangeSpec := { name := "basinNeedsMore", fn := fun _ => fun
  | [d1, d2, d3] => { results := [.lit (.bool true)], args := [d1, d2, d3] }
  | _ => none }
def basinNeedsMoreRow : OpenClaim := { program := "ytoiepgcjinccpaadoor", sum := "7de3771ae95d6a8829a911ffcc7656b617bb40a2a51fa447661461c62ebd6207", func := "barrage/barragelaw04.BasinNeedsMore", spec := "basinNeedsMore", inPlace := ["internal/reflectlite.ValueOf", "(internal/reflectlite.Value).Type", "(internal/reflectlite.Value).IsNil", "internal/reflectlite.TypeOf", "(internal/reflectlite.Value).Elem", "(internal/reflectlite.Value).Set"], unfollowed := true, recurses := true, named := ["errors.errorType"], apart := false, laid := [("errors.errorType", laid_errors_errorType)] }
def BasinNeedsMoreSaid : Prop := basinNeedsMoreRow.holds Tryd.pinned (OpenSpec.ofChange basinNeedsMoreSpec)

/-- ITS FALSE NEIGHBOUR: 'it returns false'. Refute it at one input. -/
def basinNeedsMoreWrong : ChangeSpec := { name := "basinNeedsMore", fn := fun _ => fun
  | [d1, d2, d3] => { results := [.lit (.bool false)], args := [d1, d2, d3] }
  | _ => none }
def BasinNeedsMoreWrongFalsely : Prop := basinNeedsMoreRow.holds Tryd.pinned (OpenSpec.ofChange basinNeedsMoreWrong)

/-- 'barragelaw04.BasinTides': WHATEVER THE INPUT: true; the input reads as it did. -/
def basinTidesSpec : ChangeSpec := { name := "basinTides", fn := fun _ => fun
  | [d1, d2, d3] => { results := [.lit (.bool true)], args := [d1, d2, d3] }
  | _ => none }
def basinTidesRow : OpenClaim := { program := "ytoiepgcjinccpaadoor", sum := "7de3771ae95d6a8829a911ffcc7656b617bb40a2a51fa447661461c62ebd6207", func := "barrage/barragelaw04.BasinTides", spec := "basinTides", inPlace := ["internal/reflectlite.ValueOf", "(internal/reflectlite.Value).Type", "(internal/reflectlite.Value).IsNil", "internal/reflectlite.TypeOf", "(internal/reflectlite.Value).Elem", "(internal/reflectlite.Value).Set"], unfollowed := true, recurses := true, named := ["errors.errorType"], apart := false, laid := [("errors.errorType", laid_errors_errorType)] }
def BasinTidesSaid : Prop := basinTidesRow.holds Tryd.pinned (OpenSpec.ofChange basinTidesSpec)

/-- ITS FALSE NEIGHBOUR: 'it returns false'. Refute it at one input. -/
def basinTidesWrong : ChangeSpec := { name := "basinTides", fn := fun _ => fun
  | [d1, d2, d3] => { results := [.lit (.bool false)], args := [d1, d2, d3] }
  | _ => none }
def BasinTidesWrongFalsely : Prop := basinTidesRow.holds Tryd.pinned (OpenSpec.ofChange basinTidesWrong)

/- THE SECOND FORM. 'bulk': how many values and letters a reading holds, each counted each time it is reached (what is shared counts as often as it is met; a slice's spare places count too). A statement '..UptoSaid' is the law's where the arguments, and the package variables that the reading takes, are together of bulk at most 1048576: NARROWER than '..Said'. Prove '..Said' where nothing that the law and all that it calls make is longer than what came in: it says more and counts as full. Else prove '..UptoSaid'. A law counts once. -/
mutual
def uptoBulk {H : Type} : DataW H → Nat
  | .lit (.string bytes) => bytes.length + 1
  | .lit _ => 1
  | .nil => 1
  | .ptr d => uptoBulk d + 1
  | .slice elems spare => uptoBulkAll elems + uptoBulkAll spare + 1
  | .agg parts => uptoBulkAll parts + 1
  | .iface _ d => uptoBulk d + 1
  | .map entries => uptoBulkEntries entries + 1
  | .held _ => 1
def uptoBulkAll {H : Type} : List (DataW H) → Nat
  | [] => 0
  | d :: r => uptoBulk d + uptoBulkAll r
def uptoBulkEntries {H : Type} : List (Lit × DataW H) → Nat
  | [] => 0
  | x :: r => uptoBulkEntry x + uptoBulkEntries r
def uptoBulkEntry {H : Type} : Lit × DataW H → Nat
  | (.string bytes, d) => bytes.length + uptoBulk d + 1
  | (_, d) => uptoBulk d + 1
 end
def uptoSmall : (H : Type) → List (DataW H) → Bool := fun _ ds => decide (uptoBulkAll ds ≤ 1048576)
def OpenSpec.upto (s : _root_.Go.ChangeSpec) : _root_.Go.OpenSpec := { _root_.Go.OpenSpec.ofChange s with cond := some uptoSmall }

/-- 'barragelaw04.BasinSteps', WHERE WHAT IT READS IS OF BULK AT MOST 1048576: true; the input reads as it did. -/
def basinStepsUptoRow : OpenClaim := { program := "ytoiepgcjinccpaadoor", sum := "7de3771ae95d6a8829a911ffcc7656b617bb40a2a51fa447661461c62ebd6207", func := "barrage/barragelaw04.BasinSteps", spec := "basinSteps", inPlace := ["internal/reflectlite.ValueOf", "(internal/reflectlite.Value).Type", "(internal/reflectlite.Value).IsNil", "internal/reflectlite.TypeOf", "(internal/reflectlite.Value).Elem", "(internal/reflectlite.Value).Set"], unfollowed := true, recurses := true, named := ["errors.errorType"], apart := false, laid := [("errors.errorType", laid_errors_errorType)], narrowed := true }
def BasinStepsUptoSaid : Prop := basinStepsUptoRow.holds Tryd.pinned (OpenSpec.upto basinStepsSpec)

/-- 'barragelaw04.BasinRuns', WHERE WHAT IT READS IS OF BULK AT MOST 1048576: true; the input reads as it did. -/
def basinRunsUptoRow : OpenClaim := { program := "ytoiepgcjinccpaadoor", sum := "7de3771ae95d6a8829a911ffcc7656b617bb40a2a51fa447661461c62ebd6207", func := "barrage/barragelaw04.BasinRuns", spec := "basinRuns", inPlace := ["internal/reflectlite.ValueOf", "(internal/reflectlite.Value).Type", "(internal/reflectlite.Value).IsNil", "internal/reflectlite.TypeOf", "(internal/reflectlite.Value).Elem", "(internal/reflectlite.Value).Set"], unfollowed := true, recurses := true, named := ["errors.errorType"], apart := false, laid := [("errors.errorType", laid_errors_errorType)], narrowed := true }
def BasinRunsUptoSaid : Prop := basinRunsUptoRow.holds Tryd.pinned (OpenSpec.upto basinRunsSpec)

/-- 'barragelaw04.BasinParts', WHERE WHAT IT READS IS OF BULK AT MOST 1048576: true; the input reads as it did. -/
def basinPartsUptoRow : OpenClaim := { program := "ytoiepgcjinccpaadoor", sum := "7de3771ae95d6a8829a911ffcc7656b617bb40a2a51fa447661461c62ebd6207", func := "barrage/barragelaw04.BasinParts", spec := "basinParts", inPlace := ["internal/reflectlite.ValueOf", "(internal/reflectlite.Value).Type", "(internal/reflectlite.Value).IsNil", "internal/reflectlite.TypeOf", "(internal/reflectlite.Value).Elem", "(internal/reflectlite.Value).Set"], unfollowed := true, recurses := true, named := ["errors.errorType"], apart := false, laid := [("errors.errorType", laid_errors_errorType)], narrowed := true }
def BasinPartsUptoSaid : Prop := basinPartsUptoRow.holds Tryd.pinned (OpenSpec.upto basinPartsSpec)

/-- 'barragelaw04.BasinStays', WHERE WHAT IT READS IS OF BULK AT MOST 1048576: true; the input reads as it did. -/
def basinStaysUptoRow : OpenClaim := { program := "ytoiepgcjinccpaadoor", sum := "7de3771ae95d6a8829a911ffcc7656b617bb40a2a51fa447661461c62ebd6207", func := "barrage/barragelaw04.BasinStays", spec := "basinStays", inPlace := ["internal/reflectlite.ValueOf", "(internal/reflectlite.Value).Type", "(internal/reflectlite.Value).IsNil", "internal/reflectlite.TypeOf", "(internal/reflectlite.Value).Elem", "(internal/reflectlite.Value).Set"], unfollowed := true, recurses := true, named := ["errors.errorType"], apart := false, laid := [("errors.errorType", laid_errors_errorType)], narrowed := true }
def BasinStaysUptoSaid : Prop := basinStaysUptoRow.holds Tryd.pinned (OpenSpec.upto basinStaysSpec)

/-- 'barragelaw04.BasinChecks', WHERE WHAT IT READS IS OF BULK AT MOST 1048576: true; the input reads as it did. -/
def basinChecksUptoRow : OpenClaim := { program := "ytoiepgcjinccpaadoor", sum := "7de3771ae95d6a8829a911ffcc7656b617bb40a2a51fa447661461c62ebd6207", func := "barrage/barragelaw04.BasinChecks", spec := "basinChecks", inPlace := ["internal/reflectlite.ValueOf", "(internal/reflectlite.Value).Type", "(internal/reflectlite.Value).IsNil", "internal/reflectlite.TypeOf", "(internal/reflectlite.Value).Elem", "(internal/reflectlite.Value).Set"], unfollowed := true, recurses := true, named := ["errors.errorType"], apart := false, laid := [("errors.errorType", laid_errors_errorType)], narrowed := true }
def BasinChecksUptoSaid : Prop := basinChecksUptoRow.holds Tryd.pinned (OpenSpec.upto basinChecksSpec)

/-- 'barragelaw04.BasinLevels', WHERE WHAT IT READS IS OF BULK AT MOST 1048576: true; the input reads as it did. -/
def basinLevelsUptoRow : OpenClaim := { program := "ytoiepgcjinccpaadoor", sum := "7de3771ae95d6a8829a911ffcc7656b617bb40a2a51fa447661461c62ebd6207", func := "barrage/barragelaw04.BasinLevels", spec := "basinLevels", inPlace := ["internal/reflectlite.ValueOf", "(internal/reflectlite.Value).Type", "(internal/reflectlite.Value).IsNil", "internal/reflectlite.TypeOf", "(internal/reflectlite.Value).Elem", "(internal/reflectlite.Value).Set"], unfollowed := true, recurses := true, named := ["errors.errorType"], apart := false, laid := [("errors.errorType", laid_errors_errorType)], narrowed := true }
def BasinLevelsUptoSaid : Prop := basinLevelsUptoRow.holds Tryd.pinned (OpenSpec.upto basinLevelsSpec)

/-- 'barragelaw04.BasinMonotone', WHERE WHAT IT READS IS OF BULK AT MOST 1048576: true; the input reads as it did. -/
def basinMonotoneUptoRow : OpenClaim := { program := "ytoiepgcjinccpaadoor", sum := "7de3771ae95d6a8829a911ffcc7656b617bb40a2a51fa447661461c62ebd6207", func := "barrage/barragelaw04.BasinMonotone", spec := "basinMonotone", inPlace := ["internal/reflectlite.ValueOf", "(internal/reflectlite.Value).Type", "(internal/reflectlite.Value).IsNil", "internal/reflectlite.TypeOf", "(internal/reflectlite.Value).Elem", "(internal/reflectlite.Value).Set"], unfollowed := true, recurses := true, named := ["errors.errorType"], apart := false, laid := [("errors.errorType", laid_errors_errorType)], narrowed := true }
def BasinMonotoneUptoSaid : Prop := basinMonotoneUptoRow.holds Tryd.pinned (OpenSpec.upto basinMonotoneSpec)

/-- 'barragelaw04.BasinLasts', WHERE WHAT IT READS IS OF BULK AT MOST 1048576: true; the input reads as it did. -/
def basinLastsUptoRow : OpenClaim := { program := "ytoiepgcjinccpaadoor", sum := "7de3771ae95d6a8829a911ffcc7656b617bb40a2a51fa447661461c62ebd6207", func := "barrage/barragelaw04.BasinLasts", spec := "basinLasts", inPlace := ["internal/reflectlite.ValueOf", "(internal/reflectlite.Value).Type", "(internal/reflectlite.Value).IsNil", "internal/reflectlite.TypeOf", "(internal/reflectlite.Value).Elem", "(internal/reflectlite.Value).Set"], unfollowed := true, recurses := true, named := ["errors.errorType"], apart := false, laid := [("errors.errorType", laid_errors_errorType)], narrowed := true }
def BasinLastsUptoSaid : Prop := basinLastsUptoRow.holds Tryd.pinned (OpenSpec.upto basinLastsSpec)

/-- 'barragelaw04.BasinRests', WHERE WHAT IT READS IS OF BULK AT MOST 1048576: true; the input reads as it did. -/
def basinRestsUptoRow : OpenClaim := { program := "ytoiepgcjinccpaadoor", sum := "7de3771ae95d6a8829a911ffcc7656b617bb40a2a51fa447661461c62ebd6207", func := "barrage/barragelaw04.BasinRests", spec := "basinRests", inPlace := ["internal/reflectlite.ValueOf", "(internal/reflectlite.Value).Type", "(internal/reflectlite.Value).IsNil", "internal/reflectlite.TypeOf", "(internal/reflectlite.Value).Elem", "(internal/reflectlite.Value).Set"], unfollowed := true, recurses := true, named := ["errors.errorType"], apart := false, laid := [("errors.errorType", laid_errors_errorType)], narrowed := true }
def BasinRestsUptoSaid : Prop := basinRestsUptoRow.holds Tryd.pinned (OpenSpec.upto basinRestsSpec)

/-- 'barragelaw04.BasinKnown', WHERE WHAT IT READS IS OF BULK AT MOST 1048576: true; the input reads as it did. -/
def basinKnownUptoRow : OpenClaim := { program := "ytoiepgcjinccpaadoor", sum := "7de3771ae95d6a8829a911ffcc7656b617bb40a2a51fa447661461c62ebd6207", func := "barrage/barragelaw04.BasinKnown", spec := "basinKnown", inPlace := ["internal/reflectlite.ValueOf", "(internal/reflectlite.Value).Type", "(internal/reflectlite.Value).IsNil", "internal/reflectlite.TypeOf", "(internal/reflectlite.Value).Elem", "(internal/reflectlite.Value).Set"], unfollowed := true, recurses := true, named := ["errors.errorType"], apart := false, laid := [("errors.errorType", laid_errors_errorType)], narrowed := true }
def BasinKnownUptoSaid : Prop := basinKnownUptoRow.holds Tryd.pinned (OpenSpec.upto basinKnownSpec)

/-- 'barragelaw04.BasinTotals', WHERE WHAT IT READS IS OF BULK AT MOST 1048576: true; the input reads as it did. -/
def basinTotalsUptoRow : OpenClaim := { program := "ytoiepgcjinccpaadoor", sum := "7de3771ae95d6a8829a911ffcc7656b617bb40a2a51fa447661461c62ebd6207", func := "barrage/barragelaw04.BasinTotals", spec := "basinTotals", inPlace := ["internal/reflectlite.ValueOf", "(internal/reflectlite.Value).Type", "(internal/reflectlite.Value).IsNil", "internal/reflectlite.TypeOf", "(internal/reflectlite.Value).Elem", "(internal/reflectlite.Value).Set"], unfollowed := true, recurses := true, named := ["errors.errorType"], apart := false, laid := [("errors.errorType", laid_errors_errorType)], narrowed := true }
def BasinTotalsUptoSaid : Prop := basinTotalsUptoRow.holds Tryd.pinned (OpenSpec.upto basinTotalsSpec)

/-- 'barragelaw04.BasinBalance', WHERE WHAT IT READS IS OF BULK AT MOST 1048576: true; the input reads as it did. -/
def basinBalanceUptoRow : OpenClaim := { program := "ytoiepgcjinccpaadoor", sum := "7de3771ae95d6a8829a911ffcc7656b617bb40a2a51fa447661461c62ebd6207", func := "barrage/barragelaw04.BasinBalance", spec := "basinBalance", inPlace := ["internal/reflectlite.ValueOf", "(internal/reflectlite.Value).Type", "(internal/reflectlite.Value).IsNil", "internal/reflectlite.TypeOf", "(internal/reflectlite.Value).Elem", "(internal/reflectlite.Value).Set"], unfollowed := true, recurses := true, named := ["errors.errorType"], apart := false, laid := [("errors.errorType", laid_errors_errorType)], narrowed := true }
def BasinBalanceUptoSaid : Prop := basinBalanceUptoRow.holds Tryd.pinned (OpenSpec.upto basinBalanceSpec)

/-- 'barragelaw04.BasinNeedsMore', WHERE WHAT IT READS IS OF BULK AT MOST 1048576: true; the input reads as it did. -/
def basinNeedsMoreUptoRow : OpenClaim := { program := "ytoiepgcjinccpaadoor", sum := "7de3771ae95d6a8829a911ffcc7656b617bb40a2a51fa447661461c62ebd6207", func := "barrage/barragelaw04.BasinNeedsMore", spec := "basinNeedsMore", inPlace := ["internal/reflectlite.ValueOf", "(internal/reflectlite.Value).Type", "(internal/reflectlite.Value).IsNil", "internal/reflectlite.TypeOf", "(internal/reflectlite.Value).Elem", "(internal/reflectlite.Value).Set"], unfollowed := true, recurses := true, named := ["errors.errorType"], apart := false, laid := [("errors.errorType", laid_errors_errorType)], narrowed := true }
def BasinNeedsMoreUptoSaid : Prop := basinNeedsMoreUptoRow.holds Tryd.pinned (OpenSpec.upto basinNeedsMoreSpec)

/-- 'barragelaw04.BasinTides', WHERE WHAT IT READS IS OF BULK AT MOST 1048576: true; the input reads as it did. -/
def basinTidesUptoRow : OpenClaim := { program := "ytoiepgcjinccpaadoor", sum := "7de3771ae95d6a8829a911ffcc7656b617bb40a2a51fa447661461c62ebd6207", func := "barrage/barragelaw04.BasinTides", spec := "basinTides", inPlace := ["internal/reflectlite.ValueOf", "(internal/reflectlite.Value).Type", "(internal/reflectlite.Value).IsNil", "internal/reflectlite.TypeOf", "(internal/reflectlite.Value).Elem", "(internal/reflectlite.Value).Set"], unfollowed := true, recurses := true, named := ["errors.errorType"], apart := false, laid := [("errors.errorType", laid_errors_errorType)], narrowed := true }
def BasinTidesUptoSaid : Prop := basinTidesUptoRow.holds Tryd.pinned (OpenSpec.upto basinTidesSpec)

end Rows
end Go.Proofs.YtoiepgcjinccpaaDoor
