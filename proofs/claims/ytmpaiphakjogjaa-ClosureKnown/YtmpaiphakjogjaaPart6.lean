/-
  From the reading of the arguments to how they lie in memory: tasks, plans, rules (closure).
-/
import Derived.Test.YtmpaiphakjogjaaPart2
import Derived.Test.YtmpaiphakjogjaaPart3
import Derived.Test.YtmpaiphakjogjaaPart5
import Derived.Test.YtmpaiphakjogjaaRows
import Derived.Deep.Slices
import Derived.Deep.DeepHandedRow
import Derived.JoinedCond
import Derived.ProofKit
import Derived.Carry
import Derived.OpenShut
set_option linter.unusedVariables false
set_option linter.unusedSimpArgs false
namespace Go.Proofs.Ytmpaiphakjogjaa.X
open Go Go.RowKit Go.ChangeShapes Go.WideShapes Go.Proofs.Ytmpaiphakjogjaa.Bs
set_option linter.unusedVariables false
section
variable {H : Type} {enc : TypeId × Value → H} {w : World} {base : Nat} {spare : Nat → Bool} {held : Bool} {fuel : Nat} {cs : List Value} {x : DataW H × List MemPlace}
end
theorem own : ownKnob Try.prog.godebug = none := by kernel_rfl
end Go.Proofs.Ytmpaiphakjogjaa.X
