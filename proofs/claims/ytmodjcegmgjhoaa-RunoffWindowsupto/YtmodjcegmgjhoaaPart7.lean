/-
  From the reading of the arguments to how they lie in memory: tasks, choices, plans; what the bound of a second form gives (runoff).
-/
import Derived.Test.YtmodjcegmgjhoaaPart3
import Derived.Test.YtmodjcegmgjhoaaPart4
import Derived.Test.YtmodjcegmgjhoaaRows
import Derived.Deep.Slices
import Derived.Deep.DeepHandedRow
import Derived.JoinedCond
import Derived.Test.YtmodjcegmgjhoaaPart6
set_option linter.unusedVariables false
set_option linter.unusedSimpArgs false
namespace Go.Proofs.Ytmodjcegmgjhoaa.X
open Go Go.RowKit Go.ChangeShapes Go.WideShapes Go.Proofs.Ytmodjcegmgjhoaa.Bs
set_option linter.unusedVariables false
section
variable {H : Type} {enc : TypeId × Value → H} {P : Program} {w : World} {base : Nat} {spare : Nat → Bool} {held : Bool} {fuel : Nat} {cs : List Value} {x : DataW H × List MemPlace}
end
section
variable {H : Type} {enc : TypeId × Value → H} {w : World} {base : Nat} {spare : Nat → Bool} {held : Bool} {fuel : Nat} {cs : List Value} {x : DataW H × List MemPlace}
end
theorem own : ownKnob Try.prog.godebug = none := by kernel_rfl
theorem laidOut : laidOutB Try.prog = true := by kernel_rfl
end Go.Proofs.Ytmodjcegmgjhoaa.X
/-
  Spans that came in (runoff).
-/
namespace Go.Proofs.Ytmodjcegmgjhoaa.X
open Go Go.RowKit Go.ChangeShapes Go.WideShapes Go.Proofs.Ytmodjcegmgjhoaa.Bs
set_option linter.unusedVariables false
section
variable {H : Type} {enc : TypeId × Value → H} {w : World} {base : Nat} {spare : Nat → Bool} {held : Bool} {fuel : Nat} {cs : List Value} {x : DataW H × List MemPlace}
theorem c_spn : (Try.prog).cellsOf 71 = 2 := by kernel_rfl
theorem spnR (h : DataW.trod enc Try.prog w base spare held fuel 71 cs = some x) : ∃ r : Spn, cs = spnC r := by
  obtain ⟨hl, n, hf⟩ := fieldR Try.underlying71 h
  rw [c_spn] at hl
  match cs, hl with
  | [c0, c1], _ =>
    obtain ⟨d0, y0, e0, h0⟩ := hf 0 _ rfl c_int (Nat.le_of_ble_eq_true rfl)
    obtain ⟨d1, y1, e1, h1⟩ := hf 1 _ rfl c_int (Nat.le_of_ble_eq_true rfl)
    obtain ⟨k0, rfl⟩ := intR h0
    obtain ⟨k1, rfl⟩ := intR h1
    cases e0; cases e1
    exact ⟨⟨k0, k1⟩, rfl⟩
theorem spansR (h : DataW.trod enc Try.prog w base spare held fuel 61 cs = some x) : ∃ (q : SV) (l : List Spn), cs = [svV q] ∧ ListAt spnK w (Lt w.heap.size) q l := by
  obtain ⟨A, n, c, l, rfl, hr, hnc, hcm, _⟩ := sliceR (C := spnC) (G := fun _ => True) Try.underlying61 c_spn (fun n cs x h => by
    obtain ⟨b, e⟩ := spnR h
    exact ⟨b, e, trivial⟩) (fun _ => rfl) (by decide) h
  exact ⟨⟨A, n, c⟩, l, rfl, ReadsP.of hr, by simp only; unfold maxLen at hcm; omega, fun a ha x hx => by cases hx⟩
end
end Go.Proofs.Ytmodjcegmgjhoaa.X
