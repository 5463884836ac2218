/-
  From the reading of the arguments to how they lie in memory: tasks, plans, rules (closure).
-/
import Derived.Test.YtmpaiphakjogjaaDoorPart2
import Derived.Test.YtmpaiphakjogjaaDoorPart3
import Derived.Test.YtmpaiphakjogjaaDoorPart5
import Derived.Test.YtmpaiphakjogjaaDoorRows
import Derived.Deep.Slices
import Derived.Deep.DeepHandedRow
import Derived.JoinedCond
import Derived.ProofKit
import Derived.Carry
import Derived.OpenShut
import Derived.Test.YtmpaiphakjogjaaDoorCards
import Derived.Test.YtmpaiphakjogjaaDoorTie
import Derived.ChangeSame
import Derived.ChangeVars
import Derived.JoinedOf
import Derived.LaidLaws
import Derived.LaidHandle
import Derived.Stop.Joined
set_option linter.unusedVariables false
set_option linter.unusedSimpArgs false
namespace Go.Proofs.YtmpaiphakjogjaaDoor.X
open Go Go.RowKit Go.ChangeShapes Go.WideShapes Go.Proofs.YtmpaiphakjogjaaDoor.Bs
set_option linter.unusedVariables false
section
variable {H : Type} {enc : TypeId × Value → H} {w : World} {base : Nat} {spare : Nat → Bool} {held : Bool} {fuel : Nat} {cs : List Value} {x : DataW H × List MemPlace}
theorem c_ser5 : (Tryd.prog).cellsOf 41 = 2 := by kernel_rfl
theorem c_sers5 : (Tryd.prog).cellsOf 27 = 1 := by kernel_rfl
theorem c_ctk5 : (Tryd.prog).cellsOf 29 = 11 := by kernel_rfl
theorem hisR (h : DataW.trod enc Tryd.prog w base spare held fuel 41 cs = some x) : ∃ (q : SV) (r : His), cs = hisC q r ∧ IntsAt w (Lt w.heap.size) q r.vals := by
  obtain ⟨hl, n, hf⟩ := fieldN Tryd.underlying41 h
  rw [c_ser5] at hl
  match cs, hl with
  | [c0, c1], _ =>
    obtain ⟨y0, h0⟩ := hf 0 _ 3 0 1 rfl rfl rfl c_int
    obtain ⟨y1, h1⟩ := hf 1 _ 26 1 1 rfl rfl rfl c_ints
    obtain ⟨k0, e0⟩ := intR' h0
    obtain ⟨q, l, e1, k1⟩ := intsR h1
    simp only [List.drop_succ_cons, List.drop_zero, List.take_succ_cons, List.take_zero] at e0 e1
    cases e0; cases e1
    exact ⟨q, ⟨k0, l⟩, rfl, k1⟩
theorem hissR (h : DataW.trod enc Tryd.prog w base spare held fuel 27 cs = some x) : ∃ (q : SV) (es : List (SV × His)), cs = [svV q] ∧ ListAt hisK w (Lt w.heap.size) q es ∧ q.n ≤ q.c := by
  obtain ⟨A, n, c, l, rfl, hr, hnc, hcm, hg⟩ := sliceR (C := fun e : SV × His => hisC e.1 e.2) (G := fun e => IntsAt w (Lt w.heap.size) e.1 e.2.vals) Tryd.underlying27 c_ser5 (fun n cs x h => by
    obtain ⟨q, l, e, hl⟩ := hisR h
    exact ⟨(q, l), e, hl⟩) (fun _ => rfl) (by decide) h
  exact ⟨⟨A, n, c⟩, l, rfl, ⟨ReadsP.of hr, by simp only; unfold maxLen at hcm; omega, fun a ha x hx => by rw [List.mem_singleton.1 hx]; exact hg a ha⟩, hnc⟩
theorem ctkR (h : DataW.trod enc Tryd.prog w base spare held fuel 29 cs = some x) : ∃ (v : CTV) (t : CTk), cs = ctkC v t ∧ CtAt w w.heap.size v t := by
  obtain ⟨hl, n, hf⟩ := fieldN Tryd.underlying29 h
  rw [c_ctk5] at hl
  match cs, hl with
  | [a0, a1, a2, a3, a4, a5, a6, a7, a8, a9, b0], _ =>
    obtain ⟨y0, h0⟩ := hf 0 _ 25 0 5 rfl rfl rfl c_bas
    obtain ⟨y1, h1⟩ := hf 1 _ 26 5 1 rfl rfl rfl c_ints
    obtain ⟨y2, h2⟩ := hf 2 _ 27 6 1 rfl rfl rfl c_sers5
    obtain ⟨y3, h3⟩ := hf 3 _ 26 7 1 rfl rfl rfl c_ints
    obtain ⟨y4, h4⟩ := hf 4 _ 3 8 1 rfl rfl rfl c_int
    obtain ⟨y5, h5⟩ := hf 5 _ 3 9 1 rfl rfl rfl c_int
    obtain ⟨y6, h6⟩ := hf 6 _ 3 10 1 rfl rfl rfl c_int
    obtain ⟨p, b, e0, k0⟩ := basR h0
    obtain ⟨q1, l1, e1, k1⟩ := intsR h1
    obtain ⟨q2, l2, e2, k2, n2⟩ := hissR h2
    obtain ⟨q3, l3, e3, k3⟩ := intsR h3
    obtain ⟨i4, e4⟩ := intR' h4
    obtain ⟨i5, e5⟩ := intR' h5
    obtain ⟨i6, e6⟩ := intR' h6
    simp only [List.drop_succ_cons, List.drop_zero, List.take_succ_cons, List.take_zero, basC, svV] at e0 e1 e2 e3 e4 e5 e6
    cases e0; cases e1; cases e2; cases e3; cases e4; cases e5; cases e6
    exact ⟨⟨p, q1, q2, q3⟩, ⟨b, l1, l2.map (·.2), l3, i4, i5, i6⟩, rfl, k0, k1, ⟨l2, k2, rfl⟩, k3, n2⟩
end
theorem own : ownKnob Tryd.prog.godebug = none := by kernel_rfl
theorem laidOut : laidOutB Tryd.prog = true := by kernel_rfl
end Go.Proofs.YtmpaiphakjogjaaDoor.X
/-
  What a card of closure needs: the condition gives the variable's cell; a world that meets it.
-/
namespace Go.Proofs.YtmpaiphakjogjaaDoor.X
open Go Go.RowKit Go.ChangeShapes Go.WideShapes Go.Proofs.YtmpaiphakjogjaaDoor.Bs
theorem et : Tryd.prog.globalNamed "errors.errorType" = some 0 := by kernel_rfl
theorem rt : (Tryd.prog.cutTypes.find? (·.1 == "internal/reflectlite.rtype")).map (·.2) = some 176 := by kernel_rfl
theorem oneRow : ((List.range Tryd.prog.types.size).filter fun t => Tryd.prog.rowNamed t [101, 114, 114, 111, 114]) = [129] := by kernel_rfl
/-- WHAT THE CONDITION GIVES A WALK: the variable's one cell. -/
theorem handle_of_laid {W : World} (h : laidMetH Tryd.prog [("errors.errorType", Rows.laid_errors_errorType)] W) : Laid W := by
  have h' : laidMet Tryd.prog [] W ∧ handlesMet Tryd.prog [("errors.errorType", Rows.laid_errors_errorType)] W := h
  obtain ⟨name, u, ty, e1, e2, e3, e4, e5⟩ := h'.2 _ (List.mem_singleton.2 rfl)
  have en : name = [101, 114, 114, 111, 114] := (Option.some.inj e1).symm
  subst en
  obtain rfl := Option.some.inj (rt.symm.trans e2)
  have hm : ty ∈ (List.range Tryd.prog.types.size).filter fun t => Tryd.prog.rowNamed t [101, 114, 114, 111, 114] := List.mem_filter.2 ⟨List.mem_range.2 e3, e4⟩
  rw [oneRow] at hm
  obtain rfl := List.mem_singleton.1 hm
  have hh : typeHandle Tryd.prog 129 = .pointer (some ⟨1, 129, none⟩) := by kernel_rfl
  rw [hh] at e5
  have := World.var?_cell et e5 0
  simpa [Laid] using this
/-- A world that meets the condition: the settled one, the variable's cell laid. -/
noncomputable def laidWorld (os : Os) : World :=
  let w0 := World.holding Tryd.prog os ⟨#[], #[], []⟩
  { w0 with heap := w0.heap.modify 0 fun
      | .cells _ t frozen => .cells #[.iface 176 (.agg #[.pointer (some ⟨1, 129, none⟩)])] t frozen
      | o => o }
theorem laidWorld_met (os : Os) (args : Array Value) : laidMetH Tryd.prog [("errors.errorType", Rows.laid_errors_errorType)] ((laidWorld os).forCall (fun _ _ => 0) ⟨#[], args, []⟩).memory :=
  laidMetH_of_parts (laidMet_nil _ _) (by kernel_rfl)
end Go.Proofs.YtmpaiphakjogjaaDoor.X
