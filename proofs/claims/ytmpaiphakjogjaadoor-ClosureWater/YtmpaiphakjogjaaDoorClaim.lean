/-
  PROVED: the law ClosureWater answers true at every input, and each argument reads behind the call as it read before: while the gates are shut the levels are those of the states of a run of the basin, from the level outside at the tick at which they shut (any task, and the plan from a tick).
  CONDITIONS: those of the given row and its card: the library's variable errors.errorType stands as the program's text lays it; the translation, the model and the laws of the library as the card names them; the pruned copy of the project, as the seat's AIM says. The order of evaluation that Go leaves open is covered: each order is walked.
-/
import Derived.Test.YtmpaiphakjogjaaDoorPart6
import Derived.Test.YtmpaiphakjogjaaDoorPart5
set_option linter.unusedVariables false
set_option linter.unusedSimpArgs false
namespace Go.Proofs.YtmpaiphakjogjaaDoor.X
open Go Go.RowKit Go.ChangeShapes Go.WideShapes
set_option maxRecDepth 100000 in
theorem cwt_lifted (os : Os) (started : os.Started) (H : Type) (enc : TypeId × Value → H) :
    ReturnsInHanded {} Tryd.checked os 3 .any (fun w args => (Rows.closureWaterSpec.pre enc Tryd.prog Tryd.f3 [] false w args ∧ laidMetH Tryd.prog Rows.closureWaterRow.laid w) ∧ sizedMet enc Tryd.prog Tryd.f3 (OpenSpec.ofChange Rows.closureWaterSpec) false w args)
      (Rows.closureWaterSpec.post enc Tryd.prog Tryd.f3 false true false false) := by
  refine returnsInHanded_of_change_and (C := Tryd.checked) (X := fun w _ => laidMetH Tryd.prog Rows.closureWaterRow.laid w) (fun _ _ _ hh h => h.of_heap hh) own started (by kernel_rfl) Tryd.func3
    (ChangeSpec.witness_at (enc := enc) (C := Tryd.checked) (os := os) (X := fun w _ => laidMetH Tryd.prog Rows.closureWaterRow.laid w) false (laidWorld os) #[.agg #[.slice none 0 0, .int .i64 0, .int .i64 0, .int .i64 0, .slice none 0 0, .slice none 0 0, .slice none 0 0, .slice none 0 0, .int .i64 0, .int .i64 0, .int .i64 0], .int .i64 0, .int .i64 0] 16 rfl (by kernel_rfl) (by kernel_rfl) (by kernel_rfl) (by kernel_rfl) (by kernel_rfl) (laidWorld_met os _)) ?_
  intro W base args ds gs before hval0 hW _ _ hL _
  have hval : ∀ (j : Nat) t v, Tryd.f3.params[j]? = some t → args[j]? = some v → Value.okWide Tryd.prog W .any base t v := hval0
  have hW' := hW
  obtain ⟨p, q, hA0, hV0, rfl, hfz, hnd⟩ := hW
  have hA : DataW.TrodAll enc Tryd.prog W 0 (fun _ => true) true Tryd.f3.params.toList args.toList ds p := hA0
  have hV : DataW.TrodVars enc Tryd.prog W (fun _ => true) [] gs q := hV0
  rw [Tryd.params3] at hA hval
  obtain ⟨v0, v1, v2, d0, d1, d2, pl0, pl1, pl2, rfl, rfl, rfl, h0, h1, h2⟩ := trodAll_three hA
  obtain ⟨c0, rfl, _⟩ := okWide_struct Tryd.underlying29 (hval 0 29 v0 rfl rfl)
  obtain ⟨ua1, rfl⟩ := okWide_int Tryd.underlying3 (hval 1 3 v1 rfl rfl)
  obtain ⟨ua2, rfl⟩ := okWide_int Tryd.underlying3 (hval 2 3 v2 rfl rfl)
  obtain ⟨rfl, rfl⟩ : gs = [] ∧ q = [] := by
    cases gs with
    | nil => exact ⟨rfl, hV⟩
    | cons g r => exact absurd hV (by intro h; cases h)
  have hg := handle_of_laid hL
  have hlt : ∀ x ∈ pl0 ++ pl1 ++ pl2, x.block < W.heap.size := fun x hx => hW'.lt x (by simpa using hx)
  obtain ⟨fu0, hf0⟩ := id h0
  obtain ⟨fu1, hf1⟩ := id h1
  obtain ⟨fu2, hf2⟩ := id h2
  obtain ⟨v0, t0, e0, ht0⟩ := ctkR hf0
  obtain rfl : c0 = ⟨ctkC v0 t0⟩ := Array.ext' e0
  obtain ⟨n1, e1⟩ := intR' hf1
  have e1' : Value.int _ ua1 = .int .i64 n1 := (List.cons.inj e1).1
  injection e1' with x1 x2
  subst x2
  obtain ⟨n2, e2⟩ := intR' hf2
  have e2' : Value.int _ ua2 = .int .i64 n2 := (List.cons.inj e2).1
  injection e2' with x1 x2
  subst x2
  have e9 : Rows.closureWaterSpec.fn H ([d0, d1, d2] ++ []) = { results := [.lit (.bool true)], args := [d0, d1, d2] } := rfl
  refine (ClosureWater_any hg ht0).mono fun e W' ⟨he, hbel⟩ => ?_
  subst he
  refine ⟨_, rfl, _, _, _, [], pl0 ++ (pl1 ++ pl2), [], hW', ?_, ?_, ?_, hbel.frame _, fun h => by cases h⟩
  · rw [e9]; exact trodAll_mk1 (shut_bool Tryd.underlying4 true)
  · rw [e9]
    exact trodAll_mk3 (Below.trod laidOut (by kernel_rfl) (of_decide_eq_true (by kernel_rfl)) h0 hbel fun x hx => hlt x (by simp [hx])) (Below.trod laidOut (by kernel_rfl) (of_decide_eq_true (by kernel_rfl)) h1 hbel fun x hx => hlt x (by simp [hx])) (Below.trod laidOut (by kernel_rfl) (of_decide_eq_true (by kernel_rfl)) h2 hbel fun x hx => hlt x (by simp [hx]))
  · rw [e9]; rfl
theorem cwt_said : Rows.ClosureWaterSaid :=
  OpenClaim.holds_of_wide 3 Tryd.f3 rfl rfl rfl rfl rfl rfl rfl ⟨rfl, rfl, rfl, rfl, rfl⟩ rfl rfl rfl rfl rfl (by kernel_rfl) Tryd.func3 (by kernel_rfl)
    (of_decide_eq_true (by kernel_rfl)) (by unfold Func.isWrapper; rw [if_neg (of_decide_eq_false (by kernel_rfl))]; exact ⟨rfl, rfl⟩)
    (fun os started H enc _ => cwt_lifted os started H enc)
theorem cwt_plain (f : FuncId) (fn : Func) (hf : Tryd.pinned.checked.prog.funcNamed "barrage/barragelaw05.ClosureWater" = some f) (hfn : Tryd.pinned.checked.prog.funcs[f]? = some fn) :
    true = Tryd.pinned.checked.prog.looks [] ∧ ∀ (j : Nat) t, fn.params[j]? = some t → Tryd.pinned.checked.prog.wantsStandIn t = false := by
  obtain rfl : f = 3 := Option.some.inj ((show Tryd.prog.funcNamed "barrage/barragelaw05.ClosureWater" = some 3 by kernel_rfl).symm.trans hf) |>.symm
  obtain rfl : fn = Tryd.f3 := (Option.some.inj (Tryd.func3.symm.trans hfn)).symm
  refine ⟨by kernel_rfl, fun j t ht => ?_⟩
  rw [Tryd.params3] at ht
  have := Array.mem_of_getElem? ht
  have h3 : t = 29 ∨ t = 3 ∨ t = 3 := by simpa using this
  rcases h3 with rfl | rfl | rfl
  · exact (show Tryd.prog.wantsStandIn 29 = false by kernel_rfl)
  · exact (show Tryd.prog.wantsStandIn 3 = false by kernel_rfl)
  · exact (show Tryd.prog.wantsStandIn 3 = false by kernel_rfl)
theorem cwt_holds : Rows.ClosureWaterCardSaid :=
  Claim7.holds_tied_plain_at .later [] _ _ _ _ cwt_said (fun _ h => by cases h) (by kernel_rfl) (fun _ h => by cases h) closureWater_row_tie rfl ⟨rfl, rfl⟩ (by kernel_rfl) rfl cwt_plain (by kernel_rfl)
#print axioms cwt_holds
end Go.Proofs.YtmpaiphakjogjaaDoor.X
