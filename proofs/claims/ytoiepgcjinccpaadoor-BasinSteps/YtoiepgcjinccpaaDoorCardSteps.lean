/-
  PROVED: the law BasinSteps answers true at every basin, every state and every tick, and each argument reads behind the call as it read before: the two texts' Step, run on the same three, give the same state, the same flows and the same fault, as do the two CheckStates; and the examples' Awake is true.
  CONDITIONS: those of the given row and its card: the library's variable errors.errorType stands as the program's text lays it; the translation, the model and the laws of the library as the card names them; the pruned copy of the project, as the seat's AIM says. The order of evaluation that Go leaves open is covered: each order is walked.
-/
import Derived.Test.YtoiepgcjinccpaaDoorCardK
namespace Go.Proofs.YtoiepgcjinccpaaDoor.X
open Go Go.RowKit Go.ChangeShapes Go.WideShapes
set_option maxRecDepth 100000 in
theorem steps_lifted (os : Os) (started : os.Started) (H : Type) (enc : TypeId × Value → H) :
    ReturnsInHanded {} Tryd.checked os 3 .any (fun w args => (Rows.basinStepsSpec.pre enc Tryd.prog Tryd.f3 [] false w args ∧ laidMetH Tryd.prog Rows.basinStepsRow.laid w) ∧ sizedMet enc Tryd.prog Tryd.f3 (OpenSpec.ofChange Rows.basinStepsSpec) false w args)
      (Rows.basinStepsSpec.post enc Tryd.prog Tryd.f3 false true false false) := by
  refine returnsInHanded_of_change_and (C := Tryd.checked) (X := fun w _ => laidMetH Tryd.prog Rows.basinStepsRow.laid w) (fun _ _ _ hh h => h.of_heap hh) own started (by kernel_rfl) Tryd.func3
    (ChangeSpec.witness_at (enc := enc) (C := Tryd.checked) (os := os) (X := fun w _ => laidMetH Tryd.prog Rows.basinStepsRow.laid w) false (laidWorld os) #[.agg #[.slice none 0 0, .int .i64 0, .int .i64 0, .int .i64 0, .slice none 0 0], .agg #[.int .i64 0, .slice none 0 0], .agg #[.int .i64 0, .int .i64 0, .int .i64 0]] 16 rfl (by kernel_rfl) (by kernel_rfl) (by kernel_rfl) (by kernel_rfl) (by kernel_rfl) (laidWorld_met os _)) ?_
  intro W base args ds gs before hval0 hW _ _ hL _
  have hval : ∀ (j : Nat) t v, Tryd.f3.params[j]? = some t → args[j]? = some v → Value.okWide Tryd.prog W .any base t v := hval0
  have hW' := hW
  obtain ⟨p, q, hA0, hV0, rfl, hfz, hnd⟩ := hW
  have hA : DataW.TrodAll enc Tryd.prog W 0 (fun _ => true) true Tryd.f3.params.toList args.toList ds p := hA0
  have hV : DataW.TrodVars enc Tryd.prog W (fun _ => true) [] gs q := hV0
  rw [Tryd.params3] at hA hval
  obtain ⟨v0, v1, v2, d0, d1, d2, p0, p1, p2, rfl, rfl, rfl, h0, h1, h2⟩ := trodAll_three hA
  obtain ⟨c0, rfl, _⟩ := okWide_struct Tryd.underlying25 (hval 0 25 v0 rfl rfl)
  obtain ⟨c1, rfl, _⟩ := okWide_struct Tryd.underlying28 (hval 1 28 v1 rfl rfl)
  obtain ⟨c2, rfl, _⟩ := okWide_struct Tryd.underlying30 (hval 2 30 v2 rfl rfl)
  obtain ⟨rfl, rfl⟩ : gs = [] ∧ q = [] := by
    cases gs with
    | nil => exact ⟨rfl, hV⟩
    | cons g r => exact absurd hV (by intro h; cases h)
  have hg := handle_of_laid hL
  have hlt : ∀ x ∈ p0 ++ p1 ++ p2, x.block < W.heap.size := fun x hx => hW'.lt x (by simpa using hx)
  obtain ⟨n0, hf0⟩ := id h0
  obtain ⟨n1, hf1⟩ := id h1
  obtain ⟨n2, hf2⟩ := id h2
  obtain ⟨pb, b, e0, hb⟩ := basR hf0
  obtain ⟨qs, st, e1, hq⟩ := staR hf1
  obtain ⟨tk, e2⟩ := tickR hf2
  obtain rfl : c0 = ⟨basC pb b⟩ := Array.ext' e0
  obtain rfl : c1 = ⟨staC qs st⟩ := Array.ext' e1
  obtain rfl : c2 = ⟨tickC tk⟩ := Array.ext' e2
  have e3 : Rows.basinStepsSpec.fn H ([d0, d1, d2] ++ []) = { results := [.lit (.bool true)], args := [d0, d1, d2] } := rfl
  refine (BasinSteps_any (p := pb) (b := b) (q := qs) (s := st) (t := tk) hg hb hq).mono fun e W' ⟨he, hbel⟩ => ?_
  subst he
  refine ⟨_, rfl, _, _, _, [], p0 ++ (p1 ++ p2), [], hW', ?_, ?_, ?_, hbel.frame _, fun h => by cases h⟩
  · rw [e3]; exact trodAll_mk1 (shut_bool Tryd.underlying4 true)
  · rw [e3]
    exact trodAll_mk3 (Below.trod laidOut (by kernel_rfl) (of_decide_eq_true (by kernel_rfl)) h0 hbel fun x hx => hlt x (by simp [hx])) (Below.trod laidOut (by kernel_rfl) (of_decide_eq_true (by kernel_rfl)) h1 hbel fun x hx => hlt x (by simp [hx])) (Below.trod laidOut (by kernel_rfl) (of_decide_eq_true (by kernel_rfl)) h2 hbel fun x hx => hlt x (by simp [hx]))
  · rw [e3]; rfl
theorem steps_said : Rows.BasinStepsSaid :=
  OpenClaim.holds_of_wide 3 Tryd.f3 rfl rfl rfl rfl rfl rfl rfl ⟨rfl, rfl, rfl, rfl, rfl⟩ rfl rfl rfl rfl rfl (by kernel_rfl) Tryd.func3 (by kernel_rfl)
    (of_decide_eq_true (by kernel_rfl)) (by unfold Func.isWrapper; rw [if_neg (of_decide_eq_false (by kernel_rfl))]; exact ⟨rfl, rfl⟩)
    (fun os started H enc _ => steps_lifted os started H enc)
theorem steps_plain (f : FuncId) (fn : Func) (hf : Tryd.pinned.checked.prog.funcNamed "barrage/barragelaw04.BasinSteps" = some f) (hfn : Tryd.pinned.checked.prog.funcs[f]? = some fn) :
    true = Tryd.pinned.checked.prog.looks [] ∧ ∀ (j : Nat) t, fn.params[j]? = some t → Tryd.pinned.checked.prog.wantsStandIn t = false := by
  obtain rfl : f = 3 := Option.some.inj ((show Tryd.prog.funcNamed "barrage/barragelaw04.BasinSteps" = some 3 by kernel_rfl).symm.trans hf) |>.symm
  obtain rfl : fn = Tryd.f3 := (Option.some.inj (Tryd.func3.symm.trans hfn)).symm
  refine ⟨by kernel_rfl, fun j t ht => ?_⟩
  rw [Tryd.params3] at ht
  have := Array.mem_of_getElem? ht
  have h3 : t = 25 ∨ t = 28 ∨ t = 30 := by simpa using this
  rcases h3 with rfl | rfl | rfl
  · exact (show Tryd.prog.wantsStandIn 25 = false by kernel_rfl)
  · exact (show Tryd.prog.wantsStandIn 28 = false by kernel_rfl)
  · exact (show Tryd.prog.wantsStandIn 30 = false by kernel_rfl)
theorem steps_holds : Rows.BasinStepsCardSaid :=
  Claim7.holds_tied_plain_at .later [] _ _ _ _ steps_said (fun _ h => by cases h) (by kernel_rfl) (fun _ h => by cases h) basinSteps_row_tie rfl ⟨rfl, rfl⟩ (by kernel_rfl) rfl steps_plain (by kernel_rfl)
#print axioms steps_holds
end Go.Proofs.YtoiepgcjinccpaaDoor.X
