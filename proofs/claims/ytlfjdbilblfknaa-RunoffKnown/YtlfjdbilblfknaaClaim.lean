/-
  PROVED: the law RunoffKnown answers true at every input, and each argument reads behind the call as it read before: the examples of the document.
  CONDITIONS: those of the given row: the translation, the model and the laws of the library as the row names them. The order of evaluation that Go leaves open is covered: each order is walked.
-/
import Derived.Test.YtlfjdbilblfknaaPart5
import Derived.ChangeSame
import Derived.ChangeVars
import Derived.JoinedOf
import Derived.Carry
import Derived.Stop.Joined
import Derived.OpenShut
set_option linter.unusedVariables false
set_option linter.unusedSimpArgs false
namespace Go.Proofs.Ytlfjdbilblfknaa.X
open Go Go.RowKit Go.ChangeShapes Go.WideShapes Go.Proofs.Ytlfjdbilblfknaa.Bs
set_option maxRecDepth 100000 in
theorem rkn_lifted (os : Os) (started : os.Started) (H : Type) (enc : TypeId × Value → H) :
    ReturnsInHanded {} Try.checked os 4 .any (Rows.runoffKnownSpec.pre6 enc Try.prog Try.f4 Rows.runoffKnownRow.domain false) (Rows.runoffKnownSpec.post enc Try.prog Try.f4 false true false false) := by
  refine returnsInHanded_of_change (C := Try.checked) own started (by kernel_rfl) Try.func4
    (ChangeSpec.witness6 (enc := enc) (C := Try.checked) false ⟨#[], #[], []⟩ 16 (by kernel_rfl) (by kernel_rfl) (by kernel_rfl) (by kernel_rfl)) ?_
  intro W base args ds gs before hval0 hW hcnd _
  show Calls Try.prog 4 args W fun e W' => ∃ v, e = .returned v ∧ Rows.runoffKnownSpec.post enc Try.prog Try.f4 false true false false W args v W'
  have hval : ∀ (j : Nat) t v, Try.f4.params[j]? = some t → args[j]? = some v → Value.okWide Try.prog W .any base t v := hval0
  have hW' := hW
  obtain ⟨p, q, hA0, hV0, rfl, hfz, hnd⟩ := hW
  have hA : DataW.TrodAll enc Try.prog W 0 (fun _ => true) true Try.f4.params.toList args.toList ds p := hA0
  have hV : DataW.TrodVars enc Try.prog W (fun _ => true) [] gs q := hV0
  rw [Try.params4] at hA hval
  obtain ⟨rfl, rfl, rfl⟩ := trodAll_none hA
  obtain ⟨rfl, rfl⟩ : gs = [] ∧ q = [] := by
    cases gs with
    | nil => exact ⟨rfl, hV⟩
    | cons g r => exact absurd hV (by intro h; cases h)
  have e9 : Rows.runoffKnownSpec.fn H ([] ++ []) = { results := [.lit (.bool true)], args := [] } := rfl
  refine (RunoffKnown_any ).mono fun e W' ⟨he, hbel⟩ => ?_
  subst he
  refine ⟨_, rfl, _, _, _, [], [], [], hW', ?_, ?_, ?_, hbel.frame _, fun h => by cases h⟩
  · rw [e9]; exact trodAll_mk1 (shut_bool Try.underlying4 true)
  · rw [e9]; exact trodAll_mk0
  · rw [e9]; rfl
theorem rkn_holds : Rows.RunoffKnownSaid :=
  OpenClaim.holds_of_wide 4 Try.f4 rfl rfl rfl rfl rfl rfl rfl ⟨rfl, rfl, rfl, rfl, rfl⟩ rfl rfl rfl rfl rfl (by kernel_rfl) Try.func4 (by kernel_rfl)
    (of_decide_eq_true (by kernel_rfl)) (by unfold Func.isWrapper; rw [if_neg (of_decide_eq_false (by kernel_rfl))]; exact ⟨rfl, rfl⟩)
    (fun os started H enc _ => rkn_lifted os started H enc)
#print axioms rkn_holds
end Go.Proofs.Ytlfjdbilblfknaa.X
