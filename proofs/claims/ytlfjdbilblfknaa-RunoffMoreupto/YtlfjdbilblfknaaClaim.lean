/-
  PROVED: the law RunoffMore answers true at every input whose reading is of bulk at most 1048576, and each argument reads behind the call as it read before: a plan found for a task is no dearer where prices are less and limits wider, nor where one pump more may be used.
  CONDITIONS: those of the given row: the translation, the model and the laws of the library as the row names them. The order of evaluation that Go leaves open is covered: each order is walked.
-/
import Derived.Test.YtlfjdbilblfknaaPart5
import Derived.Test.YtlfjdbilblfknaaPart7
import Derived.ChangeSame
import Derived.ChangeVars
import Derived.JoinedOf
import Derived.Carry
import Derived.Stop.Joined
import Derived.OpenShut
set_option linter.unusedVariables false
set_option linter.unusedSimpArgs false
namespace Go.Proofs.Ytlfjdbilblfknaa.X
open Go Go.RowKit Go.ChangeShapes Go.WideShapes Go.Proofs.Ytlfjdbilblfknaa.Bs
set_option maxRecDepth 100000 in
theorem rmo_lifted (os : Os) (started : os.Started) (H : Type) (enc : TypeId × Value → H) (F : Stop.Interp) :
    ReturnsInHanded {} Try.checked os 3 .any ((Rows.OpenSpec.upto Rows.runoffMoreSpec).pre6 enc Try.prog Try.f3 Rows.runoffMoreUptoRow.domain false) (((Rows.OpenSpec.upto Rows.runoffMoreSpec).at F).post enc Try.prog Try.f3 false true false false) := by
  refine returnsInHanded_of_cond (C := Try.checked) (s := Rows.OpenSpec.upto Rows.runoffMoreSpec) (k := Rows.uptoSmall) rfl own started (by kernel_rfl) Try.func3
    (OpenSpec.witness (enc := enc) (C := Try.checked) (s := Rows.OpenSpec.upto Rows.runoffMoreSpec) (k := Rows.uptoSmall) rfl false ⟨#[], #[.agg #[.slice none 0 0, .int .i64 0, .int .i64 0, .int .i64 0, .slice none 0 0, .int .i64 0, .slice none 0 0, .slice none 0 0, .slice none 0 0, .slice none 0 0, .int .i64 0, .int .i64 0, .slice none 0 0, .slice none 0 0, .slice none 0 0], .agg #[.string ByteArray.empty, .int .i64 0, .int .i64 0, .int .i64 0, .int .i64 0, .int .u16 0, .int .u16 0, .int .u16 0]], []⟩ 16 (by kernel_rfl) (by kernel_rfl) (by kernel_rfl)
      (x := ([.agg [.agg [.nil, .lit (.int .i64 0), .lit (.int .i64 0), .lit (.int .i64 0), .nil], .agg [.lit (.int .i64 0), .nil], .nil, .nil, .nil, .lit (.int .i64 0), .lit (.int .i64 0), .nil, .nil, .nil], .agg [.agg [.lit (.string []), .lit (.int .i64 0), .lit (.int .i64 0), .lit (.int .i64 0), .lit (.int .i64 0)], .lit (.int .u16 0), .lit (.int .u16 0), .lit (.int .u16 0)]], [], [])) (by kernel_rfl) rfl (by kernel_rfl)) ?_
  intro W base args ds gs before hval0 hW _ hk1 _
  show Calls Try.prog 3 args W fun e W' => ∃ v, e = .returned v ∧ Rows.runoffMoreSpec.post enc Try.prog Try.f3 false true false false W args v W'
  have hval : ∀ (j : Nat) t v, Try.f3.params[j]? = some t → args[j]? = some v → Value.okWide Try.prog W .any base t v := hval0
  have hW' := hW
  obtain ⟨p, q, hA0, hV0, rfl, hfz, hnd⟩ := hW
  have hA : DataW.TrodAll enc Try.prog W 0 (fun _ => true) true Try.f3.params.toList args.toList ds p := hA0
  have hV : DataW.TrodVars enc Try.prog W (fun _ => true) [] gs q := hV0
  rw [Try.params3] at hA hval
  obtain ⟨w0, w1, d0, d1, pl0, pl1, rfl, rfl, rfl, h0, h1⟩ := trodAll_two hA
  obtain ⟨c0, rfl, _⟩ := okWide_struct Try.underlying33 (hval 0 33 w0 rfl rfl)
  obtain ⟨c1, rfl, _⟩ := okWide_struct Try.underlying38 (hval 1 38 w1 rfl rfl)
  obtain ⟨rfl, rfl⟩ : gs = [] ∧ q = [] := by
    cases gs with
    | nil => exact ⟨rfl, hV⟩
    | cons g r => exact absurd hV (by intro h; cases h)
  have hlt : ∀ x ∈ pl0 ++ pl1, x.block < W.heap.size := fun x hx => hW'.lt x (by simpa using hx)
  obtain ⟨fu0, hf0⟩ := id h0
  obtain ⟨fu1, hf1⟩ := id h1
  obtain ⟨v0, t0, e0, ht0⟩ := tskR hf0
  obtain rfl : c0 = ⟨tskC v0 t0⟩ := Array.ext' e0
  obtain ⟨x1, e1, hx1⟩ := moreR hf1
  obtain rfl : c1 = ⟨moreC x1⟩ := Array.ext' e1
  have e9 : Rows.runoffMoreSpec.fn H ([d0, d1] ++ []) = { results := [.lit (.bool true)], args := [d0, d1] } := rfl
  refine (RunoffMore_any ht0 (small_tsk (x := (d0, pl0)) (by simp) hk1 ht0 hf0) (small_out (x := (d0, pl0)) (by simp) hk1 ht0 hf0) hx1).mono fun e W' ⟨he, hbel⟩ => ?_
  subst he
  refine ⟨_, rfl, _, _, _, [], pl0 ++ pl1, [], hW', ?_, ?_, ?_, hbel.frame _, fun h => by cases h⟩
  · rw [e9]; exact trodAll_mk1 (shut_bool Try.underlying4 true)
  · rw [e9]
    exact trodAll_mk2 (Below.trod laidOut (by kernel_rfl) (of_decide_eq_true (by kernel_rfl)) h0 hbel fun x hx => hlt x (by simp [hx])) (Below.trod laidOut (by kernel_rfl) (of_decide_eq_true (by kernel_rfl)) h1 hbel fun x hx => hlt x (by simp [hx]))
  · rw [e9]; rfl
theorem rmo_holds : Rows.RunoffMoreUptoSaid :=
  OpenClaim.holds_of_cond 3 Try.f3 rfl rfl rfl rfl rfl rfl rfl ⟨rfl, rfl, rfl, rfl, rfl⟩ rfl rfl rfl rfl rfl (by kernel_rfl) Try.func3 (by kernel_rfl)
    (of_decide_eq_true (by kernel_rfl)) (by unfold Func.isWrapper; rw [if_neg (of_decide_eq_false (by kernel_rfl))]; exact ⟨rfl, rfl⟩)
    (fun os started H enc _ F => rmo_lifted os started H enc F)
#print axioms rmo_holds
end Go.Proofs.Ytlfjdbilblfknaa.X
