/-
  PROVED: the law ClosureKeeps answers true at every input, and each argument reads behind the call as it read before: with a decision that is changed in one place Accept returns an error, or this is still a decision of the task by the document (any task and rules; a task as in ClosureLast; what is changed, and by how much).
  CONDITIONS: those of the given row: the translation, the model and the laws of the library as the row names them. The order of evaluation that Go leaves open is covered: each order is walked.
-/
import Derived.Test.YtmpaiphakjogjaaGreatPart7
import Derived.Test.YtmpaiphakjogjaaGreatPart6
import Derived.ChangeSame
import Derived.ChangeVars
import Derived.JoinedOf
import Derived.Carry
import Derived.Stop.Joined
import Derived.OpenShut
set_option linter.unusedVariables false
set_option linter.unusedSimpArgs false
namespace Go.Proofs.YtmpaiphakjogjaaGreat.X
open Go Go.RowKit Go.ChangeShapes Go.WideShapes Go.Proofs.YtmpaiphakjogjaaGreat.Bs
set_option maxRecDepth 100000 in
theorem cke_lifted (os : Os) (started : os.Started) (H : Type) (enc : TypeId × Value → H) :
    ReturnsInHanded {} Tryz.checked os 7 .any (Rows.closureKeepsSpec.pre6 enc Tryz.prog Tryz.f7 Rows.closureKeepsRow.domain false) (Rows.closureKeepsSpec.post enc Tryz.prog Tryz.f7 false true false false) := by
  refine returnsInHanded_of_change (C := Tryz.checked) own started (by kernel_rfl) Tryz.func7
    (ChangeSpec.witness6 (enc := enc) (C := Tryz.checked) false ⟨#[], #[.agg #[.slice none 0 0, .int .i64 0, .int .i64 0, .int .i64 0, .slice none 0 0, .slice none 0 0, .slice none 0 0, .slice none 0 0, .int .i64 0, .int .i64 0, .int .i64 0], .agg #[.int .i64 0, .int .i64 0], .agg #[.int .i8 0, .int .i8 0, .int .i8 0]], []⟩ 16 (by kernel_rfl) (by kernel_rfl) (by kernel_rfl) (by kernel_rfl)) ?_
  intro W base args ds gs before hval0 hW hcnd _
  show Calls Tryz.prog 7 args W fun e W' => ∃ v, e = .returned v ∧ Rows.closureKeepsSpec.post enc Tryz.prog Tryz.f7 false true false false W args v W'
  have hval : ∀ (j : Nat) t v, Tryz.f7.params[j]? = some t → args[j]? = some v → Value.okWide Tryz.prog W .any base t v := hval0
  have hW' := hW
  obtain ⟨p, q, hA0, hV0, rfl, hfz, hnd⟩ := hW
  have hA : DataW.TrodAll enc Tryz.prog W 0 (fun _ => true) true Tryz.f7.params.toList args.toList ds p := hA0
  have hV : DataW.TrodVars enc Tryz.prog W (fun _ => true) [] gs q := hV0
  rw [Tryz.params7] at hA hval
  obtain ⟨w0, w1, w2, d0, d1, d2, pl0, pl1, pl2, rfl, rfl, rfl, h0, h1, h2⟩ := trodAll_three hA
  obtain ⟨c0, rfl, _⟩ := okWide_struct Tryz.underlying29 (hval 0 29 w0 rfl rfl)
  obtain ⟨c1, rfl, _⟩ := okWide_struct Tryz.underlying31 (hval 1 31 w1 rfl rfl)
  obtain ⟨c2, rfl, _⟩ := okWide_arr Tryz.underlying66 (hval 2 66 w2 rfl rfl)
  obtain ⟨rfl, rfl⟩ : gs = [] ∧ q = [] := by
    cases gs with
    | nil => exact ⟨rfl, hV⟩
    | cons g r => exact absurd hV (by intro h; cases h)
  have hlt : ∀ x ∈ pl0 ++ pl1 ++ pl2, x.block < W.heap.size := fun x hx => hW'.lt x (by simpa using hx)
  obtain ⟨fu0, hf0⟩ := id h0
  obtain ⟨fu1, hf1⟩ := id h1
  obtain ⟨fu2, hf2⟩ := id h2
  obtain ⟨v0, t0, e0, ht0⟩ := ctkR hf0
  obtain rfl : c0 = ⟨ctkC v0 t0⟩ := Array.ext' e0
  obtain ⟨r1x, e1⟩ := ruR hf1
  obtain rfl : c1 = ⟨[.int .i64 r1x.count, .int .i64 r1x.early]⟩ := Array.ext' e1
  obtain ⟨b2, bb2, bbb2, e2, hb2⟩ := b3R5 hf2
  obtain rfl : c2 = ⟨[.int .i8 b2, .int .i8 bb2, .int .i8 bbb2]⟩ := Array.ext' e2
  have e9 : Rows.closureKeepsSpec.fn H ([d0, d1, d2] ++ []) = { results := [.lit (.bool true)], args := [d0, d1, d2] } := rfl
  refine (ClosureKeeps_any ht0 hb2).mono fun e W' ⟨he, hbel⟩ => ?_
  subst he
  refine ⟨_, rfl, _, _, _, [], pl0 ++ (pl1 ++ pl2), [], hW', ?_, ?_, ?_, hbel.frame _, fun h => by cases h⟩
  · rw [e9]; exact trodAll_mk1 (shut_bool Tryz.underlying4 true)
  · rw [e9]
    exact trodAll_mk3 (Below.trod laidOut (by kernel_rfl) (of_decide_eq_true (by kernel_rfl)) h0 hbel fun x hx => hlt x (by simp [hx])) (Below.trod laidOut (by kernel_rfl) (of_decide_eq_true (by kernel_rfl)) h1 hbel fun x hx => hlt x (by simp [hx])) (Below.trod laidOut (by kernel_rfl) (of_decide_eq_true (by kernel_rfl)) h2 hbel fun x hx => hlt x (by simp [hx]))
  · rw [e9]; rfl
theorem cke_holds : Rows.ClosureKeepsSaid :=
  OpenClaim.holds_of_wide 7 Tryz.f7 rfl rfl rfl rfl rfl rfl rfl ⟨rfl, rfl, rfl, rfl, rfl⟩ rfl rfl rfl rfl rfl (by kernel_rfl) Tryz.func7 (by kernel_rfl)
    (of_decide_eq_true (by kernel_rfl)) (by unfold Func.isWrapper; rw [if_neg (of_decide_eq_false (by kernel_rfl))]; exact ⟨rfl, rfl⟩)
    (fun os started H enc _ => cke_lifted os started H enc)
#print axioms cke_holds
end Go.Proofs.YtmpaiphakjogjaaGreat.X
