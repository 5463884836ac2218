/-
  PROVED: the law RunoffLow answers true at every input whose reading is of bulk at most 1048576, and each argument reads behind the call as it read before: a sluice can be on at each tick that is sure for the level inside, rounded down, if the level outside is in its span, and at no other one than those that are possible for it, rounded up.
  CONDITIONS: those of the given row: the translation, the model and the laws of the library as the row names them. The order of evaluation that Go leaves open is covered: each order is walked.
-/
import Derived.Test.YtmckmlmfilmiaaaPart5
import Derived.Test.YtmckmlmfilmiaaaPart4
import Derived.ChangeSame
import Derived.ChangeVars
import Derived.JoinedOf
import Derived.Carry
import Derived.Stop.Joined
import Derived.OpenShut
set_option linter.unusedVariables false
set_option linter.unusedSimpArgs false
namespace Go.Proofs.Ytmckmlmfilmiaaa.X
open Go Go.RowKit Go.ChangeShapes Go.WideShapes Go.Proofs.Ytmckmlmfilmiaaa.Bs
set_option maxRecDepth 100000 in
theorem rlo_lifted (os : Os) (started : os.Started) (H : Type) (enc : TypeId × Value → H) (F : Stop.Interp) :
    ReturnsInHanded {} Try.checked os 7 .any ((Rows.OpenSpec.upto Rows.runoffLowSpec).pre6 enc Try.prog Try.f7 Rows.runoffLowUptoRow.domain false) (((Rows.OpenSpec.upto Rows.runoffLowSpec).at F).post enc Try.prog Try.f7 false true false false) := by
  refine returnsInHanded_of_cond (C := Try.checked) (s := Rows.OpenSpec.upto Rows.runoffLowSpec) (k := Rows.uptoSmall) rfl own started (by kernel_rfl) Try.func7
    (OpenSpec.witness (enc := enc) (C := Try.checked) (s := Rows.OpenSpec.upto Rows.runoffLowSpec) (k := Rows.uptoSmall) rfl false ⟨#[], #[.agg #[.slice none 0 0, .int .i64 0, .int .i64 0, .int .i64 0, .slice none 0 0, .int .i64 0, .slice none 0 0, .slice none 0 0, .slice none 0 0, .slice none 0 0, .int .i64 0, .int .i64 0, .slice none 0 0, .slice none 0 0, .slice none 0 0], .agg #[.int .i64 0, .slice none 0 0, .int .i64 0, .slice none 0 0, .slice none 0 0, .int .i64 0], .agg #[.int .u8 0, .int .u8 0]], []⟩ 16 (by kernel_rfl) (by kernel_rfl) (by kernel_rfl)
      (x := ([.agg [.agg [.nil, .lit (.int .i64 0), .lit (.int .i64 0), .lit (.int .i64 0), .nil], .agg [.lit (.int .i64 0), .nil], .nil, .nil, .nil, .lit (.int .i64 0), .lit (.int .i64 0), .nil, .nil, .nil], .agg [.agg [.lit (.int .i64 0), .nil], .lit (.int .i64 0), .nil, .nil, .lit (.int .i64 0)], .agg [.lit (.int .u8 0), .lit (.int .u8 0)]], [], [])) (by kernel_rfl) rfl (by kernel_rfl)) ?_
  intro W base args ds gs before hval0 hW _ hk1 _
  show Calls Try.prog 7 args W fun e W' => ∃ v, e = .returned v ∧ Rows.runoffLowSpec.post enc Try.prog Try.f7 false true false false W args v W'
  have hval : ∀ (j : Nat) t v, Try.f7.params[j]? = some t → args[j]? = some v → Value.okWide Try.prog W .any base t v := hval0
  have hW' := hW
  obtain ⟨p, q, hA0, hV0, rfl, hfz, hnd⟩ := hW
  have hA : DataW.TrodAll enc Try.prog W 0 (fun _ => true) true Try.f7.params.toList args.toList ds p := hA0
  have hV : DataW.TrodVars enc Try.prog W (fun _ => true) [] gs q := hV0
  rw [Try.params7] at hA hval
  obtain ⟨w0, w1, w2, d0, d1, d2, pl0, pl1, pl2, rfl, rfl, rfl, h0, h1, h2⟩ := trodAll_three hA
  obtain ⟨c0, rfl, _⟩ := okWide_struct Try.underlying33 (hval 0 33 w0 rfl rfl)
  obtain ⟨c1, rfl, _⟩ := okWide_struct Try.underlying62 (hval 1 62 w1 rfl rfl)
  obtain ⟨c2, rfl, _⟩ := okWide_arr Try.underlying63 (hval 2 63 w2 rfl rfl)
  obtain ⟨rfl, rfl⟩ : gs = [] ∧ q = [] := by
    cases gs with
    | nil => exact ⟨rfl, hV⟩
    | cons g r => exact absurd hV (by intro h; cases h)
  have hlt : ∀ x ∈ pl0 ++ pl1 ++ pl2, x.block < W.heap.size := fun x hx => hW'.lt x (by simpa using hx)
  obtain ⟨fu0, hf0⟩ := id h0
  obtain ⟨fu1, hf1⟩ := id h1
  obtain ⟨fu2, hf2⟩ := id h2
  obtain ⟨v0, t0, e0, ht0⟩ := tskR hf0
  obtain rfl : c0 = ⟨tskC v0 t0⟩ := Array.ext' e0
  obtain ⟨y1, x1, e1, hx1⟩ := turnR hf1
  obtain rfl : c1 = ⟨turnC y1 x1⟩ := Array.ext' e1
  obtain ⟨b2, bb2, e2, hb2⟩ := u2R hf2
  obtain rfl : c2 = ⟨[.int .u8 b2, .int .u8 bb2]⟩ := Array.ext' e2
  have e9 : Rows.runoffLowSpec.fn H ([d0, d1, d2] ++ []) = { results := [.lit (.bool true)], args := [d0, d1, d2] } := rfl
  refine (RunoffLow_any ht0 (small_tsk (x := (d0, pl0)) (by simp) hk1 ht0 hf0) hx1 hb2.1 hb2.2).mono fun e W' ⟨he, hbel⟩ => ?_
  subst he
  refine ⟨_, rfl, _, _, _, [], pl0 ++ (pl1 ++ pl2), [], hW', ?_, ?_, ?_, hbel.frame _, fun h => by cases h⟩
  · rw [e9]; exact trodAll_mk1 (shut_bool Try.underlying4 true)
  · rw [e9]
    exact trodAll_mk3 (Below.trod laidOut (by kernel_rfl) (of_decide_eq_true (by kernel_rfl)) h0 hbel fun x hx => hlt x (by simp [hx])) (Below.trod laidOut (by kernel_rfl) (of_decide_eq_true (by kernel_rfl)) h1 hbel fun x hx => hlt x (by simp [hx])) (Below.trod laidOut (by kernel_rfl) (of_decide_eq_true (by kernel_rfl)) h2 hbel fun x hx => hlt x (by simp [hx]))
  · rw [e9]; rfl
theorem rlo_holds : Rows.RunoffLowUptoSaid :=
  OpenClaim.holds_of_cond 7 Try.f7 rfl rfl rfl rfl rfl rfl rfl ⟨rfl, rfl, rfl, rfl, rfl⟩ rfl rfl rfl rfl rfl (by kernel_rfl) Try.func7 (by kernel_rfl)
    (of_decide_eq_true (by kernel_rfl)) (by unfold Func.isWrapper; rw [if_neg (of_decide_eq_false (by kernel_rfl))]; exact ⟨rfl, rfl⟩)
    (fun os started H enc _ F => rlo_lifted os started H enc F)
#print axioms rlo_holds
end Go.Proofs.Ytmckmlmfilmiaaa.X
