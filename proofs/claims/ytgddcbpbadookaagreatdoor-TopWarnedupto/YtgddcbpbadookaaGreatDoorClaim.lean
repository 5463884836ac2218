/-
  PROVED: the law TopWarned answers true at every input whose reading is of bulk at most 1048576, and each argument reads behind the call as it read before: the gates are shut by a plan from a tick on; where the towns can all be warned by a plan of alarms, each town that the water reaches in any of the histories has heard at least its lead ahead of the water; where they cannot, some of them are named.
  CONDITIONS: those of the given row and its card: the library's variable errors.errorType stands as the program's text lays it; the translation, the model and the laws of the library as the card names them; the pruned copy of the project, as the seat's AIM says. The order of evaluation that Go leaves open is covered: each order is walked.
-/
import Derived.Test.YtgddcbpbadookaaGreatDoorPart7
import Derived.Test.YtgddcbpbadookaaGreatDoorPart6
import Derived.ChangeSame
import Derived.ChangeVars
import Derived.JoinedOf
import Derived.Carry
import Derived.Stop.Joined
import Derived.OpenShut
namespace Go.Proofs.YtgddcbpbadookaaGreatDoor
set_option linter.unusedVariables false
set_option linter.unusedSimpArgs false
namespace X
open Go Go.RowKit Go.ChangeShapes Go.WideShapes Bs
set_option maxRecDepth 100000 in
theorem twa_reads (os : Os) {H : Type} (enc : TypeId × Value → H) : ∃ places, DataW.whole enc Tryz.prog ((laidWorld os).forCall (fun _ _ => 0) ⟨#[], #[.agg #[.slice none 0 0, .int .i64 0, .int .i64 0, .int .i64 0, .slice none 0 0, .slice none 0 0, .slice none 0 0, .slice none 0 0, .int .i64 0, .int .i64 0, .int .i64 0], .int .i64 0, .agg #[.slice none 0 0, .slice none 0 0, .int .i64 0]], []⟩).memory Tryz.f3.params.toList Rows.topWarnedSpec.vars false (#[.agg #[.slice none 0 0, .int .i64 0, .int .i64 0, .int .i64 0, .slice none 0 0, .slice none 0 0, .slice none 0 0, .slice none 0 0, .int .i64 0, .int .i64 0, .int .i64 0], .int .i64 0, .agg #[.slice none 0 0, .slice none 0 0, .int .i64 0]] : Array Value).toList 16 = some ([.agg [.agg [.nil, .lit (.int .i64 0), .lit (.int .i64 0), .lit (.int .i64 0), .nil], .nil, .nil, .nil, .lit (.int .i64 0), .lit (.int .i64 0), .lit (.int .i64 0)], .lit (.int .i64 0), .agg [.nil, .nil, .lit (.int .i64 0)]], [], places) := ⟨[], by kernel_rfl⟩
set_option maxRecDepth 100000 in
theorem twa_lifted (os : Os) (started : os.Started) (H : Type) (enc : TypeId × Value → H) (F : Stop.Interp) :
    ReturnsInHanded {} Tryz.checked os 3 .any ((Rows.OpenSpec.upto Rows.topWarnedSpec).preRow enc Tryz.prog Tryz.f3 Rows.topWarnedUptoRow.domain false Rows.topWarnedUptoRow.laid) (((Rows.OpenSpec.upto Rows.topWarnedSpec).at F).post enc Tryz.prog Tryz.f3 false true false false) := by
  obtain ⟨places, hx⟩ := twa_reads os enc
  refine returnsInHanded_of_row (C := Tryz.checked) (s := Rows.OpenSpec.upto Rows.topWarnedSpec) own started (by kernel_rfl) Tryz.func3
    (witness_row_at (enc := enc) (C := Tryz.checked) false (laidWorld os) #[.agg #[.slice none 0 0, .int .i64 0, .int .i64 0, .int .i64 0, .slice none 0 0, .slice none 0 0, .slice none 0 0, .slice none 0 0, .int .i64 0, .int .i64 0, .int .i64 0], .int .i64 0, .agg #[.slice none 0 0, .slice none 0 0, .int .i64 0]] rfl (by kernel_rfl) (by kernel_rfl) (by kernel_rfl)
      (OpenSpec.preRow_of_cond 16 hx (by kernel_rfl) (fun k hk => by cases hk; kernel_rfl) (by kernel_rfl) (laidWorld_met os _))) ?_
  intro W base args ds gs before hval0 hW _ hk _ hL _ _
  show Calls Tryz.prog 3 args W fun e W' => ∃ v, e = .returned v ∧ Rows.topWarnedSpec.post enc Tryz.prog Tryz.f3 false true false false W args v W'
  have hk1 := hk _ rfl
  have hval : ∀ (j : Nat) t v, Tryz.f3.params[j]? = some t → args[j]? = some v → Value.okWide Tryz.prog W .any base t v := hval0
  have hW' := hW
  obtain ⟨p, q, hA0, hV0, rfl, hfz, hnd⟩ := hW
  have hA : DataW.TrodAll enc Tryz.prog W 0 (fun _ => true) true Tryz.f3.params.toList args.toList ds p := hA0
  have hV : DataW.TrodVars enc Tryz.prog W (fun _ => true) [] gs q := hV0
  rw [Tryz.params3] at hA hval
  obtain ⟨w0, w1, w2, d0, d1, d2, pl0, pl1, pl2, rfl, rfl, rfl, h0, h1, h2⟩ := trodAll_three hA
  obtain ⟨c0, rfl, _⟩ := okWide_struct Tryz.underlying29 (hval 0 29 w0 rfl rfl)
  obtain ⟨ua1, rfl⟩ := okWide_int Tryz.underlying3 (hval 1 3 w1 rfl rfl)
  obtain ⟨c2, rfl, _⟩ := okWide_struct Tryz.underlying33 (hval 2 33 w2 rfl rfl)
  obtain ⟨rfl, rfl⟩ : gs = [] ∧ q = [] := by
    cases gs with
    | nil => exact ⟨rfl, hV⟩
    | cons g r => exact absurd hV (by intro h; cases h)
  have hg := handle_of_laid hL
  have hlt : ∀ x ∈ pl0 ++ pl1 ++ pl2, x.block < W.heap.size := fun x hx => hW'.lt x (by simpa using hx)
  obtain ⟨fu0, hf0⟩ := id h0
  obtain ⟨fu1, hf1⟩ := id h1
  obtain ⟨fu2, hf2⟩ := id h2
  obtain ⟨v0, t0, e0, ht0⟩ := ctkR hf0
  obtain rfl : c0 = ⟨ctkC v0 t0⟩ := Array.ext' e0
  obtain ⟨n1, e1⟩ := intR' hf1
  have e1' : Value.int _ ua1 = .int .i64 n1 := (List.cons.inj e1).1
  injection e1' with x1 x2
  subst x2
  obtain ⟨vc2, vw2, ca2, es2, now2, e2, hb2⟩ := behR hf2
  obtain rfl : c2 = ⟨behC vc2 vw2 now2⟩ := Array.ext' e2
  have e9 : Rows.topWarnedSpec.fn H ([d0, d1, d2] ++ []) = { results := [.lit (.bool true)], args := [d0, d1, d2] } := rfl
  refine (TopWarned_any hg ht0 (hb2 (small_any (x := (d2, pl2)) (by simp) hk1))).mono fun e W' ⟨he, hbel⟩ => ?_
  subst he
  refine ⟨_, rfl, _, _, _, [], pl0 ++ (pl1 ++ pl2), [], hW', ?_, ?_, ?_, hbel.frame _, fun h => by cases h⟩
  · rw [e9]; exact trodAll_mk1 (shut_bool Tryz.underlying4 true)
  · rw [e9]
    exact trodAll_mk3 (Below.trod laidOut (by kernel_rfl) (of_decide_eq_true (by kernel_rfl)) h0 hbel fun x hx => hlt x (by simp [hx])) (Below.trod laidOut (by kernel_rfl) (of_decide_eq_true (by kernel_rfl)) h1 hbel fun x hx => hlt x (by simp [hx])) (Below.trod laidOut (by kernel_rfl) (of_decide_eq_true (by kernel_rfl)) h2 hbel fun x hx => hlt x (by simp [hx]))
  · rw [e9]; rfl
theorem twa_said : Rows.TopWarnedUptoSaid :=
  OpenClaim.holds_of_cond 3 Tryz.f3 rfl rfl rfl rfl rfl rfl rfl ⟨rfl, rfl, rfl, rfl, rfl⟩ rfl rfl rfl rfl rfl (by kernel_rfl) Tryz.func3 (by kernel_rfl)
    (of_decide_eq_true (by kernel_rfl)) (by unfold Func.isWrapper; rw [if_neg (of_decide_eq_false (by kernel_rfl))]; exact ⟨rfl, rfl⟩)
    (fun os started H enc _ F => by rw [OpenClaim.pre_eq_preRow]; exact twa_lifted os started H enc F)
theorem twa_plain (f : FuncId) (fn : Func) (hf : Tryz.pinned.checked.prog.funcNamed "barrage/barragetop.TopWarned" = some f) (hfn : Tryz.pinned.checked.prog.funcs[f]? = some fn) :
    true = Tryz.pinned.checked.prog.looks [] ∧ ∀ (j : Nat) t, fn.params[j]? = some t → Tryz.pinned.checked.prog.wantsStandIn t = false := by
  obtain rfl : f = 3 := Option.some.inj ((show Tryz.prog.funcNamed "barrage/barragetop.TopWarned" = some 3 by kernel_rfl).symm.trans hf) |>.symm
  obtain rfl : fn = Tryz.f3 := (Option.some.inj (Tryz.func3.symm.trans hfn)).symm
  refine ⟨by kernel_rfl, fun j t ht => ?_⟩
  rw [Tryz.params3] at ht
  have := Array.mem_of_getElem? ht
  have h3 : t = 29 ∨ t = 3 ∨ t = 33 := by simpa using this
  rcases h3 with rfl | rfl | rfl
  · exact (show Tryz.prog.wantsStandIn 29 = false by kernel_rfl)
  · exact (show Tryz.prog.wantsStandIn 3 = false by kernel_rfl)
  · exact (show Tryz.prog.wantsStandIn 33 = false by kernel_rfl)
theorem twa_holds : Rows.TopWarnedUptoCardSaid :=
  Claim7.holds_tied_plain_at .later [] _ _ _ _ twa_said (fun _ h => by cases h) (by kernel_rfl) (fun _ h => by cases h) topWarnedUpto_row_tie rfl ⟨rfl, rfl⟩ (by kernel_rfl) rfl twa_plain (by kernel_rfl)
#print axioms twa_holds
end X
end Go.Proofs.YtgddcbpbadookaaGreatDoor
