/-
  From the reading of the arguments to how they lie in memory: cases.
-/
import Derived.Test.YtoiepgcjinccpaaDoorPart4
import Derived.Laws.IdiomArrays
import Derived.OpenShut
import Derived.DataShut
set_option linter.unusedVariables false
set_option linter.unusedSimpArgs false
namespace Go.Proofs.YtoiepgcjinccpaaDoor.X
open Go Go.RowKit Go.Proofs.YtoiepgcjinccpaaDoor.Bs Go.WideShapes Go.ChangeShapes
set_option linter.unusedVariables false
section
variable {H : Type} {enc : TypeId × Value → H} {w : World} {base : Nat} {spare : Nat → Bool} {held : Bool} {fuel : Nat} {cs : List Value} {x : DataW H × List MemPlace}
theorem c_case : (Tryd.prog).cellsOf 49 = 4 := by kernel_rfl
theorem c_tks : (Tryd.prog).cellsOf 41 = 1 := by kernel_rfl
theorem caseR (h : DataW.trod enc Tryd.prog w base spare held fuel 49 cs = some x) : ∃ (y : CV) (c : Cas), cs = caseC y c ∧ CaseAt w (Lt w.heap.size) y c := by
  obtain ⟨hl, n, hf⟩ := fieldN Tryd.underlying49 h
  rw [c_case] at hl
  match cs, hl with
  | [c0, c1, c2, c3], _ =>
    obtain ⟨y0, h0'⟩ := hf 0 _ 28 0 2 rfl rfl rfl c_sta
    obtain ⟨y1, h1'⟩ := hf 1 _ 41 2 1 rfl rfl rfl c_tks
    obtain ⟨y2, h2'⟩ := hf 2 _ 3 3 1 rfl rfl rfl c_int
    obtain ⟨q, s, e0, hq⟩ := staR (cs := [c0, c1]) h0'
    obtain ⟨r, ts, e1, ht⟩ := tksR (cs := [c2]) h1'
    obtain ⟨k, e2, _⟩ := DataW.trod_int (cs := [c3]) Tryd.underlying3 h2'
    have e2' : c3 = .int .i64 k := by simpa using e2
    cases e0; cases e1; subst e2'
    exact ⟨⟨q, r⟩, ⟨s, ts, k⟩, rfl, hq, ht⟩
end
end Go.Proofs.YtoiepgcjinccpaaDoor.X
/-
  From the reading of the arguments to how they lie in memory: how a case is worse.
-/
namespace Go.Proofs.YtoiepgcjinccpaaDoor.X
open Go Go.RowKit Go.Proofs.YtoiepgcjinccpaaDoor.Bs Go.WideShapes Go.ChangeShapes
set_option linter.unusedVariables false
section
variable {H : Type} {enc : TypeId × Value → H} {w : World} {base : Nat} {spare : Nat → Bool} {held : Bool} {fuel : Nat} {cs : List Value} {x : DataW H × List MemPlace}
theorem c_u16 : (Tryd.prog).cellsOf 50 = 1 := by kernel_rfl
theorem c_tri : (Tryd.prog).cellsOf 122 = 3 := by kernel_rfl
theorem c_u16s : (Tryd.prog).cellsOf 68 = 1 := by kernel_rfl
theorem c_tris : (Tryd.prog).cellsOf 69 = 1 := by kernel_rfl
theorem c_worse : (Tryd.prog).cellsOf 71 = 3 := by kernel_rfl
theorem u16R6 (h : DataW.trod enc Tryd.prog w base spare held fuel 50 cs = some x) : ∃ k : Int, cs = [.int .u16 k] ∧ (0 ≤ k ∧ k ≤ 65535) := by
  obtain ⟨k, e, _, h2⟩ := DataW.trod_int Tryd.underlying50 h
  have h3 := (Lit.wf_int_iff .u16 k).1 h2
  refine ⟨k, e, ?_⟩
  simp [IntKind.min, IntKind.max, IntKind.signed, IntKind.bits] at h3
  omega
theorem u16sR (h : DataW.trod enc Tryd.prog w base spare held fuel 68 cs = some x) : ∃ (r : SV) (xs : List Int), cs = [svV r] ∧ ListAt u16K w (Lt w.heap.size) r xs ∧ ∀ x, x ∈ xs → 0 ≤ x ∧ x ≤ 65535 := by
  obtain ⟨A, n, c, l, rfl, hr, hnc, hcm, hg⟩ := sliceR (C := u16K.c) (G := fun k : Int => 0 ≤ k ∧ k ≤ 65535) Tryd.underlying68 c_u16 (fun n cs x h => u16R6 h) (fun _ => rfl) (by decide) h
  exact ⟨⟨A, n, c⟩, l, rfl, ⟨ReadsP.of hr, by simp only; unfold maxLen at hcm; omega, fun a ha x hx => by cases hx⟩, hg⟩
theorem triR (h : DataW.trod enc Tryd.prog w base spare held fuel 122 cs = some x) : ∃ t : Tri, cs = triC t ∧ ((0 ≤ t.a ∧ t.a ≤ 65535) ∧ (0 ≤ t.b ∧ t.b ≤ 65535) ∧ (0 ≤ t.c ∧ t.c ≤ 65535)) := by
  have hl : cs.length = 3 := by
    obtain ⟨_, _, _, _, hl, _⟩ := DataW.trod_array Tryd.underlying122 h
    exact hl.trans c_tri
  match cs, hl with
  | [c0, c1, c2], _ =>
    obtain ⟨y0, y1, y2, n, _, h0, h1, h2⟩ := trod_array3 Tryd.underlying122 c_u16 h
    obtain ⟨a, e0, ha⟩ := u16R6 h0
    obtain ⟨b, e1, hb⟩ := u16R6 h1
    obtain ⟨c, e2, hc⟩ := u16R6 h2
    cases e0; cases e1; cases e2
    exact ⟨⟨a, b, c⟩, rfl, ha, hb, hc⟩
theorem trisR (h : DataW.trod enc Tryd.prog w base spare held fuel 69 cs = some x) : ∃ (r : SV) (xs : List Tri), cs = [svV r] ∧ ListAt triK w (Lt w.heap.size) r xs ∧ ∀ t, t ∈ xs → ((0 ≤ t.a ∧ t.a ≤ 65535) ∧ (0 ≤ t.b ∧ t.b ≤ 65535) ∧ (0 ≤ t.c ∧ t.c ≤ 65535)) := by
  obtain ⟨A, n, c, l, rfl, hr, hnc, hcm, hg⟩ := sliceR (C := triK.c) (G := fun t : Tri => ((0 ≤ t.a ∧ t.a ≤ 65535) ∧ (0 ≤ t.b ∧ t.b ≤ 65535) ∧ (0 ≤ t.c ∧ t.c ≤ 65535))) Tryd.underlying69 c_tri (fun n cs x h => triR h) (fun _ => rfl) (by decide) h
  exact ⟨⟨A, n, c⟩, l, rfl, ⟨ReadsP.of hr, by simp only; unfold maxLen at hcm; omega, fun a ha x hx => by cases hx⟩, hg⟩
theorem worseR (h : DataW.trod enc Tryd.prog w base spare held fuel 71 cs = some x) : ∃ (y : WV) (wo : Wor), cs = worC y wo ∧ WorAt w (Lt w.heap.size) y wo := by
  obtain ⟨hl, n, hf⟩ := fieldN Tryd.underlying71 h
  rw [c_worse] at hl
  match cs, hl with
  | [c0, c1, c2], _ =>
    obtain ⟨y0, h0'⟩ := hf 0 _ 3 0 1 rfl rfl rfl c_int
    obtain ⟨y1, h1'⟩ := hf 1 _ 68 1 1 rfl rfl rfl c_u16s
    obtain ⟨y2, h2'⟩ := hf 2 _ 69 2 1 rfl rfl rfl c_tris
    obtain ⟨k, e0⟩ := intR' (cs := [c0]) h0'
    obtain ⟨q, fil, e1, hq, gq⟩ := u16sR (cs := [c1]) h1'
    obtain ⟨r, tks, e2, hr, gr⟩ := trisR (cs := [c2]) h2'
    cases e0; cases e1; cases e2
    exact ⟨⟨q, r⟩, ⟨k, fil, tks⟩, rfl, hq, hr, gq, gr⟩
end
end Go.Proofs.YtoiepgcjinccpaaDoor.X
