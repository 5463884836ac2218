/-
  A pump and by how much more, read off the argument.
-/
import Derived.Test.YtlfjdbilblfknaaPart5
import Derived.Test.YtlfjdbilblfknaaPart6
import Derived.DataShut
set_option linter.unusedVariables false
set_option linter.unusedSimpArgs false
namespace Go.Proofs.Ytlfjdbilblfknaa.X
open Go Go.RowKit Go.ChangeShapes Go.WideShapes Go.Proofs.Ytlfjdbilblfknaa.Bs
set_option linter.unusedVariables false
section
variable {H : Type} {enc : TypeId × Value → H} {w : World} {base : Nat} {spare : Nat → Bool} {held : Bool} {fuel : Nat} {cs : List Value} {x : DataW H × List MemPlace}
theorem u16R9 (h : DataW.trod enc Try.prog w base spare held fuel 36 cs = some x) : ∃ k : Int, cs = [.int .u16 k] ∧ (0 ≤ k ∧ k ≤ 65535) := by
  obtain ⟨k, e, _, h2⟩ := DataW.trod_int Try.underlying36 h
  have h3 := (Lit.wf_int_iff .u16 k).1 h2
  refine ⟨k, e, ?_⟩
  simp [IntKind.min, IntKind.max, IntKind.signed, IntKind.bits] at h3
  omega
theorem c_mor9 : (Try.prog).cellsOf 38 = 8 := by kernel_rfl
theorem c_u169 : (Try.prog).cellsOf 36 = 1 := by kernel_rfl
theorem moreR (h : DataW.trod enc Try.prog w base spare held fuel 38 cs = some x) : ∃ z : Mor, cs = moreC z ∧ ((0 ≤ z.pr ∧ z.pr ≤ 65535) ∧ (0 ≤ z.hi ∧ z.hi ≤ 65535) ∧ (0 ≤ z.lo ∧ z.lo ≤ 65535) ∧ z.p.name.size ≤ 9223372036854775807) := by
  obtain ⟨hl, n, hf⟩ := fieldN Try.underlying38 h
  rw [c_mor9] at hl
  match cs, hl with
  | [a0, a1, a2, a3, a4, a5, a6, a7], _ =>
    obtain ⟨y0, h0⟩ := hf 0 _ 35 0 5 rfl rfl rfl c_pmp
    obtain ⟨y1, h1⟩ := hf 1 _ 36 5 1 rfl rfl rfl c_u169
    obtain ⟨y2, h2⟩ := hf 2 _ 36 6 1 rfl rfl rfl c_u169
    obtain ⟨y3, h3⟩ := hf 3 _ 36 7 1 rfl rfl rfl c_u169
    obtain ⟨r, e0, k0⟩ := pmpR h0
    obtain ⟨pr, e1, k1⟩ := u16R9 h1
    obtain ⟨hi, e2, k2⟩ := u16R9 h2
    obtain ⟨lo, e3, k3⟩ := u16R9 h3
    simp only [pmpC, List.drop_succ_cons, List.drop_zero, List.take_succ_cons, List.take_zero] at e0 e1 e2 e3
    cases e0; cases e1; cases e2; cases e3
    exact ⟨⟨r, pr, hi, lo⟩, rfl, k1, k2, k3, k0⟩
end
end Go.Proofs.Ytlfjdbilblfknaa.X
