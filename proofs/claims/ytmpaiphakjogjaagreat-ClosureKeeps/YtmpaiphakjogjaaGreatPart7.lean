/-
  From the reading of the arguments to how they lie in memory: tasks, plans, rules (closure).
-/
import Derived.Test.YtmpaiphakjogjaaGreatPart3
import Derived.Test.YtmpaiphakjogjaaGreatPart6
import Derived.Test.YtmpaiphakjogjaaGreatRows
import Derived.Deep.Slices
import Derived.Deep.DeepHandedRow
import Derived.JoinedCond
import Derived.ProofKit
import Derived.Carry
import Derived.OpenShut
import Derived.DataShut
set_option linter.unusedVariables false
set_option linter.unusedSimpArgs false
namespace Go.Proofs.YtmpaiphakjogjaaGreat.X
open Go Go.RowKit Go.ChangeShapes Go.WideShapes Go.Proofs.YtmpaiphakjogjaaGreat.Bs
section
variable {H : Type} {enc : TypeId × Value → H} {w : World} {base : Nat} {spare : Nat → Bool} {held : Bool} {fuel : Nat} {cs : List Value} {x : DataW H × List MemPlace}
theorem c_ser5 : (Tryz.prog).cellsOf 133 = 2 := by kernel_rfl
theorem c_sers5 : (Tryz.prog).cellsOf 27 = 1 := by kernel_rfl
theorem c_ctk5 : (Tryz.prog).cellsOf 29 = 11 := by kernel_rfl
theorem c_ru5 : (Tryz.prog).cellsOf 31 = 2 := by kernel_rfl
theorem hisR (h : DataW.trod enc Tryz.prog w base spare held fuel 133 cs = some x) : ∃ (q : SV) (r : His), cs = hisC q r ∧ IntsAt w (Lt w.heap.size) q r.vals := by
  obtain ⟨hl, n, hf⟩ := fieldN Tryz.underlying133 h
  rw [c_ser5] at hl
  match cs, hl with
  | [c0, c1], _ =>
    obtain ⟨y0, h0⟩ := hf 0 _ 3 0 1 rfl rfl rfl c_int
    obtain ⟨y1, h1⟩ := hf 1 _ 26 1 1 rfl rfl rfl c_ints
    obtain ⟨k0, e0⟩ := intR' h0
    obtain ⟨q, l, e1, k1⟩ := intsR h1
    simp only [List.drop_succ_cons, List.drop_zero, List.take_succ_cons, List.take_zero] at e0 e1
    cases e0; cases e1
    exact ⟨q, ⟨k0, l⟩, rfl, k1⟩
theorem hissR (h : DataW.trod enc Tryz.prog w base spare held fuel 27 cs = some x) : ∃ (q : SV) (es : List (SV × His)), cs = [svV q] ∧ ListAt hisK w (Lt w.heap.size) q es ∧ q.n ≤ q.c := by
  obtain ⟨A, n, c, l, rfl, hr, hnc, hcm, hg⟩ := sliceR (C := fun e : SV × His => hisC e.1 e.2) (G := fun e => IntsAt w (Lt w.heap.size) e.1 e.2.vals) Tryz.underlying27 c_ser5 (fun n cs x h => by
    obtain ⟨q, l, e, hl⟩ := hisR h
    exact ⟨(q, l), e, hl⟩) (fun _ => rfl) (by decide) h
  exact ⟨⟨A, n, c⟩, l, rfl, ⟨ReadsP.of hr, by simp only; unfold maxLen at hcm; omega, fun a ha x hx => by rw [List.mem_singleton.1 hx]; exact hg a ha⟩, hnc⟩
theorem ctkR (h : DataW.trod enc Tryz.prog w base spare held fuel 29 cs = some x) : ∃ (v : CTV) (t : CTk), cs = ctkC v t ∧ CtAt w w.heap.size v t := by
  obtain ⟨hl, n, hf⟩ := fieldN Tryz.underlying29 h
  rw [c_ctk5] at hl
  match cs, hl with
  | [a0, a1, a2, a3, a4, a5, a6, a7, a8, a9, b0], _ =>
    obtain ⟨y0, h0⟩ := hf 0 _ 25 0 5 rfl rfl rfl c_bas
    obtain ⟨y1, h1⟩ := hf 1 _ 26 5 1 rfl rfl rfl c_ints
    obtain ⟨y2, h2⟩ := hf 2 _ 27 6 1 rfl rfl rfl c_sers5
    obtain ⟨y3, h3⟩ := hf 3 _ 26 7 1 rfl rfl rfl c_ints
    obtain ⟨y4, h4⟩ := hf 4 _ 3 8 1 rfl rfl rfl c_int
    obtain ⟨y5, h5⟩ := hf 5 _ 3 9 1 rfl rfl rfl c_int
    obtain ⟨y6, h6⟩ := hf 6 _ 3 10 1 rfl rfl rfl c_int
    obtain ⟨p, b, e0, k0⟩ := basR h0
    obtain ⟨q1, l1, e1, k1⟩ := intsR h1
    obtain ⟨q2, l2, e2, k2, n2⟩ := hissR h2
    obtain ⟨q3, l3, e3, k3⟩ := intsR h3
    obtain ⟨i4, e4⟩ := intR' h4
    obtain ⟨i5, e5⟩ := intR' h5
    obtain ⟨i6, e6⟩ := intR' h6
    simp only [List.drop_succ_cons, List.drop_zero, List.take_succ_cons, List.take_zero, basC, svV] at e0 e1 e2 e3 e4 e5 e6
    cases e0; cases e1; cases e2; cases e3; cases e4; cases e5; cases e6
    exact ⟨⟨p, q1, q2, q3⟩, ⟨b, l1, l2.map (·.2), l3, i4, i5, i6⟩, rfl, k0, k1, ⟨l2, k2, rfl⟩, k3, n2⟩
theorem ruR (h : DataW.trod enc Tryz.prog w base spare held fuel 31 cs = some x) : ∃ r : CRu, cs = [.int .i64 r.count, .int .i64 r.early] := by
  obtain ⟨hl, n, hf⟩ := fieldN Tryz.underlying31 h
  rw [c_ru5] at hl
  match cs, hl with
  | [c0, c1], _ =>
    obtain ⟨y0, h0⟩ := hf 0 _ 3 0 1 rfl rfl rfl c_int
    obtain ⟨y1, h1⟩ := hf 1 _ 3 1 1 rfl rfl rfl c_int
    obtain ⟨k0, e0⟩ := intR' h0
    obtain ⟨k1, e1⟩ := intR' h1
    simp only [List.drop_succ_cons, List.drop_zero, List.take_succ_cons, List.take_zero] at e0 e1
    cases e0; cases e1
    exact ⟨⟨k0, k1⟩, rfl⟩
end
theorem own : ownKnob Tryz.prog.godebug = none := by kernel_rfl
theorem laidOut : laidOutB Tryz.prog = true := by kernel_rfl
end Go.Proofs.YtmpaiphakjogjaaGreat.X
namespace Go.Proofs.YtmpaiphakjogjaaGreat.X
open Go Go.RowKit Go.ChangeShapes Go.WideShapes Go.Proofs.YtmpaiphakjogjaaGreat.Bs
theorem okWide_arr {P : Program} {w : World} {r : Reach} {base : Nat} {t e : TypeId} {n : Nat} {v : Value} (ht : P.underlying t = some (.array n e)) (h : Value.okWide P w r base t v) : ∃ cs, v = .agg cs ∧ cs.size = P.cellsOf t := by
  simp only [Value.okWide, ht] at h
  obtain ⟨cs, h1, h2, _⟩ := h
  exact ⟨cs, h1, h2⟩
section
variable {H : Type} {enc : TypeId × Value → H} {P : Program} {w : World} {base : Nat} {spare : Nat → Bool} {held : Bool} {fuel : Nat} {cs : List Value} {x : DataW H × List MemPlace}
end
section
variable {H : Type} {enc : TypeId × Value → H} {w : World} {base : Nat} {spare : Nat → Bool} {held : Bool} {fuel : Nat} {cs : List Value} {x : DataW H × List MemPlace}
end
end Go.Proofs.YtmpaiphakjogjaaGreat.X
namespace Go.Proofs.YtmpaiphakjogjaaGreat.X
open Go Go.RowKit Go.ChangeShapes Go.WideShapes Go.Proofs.YtmpaiphakjogjaaGreat.Bs
section
variable {H : Type} {enc : TypeId × Value → H} {w : World} {base : Nat} {spare : Nat → Bool} {held : Bool} {fuel : Nat} {cs : List Value} {x : DataW H × List MemPlace}
theorem c_b35 : (Tryz.prog).cellsOf 66 = 3 := by kernel_rfl
theorem c_i85 : (Tryz.prog).cellsOf 65 = 1 := by kernel_rfl
theorem i8R5 (h : DataW.trod enc Tryz.prog w base spare held fuel 65 cs = some x) : ∃ k : Int, cs = [.int .i8 k] ∧ (-128 ≤ k ∧ k ≤ 127) := by
  obtain ⟨k, e, _, h2⟩ := DataW.trod_int Tryz.underlying65 h
  have e1 : IntKind.i8.min = -128 := rfl
  have e2 : IntKind.i8.max = 127 := rfl
  simp only [Lit.wf, Bool.and_eq_true, decide_eq_true_eq] at h2
  exact ⟨k, e, by omega⟩
set_option maxRecDepth 100000 in
theorem b3R5 (h : DataW.trod enc Tryz.prog w base spare held fuel 66 cs = some x) : ∃ b0 b1 b2 : Int, cs = [.int .i8 b0, .int .i8 b1, .int .i8 b2] ∧ ((-128 ≤ b0 ∧ b0 ≤ 127) ∧ (-128 ≤ b1 ∧ b1 ≤ 127) ∧ (-128 ≤ b2 ∧ b2 ≤ 127)) := by
  obtain ⟨xs, m, _, _, hl, hn, hf⟩ := DataW.trod_array Tryz.underlying66 h
  rw [c_b35] at hl
  match cs, hl with
  | [a0, a1, a2], _ =>
    have h0 := hf 0 (by decide)
    have h1 := hf 1 (by decide)
    have h2 := hf 2 (by decide)
    rw [c_i85] at h0 h1 h2
    rw [List.getElem?_eq_getElem (by omega)] at h0 h1 h2
    obtain ⟨b0, e0, k0⟩ := i8R5 h0
    obtain ⟨b1, e1, k1⟩ := i8R5 h1
    obtain ⟨b2, e2, k2⟩ := i8R5 h2
    simp only [List.drop_succ_cons, List.drop_zero, List.take_succ_cons, List.take_zero, Nat.zero_mul, Nat.one_mul] at e0 e1 e2
    cases e0; cases e1; cases e2
    exact ⟨b0, b1, b2, rfl, k0, k1, k2⟩
end
end Go.Proofs.YtmpaiphakjogjaaGreat.X
