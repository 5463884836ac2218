/-
  From the reading of the arguments to how they lie in memory: tasks, plans, rules (closure).
-/
import Derived.Test.YtmpaiphakjogjaaPart2
import Derived.Test.YtmpaiphakjogjaaPart3
import Derived.Test.YtmpaiphakjogjaaPart5
import Derived.Test.YtmpaiphakjogjaaRows
import Derived.Deep.Slices
import Derived.Deep.DeepHandedRow
import Derived.JoinedCond
import Derived.ProofKit
import Derived.Carry
import Derived.OpenShut
import Derived.DataShut
set_option linter.unusedVariables false
set_option linter.unusedSimpArgs false
namespace Go.Proofs.Ytmpaiphakjogjaa.X
open Go Go.RowKit Go.ChangeShapes Go.WideShapes Go.Proofs.Ytmpaiphakjogjaa.Bs
set_option linter.unusedVariables false
section
variable {H : Type} {enc : TypeId × Value → H} {w : World} {base : Nat} {spare : Nat → Bool} {held : Bool} {fuel : Nat} {cs : List Value} {x : DataW H × List MemPlace}
theorem c_ser5 : (Try.prog).cellsOf 65 = 2 := by kernel_rfl
theorem c_sers5 : (Try.prog).cellsOf 27 = 1 := by kernel_rfl
theorem c_ctk5 : (Try.prog).cellsOf 29 = 11 := by kernel_rfl
theorem c_ru5 : (Try.prog).cellsOf 42 = 2 := by kernel_rfl
theorem hisR (h : DataW.trod enc Try.prog w base spare held fuel 65 cs = some x) : ∃ (q : SV) (r : His), cs = hisC q r ∧ IntsAt w (Lt w.heap.size) q r.vals := by
  obtain ⟨hl, n, hf⟩ := fieldN Try.underlying65 h
  rw [c_ser5] at hl
  match cs, hl with
  | [c0, c1], _ =>
    obtain ⟨y0, h0⟩ := hf 0 _ 3 0 1 rfl rfl rfl c_int
    obtain ⟨y1, h1⟩ := hf 1 _ 26 1 1 rfl rfl rfl c_ints
    obtain ⟨k0, e0⟩ := intR' h0
    obtain ⟨q, l, e1, k1⟩ := intsR h1
    simp only [List.drop_succ_cons, List.drop_zero, List.take_succ_cons, List.take_zero] at e0 e1
    cases e0; cases e1
    exact ⟨q, ⟨k0, l⟩, rfl, k1⟩
theorem hissR (h : DataW.trod enc Try.prog w base spare held fuel 27 cs = some x) : ∃ (q : SV) (es : List (SV × His)), cs = [svV q] ∧ ListAt hisK w (Lt w.heap.size) q es ∧ q.n ≤ q.c := by
  obtain ⟨A, n, c, l, rfl, hr, hnc, hcm, hg⟩ := sliceR (C := fun e : SV × His => hisC e.1 e.2) (G := fun e => IntsAt w (Lt w.heap.size) e.1 e.2.vals) Try.underlying27 c_ser5 (fun n cs x h => by
    obtain ⟨q, l, e, hl⟩ := hisR h
    exact ⟨(q, l), e, hl⟩) (fun _ => rfl) (by decide) h
  exact ⟨⟨A, n, c⟩, l, rfl, ⟨ReadsP.of hr, by simp only; unfold maxLen at hcm; omega, fun a ha x hx => by rw [List.mem_singleton.1 hx]; exact hg a ha⟩, hnc⟩
theorem ctkR (h : DataW.trod enc Try.prog w base spare held fuel 29 cs = some x) : ∃ (v : CTV) (t : CTk), cs = ctkC v t ∧ CtAt w w.heap.size v t := by
  obtain ⟨hl, n, hf⟩ := fieldN Try.underlying29 h
  rw [c_ctk5] at hl
  match cs, hl with
  | [a0, a1, a2, a3, a4, a5, a6, a7, a8, a9, b0], _ =>
    obtain ⟨y0, h0⟩ := hf 0 _ 25 0 5 rfl rfl rfl c_bas
    obtain ⟨y1, h1⟩ := hf 1 _ 26 5 1 rfl rfl rfl c_ints
    obtain ⟨y2, h2⟩ := hf 2 _ 27 6 1 rfl rfl rfl c_sers5
    obtain ⟨y3, h3⟩ := hf 3 _ 26 7 1 rfl rfl rfl c_ints
    obtain ⟨y4, h4⟩ := hf 4 _ 3 8 1 rfl rfl rfl c_int
    obtain ⟨y5, h5⟩ := hf 5 _ 3 9 1 rfl rfl rfl c_int
    obtain ⟨y6, h6⟩ := hf 6 _ 3 10 1 rfl rfl rfl c_int
    obtain ⟨p, b, e0, k0⟩ := basR h0
    obtain ⟨q1, l1, e1, k1⟩ := intsR h1
    obtain ⟨q2, l2, e2, k2, n2⟩ := hissR h2
    obtain ⟨q3, l3, e3, k3⟩ := intsR h3
    obtain ⟨i4, e4⟩ := intR' h4
    obtain ⟨i5, e5⟩ := intR' h5
    obtain ⟨i6, e6⟩ := intR' h6
    simp only [List.drop_succ_cons, List.drop_zero, List.take_succ_cons, List.take_zero, basC, svV] at e0 e1 e2 e3 e4 e5 e6
    cases e0; cases e1; cases e2; cases e3; cases e4; cases e5; cases e6
    exact ⟨⟨p, q1, q2, q3⟩, ⟨b, l1, l2.map (·.2), l3, i4, i5, i6⟩, rfl, k0, k1, ⟨l2, k2, rfl⟩, k3, n2⟩
theorem ruR (h : DataW.trod enc Try.prog w base spare held fuel 42 cs = some x) : ∃ r : CRu, cs = [.int .i64 r.count, .int .i64 r.early] := by
  obtain ⟨hl, n, hf⟩ := fieldN Try.underlying42 h
  rw [c_ru5] at hl
  match cs, hl with
  | [c0, c1], _ =>
    obtain ⟨y0, h0⟩ := hf 0 _ 3 0 1 rfl rfl rfl c_int
    obtain ⟨y1, h1⟩ := hf 1 _ 3 1 1 rfl rfl rfl c_int
    obtain ⟨k0, e0⟩ := intR' h0
    obtain ⟨k1, e1⟩ := intR' h1
    simp only [List.drop_succ_cons, List.drop_zero, List.take_succ_cons, List.take_zero] at e0 e1
    cases e0; cases e1
    exact ⟨⟨k0, k1⟩, rfl⟩
theorem c_u165 : (Try.prog).cellsOf 43 = 1 := by kernel_rfl
theorem u16R5 (h : DataW.trod enc Try.prog w base spare held fuel 43 cs = some x) : ∃ k : Int, cs = [.int .u16 k] ∧ (0 ≤ k ∧ k ≤ 65535) := by
  obtain ⟨k, e, _, h2⟩ := DataW.trod_int Try.underlying43 h
  have e1 : IntKind.u16.min = 0 := rfl
  have e2 : IntKind.u16.max = 65535 := rfl
  simp only [Lit.wf, Bool.and_eq_true, decide_eq_true_eq] at h2
  exact ⟨k, e, by omega⟩
end
theorem own : ownKnob Try.prog.godebug = none := by kernel_rfl
theorem laidOut : laidOutB Try.prog = true := by kernel_rfl
end Go.Proofs.Ytmpaiphakjogjaa.X
/-
  Small arrays that came in, and what the bound of a second form gives (closure).
-/
namespace Go.Proofs.Ytmpaiphakjogjaa.X
open Go Go.RowKit Go.ChangeShapes Go.WideShapes Go.Proofs.Ytmpaiphakjogjaa.Bs
set_option linter.unusedVariables false
theorem okWide_arr {P : Program} {w : World} {r : Reach} {base : Nat} {t e : TypeId} {n : Nat} {v : Value} (ht : P.underlying t = some (.array n e)) (h : Value.okWide P w r base t v) : ∃ cs, v = .agg cs ∧ cs.size = P.cellsOf t := by
  simp only [Value.okWide, ht] at h
  obtain ⟨cs, h1, h2, _⟩ := h
  exact ⟨cs, h1, h2⟩
section
variable {H : Type} {enc : TypeId × Value → H} {P : Program} {w : World} {base : Nat} {spare : Nat → Bool} {held : Bool} {fuel : Nat} {cs : List Value} {x : DataW H × List MemPlace}
theorem bulk_one (d : DataW H) : 1 ≤ Rows.uptoBulk d := by
  cases d with
  | lit l => cases l <;> simp [Rows.uptoBulk]
  | nil => simp [Rows.uptoBulk]
  | ptr d => simp [Rows.uptoBulk]
  | slice elems spare => simp [Rows.uptoBulk]
  | agg parts => simp [Rows.uptoBulk]
  | iface t d => simp [Rows.uptoBulk]
  | map entries => simp [Rows.uptoBulk]
  | held h => simp [Rows.uptoBulk]
theorem bulk_part {d : DataW H} {l : List (DataW H)} (h : d ∈ l) : Rows.uptoBulk d ≤ Rows.uptoBulkAll l := by
  induction l with
  | nil => cases h
  | cons x r ih =>
    simp only [Rows.uptoBulkAll]
    rcases List.mem_cons.1 h with e | e
    · subst e; omega
    · have := ih e; omega
theorem bulk_len (l : List (DataW H)) : l.length ≤ Rows.uptoBulkAll l := by
  induction l with
  | nil => simp [Rows.uptoBulkAll]
  | cons x r ih => have := bulk_one x; simp only [Rows.uptoBulkAll, List.length_cons]; omega
/-- a slice is no longer than its reading's bulk. -/
theorem bulk_slice {t e : TypeId} {A : Option Addr} {n c : Nat} (ht : P.underlying t = some (.slice e)) (h : DataW.trod enc P w base spare held fuel t [.slice A n c] = some x) : n ≤ Rows.uptoBulk x.1 := by
  rcases Go.Deep.open_slice ht h with ⟨e1, _⟩ | ⟨a, len, cap, m', n', D, Pl, e1, _, _, _, _, rfl, _⟩
  · have : n = 0 := by injection e1 with e2 _; injection e2
    omega
  · have e2 : n = len := by injection e1 with e3 _; injection e3
    subst e2
    have h1 := bulk_len ((List.range n).map D)
    simp only [List.length_map, List.length_range] at h1
    simp only [Rows.uptoBulk]
    omega
theorem bulk_field {t : TypeId} {fs : Array Field} (ht : P.underlying t = some (.struct fs)) (h : DataW.trod enc P w base spare held fuel t cs = some x) :
    ∃ n, ∀ (i : Nat) (f : Field) (u : TypeId) (o m : Nat), fs[i]? = some f → f.type = u → f.offset = o → P.cellsOf u = m → ∃ y, DataW.trod enc P w base spare held n u ((cs.drop o).take m) = some y ∧ Rows.uptoBulk y.1 ≤ Rows.uptoBulk x.1 := by
  obtain ⟨xs, n, _, rfl, hl, hlen, hf⟩ := DataW.trod_struct ht h
  refine ⟨n, fun i f u o m hi hu ho hm => ?_⟩
  subst hu ho hm
  have h1 := hf i f hi
  have hi' : i < xs.length := by rw [hlen]; exact (Array.getElem?_eq_some_iff.1 hi).1
  rw [List.getElem?_eq_getElem hi'] at h1
  refine ⟨xs[i], h1, ?_⟩
  have h2 : Rows.uptoBulk xs[i].1 ≤ Rows.uptoBulkAll (xs.map (·.1)) := bulk_part (List.mem_map.2 ⟨_, List.getElem_mem hi', rfl⟩)
  simp only [Rows.uptoBulk]
  omega
end
section
variable {H : Type} {enc : TypeId × Value → H} {w : World} {base : Nat} {spare : Nat → Bool} {held : Bool} {fuel : Nat} {cs : List Value} {x : DataW H × List MemPlace}
theorem c_h25 : (Try.prog).cellsOf 44 = 2 := by kernel_rfl
set_option maxRecDepth 100000 in
theorem h2R5 (h : DataW.trod enc Try.prog w base spare held fuel 44 cs = some x) : ∃ b0 b1 : Int, cs = [.int .u16 b0, .int .u16 b1] ∧ ((0 ≤ b0 ∧ b0 ≤ 65535) ∧ (0 ≤ b1 ∧ b1 ≤ 65535)) := by
  obtain ⟨xs, m, _, _, hl, hn, hf⟩ := DataW.trod_array Try.underlying44 h
  rw [c_h25] at hl
  match cs, hl with
  | [a0, a1], _ =>
    have h0 := hf 0 (by decide)
    have h1 := hf 1 (by decide)
    rw [c_u165] at h0 h1
    rw [List.getElem?_eq_getElem (by omega)] at h0 h1
    obtain ⟨b0, e0, k0⟩ := u16R5 h0
    obtain ⟨b1, e1, k1⟩ := u16R5 h1
    simp only [List.drop_succ_cons, List.drop_zero, List.take_succ_cons, List.take_zero, Nat.zero_mul, Nat.one_mul] at e0 e1
    cases e0; cases e1
    exact ⟨b0, b1, rfl, k0, k1⟩
/-- how many histories a task that came in has. -/
theorem small_ct {v : CTV} {t : CTk} {ds : List (DataW H)} (hx : x.1 ∈ ds) (hk : Rows.uptoSmall H ds = true) (ht : CtAt w w.heap.size v t) (h : DataW.trod enc Try.prog w base spare held fuel 29 (ctkC v t) = some x) : t.m ≤ 5000000 := by
  obtain ⟨n, hf⟩ := bulk_field Try.underlying29 h
  obtain ⟨y2, h2, b2⟩ := hf 2 _ 27 6 1 rfl rfl rfl c_sers5
  have a1 := bulk_slice (A := v.h.A) (n := v.h.n) (c := v.h.c) Try.underlying27 h2
  have h3 := bulk_part hx
  have h4 : Rows.uptoBulkAll ds ≤ 1048576 := of_decide_eq_true hk
  have h5 := ht.hn
  omega
end
end Go.Proofs.Ytmpaiphakjogjaa.X
