/-
  From the reading of the arguments to how they lie in memory: tasks of closure, what is behind the polders (TopWarned).
-/
import Derived.Test.YtgddcbpbadookaaGreatDoorPart2
import Derived.Test.YtgddcbpbadookaaGreatDoorPart6
import Derived.Test.YtgddcbpbadookaaGreatDoorRows
import Derived.Deep.Slices
import Derived.Deep.DeepHandedRow
import Derived.JoinedCond
import Derived.ProofKit
import Derived.Carry
import Derived.OpenShut
import Derived.Test.YtgddcbpbadookaaGreatDoorPart3
import Derived.Test.YtgddcbpbadookaaGreatDoorCards
import Derived.Test.YtgddcbpbadookaaGreatDoorTie
import Derived.ChangeSame
import Derived.ChangeVars
import Derived.JoinedOf
import Derived.LaidLaws
import Derived.LaidHandle
import Derived.Stop.Joined
namespace Go.Proofs.YtgddcbpbadookaaGreatDoor
set_option linter.unusedVariables false
set_option linter.unusedSimpArgs false
namespace X
open Go Go.RowKit Go.ChangeShapes Go.WideShapes Bs
section
variable {H : Type} {enc : TypeId × Value → H} {P : Program} {w : World} {base : Nat} {spare : Nat → Bool} {held : Bool} {fuel : Nat} {cs : List Value} {x : DataW H × List MemPlace}
theorem bulk_one (d : DataW H) : 1 ≤ Rows.uptoBulk d := by
  cases d with
  | lit l => cases l <;> simp [Rows.uptoBulk]
  | nil => simp [Rows.uptoBulk]
  | ptr d => simp [Rows.uptoBulk]
  | slice elems spare => simp [Rows.uptoBulk]
  | agg parts => simp [Rows.uptoBulk]
  | iface t d => simp [Rows.uptoBulk]
  | map entries => simp [Rows.uptoBulk]
  | held h => simp [Rows.uptoBulk]
theorem bulk_part {d : DataW H} {l : List (DataW H)} (h : d ∈ l) : Rows.uptoBulk d ≤ Rows.uptoBulkAll l := by
  induction l with
  | nil => cases h
  | cons x r ih =>
    simp only [Rows.uptoBulkAll]
    rcases List.mem_cons.1 h with e | e
    · subst e; omega
    · have := ih e; omega
theorem bulk_len (l : List (DataW H)) : l.length ≤ Rows.uptoBulkAll l := by
  induction l with
  | nil => simp [Rows.uptoBulkAll]
  | cons x r ih => have := bulk_one x; simp only [Rows.uptoBulkAll, List.length_cons]; omega
theorem bulk_slice {t e : TypeId} {A : Option Addr} {n c : Nat} (ht : P.underlying t = some (.slice e)) (h : DataW.trod enc P w base spare held fuel t [.slice A n c] = some x) : n ≤ Rows.uptoBulk x.1 := by
  rcases Go.Deep.open_slice ht h with ⟨e1, _⟩ | ⟨a, len, cap, m', n', D, Pl, e1, _, _, _, _, rfl, _⟩
  · have : n = 0 := by injection e1 with e2 _; injection e2
    omega
  · have e2 : n = len := by injection e1 with e3 _; injection e3
    subst e2
    have h1 := bulk_len ((List.range n).map D)
    simp only [List.length_map, List.length_range] at h1
    simp only [Rows.uptoBulk]
    omega
theorem bulk_field {t : TypeId} {fs : Array Field} (ht : P.underlying t = some (.struct fs)) (h : DataW.trod enc P w base spare held fuel t cs = some x) :
    ∃ n, ∀ (i : Nat) (f : Field) (u : TypeId) (o m : Nat), fs[i]? = some f → f.type = u → f.offset = o → P.cellsOf u = m → ∃ y, DataW.trod enc P w base spare held n u ((cs.drop o).take m) = some y ∧ Rows.uptoBulk y.1 ≤ Rows.uptoBulk x.1 := by
  obtain ⟨xs, n, _, rfl, hl, hlen, hf⟩ := DataW.trod_struct ht h
  refine ⟨n, fun i f u o m hi hu ho hm => ?_⟩
  subst hu ho hm
  have h1 := hf i f hi
  have hi' : i < xs.length := by rw [hlen]; exact (Array.getElem?_eq_some_iff.1 hi).1
  rw [List.getElem?_eq_getElem hi'] at h1
  refine ⟨xs[i], h1, ?_⟩
  have h2 : Rows.uptoBulk xs[i].1 ≤ Rows.uptoBulkAll (xs.map (·.1)) := bulk_part (List.mem_map.2 ⟨_, List.getElem_mem hi', rfl⟩)
  simp only [Rows.uptoBulk]
  omega
theorem sliceRB {α : Type} {C : α → List Value} {G : α → Prop} {t e : TypeId} {m : Nat} (ht : P.underlying t = some (.slice e)) (he : P.cellsOf e = m)
    (hd : ∀ n cs' y, DataW.trod enc P w base spare held n e cs' = some y → Rows.uptoBulk y.1 ≤ Rows.uptoBulk x.1 → ∃ a, cs' = C a ∧ G a) (hm : ∀ a, (C a).length = m) (h0 : 0 < m) (h : DataW.trod enc P w base spare held fuel t cs = some x) :
    ∃ (A : Option Addr) (n c : Nat) (l : List α), cs = [.slice A n c] ∧ Reads w w.heap.size m A n (l.flatMap C) ∧ n ≤ c ∧ c ≤ maxLen ∧ ∀ a, a ∈ l → G a := by
  rcases Go.Deep.open_slice ht h with ⟨rfl, _⟩ | ⟨a, len, cap, m', n', D, Pl, rfl, hb, hl, hcm, hmm, rfl, hx⟩
  · exact ⟨none, 0, 0, [], rfl, Reads.none_, Nat.le_refl _, Nat.zero_le _, fun a ha => by cases ha⟩
  · rw [he] at hx
    have hlm : len ≤ m' := by rw [hmm]; split <;> omega
    have hall : ∀ i, i < len → ∃ b : α, w.cells? base (a.add (i * m)) m = some (C b) ∧ G b := fun i hi => by
      obtain ⟨cs', h1, h2⟩ := hx i (by omega)
      have h3 : Rows.uptoBulk (D i) ≤ Rows.uptoBulkAll ((List.range len).map D) := bulk_part (List.mem_map.2 ⟨i, List.mem_range.2 hi, rfl⟩)
      obtain ⟨b, rfl, hg⟩ := hd _ _ _ h2 (by simp only [Rows.uptoBulk]; omega)
      exact ⟨b, h1, hg⟩
    obtain ⟨l, hll, hlx⟩ := choose_list len hall
    refine ⟨some a, len, cap, l, rfl, ⟨by rw [flat_len C m hm, hll], fun hn => ?_⟩, hl, hcm, fun b hb => ?_⟩
    · have hcell : ∀ j u, (l.flatMap C)[j]? = some u → w.cell? (a.add j) = some u := fun j u hj => by
        have hjl : j < (l.flatMap C).length := (List.getElem?_eq_some_iff.1 hj).1
        rw [flat_len C m hm] at hjl
        have hdm := Nat.div_add_mod j m
        have hlt : j / m < l.length := Nat.div_lt_of_lt_mul (by rw [Nat.mul_comm]; exact hjl)
        have hb : l[j / m]? = some l[j / m] := List.getElem?_eq_getElem hlt
        have h1 := flat_at C m hm l (j / m) (j % m) _ hb (Nat.mod_lt _ h0)
        rw [show j / m * m + j % m = j by rw [Nat.mul_comm]; exact hdm, hj] at h1
        obtain ⟨_, _, h2⟩ := World.cells?_some (hlx _ _ hb).1
        have h3 := h2 (j % m) (Nat.mod_lt _ h0)
        rw [add_add, show j / m * m + j % m = j by rw [Nat.mul_comm]; exact hdm, ← h1] at h3
        exact h3
      refine ⟨a, rfl, ?_, hcell⟩
      obtain ⟨b, h1, _⟩ := hall 0 hn
      have := World.cells?_block h1 h0
      simpa [add_block] using this
    · obtain ⟨i, hi, rfl⟩ := List.mem_iff_getElem.1 hb
      exact (hlx i _ (List.getElem?_eq_getElem hi)).2
theorem small_any {ds : List (DataW H)} (hx : x.1 ∈ ds) (hk : Rows.uptoSmall H ds = true) : Rows.uptoBulk x.1 ≤ 1048576 := by
  have h3 := bulk_part hx
  have h4 : Rows.uptoBulkAll ds ≤ 1048576 := of_decide_eq_true hk
  omega
end
section
variable {H : Type} {enc : TypeId × Value → H} {w : World} {base : Nat} {spare : Nat → Bool} {held : Bool} {fuel : Nat} {cs : List Value} {x : DataW H × List MemPlace}
theorem c_ser5 : (Tryz.prog).cellsOf 41 = 2 := by kernel_rfl
theorem c_sers5 : (Tryz.prog).cellsOf 27 = 1 := by kernel_rfl
theorem c_ctk5 : (Tryz.prog).cellsOf 29 = 11 := by kernel_rfl
theorem hisR (h : DataW.trod enc Tryz.prog w base spare held fuel 41 cs = some x) : ∃ (q : SV) (r : His), cs = hisC q r ∧ IntsAt w (Lt w.heap.size) q r.vals := by
  obtain ⟨hl, n, hf⟩ := fieldN Tryz.underlying41 h
  rw [c_ser5] at hl
  match cs, hl with
  | [c0, c1], _ =>
    obtain ⟨y0, h0⟩ := hf 0 _ 3 0 1 rfl rfl rfl c_int
    obtain ⟨y1, h1⟩ := hf 1 _ 26 1 1 rfl rfl rfl c_ints
    obtain ⟨k0, e0⟩ := intR' h0
    obtain ⟨q, l, e1, k1⟩ := intsR h1
    simp only [List.drop_succ_cons, List.drop_zero, List.take_succ_cons, List.take_zero] at e0 e1
    cases e0; cases e1
    exact ⟨q, ⟨k0, l⟩, rfl, k1⟩
theorem hissR (h : DataW.trod enc Tryz.prog w base spare held fuel 27 cs = some x) : ∃ (q : SV) (es : List (SV × His)), cs = [svV q] ∧ ListAt hisK w (Lt w.heap.size) q es ∧ q.n ≤ q.c := by
  obtain ⟨A, n, c, l, rfl, hr, hnc, hcm, hg⟩ := sliceR (C := fun e : SV × His => hisC e.1 e.2) (G := fun e => IntsAt w (Lt w.heap.size) e.1 e.2.vals) Tryz.underlying27 c_ser5 (fun n cs x h => by
    obtain ⟨q, l, e, hl⟩ := hisR h
    exact ⟨(q, l), e, hl⟩) (fun _ => rfl) (by decide) h
  exact ⟨⟨A, n, c⟩, l, rfl, ⟨ReadsP.of hr, by simp only; unfold maxLen at hcm; omega, fun a ha x hx => by rw [List.mem_singleton.1 hx]; exact hg a ha⟩, hnc⟩
theorem ctkR (h : DataW.trod enc Tryz.prog w base spare held fuel 29 cs = some x) : ∃ (v : CTV) (t : CTk), cs = ctkC v t ∧ CtAt w w.heap.size v t := by
  obtain ⟨hl, n, hf⟩ := fieldN Tryz.underlying29 h
  rw [c_ctk5] at hl
  match cs, hl with
  | [a0, a1, a2, a3, a4, a5, a6, a7, a8, a9, b0], _ =>
    obtain ⟨y0, h0⟩ := hf 0 _ 25 0 5 rfl rfl rfl c_bas
    obtain ⟨y1, h1⟩ := hf 1 _ 26 5 1 rfl rfl rfl c_ints
    obtain ⟨y2, h2⟩ := hf 2 _ 27 6 1 rfl rfl rfl c_sers5
    obtain ⟨y3, h3⟩ := hf 3 _ 26 7 1 rfl rfl rfl c_ints
    obtain ⟨y4, h4⟩ := hf 4 _ 3 8 1 rfl rfl rfl c_int
    obtain ⟨y5, h5⟩ := hf 5 _ 3 9 1 rfl rfl rfl c_int
    obtain ⟨y6, h6⟩ := hf 6 _ 3 10 1 rfl rfl rfl c_int
    obtain ⟨p, b, e0, k0⟩ := basR h0
    obtain ⟨q1, l1, e1, k1⟩ := intsR h1
    obtain ⟨q2, l2, e2, k2, n2⟩ := hissR h2
    obtain ⟨q3, l3, e3, k3⟩ := intsR h3
    obtain ⟨i4, e4⟩ := intR' h4
    obtain ⟨i5, e5⟩ := intR' h5
    obtain ⟨i6, e6⟩ := intR' h6
    simp only [List.drop_succ_cons, List.drop_zero, List.take_succ_cons, List.take_zero, basC, svV] at e0 e1 e2 e3 e4 e5 e6
    cases e0; cases e1; cases e2; cases e3; cases e4; cases e5; cases e6
    exact ⟨⟨p, q1, q2, q3⟩, ⟨b, l1, l2.map (·.2), l3, i4, i5, i6⟩, rfl, k0, k1, ⟨l2, k2, rfl⟩, k3, n2⟩
theorem c_cha6 : (Tryz.prog).cellsOf 73 = 3 := by kernel_rfl
theorem c_chas6 : (Tryz.prog).cellsOf 30 = 1 := by kernel_rfl
theorem c_twn6 : (Tryz.prog).cellsOf 67 = 5 := by kernel_rfl
theorem c_twns6 : (Tryz.prog).cellsOf 31 = 1 := by kernel_rfl
theorem c_beh6 : (Tryz.prog).cellsOf 33 = 3 := by kernel_rfl
theorem chaR (h : DataW.trod enc Tryz.prog w base spare held fuel 73 cs = some x) : ∃ r : Cha, cs = chaC r ∧ r.name.size ≤ maxLen := by
  obtain ⟨hl, n, hf⟩ := fieldN Tryz.underlying73 h
  rw [c_cha6] at hl
  match cs, hl with
  | [c0, c1, c2], _ =>
    obtain ⟨y0, h0⟩ := hf 0 _ 9 0 1 rfl rfl rfl c_str
    obtain ⟨y1, h1⟩ := hf 1 _ 3 1 1 rfl rfl rfl c_int
    obtain ⟨y2, h2⟩ := hf 2 _ 3 2 1 rfl rfl rfl c_int
    simp only [List.drop_succ_cons, List.drop_zero, List.take_succ_cons, List.take_zero] at h0 h1 h2
    obtain ⟨s, rfl, hs⟩ := strR h0
    obtain ⟨k1, rfl⟩ := intR h1
    obtain ⟨k2, rfl⟩ := intR h2
    exact ⟨⟨s, k1, k2⟩, rfl, hs⟩
theorem townR (h : DataW.trod enc Tryz.prog w base spare held fuel 67 cs = some x) : ∃ (q : SV) (r : Twn), cs = twnC q r ∧ IntsAt w (Lt w.heap.size) q r.chs ∧ r.name.size ≤ maxLen ∧ r.chs.length ≤ Rows.uptoBulk x.1 := by
  obtain ⟨hl, _⟩ := fieldN Tryz.underlying67 h
  obtain ⟨n, hf⟩ := bulk_field Tryz.underlying67 h
  rw [c_twn6] at hl
  match cs, hl with
  | [c0, c1, c2, c3, c4], _ =>
    obtain ⟨y0, h0, _⟩ := hf 0 _ 9 0 1 rfl rfl rfl c_str
    obtain ⟨y1, h1, _⟩ := hf 1 _ 3 1 1 rfl rfl rfl c_int
    obtain ⟨y2, h2, _⟩ := hf 2 _ 3 2 1 rfl rfl rfl c_int
    obtain ⟨y3, h3, _⟩ := hf 3 _ 3 3 1 rfl rfl rfl c_int
    obtain ⟨y4, h4, b4⟩ := hf 4 _ 26 4 1 rfl rfl rfl c_ints
    simp only [List.drop_succ_cons, List.drop_zero, List.take_succ_cons, List.take_zero] at h0 h1 h2 h3 h4
    obtain ⟨s, rfl, hs⟩ := strR h0
    obtain ⟨k1, rfl⟩ := intR h1
    obtain ⟨k2, rfl⟩ := intR h2
    obtain ⟨k3, rfl⟩ := intR h3
    obtain ⟨q, l, e4, k4⟩ := intsR h4
    simp only [svV] at e4
    cases e4
    have h5 := bulk_slice (A := q.A) (n := q.n) (c := q.c) Tryz.underlying26 h4
    have h6 := k4.len
    exact ⟨q, ⟨s, k1, k2, k3, l⟩, rfl, k4, hs, by simp only; omega⟩
theorem chasR (h : DataW.trod enc Tryz.prog w base spare held fuel 30 cs = some x) : ∃ (q : SV) (l : List Cha), cs = [svV q] ∧ ListAt chaK w (Lt w.heap.size) q l ∧ ∀ a, a ∈ l → a.name.size ≤ maxLen := by
  obtain ⟨A, n, c, l, rfl, hr, hnc, hcm, hg⟩ := sliceR (C := chaC) (G := fun r => r.name.size ≤ maxLen) Tryz.underlying30 c_cha6 (fun n cs x h => chaR h) (fun _ => rfl) (by decide) h
  exact ⟨⟨A, n, c⟩, l, rfl, ⟨ReadsP.of hr, by simp only; unfold maxLen at hcm; omega, fun a ha x hx => by cases hx⟩, hg⟩
theorem townsR (h : DataW.trod enc Tryz.prog w base spare held fuel 31 cs = some x) : ∃ (q : SV) (l : List (SV × Twn)), cs = [svV q] ∧ ListAt twnK w (Lt w.heap.size) q l ∧ ∀ a, a ∈ l → a.2.name.size ≤ maxLen ∧ a.2.chs.length ≤ Rows.uptoBulk x.1 := by
  obtain ⟨A, n, c, l, rfl, hr, hnc, hcm, hg⟩ := sliceRB (x := x) (C := fun e : SV × Twn => twnC e.1 e.2) (G := fun e => IntsAt w (Lt w.heap.size) e.1 e.2.chs ∧ e.2.name.size ≤ maxLen ∧ e.2.chs.length ≤ Rows.uptoBulk x.1) Tryz.underlying31 c_twn6 (fun n cs y h hb => by
    obtain ⟨q, r, e, k1, k2, k3⟩ := townR h
    exact ⟨(q, r), e, k1, k2, Nat.le_trans k3 hb⟩) (fun _ => rfl) (by decide) h
  exact ⟨⟨A, n, c⟩, l, rfl, ⟨ReadsP.of hr, by simp only; unfold maxLen at hcm; omega, fun a ha x hx => by rw [List.mem_singleton.1 hx]; exact (hg a ha).1⟩, fun a ha => (hg a ha).2⟩
theorem behR (h : DataW.trod enc Tryz.prog w base spare held fuel 33 cs = some x) : ∃ (vc vw : SV) (cha : List Cha) (es : List (SV × Twn)) (now : Int), cs = behC vc vw now ∧ (Rows.uptoBulk x.1 ≤ 1048576 → BehAt w w.heap.size vc vw cha es) := by
  obtain ⟨hl, _⟩ := fieldN Tryz.underlying33 h
  obtain ⟨n, hf⟩ := bulk_field Tryz.underlying33 h
  rw [c_beh6] at hl
  match cs, hl with
  | [c0, c1, c2], _ =>
    obtain ⟨y0, h0, _⟩ := hf 0 _ 30 0 1 rfl rfl rfl c_chas6
    obtain ⟨y1, h1, b1⟩ := hf 1 _ 31 1 1 rfl rfl rfl c_twns6
    obtain ⟨y2, h2, _⟩ := hf 2 _ 3 2 1 rfl rfl rfl c_int
    obtain ⟨q0, l0, e0, k0, n0⟩ := chasR h0
    obtain ⟨q1, l1, e1, k1, n1⟩ := townsR h1
    obtain ⟨i2, e2⟩ := intR' h2
    simp only [List.drop_succ_cons, List.drop_zero, List.take_succ_cons, List.take_zero, svV] at e0 e1 e2
    cases e0; cases e1; cases e2
    refine ⟨q0, q1, l0, l1, i2, rfl, fun hb => ⟨k0, k1, fun a ha => ?_, fun a ha => ?_, fun a ha => ?_⟩⟩
    · have := n0 a ha; unfold maxLen at this; omega
    · have := (n1 a ha).1; unfold maxLen at this; omega
    · have := (n1 a ha).2; omega
end
theorem own : ownKnob Tryz.prog.godebug = none := by kernel_rfl
theorem laidOut : laidOutB Tryz.prog = true := by kernel_rfl
end X
namespace X
open Go Go.RowKit Go.ChangeShapes Go.WideShapes Bs
theorem et : Tryz.prog.globalNamed "errors.errorType" = some 0 := by kernel_rfl
theorem rt : (Tryz.prog.cutTypes.find? (·.1 == "internal/reflectlite.rtype")).map (·.2) = some 201 := by kernel_rfl
theorem oneRow : ((List.range Tryz.prog.types.size).filter fun t => Tryz.prog.rowNamed t [101, 114, 114, 111, 114]) = [147] := by kernel_rfl
theorem handle_of_laid {W : World} (h : laidMetH Tryz.prog [("errors.errorType", Rows.laid_errors_errorType)] W) : Laid W := by
  have h' : laidMet Tryz.prog [] W ∧ handlesMet Tryz.prog [("errors.errorType", Rows.laid_errors_errorType)] W := h
  obtain ⟨name, u, ty, e1, e2, e3, e4, e5⟩ := h'.2 _ (List.mem_singleton.2 rfl)
  have en : name = [101, 114, 114, 111, 114] := (Option.some.inj e1).symm
  subst en
  obtain rfl := Option.some.inj (rt.symm.trans e2)
  have hm : ty ∈ (List.range Tryz.prog.types.size).filter fun t => Tryz.prog.rowNamed t [101, 114, 114, 111, 114] := List.mem_filter.2 ⟨List.mem_range.2 e3, e4⟩
  rw [oneRow] at hm
  obtain rfl := List.mem_singleton.1 hm
  have hh : typeHandle Tryz.prog 147 = .pointer (some ⟨1, 147, none⟩) := by kernel_rfl
  rw [hh] at e5
  have := World.var?_cell et e5 0
  simpa [Laid] using this
noncomputable def laidWorld (os : Os) : World :=
  let w0 := World.holding Tryz.prog os ⟨#[], #[], []⟩
  { w0 with heap := w0.heap.modify 0 fun
      | .cells _ t frozen => .cells #[.iface 201 (.agg #[.pointer (some ⟨1, 147, none⟩)])] t frozen
      | o => o }
theorem laidWorld_met (os : Os) (args : Array Value) : laidMetH Tryz.prog [("errors.errorType", Rows.laid_errors_errorType)] ((laidWorld os).forCall (fun _ _ => 0) ⟨#[], args, []⟩).memory :=
  laidMetH_of_parts (laidMet_nil _ _) (by kernel_rfl)
end X
end Go.Proofs.YtgddcbpbadookaaGreatDoor
