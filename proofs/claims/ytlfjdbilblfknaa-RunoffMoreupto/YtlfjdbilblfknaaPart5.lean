/-
  From the reading of the arguments to how they lie in memory: tasks, choices, plans; what the bound of a second form gives (runoff).
-/
import Derived.Test.YtlfjdbilblfknaaPart2
import Derived.Test.YtlfjdbilblfknaaPart3
import Derived.Test.YtlfjdbilblfknaaRows
import Derived.Deep.Slices
import Derived.Deep.DeepHandedRow
import Derived.JoinedCond
set_option linter.unusedVariables false
set_option linter.unusedSimpArgs false
namespace Go.Proofs.Ytlfjdbilblfknaa.X
open Go Go.RowKit Go.ChangeShapes Go.WideShapes Go.Proofs.Ytlfjdbilblfknaa.Bs
set_option linter.unusedVariables false
section
variable {H : Type} {enc : TypeId × Value → H} {P : Program} {w : World} {base : Nat} {spare : Nat → Bool} {held : Bool} {fuel : Nat} {cs : List Value} {x : DataW H × List MemPlace}
theorem bulk_one (d : DataW H) : 1 ≤ Rows.uptoBulk d := by
  cases d with
  | lit l => cases l <;> simp [Rows.uptoBulk]
  | nil => simp [Rows.uptoBulk]
  | ptr d => simp [Rows.uptoBulk]
  | slice elems spare => simp [Rows.uptoBulk]
  | agg parts => simp [Rows.uptoBulk]
  | iface t d => simp [Rows.uptoBulk]
  | map entries => simp [Rows.uptoBulk]
  | held h => simp [Rows.uptoBulk]
theorem bulk_part {d : DataW H} {l : List (DataW H)} (h : d ∈ l) : Rows.uptoBulk d ≤ Rows.uptoBulkAll l := by
  induction l with
  | nil => cases h
  | cons x r ih =>
    simp only [Rows.uptoBulkAll]
    rcases List.mem_cons.1 h with e | e
    · subst e; omega
    · have := ih e; omega
theorem bulk_len (l : List (DataW H)) : l.length ≤ Rows.uptoBulkAll l := by
  induction l with
  | nil => simp [Rows.uptoBulkAll]
  | cons x r ih => have := bulk_one x; simp only [Rows.uptoBulkAll, List.length_cons]; omega
/-- a slice is no longer than its reading's bulk. -/
theorem bulk_slice {t e : TypeId} {A : Option Addr} {n c : Nat} (ht : P.underlying t = some (.slice e)) (h : DataW.trod enc P w base spare held fuel t [.slice A n c] = some x) : n ≤ Rows.uptoBulk x.1 := by
  rcases Go.Deep.open_slice ht h with ⟨e1, _⟩ | ⟨a, len, cap, m', n', D, Pl, e1, _, _, _, _, rfl, _⟩
  · have : n = 0 := by injection e1 with e2 _; injection e2
    omega
  · have e2 : n = len := by injection e1 with e3 _; injection e3
    subst e2
    have h1 := bulk_len ((List.range n).map D)
    simp only [List.length_map, List.length_range] at h1
    simp only [Rows.uptoBulk]
    omega
theorem bulk_field {t : TypeId} {fs : Array Field} (ht : P.underlying t = some (.struct fs)) (h : DataW.trod enc P w base spare held fuel t cs = some x) :
    ∃ n, ∀ (i : Nat) (f : Field) (u : TypeId) (o m : Nat), fs[i]? = some f → f.type = u → f.offset = o → P.cellsOf u = m → ∃ y, DataW.trod enc P w base spare held n u ((cs.drop o).take m) = some y ∧ Rows.uptoBulk y.1 ≤ Rows.uptoBulk x.1 := by
  obtain ⟨xs, n, _, rfl, hl, hlen, hf⟩ := DataW.trod_struct ht h
  refine ⟨n, fun i f u o m hi hu ho hm => ?_⟩
  subst hu ho hm
  have h1 := hf i f hi
  have hi' : i < xs.length := by rw [hlen]; exact (Array.getElem?_eq_some_iff.1 hi).1
  rw [List.getElem?_eq_getElem hi'] at h1
  refine ⟨xs[i], h1, ?_⟩
  have h2 : Rows.uptoBulk xs[i].1 ≤ Rows.uptoBulkAll (xs.map (·.1)) := bulk_part (List.mem_map.2 ⟨_, List.getElem_mem hi', rfl⟩)
  simp only [Rows.uptoBulk]
  omega
end
section
variable {H : Type} {enc : TypeId × Value → H} {w : World} {base : Nat} {spare : Nat → Bool} {held : Bool} {fuel : Nat} {cs : List Value} {x : DataW H × List MemPlace}
theorem c_slu : (Try.prog).cellsOf 93 = 3 := by kernel_rfl
theorem c_pmp : (Try.prog).cellsOf 35 = 5 := by kernel_rfl
theorem c_bool : (Try.prog).cellsOf 4 = 1 := by kernel_rfl
theorem c_bools : (Try.prog).cellsOf 31 = 1 := by kernel_rfl
theorem c_slus : (Try.prog).cellsOf 29 = 1 := by kernel_rfl
theorem c_pmps : (Try.prog).cellsOf 30 = 1 := by kernel_rfl
theorem c_tsk : (Try.prog).cellsOf 33 = 15 := by kernel_rfl
theorem boolR (h : DataW.trod enc Try.prog w base spare held fuel 4 cs = some x) : ∃ b : Bool, cs = [.bool b] := by
  obtain ⟨b, e, _⟩ := DataW.trod_bool Try.underlying4 h
  exact ⟨b, e⟩
theorem sluR (h : DataW.trod enc Try.prog w base spare held fuel 93 cs = some x) : ∃ r : Slu, cs = sluC r ∧ r.name.size ≤ maxLen := by
  obtain ⟨hl, n, hf⟩ := fieldR Try.underlying93 h
  rw [c_slu] at hl
  match cs, hl with
  | [c0, c1, c2], _ =>
    obtain ⟨d0, y0, e0, h0⟩ := hf 0 _ rfl c_str (Nat.le_of_ble_eq_true rfl)
    obtain ⟨d1, y1, e1, h1⟩ := hf 1 _ rfl c_int (Nat.le_of_ble_eq_true rfl)
    obtain ⟨d2, y2, e2, h2⟩ := hf 2 _ rfl c_int (Nat.le_of_ble_eq_true rfl)
    obtain ⟨s, rfl, hs⟩ := strR h0
    obtain ⟨k1, rfl⟩ := intR h1
    obtain ⟨k2, rfl⟩ := intR h2
    cases e0; cases e1; cases e2
    exact ⟨⟨s, k1, k2⟩, rfl, hs⟩
theorem pmpR (h : DataW.trod enc Try.prog w base spare held fuel 35 cs = some x) : ∃ r : Pmp, cs = pmpC r ∧ r.name.size ≤ maxLen := by
  obtain ⟨hl, n, hf⟩ := fieldR Try.underlying35 h
  rw [c_pmp] at hl
  match cs, hl with
  | [c0, c1, c2, c3, c4], _ =>
    obtain ⟨d0, y0, e0, h0⟩ := hf 0 _ rfl c_str (Nat.le_of_ble_eq_true rfl)
    obtain ⟨d1, y1, e1, h1⟩ := hf 1 _ rfl c_int (Nat.le_of_ble_eq_true rfl)
    obtain ⟨d2, y2, e2, h2⟩ := hf 2 _ rfl c_int (Nat.le_of_ble_eq_true rfl)
    obtain ⟨d3, y3, e3, h3⟩ := hf 3 _ rfl c_int (Nat.le_of_ble_eq_true rfl)
    obtain ⟨d4, y4, e4, h4⟩ := hf 4 _ rfl c_int (Nat.le_of_ble_eq_true rfl)
    obtain ⟨s, rfl, hs⟩ := strR h0
    obtain ⟨k1, rfl⟩ := intR h1
    obtain ⟨k2, rfl⟩ := intR h2
    obtain ⟨k3, rfl⟩ := intR h3
    obtain ⟨k4, rfl⟩ := intR h4
    cases e0; cases e1; cases e2; cases e3; cases e4
    exact ⟨⟨s, k1, k2, k3, k4⟩, rfl, hs⟩
theorem boolsR (h : DataW.trod enc Try.prog w base spare held fuel 31 cs = some x) : ∃ (q : SV) (l : List Bool), cs = [svV q] ∧ ListAt boolK w (Lt w.heap.size) q l := by
  obtain ⟨A, n, c, l, rfl, hr, hnc, hcm, _⟩ := sliceR (C := fun b : Bool => [.bool b]) (G := fun _ => True) Try.underlying31 c_bool (fun n cs x h => by
    obtain ⟨b, e⟩ := boolR h
    exact ⟨b, e, trivial⟩) (fun _ => rfl) (by decide) h
  exact ⟨⟨A, n, c⟩, l, rfl, ReadsP.of hr, by simp only; unfold maxLen at hcm; omega, fun a ha x hx => by cases hx⟩
theorem slusR (h : DataW.trod enc Try.prog w base spare held fuel 29 cs = some x) : ∃ (q : SV) (l : List Slu), cs = [svV q] ∧ ListAt sluK w (Lt w.heap.size) q l ∧ ∀ y, y ∈ l → y.name.size ≤ maxLen := by
  obtain ⟨A, n, c, l, rfl, hr, hnc, hcm, hg⟩ := sliceR (C := sluC) (G := fun r => r.name.size ≤ maxLen) Try.underlying29 c_slu (fun n cs x h => sluR h) (fun _ => rfl) (by decide) h
  exact ⟨⟨A, n, c⟩, l, rfl, ⟨ReadsP.of hr, by simp only; unfold maxLen at hcm; omega, fun a ha x hx => by cases hx⟩, hg⟩
theorem pmpsR (h : DataW.trod enc Try.prog w base spare held fuel 30 cs = some x) : ∃ (q : SV) (l : List Pmp), cs = [svV q] ∧ ListAt pmpK w (Lt w.heap.size) q l ∧ ∀ y, y ∈ l → y.name.size ≤ maxLen := by
  obtain ⟨A, n, c, l, rfl, hr, hnc, hcm, hg⟩ := sliceR (C := pmpC) (G := fun r => r.name.size ≤ maxLen) Try.underlying30 c_pmp (fun n cs x h => pmpR h) (fun _ => rfl) (by decide) h
  exact ⟨⟨A, n, c⟩, l, rfl, ⟨ReadsP.of hr, by simp only; unfold maxLen at hcm; omega, fun a ha x hx => by cases hx⟩, hg⟩
theorem tskR (h : DataW.trod enc Try.prog w base spare held fuel 33 cs = some x) : ∃ (v : RTV) (t : RTk), cs = tskC v t ∧ TskAt w w.heap.size v t := by
  obtain ⟨hl, n, hf⟩ := fieldN Try.underlying33 h
  rw [c_tsk] at hl
  match cs, hl with
  | [a0, a1, a2, a3, a4, a5, a6, a7, a8, a9, b0, b1, b2, b3, b4], _ =>
    obtain ⟨y0, h0⟩ := hf 0 _ 25 0 5 rfl rfl rfl c_bas
    obtain ⟨y1, h1⟩ := hf 1 _ 28 5 2 rfl rfl rfl c_sta
    obtain ⟨y2, h2⟩ := hf 2 _ 26 7 1 rfl rfl rfl c_ints
    obtain ⟨y3, h3⟩ := hf 3 _ 26 8 1 rfl rfl rfl c_ints
    obtain ⟨y4, h4⟩ := hf 4 _ 26 9 1 rfl rfl rfl c_ints
    obtain ⟨y5, h5⟩ := hf 5 _ 3 10 1 rfl rfl rfl c_int
    obtain ⟨y6, h6⟩ := hf 6 _ 3 11 1 rfl rfl rfl c_int
    obtain ⟨y7, h7⟩ := hf 7 _ 29 12 1 rfl rfl rfl c_slus
    obtain ⟨y8, h8⟩ := hf 8 _ 30 13 1 rfl rfl rfl c_pmps
    obtain ⟨y9, h9⟩ := hf 9 _ 31 14 1 rfl rfl rfl c_bools
    obtain ⟨p, b, e0, k0⟩ := basR h0
    obtain ⟨q, s, e1, k1⟩ := staR h1
    obtain ⟨qo, lo, e2, k2⟩ := intsR h2
    obtain ⟨qr, lr, e3, k3⟩ := intsR h3
    obtain ⟨qc, lc, e4, k4⟩ := intsR h4
    obtain ⟨low, e5⟩ := intR' h5
    obtain ⟨high, e6⟩ := intR' h6
    obtain ⟨qs, ls, e7, k7, n7⟩ := slusR h7
    obtain ⟨qp, lp, e8, k8, n8⟩ := pmpsR h8
    obtain ⟨qn, ln, e9, k9⟩ := boolsR h9
    simp only [List.drop_succ_cons, List.drop_zero, List.take_succ_cons, List.take_zero, basC, staC, svV] at e0 e1 e2 e3 e4 e5 e6 e7 e8 e9
    cases e0; cases e1; cases e2; cases e3; cases e4; cases e5; cases e6; cases e7; cases e8; cases e9
    refine ⟨⟨p, q, qo, qr, qc, qs, qp, qn⟩, ⟨b, s, lo, lr, lc, low, high, ls, lp, ln⟩, rfl, k0, k1, k2, k3, k4, k7, k8, k9, fun d hd => ?_⟩
    rcases List.mem_append.1 hd with h | h
    · obtain ⟨y, hy, rfl⟩ := List.mem_map.1 h
      have := n7 y hy
      unfold maxLen at this
      simp only [Dev.name]; omega
    · obtain ⟨y, hy, rfl⟩ := List.mem_map.1 h
      have := n8 y hy
      unfold maxLen at this
      simp only [Dev.name]; omega
theorem bulk_tsk {v : RTV} {t : RTk} (h : DataW.trod enc Try.prog w base spare held fuel 33 (tskC v t) = some x) : v.su.n ≤ Rows.uptoBulk x.1 ∧ v.pu.n ≤ Rows.uptoBulk x.1 := by
  obtain ⟨n, hf⟩ := bulk_field Try.underlying33 h
  obtain ⟨y7, h7, b7⟩ := hf 7 _ 29 12 1 rfl rfl rfl c_slus
  obtain ⟨y8, h8, b8⟩ := hf 8 _ 30 13 1 rfl rfl rfl c_pmps
  have a1 := bulk_slice (A := v.su.A) (n := v.su.n) (c := v.su.c) Try.underlying29 h7
  have a2 := bulk_slice (A := v.pu.A) (n := v.pu.n) (c := v.pu.c) Try.underlying30 h8
  omega
theorem small_out {v : RTV} {t : RTk} {ds : List (DataW H)} (hx : x.1 ∈ ds) (hk : Rows.uptoSmall H ds = true) (ht : TskAt w w.heap.size v t) (h : DataW.trod enc Try.prog w base spare held fuel 33 (tskC v t) = some x) : t.outer.length ≤ 5000000 := by
  obtain ⟨n, hf⟩ := bulk_field Try.underlying33 h
  obtain ⟨y2, h2, b2⟩ := hf 2 _ 26 7 1 rfl rfl rfl c_ints
  have a1 := bulk_slice (A := v.o.A) (n := v.o.n) (c := v.o.c) Try.underlying26 h2
  have h3 := bulk_part hx
  have h4 : Rows.uptoBulkAll ds ≤ 1048576 := of_decide_eq_true hk
  have h5 := ht.outer.len
  omega
/-- how many devices a task that came in has. -/
theorem small_tsk {v : RTV} {t : RTk} {ds : List (DataW H)} (hx : x.1 ∈ ds) (hk : Rows.uptoSmall H ds = true) (ht : TskAt w w.heap.size v t) (h : DataW.trod enc Try.prog w base spare held fuel 33 (tskC v t) = some x) : t.slu.length + t.pmp.length ≤ 5000000 := by
  obtain ⟨h1, h2⟩ := bulk_tsk h
  have h3 := bulk_part hx
  have h4 : Rows.uptoBulkAll ds ≤ 1048576 := of_decide_eq_true hk
  have h5 := ht.slu.len (by decide)
  have h6 := ht.pmp.len (by decide)
  omega
end
theorem own : ownKnob Try.prog.godebug = none := by kernel_rfl
theorem laidOut : laidOutB Try.prog = true := by kernel_rfl
end Go.Proofs.Ytlfjdbilblfknaa.X
