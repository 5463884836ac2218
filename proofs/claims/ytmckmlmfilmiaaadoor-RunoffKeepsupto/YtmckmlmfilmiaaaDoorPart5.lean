/-
  From the reading of the arguments to how they lie in memory: tasks, choices, plans; what the bound of a second form gives (runoff).
-/
import Derived.Test.YtmckmlmfilmiaaaDoorPart2
import Derived.Test.YtmckmlmfilmiaaaDoorPart4
import Derived.Test.YtmckmlmfilmiaaaDoorRows
import Derived.Deep.Slices
import Derived.Deep.DeepHandedRow
import Derived.JoinedCond
import Derived.Test.YtmckmlmfilmiaaaDoorPart3
import Derived.Test.YtmckmlmfilmiaaaDoorCards
import Derived.Test.YtmckmlmfilmiaaaDoorTie
import Derived.ChangeSame
import Derived.ChangeVars
import Derived.JoinedOf
import Derived.LaidLaws
import Derived.LaidHandle
import Derived.Carry
import Derived.Stop.Joined
set_option linter.unusedVariables false
set_option linter.unusedSimpArgs false
namespace Go.Proofs.YtmckmlmfilmiaaaDoor.X
open Go Go.RowKit Go.ChangeShapes Go.WideShapes Go.Proofs.YtmckmlmfilmiaaaDoor.Bs
set_option linter.unusedVariables false
section
variable {H : Type} {enc : TypeId × Value → H} {P : Program} {w : World} {base : Nat} {spare : Nat → Bool} {held : Bool} {fuel : Nat} {cs : List Value} {x : DataW H × List MemPlace}
theorem bulk_one (d : DataW H) : 1 ≤ Rows.uptoBulk d := by
  cases d with
  | lit l => cases l <;> simp [Rows.uptoBulk]
  | nil => simp [Rows.uptoBulk]
  | ptr d => simp [Rows.uptoBulk]
  | slice elems spare => simp [Rows.uptoBulk]
  | agg parts => simp [Rows.uptoBulk]
  | iface t d => simp [Rows.uptoBulk]
  | map entries => simp [Rows.uptoBulk]
  | held h => simp [Rows.uptoBulk]
theorem bulk_part {d : DataW H} {l : List (DataW H)} (h : d ∈ l) : Rows.uptoBulk d ≤ Rows.uptoBulkAll l := by
  induction l with
  | nil => cases h
  | cons x r ih =>
    simp only [Rows.uptoBulkAll]
    rcases List.mem_cons.1 h with e | e
    · subst e; omega
    · have := ih e; omega
theorem bulk_len (l : List (DataW H)) : l.length ≤ Rows.uptoBulkAll l := by
  induction l with
  | nil => simp [Rows.uptoBulkAll]
  | cons x r ih => have := bulk_one x; simp only [Rows.uptoBulkAll, List.length_cons]; omega
/-- a slice is no longer than its reading's bulk. -/
theorem bulk_slice {t e : TypeId} {A : Option Addr} {n c : Nat} (ht : P.underlying t = some (.slice e)) (h : DataW.trod enc P w base spare held fuel t [.slice A n c] = some x) : n ≤ Rows.uptoBulk x.1 := by
  rcases Go.Deep.open_slice ht h with ⟨e1, _⟩ | ⟨a, len, cap, m', n', D, Pl, e1, _, _, _, _, rfl, _⟩
  · have : n = 0 := by injection e1 with e2 _; injection e2
    omega
  · have e2 : n = len := by injection e1 with e3 _; injection e3
    subst e2
    have h1 := bulk_len ((List.range n).map D)
    simp only [List.length_map, List.length_range] at h1
    simp only [Rows.uptoBulk]
    omega
theorem bulk_field {t : TypeId} {fs : Array Field} (ht : P.underlying t = some (.struct fs)) (h : DataW.trod enc P w base spare held fuel t cs = some x) :
    ∃ n, ∀ (i : Nat) (f : Field) (u : TypeId) (o m : Nat), fs[i]? = some f → f.type = u → f.offset = o → P.cellsOf u = m → ∃ y, DataW.trod enc P w base spare held n u ((cs.drop o).take m) = some y ∧ Rows.uptoBulk y.1 ≤ Rows.uptoBulk x.1 := by
  obtain ⟨xs, n, _, rfl, hl, hlen, hf⟩ := DataW.trod_struct ht h
  refine ⟨n, fun i f u o m hi hu ho hm => ?_⟩
  subst hu ho hm
  have h1 := hf i f hi
  have hi' : i < xs.length := by rw [hlen]; exact (Array.getElem?_eq_some_iff.1 hi).1
  rw [List.getElem?_eq_getElem hi'] at h1
  refine ⟨xs[i], h1, ?_⟩
  have h2 : Rows.uptoBulk xs[i].1 ≤ Rows.uptoBulkAll (xs.map (·.1)) := bulk_part (List.mem_map.2 ⟨_, List.getElem_mem hi', rfl⟩)
  simp only [Rows.uptoBulk]
  omega
end
section
variable {H : Type} {enc : TypeId × Value → H} {w : World} {base : Nat} {spare : Nat → Bool} {held : Bool} {fuel : Nat} {cs : List Value} {x : DataW H × List MemPlace}
theorem c_slu : (Tryd.prog).cellsOf 99 = 3 := by kernel_rfl
theorem c_pmp : (Tryd.prog).cellsOf 101 = 5 := by kernel_rfl
theorem c_bool : (Tryd.prog).cellsOf 4 = 1 := by kernel_rfl
theorem c_bools : (Tryd.prog).cellsOf 31 = 1 := by kernel_rfl
theorem c_slus : (Tryd.prog).cellsOf 29 = 1 := by kernel_rfl
theorem c_pmps : (Tryd.prog).cellsOf 30 = 1 := by kernel_rfl
theorem c_tsk : (Tryd.prog).cellsOf 33 = 15 := by kernel_rfl
theorem boolR (h : DataW.trod enc Tryd.prog w base spare held fuel 4 cs = some x) : ∃ b : Bool, cs = [.bool b] := by
  obtain ⟨b, e, _⟩ := DataW.trod_bool Tryd.underlying4 h
  exact ⟨b, e⟩
theorem sluR (h : DataW.trod enc Tryd.prog w base spare held fuel 99 cs = some x) : ∃ r : Slu, cs = sluC r ∧ r.name.size ≤ maxLen := by
  obtain ⟨hl, n, hf⟩ := fieldR Tryd.underlying99 h
  rw [c_slu] at hl
  match cs, hl with
  | [c0, c1, c2], _ =>
    obtain ⟨d0, y0, e0, h0⟩ := hf 0 _ rfl c_str (Nat.le_of_ble_eq_true rfl)
    obtain ⟨d1, y1, e1, h1⟩ := hf 1 _ rfl c_int (Nat.le_of_ble_eq_true rfl)
    obtain ⟨d2, y2, e2, h2⟩ := hf 2 _ rfl c_int (Nat.le_of_ble_eq_true rfl)
    obtain ⟨s, rfl, hs⟩ := strR h0
    obtain ⟨k1, rfl⟩ := intR h1
    obtain ⟨k2, rfl⟩ := intR h2
    cases e0; cases e1; cases e2
    exact ⟨⟨s, k1, k2⟩, rfl, hs⟩
theorem pmpR (h : DataW.trod enc Tryd.prog w base spare held fuel 101 cs = some x) : ∃ r : Pmp, cs = pmpC r ∧ r.name.size ≤ maxLen := by
  obtain ⟨hl, n, hf⟩ := fieldR Tryd.underlying101 h
  rw [c_pmp] at hl
  match cs, hl with
  | [c0, c1, c2, c3, c4], _ =>
    obtain ⟨d0, y0, e0, h0⟩ := hf 0 _ rfl c_str (Nat.le_of_ble_eq_true rfl)
    obtain ⟨d1, y1, e1, h1⟩ := hf 1 _ rfl c_int (Nat.le_of_ble_eq_true rfl)
    obtain ⟨d2, y2, e2, h2⟩ := hf 2 _ rfl c_int (Nat.le_of_ble_eq_true rfl)
    obtain ⟨d3, y3, e3, h3⟩ := hf 3 _ rfl c_int (Nat.le_of_ble_eq_true rfl)
    obtain ⟨d4, y4, e4, h4⟩ := hf 4 _ rfl c_int (Nat.le_of_ble_eq_true rfl)
    obtain ⟨s, rfl, hs⟩ := strR h0
    obtain ⟨k1, rfl⟩ := intR h1
    obtain ⟨k2, rfl⟩ := intR h2
    obtain ⟨k3, rfl⟩ := intR h3
    obtain ⟨k4, rfl⟩ := intR h4
    cases e0; cases e1; cases e2; cases e3; cases e4
    exact ⟨⟨s, k1, k2, k3, k4⟩, rfl, hs⟩
theorem boolsR (h : DataW.trod enc Tryd.prog w base spare held fuel 31 cs = some x) : ∃ (q : SV) (l : List Bool), cs = [svV q] ∧ ListAt boolK w (Lt w.heap.size) q l := by
  obtain ⟨A, n, c, l, rfl, hr, hnc, hcm, _⟩ := sliceR (C := fun b : Bool => [.bool b]) (G := fun _ => True) Tryd.underlying31 c_bool (fun n cs x h => by
    obtain ⟨b, e⟩ := boolR h
    exact ⟨b, e, trivial⟩) (fun _ => rfl) (by decide) h
  exact ⟨⟨A, n, c⟩, l, rfl, ReadsP.of hr, by simp only; unfold maxLen at hcm; omega, fun a ha x hx => by cases hx⟩
theorem slusR (h : DataW.trod enc Tryd.prog w base spare held fuel 29 cs = some x) : ∃ (q : SV) (l : List Slu), cs = [svV q] ∧ ListAt sluK w (Lt w.heap.size) q l ∧ ∀ y, y ∈ l → y.name.size ≤ maxLen := by
  obtain ⟨A, n, c, l, rfl, hr, hnc, hcm, hg⟩ := sliceR (C := sluC) (G := fun r => r.name.size ≤ maxLen) Tryd.underlying29 c_slu (fun n cs x h => sluR h) (fun _ => rfl) (by decide) h
  exact ⟨⟨A, n, c⟩, l, rfl, ⟨ReadsP.of hr, by simp only; unfold maxLen at hcm; omega, fun a ha x hx => by cases hx⟩, hg⟩
theorem pmpsR (h : DataW.trod enc Tryd.prog w base spare held fuel 30 cs = some x) : ∃ (q : SV) (l : List Pmp), cs = [svV q] ∧ ListAt pmpK w (Lt w.heap.size) q l ∧ ∀ y, y ∈ l → y.name.size ≤ maxLen := by
  obtain ⟨A, n, c, l, rfl, hr, hnc, hcm, hg⟩ := sliceR (C := pmpC) (G := fun r => r.name.size ≤ maxLen) Tryd.underlying30 c_pmp (fun n cs x h => pmpR h) (fun _ => rfl) (by decide) h
  exact ⟨⟨A, n, c⟩, l, rfl, ⟨ReadsP.of hr, by simp only; unfold maxLen at hcm; omega, fun a ha x hx => by cases hx⟩, hg⟩
/-- a plan that came in. -/
theorem planR (h : DataW.trod enc Tryd.prog w base spare held fuel 34 cs = some x) : ∃ (q : SV) (es : List (SV × List Bool)), cs = [svV q] ∧ ListAt plnK w (Lt w.heap.size) q es := by
  obtain ⟨A, n, c, l, rfl, hr, hnc, hcm, hg⟩ := sliceR (C := fun e : SV × List Bool => [svV e.1]) (G := fun e => ListAt boolK w (Lt w.heap.size) e.1 e.2) Tryd.underlying34 c_bools (fun n cs x h => by
    obtain ⟨q, l, e, hl⟩ := boolsR h
    exact ⟨(q, l), e, hl⟩) (fun _ => rfl) (by decide) h
  exact ⟨⟨A, n, c⟩, l, rfl, ReadsP.of hr, by simp only; unfold maxLen at hcm; omega, fun a ha x hx => by rw [List.mem_singleton.1 hx]; exact hg a ha⟩
theorem tskR (h : DataW.trod enc Tryd.prog w base spare held fuel 33 cs = some x) : ∃ (v : RTV) (t : RTk), cs = tskC v t ∧ TskAt w w.heap.size v t := by
  obtain ⟨hl, n, hf⟩ := fieldN Tryd.underlying33 h
  rw [c_tsk] at hl
  match cs, hl with
  | [a0, a1, a2, a3, a4, a5, a6, a7, a8, a9, b0, b1, b2, b3, b4], _ =>
    obtain ⟨y0, h0⟩ := hf 0 _ 25 0 5 rfl rfl rfl c_bas
    obtain ⟨y1, h1⟩ := hf 1 _ 28 5 2 rfl rfl rfl c_sta
    obtain ⟨y2, h2⟩ := hf 2 _ 26 7 1 rfl rfl rfl c_ints
    obtain ⟨y3, h3⟩ := hf 3 _ 26 8 1 rfl rfl rfl c_ints
    obtain ⟨y4, h4⟩ := hf 4 _ 26 9 1 rfl rfl rfl c_ints
    obtain ⟨y5, h5⟩ := hf 5 _ 3 10 1 rfl rfl rfl c_int
    obtain ⟨y6, h6⟩ := hf 6 _ 3 11 1 rfl rfl rfl c_int
    obtain ⟨y7, h7⟩ := hf 7 _ 29 12 1 rfl rfl rfl c_slus
    obtain ⟨y8, h8⟩ := hf 8 _ 30 13 1 rfl rfl rfl c_pmps
    obtain ⟨y9, h9⟩ := hf 9 _ 31 14 1 rfl rfl rfl c_bools
    obtain ⟨p, b, e0, k0⟩ := basR h0
    obtain ⟨q, s, e1, k1⟩ := staR h1
    obtain ⟨qo, lo, e2, k2⟩ := intsR h2
    obtain ⟨qr, lr, e3, k3⟩ := intsR h3
    obtain ⟨qc, lc, e4, k4⟩ := intsR h4
    obtain ⟨low, e5⟩ := intR' h5
    obtain ⟨high, e6⟩ := intR' h6
    obtain ⟨qs, ls, e7, k7, n7⟩ := slusR h7
    obtain ⟨qp, lp, e8, k8, n8⟩ := pmpsR h8
    obtain ⟨qn, ln, e9, k9⟩ := boolsR h9
    simp only [List.drop_succ_cons, List.drop_zero, List.take_succ_cons, List.take_zero, basC, staC, svV] at e0 e1 e2 e3 e4 e5 e6 e7 e8 e9
    cases e0; cases e1; cases e2; cases e3; cases e4; cases e5; cases e6; cases e7; cases e8; cases e9
    refine ⟨⟨p, q, qo, qr, qc, qs, qp, qn⟩, ⟨b, s, lo, lr, lc, low, high, ls, lp, ln⟩, rfl, k0, k1, k2, k3, k4, k7, k8, k9, fun d hd => ?_⟩
    rcases List.mem_append.1 hd with h | h
    · obtain ⟨y, hy, rfl⟩ := List.mem_map.1 h
      have := n7 y hy
      unfold maxLen at this
      simp only [Dev.name]; omega
    · obtain ⟨y, hy, rfl⟩ := List.mem_map.1 h
      have := n8 y hy
      unfold maxLen at this
      simp only [Dev.name]; omega
theorem bulk_tsk {v : RTV} {t : RTk} (h : DataW.trod enc Tryd.prog w base spare held fuel 33 (tskC v t) = some x) : v.su.n ≤ Rows.uptoBulk x.1 ∧ v.pu.n ≤ Rows.uptoBulk x.1 := by
  obtain ⟨n, hf⟩ := bulk_field Tryd.underlying33 h
  obtain ⟨y7, h7, b7⟩ := hf 7 _ 29 12 1 rfl rfl rfl c_slus
  obtain ⟨y8, h8, b8⟩ := hf 8 _ 30 13 1 rfl rfl rfl c_pmps
  have a1 := bulk_slice (A := v.su.A) (n := v.su.n) (c := v.su.c) Tryd.underlying29 h7
  have a2 := bulk_slice (A := v.pu.A) (n := v.pu.n) (c := v.pu.c) Tryd.underlying30 h8
  omega
/-- how many devices a task that came in has. -/
theorem small_tsk {v : RTV} {t : RTk} {ds : List (DataW H)} (hx : x.1 ∈ ds) (hk : Rows.uptoSmall H ds = true) (ht : TskAt w w.heap.size v t) (h : DataW.trod enc Tryd.prog w base spare held fuel 33 (tskC v t) = some x) : t.slu.length + t.pmp.length ≤ 5000000 := by
  obtain ⟨h1, h2⟩ := bulk_tsk h
  have h3 := bulk_part hx
  have h4 : Rows.uptoBulkAll ds ≤ 1048576 := of_decide_eq_true hk
  have h5 := ht.slu.len (by decide)
  have h6 := ht.pmp.len (by decide)
  omega
end
theorem own : ownKnob Tryd.prog.godebug = none := by kernel_rfl
theorem laidOut : laidOutB Tryd.prog = true := by kernel_rfl
end Go.Proofs.YtmckmlmfilmiaaaDoor.X
/-
  RunoffKeeps: the plain law.
-/
namespace Go.Proofs.YtmckmlmfilmiaaaDoor.Bs
open Go.Proofs.YtmckmlmfilmiaaaDoor.X
theorem rt_chk {t : RTk} (h : rtE t = 0) : chkE t.b = 0 ∧ staErr t.b t.s = 0 := by
  by_cases h1 : chkE t.b = 0
  · by_cases h2 : staErr t.b t.s = 0
    · exact ⟨h1, h2⟩
    · unfold rtE at h
      rw [chkT_2 h1 h2] at h
      exact absurd h h2
  · unfold rtE chkT at h
    rw [if_pos h1] at h
    exact absurd h h1
/-- the state ahead of what happens in tick j. -/
def prevS (s : Sta) (D : List Done) : Nat → Sta
  | 0 => s
  | j + 1 => (D[j]?.getD Done.zero).s
/-- what is said of what happens in tick i, from the state s. -/
structure DoneOk (t : RTk) (s : Sta) (i : Nat) (d : Done) : Prop where
  s0 : StaOk t.b s
  ok : stepE t.b s (t.tickOf i d.out) = 0
  st : d.s = outS t.b s (t.tickOf i d.out)
  lo : t.low * den t.b d.s.vol ≤ num t.b d.s.vol
  hi : num t.b d.s.vol ≤ t.high * den t.b d.s.vol
  en : 0 ≤ d.energy ∧ d.energy ≤ 20000000000
  co : d.cost = d.energy * at0 t.prices i
  s1 : StaOk t.b d.s
theorem doD_ok {t : RTk} (ho : RtOk t) {s : Sta} (hs : StaOk t.b s) {i : Nat} (hi : i < t.outer.length) {b f : List Bool} (e : t.doE s i b f = 0) : DoneOk t s i (t.doD s i b f) := by
  obtain ⟨a, c, h1, h2, h3, h4, h5⟩ := doD_of e
  have hd := (use_bd ho hs.vol hi h1).2
  obtain ⟨hst, _⟩ := do_sta ho hs hi e
  rw [h5] at hst ⊢
  exact ⟨hs, h2, rfl, h3, h4, hd, rfl, hst⟩
theorem flw_done {t : RTk} (ho : RtOk t) : ∀ {p : Plan} {i : Nat} {s : Sta} {b : List Bool}, StaOk t.b s → i + p.length ≤ t.outer.length → ∀ j d, (t.flw i s b p).1[j]? = some d → DoneOk t (prevS s (t.flw i s b p).1 j) (i + j) d := by
  intro p
  induction p with
  | nil => intro i s b _ _ j d h; simp [RTk.flw] at h
  | cons on r ih =>
    intro i s b hs hl j d h
    simp only [List.length_cons] at hl
    rw [flw_eq] at h ⊢
    by_cases h0 : t.doE s i b on = 0
    · rw [if_pos h0] at h ⊢
      have hk := doD_ok ho hs (by omega) h0
      cases j with
      | zero =>
        simp only [List.getElem?_cons_zero, Option.some.injEq] at h
        subst h
        exact hk
      | succ j =>
        simp only [List.getElem?_cons_succ] at h
        have := ih hk.s1 (by omega) j d h
        rw [show i + 1 + j = i + (j + 1) by omega] at this
        cases j with
        | zero => exact this
        | succ j => exact this
    · rw [if_neg h0] at h
      simp at h
theorem flw_le {t : RTk} : ∀ {p : Plan} {i : Nat} {s : Sta} {b : List Bool}, (t.flw i s b p).1.length ≤ p.length ∧ ((t.flw i s b p).2 = 0 ↔ (t.flw i s b p).1.length = p.length) := by
  intro p
  induction p with
  | nil => intro i s b; exact ⟨Nat.le_refl _, by simp [RTk.flw]⟩
  | cons on r ih =>
    intro i s b
    rw [flw_eq]
    by_cases h0 : t.doE s i b on = 0
    · rw [if_pos h0]
      have := ih (i := i + 1) (s := (t.doD s i b on).s) (b := on)
      simp only [List.length_cons, Nat.succ_le_succ_iff, Nat.succ.injEq]
      exact ⟨by omega, by rw [this.2]⟩
    · rw [if_neg h0]
      simp [h0]
/-- the ticks that were made. -/
def keT (t : RTk) (D : List Done) : List Tick := (List.range D.length).map fun i => t.tickOf i (D[i]?.getD Done.zero).out
theorem keT_len {t : RTk} {D : List Done} : (keT t D).length = D.length := by simp [keT]
theorem keT_tk {t : RTk} {D : List Done} {k : Nat} {d : Done} (h : D[k]? = some d) : tk (keT t D) k = t.tickOf k d.out := by
  have hk : k < D.length := (List.getElem?_eq_some_iff.mp h).1
  unfold tk keT
  rw [List.getElem?_map, List.getElem?_range hk]
  simp [h]
structure KeepsOk (t : RTk) (p : Plan) (D : List Done) : Prop where
  len : D.length ≤ t.outer.length
  river : t.river.length = t.outer.length
  prices : t.prices.length = t.outer.length
  n6 : t.outer.length ≤ 6
  done : ∀ j d, D[j]? = some d → DoneOk t (prevS t.s D j) j d
  flt : folF t p = 0 ↔ D.length = t.outer.length
  hc : chkE t.b = 0
  hs : staErr t.b t.s = 0
  ok : RtOk t
theorem keeps_ok {t : RTk} {p : Plan} (h : folE t p = 0) : KeepsOk t p (folL t p) := by
  have hE := h
  unfold folE at h
  split at h
  · rename_i h1; exact absurd h h1
  rename_i h1
  have hr : rtE t = 0 := by simpa using h1
  split at h
  · cases h
  rename_i h2
  have hsh : t.shaped p = true := by simpa using h2
  have ho := rtOk_of hr
  have hl := (shaped_len hsh).1
  have hf := flw_le (t := t) (p := p) (i := 0) (s := t.s) (b := t.on)
  obtain ⟨hc, hs⟩ := rt_chk hr
  have eL : folL t p = (t.flw 0 t.s t.on p).1 := by unfold folL; rw [if_pos hE]
  have eF : folF t p = (t.flw 0 t.s t.on p).2 := by unfold folF; rw [if_pos hE]
  have hn : t.n = t.outer.length := rfl
  rw [eL]
  refine ⟨by omega, ho.river, ho.prices, ho.n6, fun j d h => ?_, by rw [eF, hf.2, hl, hn], hc, hs, ho⟩
  have := flw_done ho ho.sta (p := p) (i := 0) (b := t.on) (by omega) j d h
  rwa [Nat.zero_add] at this
theorem KeepsOk.sta {t : RTk} {p : Plan} {D : List Done} (h : KeepsOk t p D) : ∀ k, k ≤ D.length → staAt t.b t.s (keT t D) k = prevS t.s D k := by
  intro k
  induction k with
  | zero => intro _; rfl
  | succ k ih =>
    intro hk
    obtain ⟨d, hd⟩ : ∃ d, D[k]? = some d := ⟨D[k], List.getElem?_eq_getElem (by omega)⟩
    have hk2 := h.done k d hd
    show outS t.b (staAt t.b t.s (keT t D) k) (tk (keT t D) k) = (D[k]?.getD Done.zero).s
    rw [ih (by omega), keT_tk hd, hd, ← hk2.st]
    rfl
theorem KeepsOk.run {t : RTk} {p : Plan} {D : List Done} (h : KeepsOk t p D) : runE t.b t.s (keT t D) = 0 ∧ runS t.b t.s (keT t D) = D.map (·.s) := by
  have h6 := h.n6
  have hl := h.len
  have e0 : runE t.b t.s (keT t D) = 0 := X.runE_none h.hs (by rw [keT_len]; omega) (badAt_none fun k hk => by
    rw [keT_len] at hk
    obtain ⟨d, hd⟩ : ∃ d, D[k]? = some d := ⟨D[k], List.getElem?_eq_getElem hk⟩
    show stepE t.b (staAt t.b t.s (keT t D) k) (tk (keT t D) k) = 0
    rw [h.sta k (by omega), keT_tk hd]
    exact (h.done k d hd).ok)
  refine ⟨e0, ?_⟩
  unfold runS
  rw [if_neg (by simp [e0]), keT_len]
  refine List.ext_getElem (by simp) fun i h1 h2 => ?_
  simp only [List.length_map, List.length_range] at h1
  simp only [List.getElem_map, List.getElem_range]
  rw [h.sta (i + 1) (by omega)]
  show (D[i]?.getD Done.zero).s = _
  rw [List.getElem?_eq_getElem h1]
  rfl
theorem KeepsOk.lvl {t : RTk} {p : Plan} {D : List Done} (h : KeepsOk t p D) {j : Nat} {d : Done} (hd : D[j]? = some d) : lvlE t.b d.s.vol = 0 ∧ t.low ≤ lvlLo t.b d.s.vol ∧ lvlHi t.b d.s.vol ≤ t.high := by
  have hk := h.done j d hd
  have hv := hk.s1.vol
  have hp := den_pos h.ok.ok.rowsOk d.s.vol
  obtain ⟨x1, x2, x3⟩ := lvl_0 (b := t.b) (v := d.s.vol) h.hc (by simp only [outB, Bool.or_eq_false_iff, decide_eq_false_iff_not]; omega)
  have hlo := hk.lo
  have hhi := hk.hi
  refine ⟨x1, ?_, ?_⟩
  · rw [x2]
    exact (Int.le_ediv_iff_mul_le (by omega)).mpr hlo
  · rw [x3]
    unfold levHi
    have : -t.high ≤ (-(num t.b d.s.vol)) / den t.b d.s.vol := by
      rw [Int.le_ediv_iff_mul_le (by omega), Int.neg_mul]
      omega
    omega
end Go.Proofs.YtmckmlmfilmiaaaDoor.Bs
/-
  RunoffKeeps: the walk.
-/
namespace Go.Proofs.YtmckmlmfilmiaaaDoor.X
open Go Go.RowKit Go.Proofs.YtmckmlmfilmiaaaDoor.Bs
set_option linter.unusedVariables false
def tickK7 : Kind Tick := ⟨44, 3, tickC, fun _ => [], tickC_len⟩
theorem tick7_el : elemOk Tryd.prog 40 tickK7.ty tickK7.m 24 = true := by kernel_rfl
theorem ListAt.tks7 {w : World} {ok : Nat → Prop} {r : SV} {l : List Tick} (h : ListAt tickK7 w ok r l) : TksAt w ok r l := ⟨h.rd, h.max⟩
theorem Free.far3 {W : World} {b0 : Nat} {ks : List Nat} {rs : List RowX} {L : Lo} {ad : Addr} {i j m : Nat} (h : Free W b0 ks rs ad.block) (hs : ∀ e, e ∈ L → e.1 ∈ ks ∨ W.heap.size ≤ e.1) : ∀ e, e ∈ L → e.1 ≠ (((ad.add i).add j).add m).block := by
  rw [add_block, add_block]
  exact Free.far h hs
set_option maxHeartbeats 16000000 in
theorem RunoffKeeps_any {v : RTV} {t : RTk} {pq : SV} {p : Plan} {es : List (SV × List Bool)} {w : World} (hLd : Laid w) (ht : TskAt w w.heap.size v t) (hn : t.slu.length + t.pmp.length ≤ 5000000) (hp : ListAt plnK w (Lt w.heap.size) pq es) (hes : es.map (·.2) = p) :
    Calls Tryd.prog 3 #[tskV v t, svV pq] w fun e w' => e = .returned (.bool true) ∧ Below w.heap.size w w' := by
  have hfol := fun (w5 : World) (hB : Below w.heap.size w w5) => Do_made (v := v) (t := t) (w := w5) (pq := pq) (ht.sys (Sys.ofBelow hB)) hn ((hp.keep fun k hk => hB.block k hk).mono fun k hk => Nat.lt_of_lt_of_le hk hB.size) hes
  have haw := fun {L : Lo} {W : World} (w5 : World) (S5 : Sys w.heap.size W L w5) => Awake7_any (w := w5)
  have hlev := fun (x : Int) (w5 : World) (hB : Below w.heap.size w w5) => Level_any (p := v.p) (b := t.b) (v := x) (w := w5) ((ht.sys (Sys.ofBelow hB)).bas)
  have hno := ht.outer.len
  have hnr := ht.river.len
  have hnc := ht.prices.len
  have hko := keeps_ok (t := t) (p := p)
  simp only [tskV, tskC, svV, basV, basC, spanV] at hfol hlev ⊢
  refine enter Tryd.func3 rfl Tryd.ntmps3 rfl ?_; simp only [frame, Nat.zero_add, Nat.reduceAdd]
  repeat (first | (refine M0 ?_; first | refine SL ?_ | refine SB fun _ _ => ?_) | (refine M1 ?_; refine SC ?_) | (refine M2 ?_; refine SE ?_))
  rename_i g2 hg2
  refine XL.rebase (List.Sublist.refl _) (fun W0 S0 => ?_)
  refine XL.callF (ks := [g2]) (rs := []) (hs := []) (b0 := w.heap.size) (wE := w) (DoV2 t p) (ck rfl) rfl rfl (Fam.start S0.size) (fun k hk => S0.keyLt k hk) S0.toBelow (fun w1 S1 _ hB1 => hfol w1 hB1) (fun w2 x new hR hF2 hB2 hk2 => ?_) ZZHL
  obtain ⟨q, ds, rfl, hds, rfl⟩ := hR
  clear S0
  obtain ⟨D, hD⟩ : ∃ D, D = folL t p := ⟨_, rfl⟩
  obtain ⟨E, hE⟩ : ∃ E, E = folE t p := ⟨_, rfl⟩
  obtain ⟨F, hF⟩ : ∃ F, F = folF t p := ⟨_, rfl⟩
  rw [← hE] at hko
  rw [← hD] at hds hko
  rw [← hE, ← hF]
  simp only [svV]
  repeat (first | (refine M0 ?_; first | refine SL ?_ | refine SB fun _ _ => ?_) | (refine M1 ?_; refine SC ?_) | (refine M2 ?_; refine SE ?_))
  by_cases h0 : E = 0
  rotate_left
  · rw [show decide (E ≠ 0) = true from decide_eq_true h0]
    repeat (first | (refine M0 ?_; first | refine SL ?_ | refine SB fun _ _ => ?_ | refine Y4 (Ev.call (f := 5) (ck rfl) rfl (fun w5 S5 => haw w5 S5)) ?_) | (refine M1 ?_; refine SC ?_) | (refine M2 ?_; refine SE ?_))
    refine XE.retg tok Tryd.results3 rfl (by simp only [and_self, and_true]) (fun w' S => ?_)
    exact ⟨rfl, hB2.trans S.toBelow⟩
  subst h0
  have hkp := hko rfl
  have hflt := hkp.flt
  rw [← hF] at hflt
  have hdl : ds.length = D.length := by rw [← hds, List.length_map]
  have hlen := hkp.len
  have hn6 := hkp.n6
  have hri := hkp.river
  have hpr := hkp.prices
  have hok := hkp.ok
  have hlq : ListAt donK w2 _ q ds := hF2.held (hList donK q ds) (.head _)
  obtain ⟨Aq, nq, cq⟩ := q
  have hnq := hlq.len (by decide)
  simp only at hnq
  subst hnq
  simp only
  rw [show decide ((0 : Int) ≠ 0) = false from rfl]
  repeat (first | (refine M0 ?_; first | refine SL ?_ | refine SB fun _ _ => ?_) | (refine M1 ?_; refine SC ?_) | (refine M2 ?_; refine SE ?_))
  rw [show decide ((v.o.n : Int) < (ds.length : Int)) = false from decide_eq_false (by omega)]
  repeat (first | (refine M0 ?_; first | refine SL ?_ | refine SB fun _ _ => ?_) | (refine M1 ?_; refine SC ?_) | (refine M2 ?_; refine SE ?_))
  rw [show decide ((v.r.n : Int) ≠ (v.o.n : Int)) = false from decide_eq_false (by omega)]
  repeat (first | (refine M0 ?_; first | refine SL ?_ | refine SB fun _ _ => ?_) | (refine M1 ?_; refine SC ?_) | (refine M2 ?_; refine SE ?_))
  rw [show decide ((v.c.n : Int) ≠ (v.o.n : Int)) = false from decide_eq_false (by omega)]
  repeat (first | (refine M0 ?_; first | refine SL ?_ | refine SB fun _ _ => ?_) | (refine M1 ?_; refine SC ?_) | (refine M2 ?_; refine SE ?_))
  have hw2 : w.heap.size ≤ w2.heap.size := hB2.size
  have F0 : Fam w2 w.heap.size [g2, g2] [⟨Tick, tickK7, .slice none 0 0, (keT t D).take 0⟩] [hOld w.heap.size w2 g2, hList donK ⟨Aq, ds.length, cq⟩ ds] := Fam.hold (x := hOld w.heap.size w2 g2) (hF2.nil tickK7) (ok := Free w2 w.heap.size [g2, g2] [⟨Tick, tickK7, .slice none 0 0, []⟩]) (fun k h1 h2 h3 => ⟨⟨h1, h2, by simpa using h3, fun r hr => by rw [List.mem_singleton.1 hr]; simp [Value.ownBlock]⟩, rfl⟩) (fun j hj => hj)
  have hk0 : ∀ k, k ∈ [g2, g2] → k < w2.heap.size := hk2
  have hol : ∀ {W w9 : World} {ks : List Nat} {rs : List RowX} {hs : List Held}, Fam W w.heap.size ks rs hs → hOld w.heap.size w2 g2 ∈ hs → Below w.heap.size w W → w2.heap.size ≤ W.heap.size → Since w2 g2 W := fun h hm h1 h2 => h.since hm hB2 h1 h2
  refine XC.loopk [2, 5, 6] rfl (fun z : Nat × World × Value => [(9, .int .i64 (z.1 : Nat)), (8, z.2.2)]) (fun _ => [(g2, _)]) (fun z => z.2.1) (fun z => z.1 ≤ D.length ∧ Fam z.2.1 w.heap.size [g2, g2] [⟨Tick, tickK7, z.2.2, (keT t D).take z.1⟩] [hOld w.heap.size w2 g2, hList donK ⟨Aq, ds.length, cq⟩ ds] ∧ Below w.heap.size w z.2.1 ∧ (∀ k, k ∈ [g2, g2] → k < z.2.1.heap.size) ∧ w2.heap.size ≤ z.2.1.heap.size) (fun z => D.length - z.1) (0, w2, .slice none 0 0) ⟨Nat.zero_le _, F0, hB2, hk0, Nat.le_refl _⟩ ZZSUB (fun _ h => h) ?_
  clear F0 hk0
  rintro ⟨k, W, lv⟩ ⟨hkD, hFW, hBW, hkW, hzW⟩
  simp only at hkD hFW hBW hkW hzW
  dsimp only [List.cons_append, List.nil_append]
  repeat (first | (refine M0 ?_; first | refine SL ?_ | refine SB fun _ _ => ?_) | (refine M1 ?_; refine SC ?_) | (refine M2 ?_; refine SE ?_))
  refine XC.cond _ rfl (fun h2 => ?_) (fun h2 => ?_)
  · have hkn : k < D.length := by have := of_decide_eq_true h2; omega
    have hkd : k < ds.length := by omega
    obtain ⟨ao, ha1, hlo, hco⟩ := ht.outer.at_ (by omega)
    obtain ⟨ar, ha2, hlr, hcr⟩ := ht.river.at_ (by omega)
    obtain ⟨ac, ha3, hlc, hcc⟩ := ht.prices.at_ (by omega)
    have dO := (below_cell hB2 (ad := ao.add (k * 1)) (add_lt hlo)).trans (hco k (by omega))
    have dR := (below_cell hB2 (ad := ar.add (k * 1)) (add_lt hlr)).trans (hcr k (by omega))
    have dC := hcc k (by omega)
    obtain ⟨d, hd⟩ : ∃ d, d = D[k] := ⟨_, rfl⟩
    have hDk : D[k]? = some d := by rw [hd]; exact List.getElem?_eq_getElem hkn
    obtain ⟨qd, hqd⟩ : ∃ qd, qd = ds[k].1 := ⟨_, rfl⟩
    have hdk : ds[k]? = some (qd, d) := by
      rw [List.getElem?_eq_getElem hkd, hqd, hd]
      congr 1
      refine Prod.ext rfl ?_
      simp [← hds]
    obtain ⟨aq, haq, hfq⟩ := hlq.addr (by decide) (by omega)
    subst haq
    have e0 := hlq.elem hdk 0 (.int .i64 d.s.vol) rfl
    have e2 := hlq.elem hdk 2 (.int .i64 d.out) rfl
    have htk : (keT t D).take (k + 1) = (keT t D).take k ++ [⟨at0 t.outer k, at0 t.river k, d.out⟩] := by
      rw [List.take_succ_eq_append_getElem (by rw [keT_len]; omega)]
      congr 2
      simp [keT, RTk.tickOf, hDk]
    have htl : ((keT t D).take k).length ≤ 6 := by rw [List.length_take, keT_len]; omega
    have hSW := hol (w9 := W) hFW (.head _) hBW hzW
    rw [ha1, ha2, ha3]
    repeat (first | (refine M0 ?_; first | refine SL ?_ | refine SB fun _ _ => ?_) | (refine M1 ?_; refine SC ?_) | (refine M2 ?_; refine SE ?_))
    refine XC.cutn [2, 5, 6, 9] rfl (fun z : World × Value => [(8, z.2)]) (fun _ => [(g2, cel 33 (tskC v t))]) (fun z => z.1) (fun z => Fam z.1 w.heap.size [g2, g2] [⟨Tick, tickK7, z.2, (keT t D).take (k + 1)⟩] [hOld w.heap.size w2 g2, hList donK ⟨some aq, ds.length, cq⟩ ds] ∧ Below w.heap.size w z.1 ∧ (∀ k, k ∈ [g2, g2] → k < z.1.heap.size) ∧ w2.heap.size ≤ z.1.heap.size) ?_ ?_
    · obtain ⟨o1, ho1⟩ : ∃ a, a = at0 t.outer k := ⟨_, rfl⟩
      obtain ⟨r1, hr1⟩ : ∃ a, a = at0 t.river k := ⟨_, rfl⟩
      rw [← ho1] at dO htk
      rw [← hr1] at dR htk
      refine XC.drawRS w2 [(g2, _)] [0, 1, 2, 3, 4, 5, 6, 7, 8, 9, 10, 11, 12, 13, 14, 15, 16] [17, 18, 19] mixed (fun _ h => Sys.anchor4 hSW hw2 h ZZSM (by intro e he; left; rw [List.mem_singleton.1 he])) rfl (by kernel_rfl) ?_
      repeat (any_goals (first | (refine M0 ?_; first | refine SL ?_ | refine SB fun _ _ => ?_ | refine Y4 (Ev.load_old tok rfl rfl (add_lt hlo) dO) ?_ | refine Y4 (Ev.load_old tok rfl rfl (add_lt hlr) dR) ?_ | refine Y4 (Ev.load_far tok rfl rfl (by rw [add_block, add_block]; exact hfq.2.1) (Free.far2 hfq ZZHL) e2) ?_ | refine XL.buildSlice tok rfl rfl rfl rfl rfl rfl rfl rfl rfl (fun _ _ => ?_) | (refine XL.at_push 40 ?_; refine XL.push (K := tickK7) (a := ⟨o1, r1, d.out⟩) (wE := w) 0 tick7_el (by decide) rfl rfl rfl hFW rfl hkW hBW (Nat.le_refl _) rfl (by omega) (by decide) (fun x hx => by cases hx) (fun W1 u1 hF1 hB1 hk1 => ?_); have hz1 : w2.heap.size ≤ W1.heap.size := (by have := hk1 _ (.head _); simp only at this; omega); have hS1 := hol (w9 := W1) hF1 (.head _) hB1 hz1)) | (refine M1 ?_; refine SC ?_) | (refine M2 ?_; first | refine SE ?_ | refine z5 ?_ | refine z6 ?_) | (refine M3 ?_; first | refine SG ?_ | refine SF ?_ | refine YF (Ev.load_old tok rfl rfl (add_lt hlo) dO) ?_ | refine YF (Ev.load_old tok rfl rfl (add_lt hlr) dR) ?_ | refine YF (Ev.load_far tok rfl rfl (by rw [add_block, add_block]; exact hfq.2.1) (Free.far2 hfq ZZHL) e2) ?_) | (refine M4 ?_; refine SR ?_) | (refine M5 ?_; first | exact M7 | refine YM ?_ | refine YN ?_ ?_)))
      any_goals (repeat (first | exact AnyR.nil | refine AnyR.skip rfl ?_))
      all_goals
        refine XE.leafW (fun w9 S9 => ?_)
        apply Exists.intro (w9, u1)
        refine ⟨?pre, ?sub, ?sys⟩
        case sub => repeat (first | exact Sub.nil | refine Sub.cons rfl ?_)
        case sys => simp only [tskC, ha1, ha2, ha3]; exact S9.rebase ZZSM
        case pre =>
          simp only [htk]
          exact ⟨Fam.add (hF1.sys S9 ZZHL) (fun x hx => .inl (by simp only [List.map_cons, List.map_nil, List.mem_append, List.mem_cons, List.not_mem_nil, or_false] at hx ⊢; omega)), hB1.trans S9.toBelow, fun k hk => S9.keyLt k (by simp only [List.map_cons, List.map_nil, List.mem_cons, List.not_mem_nil, or_false] at hk ⊢; omega), Nat.le_trans hz1 S9.size⟩
    clear hFW hBW hkW hzW hSW
    rintro ⟨W1, u1⟩ ⟨hFW, hBW, hkW, hzW⟩
    simp only at hFW hBW hkW hzW
    dsimp only [List.cons_append, List.nil_append]
    obtain ⟨hl0, hl1, hl2⟩ := hkp.lvl hDk
    obtain ⟨lo1, hlo1⟩ : ∃ a, a = lvlLo t.b d.s.vol := ⟨_, rfl⟩
    obtain ⟨hi1, hhi1⟩ : ∃ a, a = lvlHi t.b d.s.vol := ⟨_, rfl⟩
    have hlv := hlev d.s.vol
    rw [hl0, ← hlo1, ← hhi1] at hlv
    rw [← hlo1] at hl1
    rw [← hhi1] at hl2
    have hlqW : ListAt donK W1 _ ⟨some aq, ds.length, cq⟩ ds := hFW.held (hList donK ⟨some aq, ds.length, cq⟩ ds) (by simp)
    have hfW : Free W1 w.heap.size [g2, g2] [⟨Tick, tickK7, u1, (keT t D).take (k + 1)⟩] aq.block := by
      obtain ⟨a9, e9, h9⟩ := hlqW.addr (by decide) (by omega)
      simp only [Option.some.injEq] at e9
      rw [e9]; exact h9
    have dC := (below_cell hBW (ad := ac.add (k * 1)) (add_lt hlc)).trans dC
    have f0 : W1.cell? (((aq.add (k * 5)).add 0).add 0) = some (.int .i64 d.s.vol) := by rw [add_add]; exact hlqW.elem hdk 0 (.int .i64 d.s.vol) rfl
    have f3 := hlqW.elem hdk 3 (.int .i64 d.energy) rfl
    have f4 := hlqW.elem hdk 4 (.int .i64 d.cost) rfl
    simp only [tskC]
    repeat (first | (refine M0 ?_; first | refine SL ?_ | refine SB fun _ _ => ?_) | (refine M1 ?_; refine SC ?_) | (refine M2 ?_; refine SE ?_))
    refine XC.cutn [2, 5, 6, 8, 9] rfl (fun g9 : Nat => [(10, .pointer (some ⟨g9, 0, none⟩)), (11, .int .i64 0)]) (fun g9 => [(g9, cel 46 [.int .i64 lo1, .int .i64 hi1]), (g2, cel 33 (tskC v t))]) (fun _ => W1) (fun g9 => W1.heap.size ≤ g9) ?_ (fun g9 hg9 => ?_)
    · refine XC.drawR _ [0, 1, 2, 3, 4, 5, 6, 7] [8, 9, 10, 11, 12, 13, 14] mixed (fun _ h => h) rfl (by kernel_rfl) ?_
      repeat (any_goals (first | (refine M0 ?_; first | refine SL ?_ | refine SB fun _ _ => ?_ | refine Y4 (Ev.load_far tok rfl rfl (by rw [add_block, add_block, add_block]; exact hfW.2.1) (Free.far3 hfW ZZHL) f0) ?_ | refine Y4 (Ev.call (f := 6) (ck rfl) rfl (fun w5 S5 => hlv w5 (hBW.trans S5.toBelow))) ?_) | (refine M1 ?_; refine SC ?_) | (refine M2 ?_; refine SE ?_) | (refine M3 ?_; first | refine SG ?_ | refine SF ?_ | refine YF (Ev.load_far tok rfl rfl (by rw [add_block, add_block, add_block]; exact hfW.2.1) (Free.far3 hfW ZZHL) f0) ?_ | refine YF (Ev.call (f := 6) (ck rfl) rfl (fun w5 S5 => hlv w5 (hBW.trans S5.toBelow))) ?_) | (refine M4 ?_; refine SR ?_) | (refine M5 ?_; first | exact M7 | refine YM ?_ | refine YN ?_ ?_)))
      any_goals (repeat (first | exact AnyR.nil | refine AnyR.skip rfl ?_))
      all_goals
        simp only [tskC, ha1, ha2, ha3]
        exact XE.leaf _ ZZSUB (fun _ S' => by first | exact S' | exact S'.perm (by repeat (first | exact List.Perm.refl _ | refine perm1 ?_ | refine List.Perm.cons _ ?_ | refine perm2 ?_)) | exact (S'.pop (by assumption)) | exact (S'.pop2 (by assumption))) (by assumption)
    dsimp only [List.cons_append, List.nil_append]
    have f2 := hlqW.elem hdk 2 (.int .i64 d.out) rfl
    obtain ⟨c1, hc1⟩ : ∃ a, a = at0 t.prices k := ⟨_, rfl⟩
    rw [← hc1] at dC
    simp only [tskC, ha1, ha2, ha3]
    have hdn := hkp.done k d hDk
    have hen := hdn.en
    have hco2 := hdn.co
    rw [← hc1] at hco2
    have hpb := hok.pri_ k (by omega)
    rw [← hc1] at hpb
    have m1 : 0 ≤ d.energy * c1 := Int.mul_nonneg hen.1 hpb.1
    have m2 : d.energy * c1 ≤ 20000000000 * c1 := Int.mul_le_mul_of_nonneg_right hen.2 hpb.1
    have i1 : i64in (d.energy * c1) := by unfold i64in; omega
    refine XC.hint 10 1 ?_
    repeat (first | (refine M0 ?_; first | refine SL ?_ | refine SB fun _ _ => ?_ | refine Y4 (Ev.load_far tok rfl rfl (by rw [add_block, add_block]; exact hfW.2.1) (Free.far2 hfW ZZHL) f3) ?_ | refine Y4 (Ev.load_far tok rfl rfl (by rw [add_block, add_block]; exact hfW.2.1) (Free.far2 hfW ZZHL) f4) ?_ | refine Y4 (Ev.load_old tok rfl rfl (add_lt hlc) dC) ?_) | (refine M1 ?_; first | refine SC ?_ | refine SD ?_) | (refine M2 ?_; refine SE ?_) | (refine M3 ?_; first | refine SG ?_ | refine SF ?_ | refine YF (Ev.load_far tok rfl rfl (by rw [add_block, add_block]; exact hfW.2.1) (Free.far2 hfW ZZHL) f3) ?_ | refine YF (Ev.load_far tok rfl rfl (by rw [add_block, add_block]; exact hfW.2.1) (Free.far2 hfW ZZHL) f4) ?_ | refine YF (Ev.load_old tok rfl rfl (add_lt hlc) dC) ?_) | (refine M4 ?_; refine SR ?_) | (refine M5 ?_; first | exact M7 | refine YM ?_ | refine YN ?_ ?_))
    rw [show decide (lo1 < t.low) = false from decide_eq_false (by omega)]
    repeat (first | (refine M0 ?_; first | refine SL ?_ | refine SB fun _ _ => ?_ | refine Y4 (Ev.load_far tok rfl rfl (by rw [add_block, add_block]; exact hfW.2.1) (Free.far2 hfW ZZHL) f3) ?_ | refine Y4 (Ev.load_far tok rfl rfl (by rw [add_block, add_block]; exact hfW.2.1) (Free.far2 hfW ZZHL) f4) ?_ | refine Y4 (Ev.load_old tok rfl rfl (add_lt hlc) dC) ?_) | (refine M1 ?_; first | refine SC ?_ | refine SD ?_) | (refine M2 ?_; refine SE ?_) | (refine M3 ?_; first | refine SG ?_ | refine SF ?_ | refine YF (Ev.load_far tok rfl rfl (by rw [add_block, add_block]; exact hfW.2.1) (Free.far2 hfW ZZHL) f3) ?_ | refine YF (Ev.load_far tok rfl rfl (by rw [add_block, add_block]; exact hfW.2.1) (Free.far2 hfW ZZHL) f4) ?_ | refine YF (Ev.load_old tok rfl rfl (add_lt hlc) dC) ?_) | (refine M4 ?_; refine SR ?_) | (refine M5 ?_; first | exact M7 | refine YM ?_ | refine YN ?_ ?_))
    rw [show decide (t.high < hi1) = false from decide_eq_false (by omega)]
    repeat (first | (refine M0 ?_; first | refine SL ?_ | refine SB fun _ _ => ?_ | refine Y4 (Ev.load_far tok rfl rfl (by rw [add_block, add_block]; exact hfW.2.1) (Free.far2 hfW ZZHL) f3) ?_ | refine Y4 (Ev.load_far tok rfl rfl (by rw [add_block, add_block]; exact hfW.2.1) (Free.far2 hfW ZZHL) f4) ?_ | refine Y4 (Ev.load_old tok rfl rfl (add_lt hlc) dC) ?_) | (refine M1 ?_; first | refine SC ?_ | refine SD ?_) | (refine M2 ?_; refine SE ?_) | (refine M3 ?_; first | refine SG ?_ | refine SF ?_ | refine YF (Ev.load_far tok rfl rfl (by rw [add_block, add_block]; exact hfW.2.1) (Free.far2 hfW ZZHL) f3) ?_ | refine YF (Ev.load_far tok rfl rfl (by rw [add_block, add_block]; exact hfW.2.1) (Free.far2 hfW ZZHL) f4) ?_ | refine YF (Ev.load_old tok rfl rfl (add_lt hlc) dC) ?_) | (refine M4 ?_; refine SR ?_) | (refine M5 ?_; first | exact M7 | refine YM ?_ | refine YN ?_ ?_))
    rw [show decide (d.cost ≠ d.energy * c1) = false from decide_eq_false (fun h => h hco2)]
    repeat (first | (refine M0 ?_; first | refine SL ?_ | refine SB fun _ _ => ?_ | refine Y4 (Ev.load_far tok rfl rfl (by rw [add_block, add_block]; exact hfW.2.1) (Free.far2 hfW ZZHL) f3) ?_ | refine Y4 (Ev.load_far tok rfl rfl (by rw [add_block, add_block]; exact hfW.2.1) (Free.far2 hfW ZZHL) f4) ?_ | refine Y4 (Ev.load_old tok rfl rfl (add_lt hlc) dC) ?_) | (refine M1 ?_; first | refine SC ?_ | refine SD ?_) | (refine M2 ?_; refine SE ?_) | (refine M3 ?_; first | refine SG ?_ | refine SF ?_ | refine YF (Ev.load_far tok rfl rfl (by rw [add_block, add_block]; exact hfW.2.1) (Free.far2 hfW ZZHL) f3) ?_ | refine YF (Ev.load_far tok rfl rfl (by rw [add_block, add_block]; exact hfW.2.1) (Free.far2 hfW ZZHL) f4) ?_ | refine YF (Ev.load_old tok rfl rfl (add_lt hlc) dC) ?_) | (refine M4 ?_; refine SR ?_) | (refine M5 ?_; first | exact M7 | refine YM ?_ | refine YN ?_ ?_))
    rw [show decide (d.energy < 0) = false from decide_eq_false (by omega)]
    repeat (first | (refine M0 ?_; first | refine SL ?_ | refine SB fun _ _ => ?_ | refine Y4 (Ev.load_far tok rfl rfl (by rw [add_block, add_block]; exact hfW.2.1) (Free.far2 hfW ZZHL) f3) ?_ | refine Y4 (Ev.load_far tok rfl rfl (by rw [add_block, add_block]; exact hfW.2.1) (Free.far2 hfW ZZHL) f4) ?_ | refine Y4 (Ev.load_old tok rfl rfl (add_lt hlc) dC) ?_) | (refine M1 ?_; first | refine SC ?_ | refine SD ?_) | (refine M2 ?_; refine SE ?_) | (refine M3 ?_; first | refine SG ?_ | refine SF ?_ | refine YF (Ev.load_far tok rfl rfl (by rw [add_block, add_block]; exact hfW.2.1) (Free.far2 hfW ZZHL) f3) ?_ | refine YF (Ev.load_far tok rfl rfl (by rw [add_block, add_block]; exact hfW.2.1) (Free.far2 hfW ZZHL) f4) ?_ | refine YF (Ev.load_old tok rfl rfl (add_lt hlc) dC) ?_) | (refine M4 ?_; refine SR ?_) | (refine M5 ?_; first | exact M7 | refine YM ?_ | refine YN ?_ ?_))
    refine XE.roundW (s := (k, W, lv)) (fun w6 S6 => ⟨(k + 1, w6, u1), ⟨hkn, ?_, hBW.trans S6.toBelow, fun x hx => S6.keyLt x (by simp only [List.map_cons, List.map_nil, List.mem_cons, List.not_mem_nil, or_false] at hx ⊢; omega), Nat.le_trans hzW S6.size⟩, by simp only; omega, ZZSUB, S6.rebase ZZSL⟩)
    exact hFW.sys S6 ZZHL
  have hkn : k = D.length := by have := of_decide_eq_false h2; omega
  subst hkn
  rw [List.take_of_length_le (by rw [keT_len]; exact Nat.le_refl _)] at hFW
  obtain ⟨rv, rfl, hrvn⟩ := hFW.sv (K := tickK7) (l := keT t D) (.head _)
  obtain ⟨e0, eS⟩ := hkp.run
  clear h2
  simp only [svV]
  repeat (first | (refine M0 ?_; first | refine SL ?_ | refine SB fun _ _ => ?_) | (refine M1 ?_; refine SC ?_) | (refine M2 ?_; refine SE ?_))
  refine XL.callF (wE := w) (RunV t.b t.s (keT t D)) (ck rfl) rfl rfl hFW hkW hBW (fun w1 S1 hF1 hB1 => Run_made (hLd.below hB1) ((ht.sys (Sys.ofBelow hB1)).bas) ((ht.sys (Sys.ofBelow hB1)).fil) (ListAt.tks7 (hF1.row_at (K := tickK7) (.head _)))) (fun w3 x new hR hF3 hB3 hk3 => ?_) ZZHL
  obtain ⟨r1, r2, l1, l2, rfl, rfl, hl1, hl2⟩ := hR
  rw [e0]
  rw [eS] at hl1
  clear hl2 eS e0
  have hll : l1.length = D.length := by have := congrArg List.length hl1; simpa using this
  have hl3 : ListAt staK w3 _ r1 l1 := hF3.held (hList staK r1 l1) (by simp)
  have hd3 : ListAt donK w3 _ ⟨Aq, ds.length, cq⟩ ds := hF3.held (hList donK ⟨Aq, ds.length, cq⟩ ds) (by simp)
  obtain ⟨A1, n1, c1⟩ := r1
  have hn1 := hl3.len (by decide)
  simp only at hn1
  subst hn1
  simp only [svV]
  repeat (first | (refine M0 ?_; first | refine SL ?_ | refine SB fun _ _ => ?_) | (refine M1 ?_; refine SC ?_) | (refine M2 ?_; refine SE ?_))
  rw [show decide ((0 : Int) ≠ 0) = false from rfl]
  repeat (first | (refine M0 ?_; first | refine SL ?_ | refine SB fun _ _ => ?_) | (refine M1 ?_; refine SC ?_) | (refine M2 ?_; refine SE ?_))
  rw [show decide ((l1.length : Int) ≠ (ds.length : Int)) = false from decide_eq_false (by omega)]
  repeat (first | (refine M0 ?_; first | refine SL ?_ | refine SB fun _ _ => ?_) | (refine M1 ?_; refine SC ?_) | (refine M2 ?_; refine SE ?_))
  refine XC.loopk [2, 5, 6, 12] rfl (fun k : Nat => [(14, .int .i64 (k : Nat))]) (fun _ => [(g2, _)]) (fun _ => w3) (fun k => k ≤ D.length) (fun k => D.length - k) 0 (Nat.zero_le _) ZZSUB (fun _ h => h) ?_
  intro k hk
  dsimp only [List.cons_append, List.nil_append]
  repeat (first | (refine M0 ?_; first | refine SL ?_ | refine SB fun _ _ => ?_) | (refine M1 ?_; refine SC ?_) | (refine M2 ?_; refine SE ?_))
  refine XC.cond _ rfl (fun h2 => ?_) (fun h2 => ?_)
  · have hkn : k < D.length := by have := of_decide_eq_true h2; omega
    have hkd : k < ds.length := by omega
    have hkl : k < l1.length := by omega
    obtain ⟨d, hd⟩ : ∃ d, d = D[k] := ⟨_, rfl⟩
    obtain ⟨qd, hqd⟩ : ∃ qd, qd = ds[k].1 := ⟨_, rfl⟩
    have hdk : ds[k]? = some (qd, d) := by
      rw [List.getElem?_eq_getElem hkd, hqd, hd]
      congr 1
      refine Prod.ext rfl ?_
      simp [← hds]
    obtain ⟨m, hm⟩ : ∃ m, m = l1[k] := ⟨_, rfl⟩
    have hmk : l1[k]? = some m := by rw [hm]; exact List.getElem?_eq_getElem hkl
    have hms : m.s = d.s := by
      have h5 : (l1.map (·.s))[k]? = (D.map (·.s))[k]? := by rw [hl1]
      rw [List.getElem?_map, List.getElem?_map, hmk, List.getElem?_eq_getElem hkn, ← hd] at h5
      exact Option.some.inj h5
    obtain ⟨aq, haq, hfq⟩ := hd3.addr (by decide) (by omega)
    obtain ⟨al, hal, hfl⟩ := hl3.addr (by decide) (by omega)
    subst haq hal
    have hel := hl3.elem hmk
    have hed := hd3.elem hdk
    have hed' : ∀ j u, ([.int .i64 d.s.vol, .slice qd.A qd.n qd.c] : List Value)[j]? = some u → w3.cell? (((aq.add (k * 5)).add 0).add j) = some u := fun j u h => (congrArg w3.cell? (by rw [add_add, Nat.zero_add]; first | done | rfl)).trans (hed j u (by
      match j, h with
      | 0, h => exact h
      | 1, h => exact h))
    have hQ1 := hl3.ins m (List.mem_of_getElem? hmk) (hInts m.q m.s.fil) (.head _)
    have hQ2 := hd3.ins (qd, d) (List.mem_of_getElem? hdk) (hInts qd d.s.fil) (.head _)
    have F7 := (hF3.hold (x := hInts m.q m.s.fil) hQ1 (fun j hj => hj)).hold (x := hInts qd d.s.fil) hQ2 (fun j hj => hj)
    have hss := fun {L : Lo} (w5 : World) (S5 : Sys w.heap.size w3 L w5) (hL5 : ∀ e, e ∈ L → e.1 ∈ [g2, g2, g2] ∨ w3.heap.size ≤ e.1) => sameState_any (q := m.q) (r := qd) (s := m.s) (t := d.s) (w := w5) (((F7.sys S5 hL5).get (x := hInts m.q m.s.fil) (by simp)).mono fun j hj => hj.2) (((F7.sys S5 hL5).get (x := hInts qd d.s.fil) (.head _)).mono fun j hj => hj.2)
    rw [show sameStaB m.s d.s = true from by rw [hms]; simp [sameStaB]] at hss
    simp only [staV, staC] at hss
    repeat (first | (refine M0 ?_; first | refine SL ?_ | refine SB fun _ _ => ?_ | refine Y4 (Ev.load_far_agg tok (staC m.q m.s) rfl rfl rfl (by rw [add_block]; exact hfl.2.1) (Free.far hfl ZZHL) hel) ?_ | refine Y4 (Ev.load_far_agg tok [.int .i64 d.s.vol, .slice qd.A qd.n qd.c] rfl rfl rfl (by rw [add_block, add_block]; exact hfq.2.1) (Free.far2 hfq ZZHL) hed') ?_ | refine Y4 (Ev.call (f := 8) (ck rfl) rfl (fun w5 S5 => hss w5 S5 ZZHL)) ?_) | (refine M1 ?_; first | refine SC ?_ | refine SD ?_) | (refine M2 ?_; refine SE ?_) | (refine M3 ?_; first | refine SG ?_ | refine SF ?_ | refine YF (Ev.load_far_agg tok (staC m.q m.s) rfl rfl rfl (by rw [add_block]; exact hfl.2.1) (Free.far hfl ZZHL) hel) ?_ | refine YF (Ev.load_far_agg tok [.int .i64 d.s.vol, .slice qd.A qd.n qd.c] rfl rfl rfl (by rw [add_block, add_block]; exact hfq.2.1) (Free.far2 hfq ZZHL) hed') ?_ | refine YF (Ev.call (f := 8) (ck rfl) rfl (fun w5 S5 => hss w5 S5 ZZHL)) ?_) | (refine M4 ?_; refine SR ?_) | (refine M5 ?_; first | exact M7 | refine YM ?_ | refine YN ?_ ?_))
    exact XE.round (s := k) (k + 1) hkn (by omega) ZZSUB (fun _ h => h)
  repeat (first | (refine M0 ?_; first | refine SL ?_ | refine SB fun _ _ => ?_) | (refine M1 ?_; refine SC ?_) | (refine M2 ?_; refine SE ?_))
  by_cases hF0 : F = 0
  · have hlD := hflt.1 hF0
    rw [show decide (F = 0) = true from decide_eq_true hF0]
    rw [show decide ((ds.length : Int) = (v.o.n : Int)) = true from decide_eq_true (by omega)]
    repeat (first | (refine M0 ?_; first | refine SL ?_ | refine SB fun _ _ => ?_ | refine Y4 (Ev.eqlB Tryd.underlying4 rfl rfl) ?_ | refine Y4 (Ev.call (f := 5) (ck rfl) rfl (fun w5 S5 => haw w5 S5)) ?_) | (refine M1 ?_; refine SC ?_) | (refine M2 ?_; refine SE ?_))
    refine XE.retg tok Tryd.results3 rfl (by simp only [and_self, and_true]) (fun w' S => ?_)
    exact ⟨rfl, hB3.trans S.toBelow⟩
  · have hlD : D.length ≠ t.outer.length := fun h => hF0 (hflt.2 h)
    rw [show decide (F = 0) = false from decide_eq_false hF0]
    rw [show decide ((ds.length : Int) = (v.o.n : Int)) = false from decide_eq_false (by omega)]
    repeat (first | (refine M0 ?_; first | refine SL ?_ | refine SB fun _ _ => ?_ | refine Y4 (Ev.eqlB Tryd.underlying4 rfl rfl) ?_ | refine Y4 (Ev.call (f := 5) (ck rfl) rfl (fun w5 S5 => haw w5 S5)) ?_) | (refine M1 ?_; refine SC ?_) | (refine M2 ?_; refine SE ?_))
    refine XE.retg tok Tryd.results3 rfl (by simp only [and_self, and_true]) (fun w' S => ?_)
    exact ⟨rfl, hB3.trans S.toBelow⟩
end Go.Proofs.YtmckmlmfilmiaaaDoor.X
/-
  What a card of runoff's needs: the condition gives the variable's cell; a world that meets it.
-/
namespace Go.Proofs.YtmckmlmfilmiaaaDoor.X
open Go Go.RowKit Go.ChangeShapes Go.WideShapes Go.Proofs.YtmckmlmfilmiaaaDoor.Bs
theorem et : Tryd.prog.globalNamed "errors.errorType" = some 0 := by kernel_rfl
theorem rt : (Tryd.prog.cutTypes.find? (·.1 == "internal/reflectlite.rtype")).map (·.2) = some 170 := by kernel_rfl
theorem oneRow : ((List.range Tryd.prog.types.size).filter fun t => Tryd.prog.rowNamed t [101, 114, 114, 111, 114]) = [110] := by kernel_rfl
/-- WHAT THE CONDITION GIVES A WALK: the variable's one cell. -/
theorem handle_of_laid {W : World} (h : laidMetH Tryd.prog [("errors.errorType", Rows.laid_errors_errorType)] W) : Laid W := by
  have h' : laidMet Tryd.prog [] W ∧ handlesMet Tryd.prog [("errors.errorType", Rows.laid_errors_errorType)] W := h
  obtain ⟨name, u, ty, e1, e2, e3, e4, e5⟩ := h'.2 _ (List.mem_singleton.2 rfl)
  have en : name = [101, 114, 114, 111, 114] := (Option.some.inj e1).symm
  subst en
  obtain rfl := Option.some.inj (rt.symm.trans e2)
  have hm : ty ∈ (List.range Tryd.prog.types.size).filter fun t => Tryd.prog.rowNamed t [101, 114, 114, 111, 114] := List.mem_filter.2 ⟨List.mem_range.2 e3, e4⟩
  rw [oneRow] at hm
  obtain rfl := List.mem_singleton.1 hm
  have hh : typeHandle Tryd.prog 110 = .pointer (some ⟨1, 110, none⟩) := by kernel_rfl
  rw [hh] at e5
  have := World.var?_cell et e5 0
  simpa [Laid] using this
/-- A world that meets the condition: the settled one, the variable's cell laid. -/
noncomputable def laidWorld (os : Os) : World :=
  let w0 := World.holding Tryd.prog os ⟨#[], #[], []⟩
  { w0 with heap := w0.heap.modify 0 fun
      | .cells _ t frozen => .cells #[.iface 170 (.agg #[.pointer (some ⟨1, 110, none⟩)])] t frozen
      | o => o }
theorem laidWorld_met (os : Os) (args : Array Value) : laidMetH Tryd.prog [("errors.errorType", Rows.laid_errors_errorType)] ((laidWorld os).forCall (fun _ _ => 0) ⟨#[], args, []⟩).memory :=
  laidMetH_of_parts (laidMet_nil _ _) (by kernel_rfl)
end Go.Proofs.YtmckmlmfilmiaaaDoor.X
