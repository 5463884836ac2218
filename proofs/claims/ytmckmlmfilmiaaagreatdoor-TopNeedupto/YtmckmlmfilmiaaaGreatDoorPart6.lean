/-
  From the reading of the arguments to how they lie in memory: tasks, choices, plans; what the bound of a second form gives (runoff).
-/
import Derived.Test.YtmckmlmfilmiaaaGreatDoorPart2
import Derived.Test.YtmckmlmfilmiaaaGreatDoorPart4
import Derived.Test.YtmckmlmfilmiaaaGreatDoorRows
import Derived.Deep.Slices
import Derived.Deep.DeepHandedRow
import Derived.JoinedCond
import Derived.Test.YtmckmlmfilmiaaaGreatDoorPart5
import Derived.DataShut
import Derived.Test.YtmckmlmfilmiaaaGreatDoorPart3
import Derived.Test.YtmckmlmfilmiaaaGreatDoorCards
import Derived.Test.YtmckmlmfilmiaaaGreatDoorTie
import Derived.ChangeSame
import Derived.ChangeVars
import Derived.JoinedOf
import Derived.LaidLaws
import Derived.LaidHandle
import Derived.Carry
import Derived.Stop.Joined
set_option linter.unusedVariables false
set_option linter.unusedSimpArgs false
namespace Go.Proofs.YtmckmlmfilmiaaaGreatDoor.X
open Go Go.RowKit Go.ChangeShapes Go.WideShapes Go.Proofs.YtmckmlmfilmiaaaGreatDoor.Bs
set_option linter.unusedVariables false
section
variable {H : Type} {enc : TypeId × Value → H} {P : Program} {w : World} {base : Nat} {spare : Nat → Bool} {held : Bool} {fuel : Nat} {cs : List Value} {x : DataW H × List MemPlace}
theorem bulk_one (d : DataW H) : 1 ≤ Rows.uptoBulk d := by
  cases d with
  | lit l => cases l <;> simp [Rows.uptoBulk]
  | nil => simp [Rows.uptoBulk]
  | ptr d => simp [Rows.uptoBulk]
  | slice elems spare => simp [Rows.uptoBulk]
  | agg parts => simp [Rows.uptoBulk]
  | iface t d => simp [Rows.uptoBulk]
  | map entries => simp [Rows.uptoBulk]
  | held h => simp [Rows.uptoBulk]
theorem bulk_part {d : DataW H} {l : List (DataW H)} (h : d ∈ l) : Rows.uptoBulk d ≤ Rows.uptoBulkAll l := by
  induction l with
  | nil => cases h
  | cons x r ih =>
    simp only [Rows.uptoBulkAll]
    rcases List.mem_cons.1 h with e | e
    · subst e; omega
    · have := ih e; omega
theorem bulk_len (l : List (DataW H)) : l.length ≤ Rows.uptoBulkAll l := by
  induction l with
  | nil => simp [Rows.uptoBulkAll]
  | cons x r ih => have := bulk_one x; simp only [Rows.uptoBulkAll, List.length_cons]; omega
/-- a slice is no longer than its reading's bulk. -/
theorem bulk_slice {t e : TypeId} {A : Option Addr} {n c : Nat} (ht : P.underlying t = some (.slice e)) (h : DataW.trod enc P w base spare held fuel t [.slice A n c] = some x) : n ≤ Rows.uptoBulk x.1 := by
  rcases Go.Deep.open_slice ht h with ⟨e1, _⟩ | ⟨a, len, cap, m', n', D, Pl, e1, _, _, _, _, rfl, _⟩
  · have : n = 0 := by injection e1 with e2 _; injection e2
    omega
  · have e2 : n = len := by injection e1 with e3 _; injection e3
    subst e2
    have h1 := bulk_len ((List.range n).map D)
    simp only [List.length_map, List.length_range] at h1
    simp only [Rows.uptoBulk]
    omega
theorem bulk_field {t : TypeId} {fs : Array Field} (ht : P.underlying t = some (.struct fs)) (h : DataW.trod enc P w base spare held fuel t cs = some x) :
    ∃ n, ∀ (i : Nat) (f : Field) (u : TypeId) (o m : Nat), fs[i]? = some f → f.type = u → f.offset = o → P.cellsOf u = m → ∃ y, DataW.trod enc P w base spare held n u ((cs.drop o).take m) = some y ∧ Rows.uptoBulk y.1 ≤ Rows.uptoBulk x.1 := by
  obtain ⟨xs, n, _, rfl, hl, hlen, hf⟩ := DataW.trod_struct ht h
  refine ⟨n, fun i f u o m hi hu ho hm => ?_⟩
  subst hu ho hm
  have h1 := hf i f hi
  have hi' : i < xs.length := by rw [hlen]; exact (Array.getElem?_eq_some_iff.1 hi).1
  rw [List.getElem?_eq_getElem hi'] at h1
  refine ⟨xs[i], h1, ?_⟩
  have h2 : Rows.uptoBulk xs[i].1 ≤ Rows.uptoBulkAll (xs.map (·.1)) := bulk_part (List.mem_map.2 ⟨_, List.getElem_mem hi', rfl⟩)
  simp only [Rows.uptoBulk]
  omega
end
section
variable {H : Type} {enc : TypeId × Value → H} {w : World} {base : Nat} {spare : Nat → Bool} {held : Bool} {fuel : Nat} {cs : List Value} {x : DataW H × List MemPlace}
theorem c_slu : (Tryz.prog).cellsOf 99 = 3 := by kernel_rfl
theorem c_pmp : (Tryz.prog).cellsOf 102 = 5 := by kernel_rfl
theorem c_bool : (Tryz.prog).cellsOf 4 = 1 := by kernel_rfl
theorem c_bools : (Tryz.prog).cellsOf 31 = 1 := by kernel_rfl
theorem c_slus : (Tryz.prog).cellsOf 29 = 1 := by kernel_rfl
theorem c_pmps : (Tryz.prog).cellsOf 30 = 1 := by kernel_rfl
theorem c_tsk : (Tryz.prog).cellsOf 33 = 15 := by kernel_rfl
theorem boolR (h : DataW.trod enc Tryz.prog w base spare held fuel 4 cs = some x) : ∃ b : Bool, cs = [.bool b] := by
  obtain ⟨b, e, _⟩ := DataW.trod_bool Tryz.underlying4 h
  exact ⟨b, e⟩
theorem sluR (h : DataW.trod enc Tryz.prog w base spare held fuel 99 cs = some x) : ∃ r : Slu, cs = sluC r ∧ r.name.size ≤ maxLen := by
  obtain ⟨hl, n, hf⟩ := fieldR Tryz.underlying99 h
  rw [c_slu] at hl
  match cs, hl with
  | [c0, c1, c2], _ =>
    obtain ⟨d0, y0, e0, h0⟩ := hf 0 _ rfl c_str (Nat.le_of_ble_eq_true rfl)
    obtain ⟨d1, y1, e1, h1⟩ := hf 1 _ rfl c_int (Nat.le_of_ble_eq_true rfl)
    obtain ⟨d2, y2, e2, h2⟩ := hf 2 _ rfl c_int (Nat.le_of_ble_eq_true rfl)
    obtain ⟨s, rfl, hs⟩ := strR h0
    obtain ⟨k1, rfl⟩ := intR h1
    obtain ⟨k2, rfl⟩ := intR h2
    cases e0; cases e1; cases e2
    exact ⟨⟨s, k1, k2⟩, rfl, hs⟩
theorem pmpR (h : DataW.trod enc Tryz.prog w base spare held fuel 102 cs = some x) : ∃ r : Pmp, cs = pmpC r ∧ r.name.size ≤ maxLen := by
  obtain ⟨hl, n, hf⟩ := fieldR Tryz.underlying102 h
  rw [c_pmp] at hl
  match cs, hl with
  | [c0, c1, c2, c3, c4], _ =>
    obtain ⟨d0, y0, e0, h0⟩ := hf 0 _ rfl c_str (Nat.le_of_ble_eq_true rfl)
    obtain ⟨d1, y1, e1, h1⟩ := hf 1 _ rfl c_int (Nat.le_of_ble_eq_true rfl)
    obtain ⟨d2, y2, e2, h2⟩ := hf 2 _ rfl c_int (Nat.le_of_ble_eq_true rfl)
    obtain ⟨d3, y3, e3, h3⟩ := hf 3 _ rfl c_int (Nat.le_of_ble_eq_true rfl)
    obtain ⟨d4, y4, e4, h4⟩ := hf 4 _ rfl c_int (Nat.le_of_ble_eq_true rfl)
    obtain ⟨s, rfl, hs⟩ := strR h0
    obtain ⟨k1, rfl⟩ := intR h1
    obtain ⟨k2, rfl⟩ := intR h2
    obtain ⟨k3, rfl⟩ := intR h3
    obtain ⟨k4, rfl⟩ := intR h4
    cases e0; cases e1; cases e2; cases e3; cases e4
    exact ⟨⟨s, k1, k2, k3, k4⟩, rfl, hs⟩
theorem boolsR (h : DataW.trod enc Tryz.prog w base spare held fuel 31 cs = some x) : ∃ (q : SV) (l : List Bool), cs = [svV q] ∧ ListAt boolK w (Lt w.heap.size) q l := by
  obtain ⟨A, n, c, l, rfl, hr, hnc, hcm, _⟩ := sliceR (C := fun b : Bool => [.bool b]) (G := fun _ => True) Tryz.underlying31 c_bool (fun n cs x h => by
    obtain ⟨b, e⟩ := boolR h
    exact ⟨b, e, trivial⟩) (fun _ => rfl) (by decide) h
  exact ⟨⟨A, n, c⟩, l, rfl, ReadsP.of hr, by simp only; unfold maxLen at hcm; omega, fun a ha x hx => by cases hx⟩
theorem slusR (h : DataW.trod enc Tryz.prog w base spare held fuel 29 cs = some x) : ∃ (q : SV) (l : List Slu), cs = [svV q] ∧ ListAt sluK w (Lt w.heap.size) q l ∧ ∀ y, y ∈ l → y.name.size ≤ maxLen := by
  obtain ⟨A, n, c, l, rfl, hr, hnc, hcm, hg⟩ := sliceR (C := sluC) (G := fun r => r.name.size ≤ maxLen) Tryz.underlying29 c_slu (fun n cs x h => sluR h) (fun _ => rfl) (by decide) h
  exact ⟨⟨A, n, c⟩, l, rfl, ⟨ReadsP.of hr, by simp only; unfold maxLen at hcm; omega, fun a ha x hx => by cases hx⟩, hg⟩
theorem pmpsR (h : DataW.trod enc Tryz.prog w base spare held fuel 30 cs = some x) : ∃ (q : SV) (l : List Pmp), cs = [svV q] ∧ ListAt pmpK w (Lt w.heap.size) q l ∧ ∀ y, y ∈ l → y.name.size ≤ maxLen := by
  obtain ⟨A, n, c, l, rfl, hr, hnc, hcm, hg⟩ := sliceR (C := pmpC) (G := fun r => r.name.size ≤ maxLen) Tryz.underlying30 c_pmp (fun n cs x h => pmpR h) (fun _ => rfl) (by decide) h
  exact ⟨⟨A, n, c⟩, l, rfl, ⟨ReadsP.of hr, by simp only; unfold maxLen at hcm; omega, fun a ha x hx => by cases hx⟩, hg⟩
theorem tskR (h : DataW.trod enc Tryz.prog w base spare held fuel 33 cs = some x) : ∃ (v : RTV) (t : RTk), cs = tskC v t ∧ TskAt w w.heap.size v t := by
  obtain ⟨hl, n, hf⟩ := fieldN Tryz.underlying33 h
  rw [c_tsk] at hl
  match cs, hl with
  | [a0, a1, a2, a3, a4, a5, a6, a7, a8, a9, b0, b1, b2, b3, b4], _ =>
    obtain ⟨y0, h0⟩ := hf 0 _ 25 0 5 rfl rfl rfl c_bas
    obtain ⟨y1, h1⟩ := hf 1 _ 28 5 2 rfl rfl rfl c_sta
    obtain ⟨y2, h2⟩ := hf 2 _ 26 7 1 rfl rfl rfl c_ints
    obtain ⟨y3, h3⟩ := hf 3 _ 26 8 1 rfl rfl rfl c_ints
    obtain ⟨y4, h4⟩ := hf 4 _ 26 9 1 rfl rfl rfl c_ints
    obtain ⟨y5, h5⟩ := hf 5 _ 3 10 1 rfl rfl rfl c_int
    obtain ⟨y6, h6⟩ := hf 6 _ 3 11 1 rfl rfl rfl c_int
    obtain ⟨y7, h7⟩ := hf 7 _ 29 12 1 rfl rfl rfl c_slus
    obtain ⟨y8, h8⟩ := hf 8 _ 30 13 1 rfl rfl rfl c_pmps
    obtain ⟨y9, h9⟩ := hf 9 _ 31 14 1 rfl rfl rfl c_bools
    obtain ⟨p, b, e0, k0⟩ := basR h0
    obtain ⟨q, s, e1, k1⟩ := staR h1
    obtain ⟨qo, lo, e2, k2⟩ := intsR h2
    obtain ⟨qr, lr, e3, k3⟩ := intsR h3
    obtain ⟨qc, lc, e4, k4⟩ := intsR h4
    obtain ⟨low, e5⟩ := intR' h5
    obtain ⟨high, e6⟩ := intR' h6
    obtain ⟨qs, ls, e7, k7, n7⟩ := slusR h7
    obtain ⟨qp, lp, e8, k8, n8⟩ := pmpsR h8
    obtain ⟨qn, ln, e9, k9⟩ := boolsR h9
    simp only [List.drop_succ_cons, List.drop_zero, List.take_succ_cons, List.take_zero, basC, staC, svV] at e0 e1 e2 e3 e4 e5 e6 e7 e8 e9
    cases e0; cases e1; cases e2; cases e3; cases e4; cases e5; cases e6; cases e7; cases e8; cases e9
    refine ⟨⟨p, q, qo, qr, qc, qs, qp, qn⟩, ⟨b, s, lo, lr, lc, low, high, ls, lp, ln⟩, rfl, k0, k1, k2, k3, k4, k7, k8, k9, fun d hd => ?_⟩
    rcases List.mem_append.1 hd with h | h
    · obtain ⟨y, hy, rfl⟩ := List.mem_map.1 h
      have := n7 y hy
      unfold maxLen at this
      simp only [Dev.name]; omega
    · obtain ⟨y, hy, rfl⟩ := List.mem_map.1 h
      have := n8 y hy
      unfold maxLen at this
      simp only [Dev.name]; omega
theorem bulk_tsk {v : RTV} {t : RTk} (h : DataW.trod enc Tryz.prog w base spare held fuel 33 (tskC v t) = some x) : v.su.n ≤ Rows.uptoBulk x.1 ∧ v.pu.n ≤ Rows.uptoBulk x.1 := by
  obtain ⟨n, hf⟩ := bulk_field Tryz.underlying33 h
  obtain ⟨y7, h7, b7⟩ := hf 7 _ 29 12 1 rfl rfl rfl c_slus
  obtain ⟨y8, h8, b8⟩ := hf 8 _ 30 13 1 rfl rfl rfl c_pmps
  have a1 := bulk_slice (A := v.su.A) (n := v.su.n) (c := v.su.c) Tryz.underlying29 h7
  have a2 := bulk_slice (A := v.pu.A) (n := v.pu.n) (c := v.pu.c) Tryz.underlying30 h8
  omega
/-- how many devices a task that came in has. -/
theorem small_tsk {v : RTV} {t : RTk} {ds : List (DataW H)} (hx : x.1 ∈ ds) (hk : Rows.uptoSmall H ds = true) (ht : TskAt w w.heap.size v t) (h : DataW.trod enc Tryz.prog w base spare held fuel 33 (tskC v t) = some x) : t.slu.length + t.pmp.length ≤ 5000000 := by
  obtain ⟨h1, h2⟩ := bulk_tsk h
  have h3 := bulk_part hx
  have h4 : Rows.uptoBulkAll ds ≤ 1048576 := of_decide_eq_true hk
  have h5 := ht.slu.len (by decide)
  have h6 := ht.pmp.len (by decide)
  omega
end
theorem own : ownKnob Tryz.prog.godebug = none := by kernel_rfl
theorem laidOut : laidOutB Tryz.prog = true := by kernel_rfl
end Go.Proofs.YtmckmlmfilmiaaaGreatDoor.X
/-
  Turns and small numbers that came in (runoff).
-/
namespace Go.Proofs.YtmckmlmfilmiaaaGreatDoor.X
open Go Go.RowKit Go.ChangeShapes Go.WideShapes Go.Proofs.YtmckmlmfilmiaaaGreatDoor.Bs
set_option linter.unusedVariables false
section
variable {H : Type} {enc : TypeId × Value → H} {w : World} {base : Nat} {spare : Nat → Bool} {held : Bool} {fuel : Nat} {cs : List Value} {x : DataW H × List MemPlace}
theorem c_trn : (Tryz.prog).cellsOf 35 = 6 := by kernel_rfl
theorem turnR (h : DataW.trod enc Tryz.prog w base spare held fuel 35 cs = some x) : ∃ (y : TrV) (z : Trn), cs = turnC y z ∧ TurnAt w y z := by
  obtain ⟨hl, n, hf⟩ := fieldN Tryz.underlying35 h
  rw [c_trn] at hl
  match cs, hl with
  | [a0, a1, a2, a3, a4, a5], _ =>
    obtain ⟨y0, h0⟩ := hf 0 _ 28 0 2 rfl rfl rfl c_sta
    obtain ⟨y1, h1⟩ := hf 1 _ 3 2 1 rfl rfl rfl c_int
    obtain ⟨y2, h2⟩ := hf 2 _ 31 3 1 rfl rfl rfl c_bools
    obtain ⟨y3, h3⟩ := hf 3 _ 31 4 1 rfl rfl rfl c_bools
    obtain ⟨y4, h4⟩ := hf 4 _ 3 5 1 rfl rfl rfl c_int
    obtain ⟨q, s, e0, k0⟩ := staR h0
    obtain ⟨tick, e1⟩ := intR' h1
    obtain ⟨p, bef, e2, k2⟩ := boolsR h2
    obtain ⟨r, on, e3, k3⟩ := boolsR h3
    obtain ⟨ls, e4⟩ := intR' h4
    simp only [List.drop_succ_cons, List.drop_zero, List.take_succ_cons, List.take_zero, staC, svV] at e0 e1 e2 e3 e4
    cases e0; cases e1; cases e2; cases e3; cases e4
    exact ⟨⟨q, p, r⟩, ⟨s, tick, bef, on, ls⟩, rfl, k0, k2, k3⟩
end
end Go.Proofs.YtmckmlmfilmiaaaGreatDoor.X
/-
  TopNeed: the plain law.
-/
namespace Go.Proofs.YtmckmlmfilmiaaaGreatDoor.Bs
open Go.Proofs.YtmckmlmfilmiaaaGreatDoor.X
/-- the one tick that is asked about. -/
def tnT (t : RTk) (i : Nat) (o : Int) : List Tick := [⟨at0 t.outer i, at0 t.river i, o⟩]
theorem tn_stay {t : RTk} {s : Sta} {i : Nat} {lim o : Int} (hn : needE t.b s (tnT t i 0) lim = 0) (h1 : needN t.b s (tnT t i 0) lim ≤ o) (h2 : 0 ≤ o ∧ o ≤ 10000000) :
    stayE t.b s (tnT t i o) lim = 0 ∧ stayN t.b s (tnT t i o) lim = 1 := by
  obtain ⟨a1, a2, a3⟩ := need_0 hn
  obtain ⟨ho, hs, hb⟩ := ask_0 a1
  have hh := (needI_spec t.b s (tnT t i 0) lim).2.2 a2
  rw [a3] at h1
  have h3 := need_le (n := o.toNat) ho hs hs ⟨Int.le_refl _, fun _ _ => Int.le_refl _⟩ rfl hb (fun k _ => ⟨Int.le_refl _, Int.le_refl _, Int.le_refl _⟩) (by omega) hh
  have e : chTs needT (tnT t i 0) o.toNat = tnT t i o := by
    simp only [chTs, tnT, needT, List.map_cons, List.map_nil, Int.zero_add]
    congr 2
    omega
  rw [e] at h3
  have h4 := h3 0 (by simp [tnT])
  have a1' := a1
  unfold askE at a1
  split at a1
  · rename_i h5; exact absurd a1 h5
  rename_i h5
  split at a1
  · cases a1
  rename_i h6
  have hr : runE t.b s (tnT t i o) = 0 := runE_none (by simpa using h5) (by simp [tnT]) (badAt_none fun k hk => (h3 k hk).1)
  obtain ⟨x1, x2⟩ := stay_in (lim := lim) hr (by simpa using h6)
  refine ⟨x1, ?_⟩
  rw [x2]
  have e2 : momsAt t.b s (tnT t i o) (tnT t i o).length = [(staAt t.b s (tnT t i o) 1, floAt t.b s (tnT t i o) 0)] := by simp [momsAt, tnT]
  rw [e2, List.findIdx_cons]
  simp only
  rw [show overB t.b lim (staAt t.b s (tnT t i o) 1).vol = false from h4.2]
  simp
theorem tn_law {t : RTk} {s : Sta} {i : Int} {b : List Bool} {lim : Int} (hn : needE t.b s (tnT t i.toNat 0) lim = 0) (hc : cheE t s i b (needN t.b s (tnT t i.toNat 0) lim) = 0) :
    ∃ (on : List Bool) (n o : Int), cheR t s i b (needN t.b s (tnT t i.toNat 0) lim) = some (n, on) ∧ useE t s i b on = 0 ∧ useN t s i b on = (o, n) ∧ needN t.b s (tnT t i.toNat 0) lim ≤ o ∧
      (∀ f, useE t s i b f = 0 → needN t.b s (tnT t i.toNat 0) lim ≤ (useN t s i b f).1 → n ≤ (useN t s i b f).2) ∧ stayE t.b s (tnT t i.toNat o) lim = 0 ∧ stayN t.b s (tnT t i.toNat o) lim = 1 := by
  obtain ⟨on, n, o, h1, h2, h3, h4, h5, _⟩ := che_some hc
  obtain ⟨k1, _, y, k2, k3⟩ := useE_0 h2
  obtain ⟨q1, q2, q3, _⟩ := askE_0 k1
  rw [h3] at k3
  subst k3
  have hb := use_bd (rtOk_of q1) q2.vol (by omega) k2
  exact ⟨on, n, o, h1, h2, h3, h4, h5, tn_stay hn h4 hb.1⟩
end Go.Proofs.YtmckmlmfilmiaaaGreatDoor.Bs
/-
  TopNeed: the walk.
-/
namespace Go.Proofs.YtmckmlmfilmiaaaGreatDoor.X
open Go Go.RowKit Go.Proofs.YtmckmlmfilmiaaaGreatDoor.Bs
set_option linter.unusedVariables false
theorem tn_tks {B g : Nat} {w0 w : World} {L : Lo} {e : TypeId} {t : Tick} (S : Sys B w0 L w) (h : (g, cel e (tickC t)) ∈ L) : TksAt w (Lt w.heap.size) ⟨some ⟨g, 0, none⟩, 1, 1⟩ [t] :=
  ⟨⟨rfl, fun _ => ⟨⟨g, 0, none⟩, rfl, S.keyLt g (List.mem_map.2 ⟨_, h, rfl⟩), fun j v hj => by rw [add_off, Nat.zero_add, S.cell h j]; exact hj⟩⟩, (by show 1 ≤ 9223372036854775807; decide)⟩
set_option maxHeartbeats 16000000 in
theorem TopNeed_any {v : RTV} {t : RTk} {y : TrV} {x : Trn} {lim : Int} {w : World} (hL : Laid w) (ht : TskAt w w.heap.size v t) (hn : t.slu.length + t.pmp.length ≤ 5000000) (hx : TurnAt w y x) :
    Calls Tryz.prog 3 #[tskV v t, turnV y x, .int .i64 lim] w fun e w' => e = .returned (.bool true) ∧ Below w.heap.size w w' := by
  have hchk := fun (w5 : World) (hB : Below w.heap.size w w5) => rnCheck_any (v := v) (t := t) (w := w5) (ht.sys (Sys.ofBelow hB)) hn
  have hche := fun (l : Int) (w5 : World) (hB : Below w.heap.size w w5) => Cheapest_made (i := x.tick) (ls := l) (s := x.s) (b := x.bef) (sq := y.q) (p := y.p) (ht.sys (Sys.ofBelow hB)) hn (hx.below hB).fil (hx.below hB).bef
  have huse := fun (w5 : World) (hB : Below w.heap.size w w5) => Use_any (i := x.tick) (s := x.s) (b := x.bef) (f := x.on) (sq := y.q) (p := y.p) (q := y.r) (ht.sys (Sys.ofBelow hB)) hn (hx.below hB).fil (hx.below hB).bef (hx.below hB).on
  have huse2 := fun (w5 : World) (hB : Below w.heap.size w w5) {q : SV} {f : List Bool} (hf : ListAt boolK w5 (Lt w5.heap.size) q f) => Use_any (i := x.tick) (s := x.s) (b := x.bef) (f := f) (sq := y.q) (p := y.p) (q := q) (ht.sys (Sys.ofBelow hB)) hn (hx.below hB).fil (hx.below hB).bef hf
  have hned := fun (w5 : World) (hB : Below w.heap.size w w5) {r : SV} {ts : List Tick} (hr : TksAt w5 (Lt w5.heap.size) r ts) => Need_any (lim := lim) (hL.below hB) ((ht.sys (Sys.ofBelow hB)).bas) (hx.below hB).fil hr
  have hsta := fun (w5 : World) (hB : Below w.heap.size w w5) {r : SV} {ts : List Tick} (hr : TksAt w5 (Lt w5.heap.size) r ts) => Stay_any (lim := lim) (hL.below hB) ((ht.sys (Sys.ofBelow hB)).bas) (hx.below hB).fil hr
  have haw := fun {L : Lo} {W : World} (w5 : World) (S5 : Sys w.heap.size W L w5) => Awake7_any (w := w5)
  have lo := ht.outer.len
  have lr := ht.river.len
  obtain ⟨yq, yp, yr⟩ := y
  obtain ⟨s, tick, bef, on, ls⟩ := x
  simp only [tskV, tskC, turnV, turnC, staV, staC, basV, basC, svV, chkTV] at hchk hche huse huse2 hned hsta ⊢
  obtain ⟨E2, hE2⟩ : ∃ a, a = (chkT t).2.2 := ⟨_, rfl⟩
  rw [← hE2] at hchk
  refine enter Tryz.func3 rfl Tryz.ntmps3 rfl ?_; simp only [frame, Nat.zero_add, Nat.reduceAdd]
  repeat (first | (refine M0 ?_; first | refine SL ?_ | refine SB fun _ _ => ?_ | refine Y4 (Ev.call (f := 4) (ck rfl) rfl (fun w5 S5 => hchk w5 S5.toBelow)) ?_) | (refine M1 ?_; refine SC ?_) | (refine M2 ?_; refine SE ?_))
  rename_i g3 hg3 g4 hg4
  by_cases c2 : E2 = 0
  rotate_left
  · rw [show decide (E2 ≠ 0) = true from decide_eq_true c2]
    repeat (first | (refine M0 ?_; first | refine SL ?_ | refine SB fun _ _ => ?_ | refine Y4 (Ev.call (f := 5) (ck rfl) rfl (fun w5 S5 => haw w5 S5)) ?_) | (refine M1 ?_; refine SC ?_) | (refine M2 ?_; refine SE ?_))
    refine XE.retg tok Tryz.results3 rfl (by simp only [and_self, and_true]) (fun w' S => ?_)
    exact ⟨rfl, S.toBelow⟩
  rw [show decide (E2 ≠ 0) = false from decide_eq_false (fun h => h c2)]
  repeat (first | (refine M0 ?_; first | refine SL ?_ | refine SB fun _ _ => ?_) | (refine M1 ?_; refine SC ?_) | (refine M2 ?_; refine SE ?_))
  by_cases c5 : tick < 0
  · rw [show decide (tick < 0) = true from decide_eq_true c5]
    repeat (first | (refine M0 ?_; first | refine SL ?_ | refine SB fun _ _ => ?_ | refine Y4 (Ev.call (f := 5) (ck rfl) rfl (fun w5 S5 => haw w5 S5)) ?_) | (refine M1 ?_; refine SC ?_) | (refine M2 ?_; refine SE ?_))
    refine XE.retg tok Tryz.results3 rfl (by simp only [and_self, and_true]) (fun w' S => ?_)
    exact ⟨rfl, S.toBelow⟩
  rw [show decide (tick < 0) = false from decide_eq_false c5]
  repeat (first | (refine M0 ?_; first | refine SL ?_ | refine SB fun _ _ => ?_) | (refine M1 ?_; refine SC ?_) | (refine M2 ?_; refine SE ?_))
  by_cases c6 : (v.o.n : Int) ≤ tick
  · rw [show decide ((v.o.n : Int) ≤ tick) = true from decide_eq_true c6]
    repeat (first | (refine M0 ?_; first | refine SL ?_ | refine SB fun _ _ => ?_ | refine Y4 (Ev.call (f := 5) (ck rfl) rfl (fun w5 S5 => haw w5 S5)) ?_) | (refine M1 ?_; refine SC ?_) | (refine M2 ?_; refine SE ?_))
    refine XE.retg tok Tryz.results3 rfl (by simp only [and_self, and_true]) (fun w' S => ?_)
    exact ⟨rfl, S.toBelow⟩
  rw [show decide ((v.o.n : Int) ≤ tick) = false from decide_eq_false c6]
  repeat (first | (refine M0 ?_; first | refine SL ?_ | refine SB fun _ _ => ?_) | (refine M1 ?_; refine SC ?_) | (refine M2 ?_; refine SE ?_))
  by_cases c7 : (v.r.n : Int) ≤ tick
  · rw [show decide ((v.r.n : Int) ≤ tick) = true from decide_eq_true c7]
    repeat (first | (refine M0 ?_; first | refine SL ?_ | refine SB fun _ _ => ?_ | refine Y4 (Ev.call (f := 5) (ck rfl) rfl (fun w5 S5 => haw w5 S5)) ?_) | (refine M1 ?_; refine SC ?_) | (refine M2 ?_; refine SE ?_))
    refine XE.retg tok Tryz.results3 rfl (by simp only [and_self, and_true]) (fun w' S => ?_)
    exact ⟨rfl, S.toBelow⟩
  rw [show decide ((v.r.n : Int) ≤ tick) = false from decide_eq_false c7]
  have hr0 : rtE t = 0 := by show (chkT t).2.2 = 0; rw [← hE2]; exact c2
  have ho := rtOk_of hr0
  obtain ⟨j, rfl⟩ : ∃ j : Nat, tick = j := ⟨tick.toNat, by omega⟩
  have hj : j < t.outer.length := by omega
  obtain ⟨ao, ha1, hlo, hco⟩ := ht.outer.at_ (by omega)
  obtain ⟨ar, ha2, hlr, hcr⟩ := ht.river.at_ (by omega)
  have dO := hco j (by omega)
  have dR := hcr j (by omega)
  obtain ⟨o1, ho1⟩ : ∃ a, a = at0 t.outer j := ⟨_, rfl⟩
  obtain ⟨r1, hr1⟩ : ∃ a, a = at0 t.river j := ⟨_, rfl⟩
  rw [← ho1] at dO
  rw [← hr1] at dR
  have hlaw := tn_law (t := t) (s := s) (i := (j : Int)) (b := bef) (lim := lim)
  have eT : ∀ o : Int, tnT t (j : Int).toNat o = [⟨o1, r1, o⟩] := fun o => by rw [ho1, hr1]; rfl
  simp only [eT] at hlaw
  obtain ⟨NE, hNE⟩ : ∃ a, a = needE t.b s [⟨o1, r1, 0⟩] lim := ⟨_, rfl⟩
  obtain ⟨NN, hNN⟩ : ∃ a, a = needN t.b s [⟨o1, r1, 0⟩] lim := ⟨_, rfl⟩
  rw [← hNE, ← hNN] at hlaw
  rw [ha1, ha2]
  repeat (first | (refine M0 ?_; first | refine SL ?_ | refine SB fun _ _ => ?_) | (refine M1 ?_; refine SC ?_) | (refine M2 ?_; refine SE ?_))
  refine XC.cutn [2, 3, 4] rfl (fun g9 : Nat => [(10, .pointer (some ⟨g9, 0, none⟩))]) (fun g9 => [(g9, cel 41 [.int .i64 o1, .int .i64 r1, .int .i64 0]), (g4, cel 35 (turnC ⟨yq, yp, yr⟩ ⟨s, (j : Int), bef, on, ls⟩)), (g3, cel 33 (tskC v t))]) (fun _ => w) (fun g9 => w.heap.size ≤ g9) ?_ (fun g9 hg9 => ?_)
  · refine XC.drawR _ [0, 1, 2, 3, 4, 5, 6, 7, 8, 9, 10, 11] [12, 13, 14] mixed (fun _ h => h) rfl (by kernel_rfl) ?_
    repeat (any_goals (first | (refine M0 ?_; first | refine SL ?_ | refine SB fun _ _ => ?_ | refine Y4 (Ev.load_old tok rfl rfl (add_lt hlo) dO) ?_ | refine Y4 (Ev.load_old tok rfl rfl (add_lt hlr) dR) ?_) | (refine M1 ?_; refine SC ?_) | (refine M2 ?_; refine SE ?_) | (refine M3 ?_; first | refine SG ?_ | refine SF ?_ | refine YF (Ev.load_old tok rfl rfl (add_lt hlo) dO) ?_ | refine YF (Ev.load_old tok rfl rfl (add_lt hlr) dR) ?_) | (refine M4 ?_; refine SR ?_) | (refine M5 ?_; first | exact M7 | refine YM ?_ | refine YN ?_ ?_)))
    any_goals (repeat (first | exact AnyR.nil | refine AnyR.skip rfl ?_))
    all_goals
      simp only [tskC, turnC, svV, ha1, ha2]
      exact XE.leaf _ ZZSUB (fun _ S' => by first | exact S' | exact S'.perm (by repeat (first | exact List.Perm.refl _ | refine perm1 ?_ | refine List.Perm.cons _ ?_ | refine perm2 ?_)) | exact (S'.pop (by assumption)) | exact (S'.pop2 (by assumption))) (by assumption)
  dsimp only [List.cons_append, List.nil_append]
  simp only [tskC, turnC, svV]
  refine XC.hint 10 2 ?_
  repeat (first | (refine M0 ?_; first | refine SL ?_ | refine SB fun _ _ => ?_ | refine XL.buildSlice tok rfl rfl rfl rfl rfl rfl rfl rfl rfl (fun _ _ => ?_)) | (refine M1 ?_; refine SC ?_) | (refine M2 ?_; refine SE ?_))
  rename_i g11 hg11
  have hned2 := fun {L : Lo} (w5 : World) (S5 : Sys w.heap.size w ((g11, cel 41 [.int .i64 o1, .int .i64 r1, .int .i64 0]) :: L) w5) => hned w5 S5.toBelow (tn_tks (t := ⟨o1, r1, 0⟩) S5 (.head _))
  rw [← hNE, ← hNN] at hned2
  repeat (first | (refine M0 ?_; first | refine SL ?_ | refine SB fun _ _ => ?_ | refine Y4 (Ev.call (f := 6) (ck rfl) rfl (fun w5 S5 => hned2 w5 S5)) ?_) | (refine M1 ?_; refine SC ?_) | (refine M2 ?_; refine SE ?_))
  by_cases c8 : NE = 0
  rotate_left
  · rw [show decide (NE ≠ 0) = true from decide_eq_true c8]
    repeat (first | (refine M0 ?_; first | refine SL ?_ | refine SB fun _ _ => ?_ | refine Y4 (Ev.call (f := 5) (ck rfl) rfl (fun w5 S5 => haw w5 S5)) ?_) | (refine M1 ?_; refine SC ?_) | (refine M2 ?_; refine SE ?_))
    refine XE.retg tok Tryz.results3 rfl (by simp only [and_self, and_true]) (fun w' S => ?_)
    exact ⟨rfl, S.toBelow⟩
  rw [show decide (NE ≠ 0) = false from decide_eq_false (fun h => h c8)]
  repeat (first | (refine M0 ?_; first | refine SL ?_ | refine SB fun _ _ => ?_) | (refine M1 ?_; refine SC ?_) | (refine M2 ?_; refine SE ?_))
  refine XL.rebase (List.Sublist.refl _) (fun W0 S0 => ?_)
  refine XL.callF (ks := [g11, g9, g4, g3]) (rs := []) (hs := []) (b0 := w.heap.size) (wE := w) (CheV t s (j : Int) bef NN) (ck rfl) rfl rfl (Fam.start S0.size) (fun k hk => S0.keyLt k hk) S0.toBelow (fun w1 S1 _ hB1 => hche NN w1 hB1) (fun w2 x new hR hF2 hB2 hk2 => ?_) ZZHL
  obtain ⟨q, rfl, rfl⟩ := hR
  simp only [svV]
  clear S0
  obtain ⟨E, hE⟩ : ∃ E, E = cheE t s (j : Int) bef NN := ⟨_, rfl⟩
  rw [← hE] at hlaw ⊢
  repeat (first | (refine M0 ?_; first | refine SL ?_ | refine SB fun _ _ => ?_) | (refine M1 ?_; refine SC ?_) | (refine M2 ?_; refine SE ?_))
  by_cases hE0 : E = 0
  rotate_left
  · rw [show decide (E ≠ 0) = true from decide_eq_true hE0]
    repeat (first | (refine M0 ?_; first | refine SL ?_ | refine SB fun _ _ => ?_ | refine Y4 (Ev.call (f := 5) (ck rfl) rfl (fun w5 S5 => haw w5 S5)) ?_) | (refine M1 ?_; refine SC ?_) | (refine M2 ?_; refine SE ?_))
    refine XE.retg tok Tryz.results3 rfl (by simp only [and_self, and_true]) (fun w' S => ?_)
    exact ⟨rfl, hB2.trans S.toBelow⟩
  rw [show decide (E ≠ 0) = false from decide_eq_false (fun h => h hE0)]
  obtain ⟨on', n, o, e1, e2, e3, e4, e5, e6, e7⟩ := hlaw c8 hE0
  rw [e1] at hF2 ⊢
  have hu3 := fun {L : Lo} (w5 : World) (S5 : Sys w.heap.size w2 L w5) (hL5 : ∀ e, e ∈ L → e.1 ∈ [g11, g9, g4, g3] ∨ w2.heap.size ≤ e.1) => huse2 w5 (hB2.trans S5.toBelow) (q := q) (f := on') ((hF2.sys S5 (fun e he => (hL5 e he).imp (fun h => List.mem_append_right _ h) id)).get (x := hList boolK q on') (.head _) |>.mono fun k hk => hk.2)
  rw [e2, e3] at hu3
  simp only at hu3
  obtain ⟨U, hU⟩ : ∃ U, U = useE t s (j : Int) bef on := ⟨_, rfl⟩
  obtain ⟨O, hO⟩ : ∃ O, O = (useN t s (j : Int) bef on).1 := ⟨_, rfl⟩
  obtain ⟨M, hM⟩ : ∃ M, M = (useN t s (j : Int) bef on).2 := ⟨_, rfl⟩
  have hmin := e5 on
  rw [← hU, ← hO, ← hM] at huse hmin
  simp only [chE, Option.map_some, Option.getD_some]
  repeat (first | (refine M0 ?_; first | refine SL ?_ | refine SB fun _ _ => ?_) | (refine M1 ?_; refine SC ?_) | (refine M2 ?_; refine SE ?_))
  refine XL.step _ (Ev.call (f := 8) (ck rfl) rfl (fun w5 S5 => hu3 w5 S5 ZZHL)) rfl ?_
  repeat (first | (refine M0 ?_; first | refine SL ?_ | refine SB fun _ _ => ?_) | (refine M1 ?_; refine SC ?_) | (refine M2 ?_; refine SE ?_))
  rw [show decide (o < NN) = false from decide_eq_false (by omega)]
  repeat (first | (refine M0 ?_; first | refine SL ?_ | refine SB fun _ _ => ?_) | (refine M1 ?_; refine SC ?_) | (refine M2 ?_; refine SE ?_))
  rw [show decide (n ≠ n) = false from decide_eq_false (fun h => h rfl)]
  repeat (first | (refine M0 ?_; first | refine SL ?_ | refine SB fun _ _ => ?_ | refine XL.buildSlice tok rfl rfl rfl rfl rfl rfl rfl rfl rfl (fun _ _ => ?_)) | (refine M1 ?_; refine SC ?_) | (refine M2 ?_; refine SE ?_))
  rename_i g12 hg12
  have hsta2 := fun {L : Lo} (w5 : World) (S5 : Sys w.heap.size w2 ((g12, cel 41 [.int .i64 o1, .int .i64 r1, .int .i64 o]) :: L) w5) => hsta w5 (hB2.trans S5.toBelow) (tn_tks (t := ⟨o1, r1, o⟩) S5 (.head _))
  rw [e6, e7] at hsta2
  repeat (first | (refine M0 ?_; first | refine SL ?_ | refine SB fun _ _ => ?_ | refine Y4 (Ev.call (f := 9) (ck rfl) rfl (fun w5 S5 => hsta2 w5 S5)) ?_) | (refine M1 ?_; refine SC ?_) | (refine M2 ?_; refine SE ?_))
  rw [show decide ((0 : Int) ≠ 0) = false from rfl]
  repeat (first | (refine M0 ?_; first | refine SL ?_ | refine SB fun _ _ => ?_) | (refine M1 ?_; refine SC ?_) | (refine M2 ?_; refine SE ?_))
  rw [show decide ((1 : Int) ≠ 1) = false from rfl]
  repeat (first | (refine M0 ?_; first | refine SL ?_ | refine SB fun _ _ => ?_ | refine Y4 (Ev.call (f := 8) (ck rfl) rfl (fun w5 S5 => huse w5 (hB2.trans S5.toBelow))) ?_) | (refine M1 ?_; refine SC ?_) | (refine M2 ?_; refine SE ?_))
  by_cases c9 : U = 0
  rotate_left
  · rw [show decide (U ≠ 0) = true from decide_eq_true c9]
    repeat (first | (refine M0 ?_; first | refine SL ?_ | refine SB fun _ _ => ?_ | refine Y4 (Ev.call (f := 5) (ck rfl) rfl (fun w5 S5 => haw w5 S5)) ?_) | (refine M1 ?_; refine SC ?_) | (refine M2 ?_; refine SE ?_))
    refine XE.retg tok Tryz.results3 rfl (by simp only [and_self, and_true]) (fun w' S => ?_)
    exact ⟨rfl, hB2.trans S.toBelow⟩
  rw [show decide (U ≠ 0) = false from decide_eq_false (fun h => h c9)]
  repeat (first | (refine M0 ?_; first | refine SL ?_ | refine SB fun _ _ => ?_) | (refine M1 ?_; refine SC ?_) | (refine M2 ?_; refine SE ?_))
  by_cases c10 : O < NN
  · rw [show decide (O < NN) = true from decide_eq_true c10]
    repeat (first | (refine M0 ?_; first | refine SL ?_ | refine SB fun _ _ => ?_ | refine Y4 (Ev.call (f := 5) (ck rfl) rfl (fun w5 S5 => haw w5 S5)) ?_) | (refine M1 ?_; refine SC ?_) | (refine M2 ?_; refine SE ?_))
    refine XE.retg tok Tryz.results3 rfl (by simp only [and_self, and_true]) (fun w' S => ?_)
    exact ⟨rfl, hB2.trans S.toBelow⟩
  rw [show decide (O < NN) = false from decide_eq_false c10]
  have c11 := hmin c9 (by omega)
  repeat (first | (refine M0 ?_; first | refine SL ?_ | refine SB fun _ _ => ?_) | (refine M1 ?_; refine SC ?_) | (refine M2 ?_; refine SE ?_))
  rw [show decide (n ≤ M) = true from decide_eq_true c11]
  repeat (first | (refine M0 ?_; first | refine SL ?_ | refine SB fun _ _ => ?_ | refine Y4 (Ev.call (f := 5) (ck rfl) rfl (fun w5 S5 => haw w5 S5)) ?_) | (refine M1 ?_; refine SC ?_) | (refine M2 ?_; refine SE ?_))
  refine XE.retg tok Tryz.results3 rfl (by simp only [and_self, and_true]) (fun w' S => ?_)
  exact ⟨rfl, hB2.trans S.toBelow⟩
end Go.Proofs.YtmckmlmfilmiaaaGreatDoor.X
/-
  What a card of runoff's needs: the condition gives the variable's cell; a world that meets it.
-/
namespace Go.Proofs.YtmckmlmfilmiaaaGreatDoor.X
open Go Go.RowKit Go.ChangeShapes Go.WideShapes Go.Proofs.YtmckmlmfilmiaaaGreatDoor.Bs
theorem et : Tryz.prog.globalNamed "errors.errorType" = some 0 := by kernel_rfl
theorem rt : (Tryz.prog.cutTypes.find? (·.1 == "internal/reflectlite.rtype")).map (·.2) = some 173 := by kernel_rfl
theorem oneRow : ((List.range Tryz.prog.types.size).filter fun t => Tryz.prog.rowNamed t [101, 114, 114, 111, 114]) = [118] := by kernel_rfl
/-- WHAT THE CONDITION GIVES A WALK: the variable's one cell. -/
theorem handle_of_laid {W : World} (h : laidMetH Tryz.prog [("errors.errorType", Rows.laid_errors_errorType)] W) : Laid W := by
  have h' : laidMet Tryz.prog [] W ∧ handlesMet Tryz.prog [("errors.errorType", Rows.laid_errors_errorType)] W := h
  obtain ⟨name, u, ty, e1, e2, e3, e4, e5⟩ := h'.2 _ (List.mem_singleton.2 rfl)
  have en : name = [101, 114, 114, 111, 114] := (Option.some.inj e1).symm
  subst en
  obtain rfl := Option.some.inj (rt.symm.trans e2)
  have hm : ty ∈ (List.range Tryz.prog.types.size).filter fun t => Tryz.prog.rowNamed t [101, 114, 114, 111, 114] := List.mem_filter.2 ⟨List.mem_range.2 e3, e4⟩
  rw [oneRow] at hm
  obtain rfl := List.mem_singleton.1 hm
  have hh : typeHandle Tryz.prog 118 = .pointer (some ⟨1, 118, none⟩) := by kernel_rfl
  rw [hh] at e5
  have := World.var?_cell et e5 0
  simpa [Laid] using this
/-- A world that meets the condition: the settled one, the variable's cell laid. -/
noncomputable def laidWorld (os : Os) : World :=
  let w0 := World.holding Tryz.prog os ⟨#[], #[], []⟩
  { w0 with heap := w0.heap.modify 0 fun
      | .cells _ t frozen => .cells #[.iface 173 (.agg #[.pointer (some ⟨1, 118, none⟩)])] t frozen
      | o => o }
theorem laidWorld_met (os : Os) (args : Array Value) : laidMetH Tryz.prog [("errors.errorType", Rows.laid_errors_errorType)] ((laidWorld os).forCall (fun _ _ => 0) ⟨#[], args, []⟩).memory :=
  laidMetH_of_parts (laidMet_nil _ _) (by kernel_rfl)
end Go.Proofs.YtmckmlmfilmiaaaGreatDoor.X
