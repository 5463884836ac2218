/-
  The walk of levels and Levels (tide).
-/
import Derived.Test.YtoiepgcjinccpaaDoorPart4
import Derived.Test.YtoiepgcjinccpaaDoorPart3
import Derived.Deep.Slices
import Derived.WideShapes
import Derived.ChangeArms
import Derived.ChangeOld
import Derived.DataShut
set_option linter.unusedVariables false
set_option linter.unusedSimpArgs false
namespace Go.Proofs.YtoiepgcjinccpaaDoor.X
open Go Go.RowKit Go.Proofs.YtoiepgcjinccpaaDoor.Bs
set_option linter.unusedVariables false
section
variable {P : Program} {T : TT} {N B : Nat} {w0 : World} {ds : List Deferred} {Q : Exit → Act → World → Prop} {F : Fr} {L : Lo} {ops : Array Oper} {rest : List Oper} {ty : TypeId} {p : String} {af : Array Edge}
/-- make([]T, n), of spans. -/
theorem XL.makeSp {d : Nat} {t e : TypeId} {x y : Operand} {n : Nat} {z0 : Value} (he : elemOk P t e 2 16 = true) (hz : (P.info? e).bind (·.zero) = some z0) (hzc : z0.cells = #[.int .i64 0, .int .i64 0]) (hx : evo F x = some (.int .i64 (n : Nat))) (hy : evo F y = some (.int .i64 (n : Nat))) (hd : Nat.blt d N = true) (hn : n ≤ 1000000)
    (k : ∀ g, w0.heap.size ≤ g → XL P N B w0 ds Q ops rest ((1000000 + d, .slice none L.length 0) :: (d, .slice (some ⟨g, 0, none⟩) n n) :: F) ((g, cel e ((List.replicate n (0, 0)).flatMap spC)) :: L)) :
    XL P N B w0 ds Q ops ({ dst := some d, op := .makeSlice t x y, type := ty, pos := p, after := af, guard := none } :: rest) F L := by
  refine ⟨fun a w hf hw => ?_⟩
  refine wpList_plain rfl fun Kk hK => ?_
  unfold Oper.wp
  obtain ⟨hu, i, z, hi, hz', e1, e2, e3⟩ := elemOk_spec he
  rw [hi] at hz
  simp only [Option.bind_some] at hz
  have hz2 : z = z0 := by rw [hz'] at hz; exact Option.some.inj hz
  subst hz2
  have hrun := run_makeSlice (P := P) w t e i z hu hi hz' .i64 .i64 (n : Int) (n : Int) (by omega) (Int.le_refl _) (by rw [e1]; simp; omega) (by rw [e2]; omega) (by omega)
  have hmc : madeCells z.cells ((n : Int).toNat * i.size) = ⟨(List.replicate n (0, 0)).flatMap spC⟩ := by
    rw [e1, hzc]
    apply Array.ext
    · simp [madeCells, flat_len spC 2 spC_len]
    · intro j h1 h2
      have h3 : ∀ x, x ∈ (List.replicate n ((0 : Int), (0 : Int))).flatMap spC → x = .int .i64 0 := fun x hx => by
        obtain ⟨y, hy, hy2⟩ := List.mem_flatMap.1 hx
        obtain rfl := List.eq_of_mem_replicate hy
        simpa [spC] using hy2
      have h4 : (⟨(List.replicate n (0, 0)).flatMap spC⟩ : Array Value)[j] = .int .i64 0 := h3 _ (by exact List.getElem_mem _)
      rw [h4]
      simp [madeCells]
      rcases Nat.mod_two_eq_zero_or_one j with h5 | h5 <;> simp [h5]
  rw [hmc] at hrun
  simp only [Int.toNat_natCast] at hrun
  have : (execOp a.eval { dst := some d, op := .makeSlice t x y, type := ty, pos := p, after := af, guard := none }).run P w = .ok (.value (.slice (some ⟨w.heap.size, 0, none⟩) n n)) (w.alloc (cel e ((List.replicate n (0, 0)).flatMap spC))) := by
    simp [execOp, hf.eval hx, hf.eval hy, hrun]
  rw [this]
  exact hK _ _ ((k w.heap.size hw.size).run _ _ ((hf.put hd).hint d _) (hw.box _))
theorem Ev.load_at_agg {pu : Prop} {dst : Option Tmp} {gd : Option (Nat × Bool)} (hT : TOK P T) (i : Nat) {t : TypeId} {x : Operand} {g o j n : Nat} {tg : TypeId} {cs vs : List Value} (hx : evo F x = some (.pointer (some ((⟨g, o, none⟩ : Addr).add j)))) (hL : L[i]? = some (g, cel tg cs)) (h1 : lkG T.agg t = some n) (hlen : vs.length = n)
    (hv : ∀ k u, vs[k]? = some u → cs[o + j + k]? = some u) : Ev P N B w0 ds pu F L ⟨dst, .load t x, ty, p, af, gd⟩ (.agg vs.toArray) :=
  .of_run fun a w hf hw => by
    have hc : ∀ k u, vs[k]? = some u → w.cell? (((⟨g, o, none⟩ : Addr).add j).add k) = some u := fun k u hk => by
      rw [add_off, add_off, hw.cell (List.mem_of_getElem? hL)]
      exact hv k u hk
    simp [execOp, Instr.loadAt, Instr.sureAddr, hf.eval hx, run_loadVar_agg (tab_ok hT.agg h1) hlen hc]
/-- a block that is known becomes one more of the own ones. -/
theorem XC.grab {c : Code} {g : Nat} {o : Obj} (hg : w0.heap[g]? = some o) (hB : B ≤ g) (hn : ∀ e, e ∈ L → e.1 ≠ g) (k : ∀ w1, Sys B w0 L w1 → XC P N B w1 ds Q c F ((g, o) :: L)) : XC P N B w0 ds Q c F L :=
  ⟨fun a w hf h => (k w h).run a w hf (Sys.start (Nat.le_trans h.base h.size) (fun e he => by
    rcases List.mem_cons.1 he with rfl | he
    · exact ⟨hB, (h.old g (Array.getElem?_eq_some_iff.1 hg).1 hn).trans hg⟩
    · exact h.own e he) (by
    rw [List.map_cons, List.nodup_cons]
    exact ⟨fun hm => by obtain ⟨e, he, e1⟩ := List.mem_map.1 hm; exact hn e he e1, h.nd⟩))⟩
end
def spanK : Kind (Int × Int) := ⟨61, 2, spC, fun _ => [], spC_len⟩
theorem span_el : elemOk Tryd.prog 81 spanK.ty spanK.m 16 = true := by kernel_rfl
theorem tspan_el : elemOk Tryd.prog 162 164 2 16 = true := by kernel_rfl
theorem tspan_zero : (Tryd.prog.info? 164).bind (·.zero) = some (.agg #[.int .i64 0, .int .i64 0]) := by kernel_rfl
/-- n spans, none wider than so. -/
structure SpsOk (n : Nat) (K : Int) (l : List (Int × Int)) : Prop where
  len : l.length = n
  ok : ∀ j, (h : j < l.length) → l[j].1 ≤ l[j].2 ∧ -K ≤ l[j].1 ∧ l[j].2 ≤ K
/-- the first i of them have been widened by K2. -/
structure SpsTo (n : Nat) (K K2 : Int) (i : Nat) (l : List (Int × Int)) : Prop where
  len : l.length = n
  ok : ∀ j, (h : j < l.length) → l[j].1 ≤ l[j].2 ∧ (j < i → -(K + K2) ≤ l[j].1 ∧ l[j].2 ≤ K + K2) ∧ (i ≤ j → -K ≤ l[j].1 ∧ l[j].2 ≤ K)
theorem SpsTo.start {n : Nat} {K K2 : Int} {l : List (Int × Int)} (h : SpsOk n K l) : SpsTo n K K2 0 l := ⟨h.len, fun j hj => ⟨(h.ok j hj).1, fun h0 => absurd h0 (by omega), fun _ => (h.ok j hj).2⟩⟩
theorem SpsTo.done {n : Nat} {K K2 : Int} {l : List (Int × Int)} (h : SpsTo n K K2 n l) : SpsOk n (K + K2) l := ⟨h.len, fun j hj => ⟨(h.ok j hj).1, (h.ok j hj).2.1 (by have := h.len; omega)⟩⟩
theorem SpsTo.step {n i : Nat} {K K2 : Int} {l : List (Int × Int)} {y : Int × Int} (h : SpsTo n K K2 i l) (hi : i < l.length) (hy : y.1 ≤ y.2 ∧ -K2 ≤ y.1 ∧ y.2 ≤ K2) : SpsTo n K K2 (i + 1) (l.set i (l[i].1 + y.1, l[i].2 + y.2)) := by
  refine ⟨by rw [List.length_set]; exact h.len, fun j hj => ?_⟩
  rw [List.length_set] at hj
  have h1 := h.ok j hj
  rw [List.getElem_set]
  by_cases e : i = j
  · subst e
    rw [if_pos rfl]
    have h2 := h1.2.2 (Nat.le_refl _)
    refine ⟨?_, fun _ => ?_, fun h0 => absurd h0 (by omega)⟩ <;> simp only <;> omega
  · rw [if_neg e]
    exact ⟨h1.1, fun h0 => h1.2.1 (by omega), fun h0 => h1.2.2 (by omega)⟩
/-- what levels leaves. -/
def LevV (n : Nat) (v : Value) (new : List Held) : Prop := ∃ (r : SV) (l : List (Int × Int)), v = svV r ∧ new = [hList spanK r l] ∧ SpsOk n 1000000000 l
set_option maxHeartbeats 16000000 in
theorem levels_made {r : SV} {m t : Int} {cs : List ConI} {n : Nat} {w : World} (hr : TabAt w (Lt w.heap.size) r cs) (ho : TabOk m cs) (hn : n ≤ 400) (ht : 0 < n → 0 ≤ t ∧ t ≤ 200000) :
    Calls Tryd.prog 84 #[.agg ⟨tabC r m⟩, .int .i64 t, .int .i64 (n : Nat)] w (Made w (LevV n)) := by
  obtain ⟨A, rn, c⟩ := r
  have hrn := hr.ls.len (by decide)
  simp only at hrn
  subst hrn
  have hmean := ho.mean
  have h12 := ho.len
  simp only [tabC]
  refine enter Tryd.func84 rfl Tryd.ntmps84 rfl ?_; simp only [frame, Nat.zero_add, Nat.reduceAdd]
  repeat (first | (refine M0 ?_; first | refine O0 ?_ | refine z1 tok rfl ?_ | refine O1 rfl ?_ rfl | refine O2 rfl ?_ | refine O3 rfl ?_ rfl | refine O4 rfl rfl rfl (fun _ _ => ?_) | refine O5 tok rfl rfl rfl (fun _ _ => ?_) | refine U0 _ (U2 rfl) rfl ?_ | refine U0 _ (U3 tok rfl rfl rfl rfl rfl) rfl ?_ | refine z3 tok rfl ?_ | refine U0 _ (U4 rfl rfl) rfl ?_ | refine U0 _ (U5 rfl rfl) rfl ?_) | (refine M1 ?_; first | refine J0 ?_ | refine J1 ?_ | refine J4 ?_ | refine J5 ?_ | refine J6 ?_ | refine J7 ?_ | refine J8 rfl ?_ | refine J9 rfl ?_) | (refine M2 ?_; first | refine I0 ?_ | refine I1 ?_ | refine I2 ?_ | refine I3 ?_ | refine I4 ?_ | refine I5 ?_ | refine I6 rfl ?_ | refine I7 ?_ | refine I8 ?_ | refine z4 ?_) | (refine M3 ?_; first | refine O6 ?_ | refine z2 tok rfl ?_ | refine O8 rfl ?_ | refine O7 rfl ?_ rfl | refine O9 rfl ?_ rfl | refine U1 _ (U4 rfl rfl) rfl ?_ | refine U1 _ (U5 rfl rfl) rfl ?_ | refine U1 _ (U2 rfl) rfl ?_ | refine U1 _ (U3 tok rfl rfl rfl rfl rfl) rfl ?_) | (refine M4 ?_; first | refine M6 ?_ | refine U6 rfl (by kernel_rfl) ?_ | refine U7 (by kernel_rfl) ?_) | (refine M5 ?_; first | exact M7 | refine U8 rfl ?_ | refine U9 rfl rfl ?_ ?_))
  rename_i g3 hg3
  refine XL.makeSp tspan_el tspan_zero rfl rfl rfl rfl (by omega) (fun gm hgm => ?_)
  repeat (first | (refine M0 ?_; first | refine O0 ?_ | refine z1 tok rfl ?_ | refine O1 rfl ?_ rfl | refine O2 rfl ?_ | refine O3 rfl ?_ rfl | refine O4 rfl rfl rfl (fun _ _ => ?_) | refine O5 tok rfl rfl rfl (fun _ _ => ?_) | refine U0 _ (U2 rfl) rfl ?_ | refine U0 _ (U3 tok rfl rfl rfl rfl rfl) rfl ?_ | refine z3 tok rfl ?_ | refine U0 _ (U4 rfl rfl) rfl ?_ | refine U0 _ (U5 rfl rfl) rfl ?_) | (refine M1 ?_; first | refine J0 ?_ | refine J1 ?_ | refine J4 ?_ | refine J5 ?_ | refine J6 ?_ | refine J7 ?_ | refine J8 rfl ?_ | refine J9 rfl ?_) | (refine M2 ?_; first | refine I0 ?_ | refine I1 ?_ | refine I2 ?_ | refine I3 ?_ | refine I4 ?_ | refine I5 ?_ | refine I6 rfl ?_ | refine I7 ?_ | refine I8 ?_ | refine z4 ?_) | (refine M3 ?_; first | refine O6 ?_ | refine z2 tok rfl ?_ | refine O8 rfl ?_ | refine O7 rfl ?_ rfl | refine O9 rfl ?_ rfl | refine U1 _ (U4 rfl rfl) rfl ?_ | refine U1 _ (U5 rfl rfl) rfl ?_ | refine U1 _ (U2 rfl) rfl ?_ | refine U1 _ (U3 tok rfl rfl rfl rfl rfl) rfl ?_) | (refine M4 ?_; first | refine M6 ?_ | refine U6 rfl (by kernel_rfl) ?_ | refine U7 (by kernel_rfl) ?_) | (refine M5 ?_; first | exact M7 | refine U8 rfl ?_ | refine U9 rfl rfl ?_ ?_))
  refine XC.loopk [1, 3, 7, 19] rfl (fun s : Nat × List (Int × Int) => [(20, .int .i64 (s.1 : Nat))]) (fun s => [(gm, cel 164 (s.2.flatMap spC)), (g3, cel 89 [.int .i64 m, .slice A cs.length c])]) (fun _ => w) (fun s => s.1 ≤ n ∧ SpsTo n 0 20000 s.1 s.2) (fun s => n - s.1) (0, List.replicate n (0, 0)) ⟨Nat.zero_le _, SpsTo.start ⟨by simp, fun j hj => by simp⟩⟩ (by repeat (first | exact Sub.nil | refine Sub.cons rfl ?_)) (fun _ h => h) ?_
  rintro ⟨i, l⟩ ⟨hi, hl⟩
  simp only at hi hl
  dsimp only [List.cons_append, List.nil_append]
  repeat (first | (refine M0 ?_; first | refine O0 ?_ | refine z1 tok rfl ?_ | refine O1 rfl ?_ rfl | refine O2 rfl ?_ | refine O3 rfl ?_ rfl | refine O4 rfl rfl rfl (fun _ _ => ?_) | refine O5 tok rfl rfl rfl (fun _ _ => ?_) | refine U0 _ (U2 rfl) rfl ?_ | refine U0 _ (U3 tok rfl rfl rfl rfl rfl) rfl ?_ | refine z3 tok rfl ?_ | refine U0 _ (U4 rfl rfl) rfl ?_ | refine U0 _ (U5 rfl rfl) rfl ?_) | (refine M1 ?_; first | refine J0 ?_ | refine J1 ?_ | refine J4 ?_ | refine J5 ?_ | refine J6 ?_ | refine J7 ?_ | refine J8 rfl ?_ | refine J9 rfl ?_) | (refine M2 ?_; first | refine I0 ?_ | refine I1 ?_ | refine I2 ?_ | refine I3 ?_ | refine I4 ?_ | refine I5 ?_ | refine I6 rfl ?_ | refine I7 ?_ | refine I8 ?_ | refine z4 ?_) | (refine M3 ?_; first | refine O6 ?_ | refine z2 tok rfl ?_ | refine O8 rfl ?_ | refine O7 rfl ?_ rfl | refine O9 rfl ?_ rfl | refine U1 _ (U4 rfl rfl) rfl ?_ | refine U1 _ (U5 rfl rfl) rfl ?_ | refine U1 _ (U2 rfl) rfl ?_ | refine U1 _ (U3 tok rfl rfl rfl rfl rfl) rfl ?_) | (refine M4 ?_; first | refine M6 ?_ | refine U6 rfl (by kernel_rfl) ?_ | refine U7 (by kernel_rfl) ?_) | (refine M5 ?_; first | exact M7 | refine U8 rfl ?_ | refine U9 rfl rfl ?_ ?_))
  refine XC.cond _ rfl (fun h1 => ?_) (fun h1 => ?_)
  · have hin : i < n := by simpa using h1
    have hll := hl.len
    have hx := hl.ok i (by omega)
    have hx2 := hx.2.2 (Nat.le_refl _)
    have hli : l[i]? = some l[i] := List.getElem?_eq_getElem (by omega)
    repeat (first | (refine M0 ?_; first | refine O0 ?_ | refine z1 tok rfl ?_ | refine O1 rfl ?_ rfl | refine O2 rfl ?_ | refine O3 rfl ?_ rfl | refine O4 rfl rfl rfl (fun _ _ => ?_) | refine O5 tok rfl rfl rfl (fun _ _ => ?_) | refine U0 _ (U2 rfl) rfl ?_ | refine U0 _ (U3 tok rfl rfl rfl rfl rfl) rfl ?_ | refine z3 tok rfl ?_ | refine U0 _ (U4 rfl rfl) rfl ?_ | refine U0 _ (U5 rfl rfl) rfl ?_) | (refine M1 ?_; first | refine J0 ?_ | refine J1 ?_ | refine J4 ?_ | refine J5 ?_ | refine J6 ?_ | refine J7 ?_ | refine J8 rfl ?_ | refine J9 rfl ?_) | (refine M2 ?_; first | refine I0 ?_ | refine I1 ?_ | refine I2 ?_ | refine I3 ?_ | refine I4 ?_ | refine I5 ?_ | refine I6 rfl ?_ | refine I7 ?_ | refine I8 ?_ | refine z4 ?_) | (refine M3 ?_; first | refine O6 ?_ | refine z2 tok rfl ?_ | refine O8 rfl ?_ | refine O7 rfl ?_ rfl | refine O9 rfl ?_ rfl | refine U1 _ (U4 rfl rfl) rfl ?_ | refine U1 _ (U5 rfl rfl) rfl ?_ | refine U1 _ (U2 rfl) rfl ?_ | refine U1 _ (U3 tok rfl rfl rfl rfl rfl) rfl ?_) | (refine M4 ?_; first | refine M6 ?_ | refine U6 rfl (by kernel_rfl) ?_ | refine U7 (by kernel_rfl) ?_) | (refine M5 ?_; first | exact M7 | refine U8 rfl ?_ | refine U9 rfl rfl ?_ ?_))
    refine XC.drawT mixed rfl rfl (by kernel_rfl) ?_
    repeat (first | (refine M0 ?_; first | refine O0 ?_ | refine z1 tok rfl ?_ | refine O1 rfl ?_ rfl | refine O2 rfl ?_ | refine O3 rfl ?_ rfl | refine O4 rfl rfl rfl (fun _ _ => ?_) | refine O5 tok rfl rfl rfl (fun _ _ => ?_) | refine U0 _ (U2 rfl) rfl ?_ | refine U0 _ (U3 tok rfl rfl rfl rfl rfl) rfl ?_ | refine z3 tok rfl ?_ | refine U0 _ (U4 rfl rfl) rfl ?_ | refine U0 _ (U5 rfl rfl) rfl ?_) | (refine M1 ?_; first | refine J0 ?_ | refine J1 ?_ | refine J4 ?_ | refine J5 ?_ | refine J6 ?_ | refine J7 ?_ | refine J8 rfl ?_ | refine J9 rfl ?_) | (refine M2 ?_; first | refine I0 ?_ | refine I1 ?_ | refine I2 ?_ | refine I3 ?_ | refine I4 ?_ | refine I5 ?_ | refine I6 rfl ?_ | refine I7 ?_ | refine I8 ?_ | refine z4 ?_) | (refine M3 ?_; first | refine O6 ?_ | refine z2 tok rfl ?_ | refine O8 rfl ?_ | refine O7 rfl ?_ rfl | refine O9 rfl ?_ rfl | refine U1 _ (U4 rfl rfl) rfl ?_ | refine U1 _ (U5 rfl rfl) rfl ?_ | refine U1 _ (U2 rfl) rfl ?_ | refine U1 _ (U3 tok rfl rfl rfl rfl rfl) rfl ?_) | (refine M4 ?_; first | refine M6 ?_ | refine U6 rfl (by kernel_rfl) ?_ | refine U7 (by kernel_rfl) ?_) | (refine M5 ?_; first | exact M7 | refine U8 rfl ?_ | refine U9 rfl rfl ?_ ?_))
    refine XL.callT (B' := gm) 0 (fst := []) (cap := []) (vs := [.pointer (some ((⟨gm, 0, none⟩ : Addr).add ((i : Int).toNat * 2))), .agg ⟨[.int .i64 m, .int .i64 m]⟩]) (ck rfl) rfl rfl rfl rfl rfl (fun w5 S5 => by
      have h9 := add_any (g := gm) (k := i) (l := l) (sp := []) (x := l[i]) (y := (m, m)) (w := w5) (by rw [List.append_nil]; exact S5.obj (i := 0) rfl) hli (by unfold i64in; simp only; omega) (by unfold i64in; simp only; omega)
      simp only [List.append_nil] at h9
      exact h9) ?_
    repeat (first | (refine M0 ?_; first | refine O0 ?_ | refine z1 tok rfl ?_ | refine O1 rfl ?_ rfl | refine O2 rfl ?_ | refine O3 rfl ?_ rfl | refine O4 rfl rfl rfl (fun _ _ => ?_) | refine O5 tok rfl rfl rfl (fun _ _ => ?_) | refine U0 _ (U2 rfl) rfl ?_ | refine U0 _ (U3 tok rfl rfl rfl rfl rfl) rfl ?_ | refine z3 tok rfl ?_ | refine U0 _ (U4 rfl rfl) rfl ?_ | refine U0 _ (U5 rfl rfl) rfl ?_) | (refine M1 ?_; first | refine J0 ?_ | refine J1 ?_ | refine J4 ?_ | refine J5 ?_ | refine J6 ?_ | refine J7 ?_ | refine J8 rfl ?_ | refine J9 rfl ?_) | (refine M2 ?_; first | refine I0 ?_ | refine I1 ?_ | refine I2 ?_ | refine I3 ?_ | refine I4 ?_ | refine I5 ?_ | refine I6 rfl ?_ | refine I7 ?_ | refine I8 ?_ | refine z4 ?_) | (refine M3 ?_; first | refine O6 ?_ | refine z2 tok rfl ?_ | refine O8 rfl ?_ | refine O7 rfl ?_ rfl | refine O9 rfl ?_ rfl | refine U1 _ (U4 rfl rfl) rfl ?_ | refine U1 _ (U5 rfl rfl) rfl ?_ | refine U1 _ (U2 rfl) rfl ?_ | refine U1 _ (U3 tok rfl rfl rfl rfl rfl) rfl ?_) | (refine M4 ?_; first | refine M6 ?_ | refine U6 rfl (by kernel_rfl) ?_ | refine U7 (by kernel_rfl) ?_) | (refine M5 ?_; first | exact M7 | refine U8 rfl ?_ | refine U9 rfl rfl ?_ ?_))
    refine XE.round (s := (i, l)) (i + 1, l.set i (l[i].1 + m, l[i].2 + m)) ⟨hin, hl.step (y := (m, m)) (by omega) ⟨Int.le_refl _, by simp only; omega, by simp only; omega⟩⟩ (by simp only; omega) (by repeat (first | exact Sub.nil | refine Sub.cons rfl ?_)) (fun _ h => h)
  have hin : i = n := by have : ¬ (i < n) := by simpa using h1
                         omega
  subst hin
  have hl2 : SpsOk i 20000 l := by have := hl.done; simpa using this
  have i22 := hr
  refine XC.rebase (List.Sublist.refl _) (fun W0 S0 => ?_)
  repeat (first | (refine M0 ?_; first | refine O0 ?_ | refine z1 tok rfl ?_ | refine O1 rfl ?_ rfl | refine O2 rfl ?_ | refine O3 rfl ?_ rfl | refine O4 rfl rfl rfl (fun _ _ => ?_) | refine O5 tok rfl rfl rfl (fun _ _ => ?_) | refine U0 _ (U2 rfl) rfl ?_ | refine U0 _ (U3 tok rfl rfl rfl rfl rfl) rfl ?_ | refine z3 tok rfl ?_ | refine U0 _ (U4 rfl rfl) rfl ?_ | refine U0 _ (U5 rfl rfl) rfl ?_) | (refine M1 ?_; first | refine J0 ?_ | refine J1 ?_ | refine J4 ?_ | refine J5 ?_ | refine J6 ?_ | refine J7 ?_ | refine J8 rfl ?_ | refine J9 rfl ?_) | (refine M2 ?_; first | refine I0 ?_ | refine I1 ?_ | refine I2 ?_ | refine I3 ?_ | refine I4 ?_ | refine I5 ?_ | refine I6 rfl ?_ | refine I7 ?_ | refine I8 ?_ | refine z4 ?_) | (refine M3 ?_; first | refine O6 ?_ | refine z2 tok rfl ?_ | refine O8 rfl ?_ | refine O7 rfl ?_ rfl | refine O9 rfl ?_ rfl | refine U1 _ (U4 rfl rfl) rfl ?_ | refine U1 _ (U5 rfl rfl) rfl ?_ | refine U1 _ (U2 rfl) rfl ?_ | refine U1 _ (U3 tok rfl rfl rfl rfl rfl) rfl ?_) | (refine M4 ?_; first | refine M6 ?_ | refine U6 rfl (by kernel_rfl) ?_ | refine U7 (by kernel_rfl) ?_) | (refine M5 ?_; first | exact M7 | refine U8 rfl ?_ | refine U9 rfl rfl ?_ ?_))
  refine XC.loopk [1, 3, 7, 34, 35] rfl (fun s : Nat × World × List (Int × Int) => [(36, .int .i64 (s.1 : Nat))]) (fun s => [(gm, cel 164 (s.2.2.flatMap spC)), (g3, cel 89 [.int .i64 m, .slice A cs.length c])]) (fun s => s.2.1)
    (fun s => s.1 ≤ cs.length ∧ SpsOk i (20000 + 50000000 * s.1) s.2.2 ∧ Below w.heap.size w s.2.1 ∧ gm < s.2.1.heap.size ∧ g3 < s.2.1.heap.size)
    (fun s => cs.length - s.1) (0, W0, l) ⟨Nat.zero_le _, by simpa using hl2, S0.toBelow, S0.keyLt gm (by simp), S0.keyLt g3 (by simp)⟩ (by repeat (first | exact Sub.nil | refine Sub.cons rfl ?_)) (fun _ h => h) ?_
  rintro ⟨k, W, l⟩ ⟨hk, hl, hBW, hgm1, hg31⟩
  simp only at hk hl hBW hgm1 hg31
  clear hl2
  dsimp only [List.cons_append, List.nil_append]
  repeat (first | (refine M0 ?_; first | refine O0 ?_ | refine z1 tok rfl ?_ | refine O1 rfl ?_ rfl | refine O2 rfl ?_ | refine O3 rfl ?_ rfl | refine O4 rfl rfl rfl (fun _ _ => ?_) | refine O5 tok rfl rfl rfl (fun _ _ => ?_) | refine U0 _ (U2 rfl) rfl ?_ | refine U0 _ (U3 tok rfl rfl rfl rfl rfl) rfl ?_ | refine z3 tok rfl ?_ | refine U0 _ (U4 rfl rfl) rfl ?_ | refine U0 _ (U5 rfl rfl) rfl ?_) | (refine M1 ?_; first | refine J0 ?_ | refine J1 ?_ | refine J4 ?_ | refine J5 ?_ | refine J6 ?_ | refine J7 ?_ | refine J8 rfl ?_ | refine J9 rfl ?_) | (refine M2 ?_; first | refine I0 ?_ | refine I1 ?_ | refine I2 ?_ | refine I3 ?_ | refine I4 ?_ | refine I5 ?_ | refine I6 rfl ?_ | refine I7 ?_ | refine I8 ?_ | refine z4 ?_) | (refine M3 ?_; first | refine O6 ?_ | refine z2 tok rfl ?_ | refine O8 rfl ?_ | refine O7 rfl ?_ rfl | refine O9 rfl ?_ rfl | refine U1 _ (U4 rfl rfl) rfl ?_ | refine U1 _ (U5 rfl rfl) rfl ?_ | refine U1 _ (U2 rfl) rfl ?_ | refine U1 _ (U3 tok rfl rfl rfl rfl rfl) rfl ?_) | (refine M4 ?_; first | refine M6 ?_ | refine U6 rfl (by kernel_rfl) ?_ | refine U7 (by kernel_rfl) ?_) | (refine M5 ?_; first | exact M7 | refine U8 rfl ?_ | refine U9 rfl rfl ?_ ?_))
  refine XC.cond _ rfl (fun h1 => ?_) (fun h1 => ?_)
  · have hkn : k < cs.length := by simpa using h1
    have hrW := hr.ls.below hBW
    obtain ⟨ad, rfl, hlt⟩ := hr.ls.addr (by decide) (by omega)
    have hcell : ∀ j u, cs[k].v[j]? = some u → W.cell? ((ad.add (k * 6)).add j) = some u := hrW.elem (List.getElem?_eq_getElem hkn)
    have hq : IntsAt W (Lt w.heap.size) cs[k].q cs[k].c.hs := hrW.ins _ (List.getElem_mem hkn) (hInts _ _) (.head _)
    have hqw : IntsAt w (Lt w.heap.size) cs[k].q cs[k].c.hs := hr.ls.ins _ (List.getElem_mem hkn) (hInts _ _) (.head _)
    have hco := ho.con _ (List.getElem_mem hkn)
    obtain ⟨a, haa⟩ : ∃ a, a = cs[k] := ⟨_, rfl⟩
    rw [← haa] at hcell hq hqw hco
    obtain ⟨cn, ⟨Aq, nq, cq⟩⟩ := a
    have hcell' : ∀ j u, (conC ⟨Aq, nq, cq⟩ cn)[j]? = some u → W.cell? ((ad.add (k * 6)).add j) = some u := hcell
    simp only at hq hqw hco
    have hnq := hq.len
    simp only at hnq
    repeat (first | (refine M0 ?_; first | refine O0 ?_ | refine z1 tok rfl ?_ | refine O1 rfl ?_ rfl | refine O2 rfl ?_ | refine O3 rfl ?_ rfl | refine U0 _ (Ev.load_old_agg tok (conC ⟨Aq, nq, cq⟩ cn) rfl rfl rfl (add_lt hlt) hcell') rfl ?_ | refine O4 rfl rfl rfl (fun _ _ => ?_) | refine O5 tok rfl rfl rfl (fun _ _ => ?_) | refine U0 _ (U2 rfl) rfl ?_ | refine U0 _ (U3 tok rfl rfl rfl rfl rfl) rfl ?_ | refine z3 tok rfl ?_ | refine U0 _ (U4 rfl rfl) rfl ?_ | refine U0 _ (U5 rfl rfl) rfl ?_) | (refine M1 ?_; first | refine J0 ?_ | refine J1 ?_ | refine J4 ?_ | refine J5 ?_ | refine J6 ?_ | refine J7 ?_ | refine J8 rfl ?_ | refine J9 rfl ?_) | (refine M2 ?_; first | refine I0 ?_ | refine I1 ?_ | refine I2 ?_ | refine I3 ?_ | refine I4 ?_ | refine I5 ?_ | refine I6 rfl ?_ | refine I7 ?_ | refine I8 ?_ | refine z4 ?_) | (refine M3 ?_; first | refine O6 ?_ | refine z2 tok rfl ?_ | refine O8 rfl ?_ | refine O7 rfl ?_ rfl | refine O9 rfl ?_ rfl | refine U1 _ (Ev.load_old_agg tok (conC ⟨Aq, nq, cq⟩ cn) rfl rfl rfl (add_lt hlt) hcell') rfl ?_ | refine U1 _ (U4 rfl rfl) rfl ?_ | refine U1 _ (U5 rfl rfl) rfl ?_ | refine U1 _ (U2 rfl) rfl ?_ | refine U1 _ (U3 tok rfl rfl rfl rfl rfl) rfl ?_) | (refine M4 ?_; first | refine M6 ?_ | refine U6 rfl (by kernel_rfl) ?_ | refine U7 (by kernel_rfl) ?_) | (refine M5 ?_; first | exact M7 | refine U8 rfl ?_ | refine U9 rfl rfl ?_ ?_))
    rename_i g10 hg10
    have hks : ∀ k, k ∈ [gm, g3] → k < W.heap.size := fun k hk => by
      rcases List.mem_cons.1 hk with rfl | hk
      · exact hgm1
      · rw [List.mem_singleton.1 hk]; exact hg31
    refine XL.callF (PartsV ⟨Aq, nq, cq⟩ cn (cn.start t)) (vs := [.agg ⟨conC ⟨Aq, nq, cq⟩ cn⟩, .int .i64 t]) (ck rfl) rfl rfl (Fam.start (ks := [gm, g3]) (Nat.le_refl W.heap.size)) hks hBW (fun w1 S1 _ _ => parts_made (q := ⟨Aq, nq, cq⟩) hnq hco) (fun W2 v new hR hF2 hB2 hk2 => ?_)
    obtain ⟨gp, gc, rfl, rfl⟩ := hR
    have hpt : PtAt W2 (Free W2 W.heap.size _ []) gp gc ⟨Aq, nq, cq⟩ cn (cn.start t) := hF2.held _ (.head _)
    have hWs := hBW.size
    repeat (first | (refine M0 ?_; first | refine O0 ?_ | refine z1 tok rfl ?_ | refine O1 rfl ?_ rfl | refine O2 rfl ?_ | refine O3 rfl ?_ rfl | refine O4 rfl rfl rfl (fun _ _ => ?_) | refine O5 tok rfl rfl rfl (fun _ _ => ?_) | refine U0 _ (U2 rfl) rfl ?_ | refine U0 _ (U3 tok rfl rfl rfl rfl rfl) rfl ?_ | refine z3 tok rfl ?_ | refine U0 _ (U4 rfl rfl) rfl ?_ | refine U0 _ (U5 rfl rfl) rfl ?_) | (refine M1 ?_; first | refine J0 ?_ | refine J1 ?_ | refine J4 ?_ | refine J5 ?_ | refine J6 ?_ | refine J7 ?_ | refine J8 rfl ?_ | refine J9 rfl ?_) | (refine M2 ?_; first | refine I0 ?_ | refine I1 ?_ | refine I2 ?_ | refine I3 ?_ | refine I4 ?_ | refine I5 ?_ | refine I6 rfl ?_ | refine I7 ?_ | refine I8 ?_ | refine z4 ?_) | (refine M3 ?_; first | refine O6 ?_ | refine z2 tok rfl ?_ | refine O8 rfl ?_ | refine O7 rfl ?_ rfl | refine O9 rfl ?_ rfl | refine U1 _ (U4 rfl rfl) rfl ?_ | refine U1 _ (U5 rfl rfl) rfl ?_ | refine U1 _ (U2 rfl) rfl ?_ | refine U1 _ (U3 tok rfl rfl rfl rfl rfl) rfl ?_) | (refine M4 ?_; first | refine M6 ?_ | refine U6 rfl (by kernel_rfl) ?_ | refine U7 (by kernel_rfl) ?_) | (refine M5 ?_; first | exact M7 | refine U8 rfl ?_ | refine U9 rfl rfl ?_ ?_))
    refine XC.grab hpt.hp (Nat.le_trans hWs hpt.kp.1) (fun e he e1 => hpt.kp.2.2.1 (e1 ▸ List.mem_append_left _ (List.mem_map_of_mem he))) (fun w3 S3 => ?_)
    have hgcn := fun (e : Nat × Obj) (he : e ∈ _) (e1 : e.1 = gc) => hpt.kc.2.2.1 (e1 ▸ List.mem_append_left _ (List.mem_map_of_mem he))
    have hgc3 : w3.heap[gc]? = some (cel 159 (conC ⟨Aq, nq, cq⟩ cn)) := (S3.old gc (Array.getElem?_eq_some_iff.1 hpt.hc).1 hgcn).trans hpt.hc
    have hB3 : Below w.heap.size w w3 := hB2.trans S3.toBelow
    have hgl3 := (Array.getElem?_eq_some_iff.1 hgc3).1
    have hq3 : IntsAt w3 (Lt w.heap.size) ⟨Aq, nq, cq⟩ cn.hs := (hqw.below hB2).below S3.toBelow
    have hgpl : w.heap.size ≤ gp := Nat.le_trans hWs hpt.kp.1
    have hlt3 := hpt.lt
    have hst : 0 < i → _ := fun h => start_ok hco (ht h)
    repeat (first | (refine M0 ?_; first | refine O0 ?_ | refine z1 tok rfl ?_ | refine O1 rfl ?_ rfl | refine O2 rfl ?_ | refine O3 rfl ?_ rfl | refine O4 rfl rfl rfl (fun _ _ => ?_) | refine O5 tok rfl rfl rfl (fun _ _ => ?_) | refine U0 _ (U2 rfl) rfl ?_ | refine U0 _ (U3 tok rfl rfl rfl rfl rfl) rfl ?_ | refine z3 tok rfl ?_ | refine U0 _ (U4 rfl rfl) rfl ?_ | refine U0 _ (U5 rfl rfl) rfl ?_) | (refine M1 ?_; first | refine J0 ?_ | refine J1 ?_ | refine J4 ?_ | refine J5 ?_ | refine J6 ?_ | refine J7 ?_ | refine J8 rfl ?_ | refine J9 rfl ?_) | (refine M2 ?_; first | refine I0 ?_ | refine I1 ?_ | refine I2 ?_ | refine I3 ?_ | refine I4 ?_ | refine I5 ?_ | refine I6 rfl ?_ | refine I7 ?_ | refine I8 ?_ | refine z4 ?_) | (refine M3 ?_; first | refine O6 ?_ | refine z2 tok rfl ?_ | refine O8 rfl ?_ | refine O7 rfl ?_ rfl | refine O9 rfl ?_ rfl | refine U1 _ (U4 rfl rfl) rfl ?_ | refine U1 _ (U5 rfl rfl) rfl ?_ | refine U1 _ (U2 rfl) rfl ?_ | refine U1 _ (U3 tok rfl rfl rfl rfl rfl) rfl ?_) | (refine M4 ?_; first | refine M6 ?_ | refine U6 rfl (by kernel_rfl) ?_ | refine U7 (by kernel_rfl) ?_) | (refine M5 ?_; first | exact M7 | refine U8 rfl ?_ | refine U9 rfl rfl ?_ ?_))
    refine XC.loopk [1, 3, 7, 11, 34, 35, 36, 44] rfl (fun s : Nat × Int × List (Int × Int) => [(45, .int .i64 (s.1 : Nat))]) (fun s => [(gp, cel 3 [.int .i64 s.2.1]), (g10, _), (gm, cel 164 (s.2.2.flatMap spC)), (g3, cel 89 [.int .i64 m, .slice (some ad) cs.length c])]) (fun _ => w3)
      (fun s => s.1 ≤ i ∧ (0 < i → 0 ≤ s.2.1 ∧ s.2.1 < cn.cyc) ∧ SpsTo i (20000 + 50000000 * k) 50000000 s.1 s.2.2) (fun s => i - s.1) (0, cn.start t, l) ⟨Nat.zero_le _, hst, SpsTo.start hl⟩ (by repeat (first | exact Sub.nil | refine Sub.cons rfl ?_)) (fun _ h => h) ?_
    rintro ⟨j, pp, l⟩ ⟨hj, hpp, hl⟩
    simp only at hj hl hpp
    dsimp only [List.cons_append, List.nil_append]
    repeat (first | (refine M0 ?_; first | refine O0 ?_ | refine z1 tok rfl ?_ | refine O1 rfl ?_ rfl | refine O2 rfl ?_ | refine O3 rfl ?_ rfl | refine O4 rfl rfl rfl (fun _ _ => ?_) | refine O5 tok rfl rfl rfl (fun _ _ => ?_) | refine U0 _ (U2 rfl) rfl ?_ | refine U0 _ (U3 tok rfl rfl rfl rfl rfl) rfl ?_ | refine z3 tok rfl ?_ | refine U0 _ (U4 rfl rfl) rfl ?_ | refine U0 _ (U5 rfl rfl) rfl ?_) | (refine M1 ?_; first | refine J0 ?_ | refine J1 ?_ | refine J4 ?_ | refine J5 ?_ | refine J6 ?_ | refine J7 ?_ | refine J8 rfl ?_ | refine J9 rfl ?_) | (refine M2 ?_; first | refine I0 ?_ | refine I1 ?_ | refine I2 ?_ | refine I3 ?_ | refine I4 ?_ | refine I5 ?_ | refine I6 rfl ?_ | refine I7 ?_ | refine I8 ?_ | refine z4 ?_) | (refine M3 ?_; first | refine O6 ?_ | refine z2 tok rfl ?_ | refine O8 rfl ?_ | refine O7 rfl ?_ rfl | refine O9 rfl ?_ rfl | refine U1 _ (U4 rfl rfl) rfl ?_ | refine U1 _ (U5 rfl rfl) rfl ?_ | refine U1 _ (U2 rfl) rfl ?_ | refine U1 _ (U3 tok rfl rfl rfl rfl rfl) rfl ?_) | (refine M4 ?_; first | refine M6 ?_ | refine U6 rfl (by kernel_rfl) ?_ | refine U7 (by kernel_rfl) ?_) | (refine M5 ?_; first | exact M7 | refine U8 rfl ?_ | refine U9 rfl rfl ?_ ?_))
    refine XC.cond _ rfl (fun h1 => ?_) (fun h1 => ?_)
    · have hji : j < i := by simpa using h1
      have hpp := hpp (by omega)
      have hll := hl.len
      have hx := hl.ok j (by omega)
      have hx2 := hx.2.2 (Nat.le_refl _)
      have hlj : l[j]? = some l[j] := List.getElem?_eq_getElem (by omega)
      have hsp := span_ok hco hpp
      have hnx := next_ok hco hpp
      repeat (first | (refine M0 ?_; first | refine O0 ?_ | refine z1 tok rfl ?_ | refine O1 rfl ?_ rfl | refine O2 rfl ?_ | refine O3 rfl ?_ rfl | refine O4 rfl rfl rfl (fun _ _ => ?_) | refine O5 tok rfl rfl rfl (fun _ _ => ?_) | refine U0 _ (U2 rfl) rfl ?_ | refine U0 _ (U3 tok rfl rfl rfl rfl rfl) rfl ?_ | refine z3 tok rfl ?_ | refine U0 _ (U4 rfl rfl) rfl ?_ | refine U0 _ (U5 rfl rfl) rfl ?_) | (refine M1 ?_; first | refine J0 ?_ | refine J1 ?_ | refine J4 ?_ | refine J5 ?_ | refine J6 ?_ | refine J7 ?_ | refine J8 rfl ?_ | refine J9 rfl ?_) | (refine M2 ?_; first | refine I0 ?_ | refine I1 ?_ | refine I2 ?_ | refine I3 ?_ | refine I4 ?_ | refine I5 ?_ | refine I6 rfl ?_ | refine I7 ?_ | refine I8 ?_ | refine z4 ?_) | (refine M3 ?_; first | refine O6 ?_ | refine z2 tok rfl ?_ | refine O8 rfl ?_ | refine O7 rfl ?_ rfl | refine O9 rfl ?_ rfl | refine U1 _ (U4 rfl rfl) rfl ?_ | refine U1 _ (U5 rfl rfl) rfl ?_ | refine U1 _ (U2 rfl) rfl ?_ | refine U1 _ (U3 tok rfl rfl rfl rfl rfl) rfl ?_) | (refine M4 ?_; first | refine M6 ?_ | refine U6 rfl (by kernel_rfl) ?_ | refine U7 (by kernel_rfl) ?_) | (refine M5 ?_; first | exact M7 | refine U8 rfl ?_ | refine U9 rfl rfl ?_ ?_))
      refine XC.drawRS _ [] [0, 1, 2, 3] [4, 5] mixed (fun _ h => Sys.anchor2 (by assumption) h (by repeat (first | exact List.Sublist.refl _ | exact List.nil_sublist _ | refine List.Sublist.cons_cons _ ?_ | refine List.Sublist.cons _ ?_))) rfl (by kernel_rfl) ?_
      repeat (first | (refine M0 ?_; first | refine O0 ?_ | refine z1 tok rfl ?_ | refine O1 rfl ?_ rfl | refine O2 rfl ?_ | refine O3 rfl ?_ rfl | refine O4 rfl rfl rfl (fun _ _ => ?_) | refine O5 tok rfl rfl rfl (fun _ _ => ?_) | refine U0 _ (U2 rfl) rfl ?_ | refine U0 _ (U3 tok rfl rfl rfl rfl rfl) rfl ?_ | refine z3 tok rfl ?_ | refine U0 _ (U4 rfl rfl) rfl ?_ | refine U0 _ (U5 rfl rfl) rfl ?_) | (refine M1 ?_; first | refine J0 ?_ | refine J1 ?_ | refine J4 ?_ | refine J5 ?_ | refine J6 ?_ | refine J7 ?_ | refine J8 rfl ?_ | refine J9 rfl ?_) | (refine M2 ?_; first | refine I0 ?_ | refine I1 ?_ | refine I2 ?_ | refine I3 ?_ | refine I4 ?_ | refine I5 ?_ | refine I6 rfl ?_ | refine I7 ?_ | refine I8 ?_ | refine z4 ?_) | (refine M3 ?_; first | refine O6 ?_ | refine z2 tok rfl ?_ | refine O8 rfl ?_ | refine O7 rfl ?_ rfl | refine O9 rfl ?_ rfl | refine U1 _ (U4 rfl rfl) rfl ?_ | refine U1 _ (U5 rfl rfl) rfl ?_ | refine U1 _ (U2 rfl) rfl ?_ | refine U1 _ (U3 tok rfl rfl rfl rfl rfl) rfl ?_) | (refine M4 ?_; first | refine M6 ?_ | refine U6 rfl (by kernel_rfl) ?_ | refine U7 (by kernel_rfl) ?_) | (refine M5 ?_; first | exact M7 | refine U8 rfl ?_ | refine U9 rfl rfl ?_ ?_))
      · refine XL.callT (B' := gp) 0 (fst := []) (cap := [.pointer (some ⟨gp, 0, none⟩), .pointer (some ⟨gc, 0, none⟩)]) (vs := []) (v := .agg ⟨spC (cn.span pp)⟩) (ck rfl) rfl rfl rfl rfl rfl (fun w5 S5 => by
          have h9 := parts1_any (w := w5) (gp := gp) (gc := gc) (q := ⟨Aq, nq, cq⟩) (c := cn) (pp := pp) ⟨S5.lt (e := (gp, _)) (.head _), Nat.lt_of_lt_of_le hgl3 S5.size, hlt3, S5.obj (i := 0) rfl, (S5.old gc hgl3 (fun e he e1 => by
            rcases List.mem_cons.1 he with rfl | he
            · simp only at e1; omega
            · rcases List.mem_cons.1 he with rfl | he
              · exact hgcn (g10, _) (.head _) e1
              · rcases List.mem_cons.1 he with rfl | he
                · exact hgcn (gm, _) (.tail _ (.head _)) e1
                · rcases List.mem_cons.1 he with rfl | he
                  · exact hgcn (g3, _) (.tail _ (.tail _ (.head _))) e1
                  · cases he)).trans hgc3⟩ ((hq3.below (S5.toBelow)).mono fun j hj => Nat.lt_of_lt_of_le hj hgpl) hco hpp
          exact h9) ?_
        repeat (first | (refine M0 ?_; first | refine O0 ?_ | refine z1 tok rfl ?_ | refine O1 rfl ?_ rfl | refine O2 rfl ?_ | refine O3 rfl ?_ rfl | refine O4 rfl rfl rfl (fun _ _ => ?_) | refine O5 tok rfl rfl rfl (fun _ _ => ?_) | refine U0 _ (U2 rfl) rfl ?_ | refine U0 _ (U3 tok rfl rfl rfl rfl rfl) rfl ?_ | refine z3 tok rfl ?_ | refine U0 _ (U4 rfl rfl) rfl ?_ | refine U0 _ (U5 rfl rfl) rfl ?_) | (refine M1 ?_; first | refine J0 ?_ | refine J1 ?_ | refine J4 ?_ | refine J5 ?_ | refine J6 ?_ | refine J7 ?_ | refine J8 rfl ?_ | refine J9 rfl ?_) | (refine M2 ?_; first | refine I0 ?_ | refine I1 ?_ | refine I2 ?_ | refine I3 ?_ | refine I4 ?_ | refine I5 ?_ | refine I6 rfl ?_ | refine I7 ?_ | refine I8 ?_ | refine z4 ?_) | (refine M3 ?_; first | refine O6 ?_ | refine z2 tok rfl ?_ | refine O8 rfl ?_ | refine O7 rfl ?_ rfl | refine O9 rfl ?_ rfl | refine U1 _ (U4 rfl rfl) rfl ?_ | refine U1 _ (U5 rfl rfl) rfl ?_ | refine U1 _ (U2 rfl) rfl ?_ | refine U1 _ (U3 tok rfl rfl rfl rfl rfl) rfl ?_) | (refine M4 ?_; first | refine M6 ?_ | refine U6 rfl (by kernel_rfl) ?_ | refine U7 (by kernel_rfl) ?_) | (refine M5 ?_; first | exact M7 | refine U8 rfl ?_ | refine U9 rfl rfl ?_ ?_))
        refine XL.callT (B' := gm) 2 (fst := []) (cap := []) (vs := [.pointer (some ((⟨gm, 0, none⟩ : Addr).add ((j : Int).toNat * 2))), .agg ⟨spC (cn.span pp)⟩]) (ck rfl) rfl rfl rfl rfl rfl (fun w5 S5 => by
          have h9 := add_any (g := gm) (k := j) (l := l) (sp := []) (x := l[j]) (y := cn.span pp) (w := w5) (by rw [List.append_nil]; exact S5.obj (i := 2) rfl) hlj (by unfold i64in; omega) (by unfold i64in; omega)
          simp only [List.append_nil] at h9
          exact h9) ?_
        repeat (first | (refine M0 ?_; first | refine O0 ?_ | refine z1 tok rfl ?_ | refine O1 rfl ?_ rfl | refine O2 rfl ?_ | refine O3 rfl ?_ rfl | refine O4 rfl rfl rfl (fun _ _ => ?_) | refine O5 tok rfl rfl rfl (fun _ _ => ?_) | refine U0 _ (U2 rfl) rfl ?_ | refine U0 _ (U3 tok rfl rfl rfl rfl rfl) rfl ?_ | refine z3 tok rfl ?_ | refine U0 _ (U4 rfl rfl) rfl ?_ | refine U0 _ (U5 rfl rfl) rfl ?_) | (refine M1 ?_; first | refine J0 ?_ | refine J1 ?_ | refine J4 ?_ | refine J5 ?_ | refine J6 ?_ | refine J7 ?_ | refine J8 rfl ?_ | refine J9 rfl ?_) | (refine M2 ?_; first | refine I0 ?_ | refine I1 ?_ | refine I2 ?_ | refine I3 ?_ | refine I4 ?_ | refine I5 ?_ | refine I6 rfl ?_ | refine I7 ?_ | refine I8 ?_ | refine z4 ?_) | (refine M3 ?_; first | refine O6 ?_ | refine z2 tok rfl ?_ | refine O8 rfl ?_ | refine O7 rfl ?_ rfl | refine O9 rfl ?_ rfl | refine U1 _ (U4 rfl rfl) rfl ?_ | refine U1 _ (U5 rfl rfl) rfl ?_ | refine U1 _ (U2 rfl) rfl ?_ | refine U1 _ (U3 tok rfl rfl rfl rfl rfl) rfl ?_) | (refine M4 ?_; first | refine M6 ?_ | refine U6 rfl (by kernel_rfl) ?_ | refine U7 (by kernel_rfl) ?_) | (refine M5 ?_; first | exact M7 | refine U8 rfl ?_ | refine U9 rfl rfl ?_ ?_))
        refine XE.round (s := (j, pp, l)) (j + 1, cn.next pp, l.set j (l[j].1 + (cn.span pp).1, l[j].2 + (cn.span pp).2)) ⟨hji, fun _ => hnx, hl.step (y := cn.span pp) (by omega) hsp⟩ (by simp only; omega) (by repeat (first | exact Sub.nil | refine Sub.cons rfl ?_)) (fun _ h => h)
        any_goals (repeat (first | exact AnyR.nil | refine AnyR.skip rfl ?_))
      any_goals (repeat (first | exact AnyR.nil | refine AnyR.skip rfl ?_))
    have hin : j = i := by have : ¬ (j < i) := by simpa using h1
                           omega
    subst hin
    have hl2 : SpsOk j (20000 + 50000000 * ((k + 1 : Nat) : Int)) l := by
      have := hl.done
      rw [show (20000 + 50000000 * ((k + 1 : Nat) : Int)) = 20000 + 50000000 * (k : Int) + 50000000 by omega]
      exact this
    repeat (first | (refine M0 ?_; first | refine O0 ?_ | refine z1 tok rfl ?_ | refine O1 rfl ?_ rfl | refine O2 rfl ?_ | refine O3 rfl ?_ rfl | refine O4 rfl rfl rfl (fun _ _ => ?_) | refine O5 tok rfl rfl rfl (fun _ _ => ?_) | refine U0 _ (U2 rfl) rfl ?_ | refine U0 _ (U3 tok rfl rfl rfl rfl rfl) rfl ?_ | refine z3 tok rfl ?_ | refine U0 _ (U4 rfl rfl) rfl ?_ | refine U0 _ (U5 rfl rfl) rfl ?_) | (refine M1 ?_; first | refine J0 ?_ | refine J1 ?_ | refine J4 ?_ | refine J5 ?_ | refine J6 ?_ | refine J7 ?_ | refine J8 rfl ?_ | refine J9 rfl ?_) | (refine M2 ?_; first | refine I0 ?_ | refine I1 ?_ | refine I2 ?_ | refine I3 ?_ | refine I4 ?_ | refine I5 ?_ | refine I6 rfl ?_ | refine I7 ?_ | refine I8 ?_ | refine z4 ?_) | (refine M3 ?_; first | refine O6 ?_ | refine z2 tok rfl ?_ | refine O8 rfl ?_ | refine O7 rfl ?_ rfl | refine O9 rfl ?_ rfl | refine U1 _ (U4 rfl rfl) rfl ?_ | refine U1 _ (U5 rfl rfl) rfl ?_ | refine U1 _ (U2 rfl) rfl ?_ | refine U1 _ (U3 tok rfl rfl rfl rfl rfl) rfl ?_) | (refine M4 ?_; first | refine M6 ?_ | refine U6 rfl (by kernel_rfl) ?_ | refine U7 (by kernel_rfl) ?_) | (refine M5 ?_; first | exact M7 | refine U8 rfl ?_ | refine U9 rfl rfl ?_ ?_))
    refine XE.roundW (s := (k, W, l)) (fun w6 S6 => ⟨(k + 1, w6, l), ⟨hkn, hl2, (hB2.trans S3.toBelow).trans S6.toBelow, S6.keyLt gm (by simp), S6.keyLt g3 (by simp)⟩, by simp only; omega, (by repeat (first | exact Sub.nil | refine Sub.cons rfl ?_)), S6.rebase (by repeat (first | exact List.Sublist.refl _ | exact List.nil_sublist _ | refine List.Sublist.cons _ ?_))⟩)
  have hkn : k = cs.length := by have : ¬ (k < cs.length) := by simpa using h1
                                 omega
  subst hkn
  have hl9 : SpsOk i 1000000000 l := ⟨hl.len, fun j hj => by have := hl.ok j hj; omega⟩
  have hll := hl.len
  have hks : ∀ k, k ∈ [gm, g3] → k < W.heap.size := fun k hk => by
    rcases List.mem_cons.1 hk with rfl | hk
    · exact hgm1
    · rw [List.mem_singleton.1 hk]; exact hg31
  repeat (first | (refine M0 ?_; first | refine O0 ?_ | refine z1 tok rfl ?_ | refine O1 rfl ?_ rfl | refine O2 rfl ?_ | refine O3 rfl ?_ rfl | refine O4 rfl rfl rfl (fun _ _ => ?_) | refine O5 tok rfl rfl rfl (fun _ _ => ?_) | refine U0 _ (U2 rfl) rfl ?_ | refine U0 _ (U3 tok rfl rfl rfl rfl rfl) rfl ?_ | refine z3 tok rfl ?_ | refine U0 _ (U4 rfl rfl) rfl ?_ | refine U0 _ (U5 rfl rfl) rfl ?_) | (refine M1 ?_; first | refine J0 ?_ | refine J1 ?_ | refine J4 ?_ | refine J5 ?_ | refine J6 ?_ | refine J7 ?_ | refine J8 rfl ?_ | refine J9 rfl ?_) | (refine M2 ?_; first | refine I0 ?_ | refine I1 ?_ | refine I2 ?_ | refine I3 ?_ | refine I4 ?_ | refine I5 ?_ | refine I6 rfl ?_ | refine I7 ?_ | refine I8 ?_ | refine z4 ?_) | (refine M3 ?_; first | refine O6 ?_ | refine z2 tok rfl ?_ | refine O8 rfl ?_ | refine O7 rfl ?_ rfl | refine O9 rfl ?_ rfl | refine U1 _ (U4 rfl rfl) rfl ?_ | refine U1 _ (U5 rfl rfl) rfl ?_ | refine U1 _ (U2 rfl) rfl ?_ | refine U1 _ (U3 tok rfl rfl rfl rfl rfl) rfl ?_) | (refine M4 ?_; first | refine M6 ?_ | refine U6 rfl (by kernel_rfl) ?_ | refine U7 (by kernel_rfl) ?_) | (refine M5 ?_; first | exact M7 | refine U8 rfl ?_ | refine U9 rfl rfl ?_ ?_))
  refine XC.loopk [7, 56, 57] rfl (fun s : Nat × World × Value => [(58, .int .i64 (s.1 : Nat)), (13, s.2.2)]) (fun s => [(gm, cel 164 (l.flatMap spC)), (g3, _)]) (fun s => s.2.1)
    (fun s => s.1 ≤ i ∧ Fam s.2.1 w.heap.size [gm, g3] [⟨Int × Int, spanK, s.2.2, l.take s.1⟩] [] ∧ Below w.heap.size w s.2.1 ∧ gm < s.2.1.heap.size ∧ g3 < s.2.1.heap.size)
    (fun s => i - s.1) (0, W, .slice none 0 0) ⟨Nat.zero_le _, (Fam.start (ks := [gm, g3]) hBW.size).nil spanK, hBW, hgm1, hg31⟩ (by repeat (first | exact Sub.nil | refine Sub.cons rfl ?_)) (fun _ h => h) ?_
  rintro ⟨j, W, v⟩ ⟨hj, hF, hBW, hgm1, hg31⟩
  simp only at hj hF hBW hgm1 hg31
  dsimp only [List.cons_append, List.nil_append]
  repeat (first | (refine M0 ?_; first | refine O0 ?_ | refine z1 tok rfl ?_ | refine O1 rfl ?_ rfl | refine O2 rfl ?_ | refine O3 rfl ?_ rfl | refine O4 rfl rfl rfl (fun _ _ => ?_) | refine O5 tok rfl rfl rfl (fun _ _ => ?_) | refine U0 _ (U2 rfl) rfl ?_ | refine U0 _ (U3 tok rfl rfl rfl rfl rfl) rfl ?_ | refine z3 tok rfl ?_ | refine U0 _ (U4 rfl rfl) rfl ?_ | refine U0 _ (U5 rfl rfl) rfl ?_) | (refine M1 ?_; first | refine J0 ?_ | refine J1 ?_ | refine J4 ?_ | refine J5 ?_ | refine J6 ?_ | refine J7 ?_ | refine J8 rfl ?_ | refine J9 rfl ?_) | (refine M2 ?_; first | refine I0 ?_ | refine I1 ?_ | refine I2 ?_ | refine I3 ?_ | refine I4 ?_ | refine I5 ?_ | refine I6 rfl ?_ | refine I7 ?_ | refine I8 ?_ | refine z4 ?_) | (refine M3 ?_; first | refine O6 ?_ | refine z2 tok rfl ?_ | refine O8 rfl ?_ | refine O7 rfl ?_ rfl | refine O9 rfl ?_ rfl | refine U1 _ (U4 rfl rfl) rfl ?_ | refine U1 _ (U5 rfl rfl) rfl ?_ | refine U1 _ (U2 rfl) rfl ?_ | refine U1 _ (U3 tok rfl rfl rfl rfl rfl) rfl ?_) | (refine M4 ?_; first | refine M6 ?_ | refine U6 rfl (by kernel_rfl) ?_ | refine U7 (by kernel_rfl) ?_) | (refine M5 ?_; first | exact M7 | refine U8 rfl ?_ | refine U9 rfl rfl ?_ ?_))
  refine XC.cond _ rfl (fun h1 => ?_) (fun h1 => ?_)
  · have hji : j < i := by simpa using h1
    have hlj : l[j]? = some l[j] := List.getElem?_eq_getElem (by omega)
    have hks : ∀ k, k ∈ [gm, g3] → k < W.heap.size := fun k hk => by
      rcases List.mem_cons.1 hk with rfl | hk
      · exact hgm1
      · rw [List.mem_singleton.1 hk]; exact hg31
    have hl1 : (l.take j).length + 1 ≤ 10000000 := by rw [List.length_take]; omega
    have ha1 : ∀ x, x ∈ spanK.sl l[j] → x ∈ ([] : List Held) := fun x hx => hx
    have hcs : ∀ k u, (spC l[j])[k]? = some u → (l.flatMap spC)[0 + (j : Int).toNat * 2 + k]? = some u := fun k u hu => by
      have hk2 : k < 2 := by have := (List.getElem?_eq_some_iff.1 hu).1; rwa [spC_len] at this
      have := fget spC_len [] hlj hk2
      rw [List.append_nil] at this
      rw [Nat.zero_add, Int.toNat_natCast, this, hu]
    repeat (first | (refine M0 ?_; first | refine O0 ?_ | refine z1 tok rfl ?_ | refine O1 rfl ?_ rfl | refine O2 rfl ?_ | refine O3 rfl ?_ rfl | refine U0 _ (Ev.load_at_agg tok 0 (vs := spC l[j]) rfl rfl rfl rfl hcs) rfl ?_ | refine O4 rfl rfl rfl (fun _ _ => ?_) | refine O5 tok rfl rfl rfl (fun _ _ => ?_) | refine U0 _ (U2 rfl) rfl ?_ | refine U0 _ (U3 tok rfl rfl rfl rfl rfl) rfl ?_ | refine z3 tok rfl ?_ | refine U0 _ (U4 rfl rfl) rfl ?_ | refine U0 _ (U5 rfl rfl) rfl ?_ | refine XL.buildSlice tok rfl rfl rfl rfl rfl rfl rfl rfl rfl (fun _ _ => ?_) | (refine XL.at_push 81 ?_; refine XL.push (K := spanK) (a := l[j]) (wE := w) 0 span_el (by decide) rfl rfl rfl (by assumption) rfl (by assumption) (by assumption) (Nat.le_refl _) rfl hl1 (by decide) ha1 (fun _ _ _ _ _ => ?_))) | (refine M1 ?_; first | refine J0 ?_ | refine J1 ?_ | refine J4 ?_ | refine J5 ?_ | refine J6 ?_ | refine J7 ?_ | refine J8 rfl ?_ | refine J9 rfl ?_) | (refine M2 ?_; first | refine I0 ?_ | refine I1 ?_ | refine I2 ?_ | refine I3 ?_ | refine I4 ?_ | refine I5 ?_ | refine I6 rfl ?_ | refine I7 ?_ | refine I8 ?_ | refine z4 ?_) | (refine M3 ?_; first | refine O6 ?_ | refine z2 tok rfl ?_ | refine O8 rfl ?_ | refine O7 rfl ?_ rfl | refine O9 rfl ?_ rfl | refine U1 _ (Ev.load_at_agg tok 0 (vs := spC l[j]) rfl rfl rfl rfl hcs) rfl ?_ | refine U1 _ (U4 rfl rfl) rfl ?_ | refine U1 _ (U5 rfl rfl) rfl ?_ | refine U1 _ (U2 rfl) rfl ?_ | refine U1 _ (U3 tok rfl rfl rfl rfl rfl) rfl ?_) | (refine M4 ?_; first | refine M6 ?_ | refine U6 rfl (by kernel_rfl) ?_ | refine U7 (by kernel_rfl) ?_) | (refine M5 ?_; first | exact M7 | refine U8 rfl ?_ | refine U9 rfl rfl ?_ ?_))
    refine XE.roundW (s := (j, W, v)) (fun w6 S6 => ⟨(j + 1, w6, _), ⟨hji, ?_, ?_, S6.keyLt gm (by simp), S6.keyLt g3 (by simp)⟩, by simp only; omega, (by repeat (first | exact Sub.nil | refine Sub.cons rfl ?_)), S6.rebase (by repeat (first | exact List.Sublist.refl _ | exact List.nil_sublist _ | refine List.Sublist.cons _ ?_))⟩)
    · rw [List.take_add_one, hlj]
      exact Fam.add (Fam.sys (by assumption) S6 (by intro e he; repeat (first | (cases he; done) | (rcases List.mem_cons.1 he with rfl | he; · first | (right; assumption) | (left; simp <;> fail))))) (by intro k hk; repeat (first | (cases hk; done) | (rcases List.mem_cons.1 hk with rfl | hk; · first | (right; assumption) | (left; simp <;> fail))))
    · exact Below.trans (by assumption) S6.toBelow
  · have hin : j = i := by have : ¬ (j < i) := by simpa using h1
                           omega
    subst hin
    repeat (first | (refine M0 ?_; first | refine O0 ?_ | refine z1 tok rfl ?_ | refine O1 rfl ?_ rfl | refine O2 rfl ?_ | refine O3 rfl ?_ rfl | refine O4 rfl rfl rfl (fun _ _ => ?_) | refine O5 tok rfl rfl rfl (fun _ _ => ?_) | refine U0 _ (U2 rfl) rfl ?_ | refine U0 _ (U3 tok rfl rfl rfl rfl rfl) rfl ?_ | refine z3 tok rfl ?_ | refine U0 _ (U4 rfl rfl) rfl ?_ | refine U0 _ (U5 rfl rfl) rfl ?_) | (refine M1 ?_; first | refine J0 ?_ | refine J1 ?_ | refine J4 ?_ | refine J5 ?_ | refine J6 ?_ | refine J7 ?_ | refine J8 rfl ?_ | refine J9 rfl ?_) | (refine M2 ?_; first | refine I0 ?_ | refine I1 ?_ | refine I2 ?_ | refine I3 ?_ | refine I4 ?_ | refine I5 ?_ | refine I6 rfl ?_ | refine I7 ?_ | refine I8 ?_ | refine z4 ?_) | (refine M3 ?_; first | refine O6 ?_ | refine z2 tok rfl ?_ | refine O8 rfl ?_ | refine O7 rfl ?_ rfl | refine O9 rfl ?_ rfl | refine U1 _ (U4 rfl rfl) rfl ?_ | refine U1 _ (U5 rfl rfl) rfl ?_ | refine U1 _ (U2 rfl) rfl ?_ | refine U1 _ (U3 tok rfl rfl rfl rfl rfl) rfl ?_) | (refine M4 ?_; first | refine M6 ?_ | refine U6 rfl (by kernel_rfl) ?_ | refine U7 (by kernel_rfl) ?_) | (refine M5 ?_; first | exact M7 | refine U8 rfl ?_ | refine U9 rfl rfl ?_ ?_))
    refine XE.retg tok Tryd.results84 rfl (by simp only [and_self, and_true]) (fun w' S => ?_)
    have hF6 := hF.sys S (by intro e he; repeat (first | (cases he; done) | (rcases List.mem_cons.1 he with rfl | he; · first | (right; assumption) | (left; simp <;> fail))))
    obtain ⟨r1, rfl, h5⟩ := hF6.list (.head _)
    rw [← hll, List.take_length] at h5
    exact ⟨_, _, rfl, ⟨r1, l, rfl, rfl, hl9⟩, fun x hx => by
      rw [List.mem_singleton.1 hx]
      exact h5, hBW.trans S.toBelow⟩
end Go.Proofs.YtoiepgcjinccpaaDoor.X
/-
  The walk of Levels (tide).
-/
namespace Go.Proofs.YtoiepgcjinccpaaDoor.X
open Go Go.RowKit Go.Proofs.YtoiepgcjinccpaaDoor.Bs
set_option linter.unusedVariables false
/-- what Levels leaves. -/
def LvlV (n : Int) (v : Value) (new : List Held) : Prop := ∃ (r : SV) (l : List (Int × Int)) (e : Int), v = .tuple ⟨[svV r, .int .i64 e]⟩ ∧ new = [hList spanK r l] ∧ (e = 0 → n ≤ 400 ∧ SpsOk n.toNat 1000000000 l)
theorem someE_0 {a : Int} {n : Nat} (h : someE a n = 0) : n ≤ 400 ∧ (0 < n → 0 ≤ a ∧ a ≤ 200000) := by
  unfold someE at h
  by_cases h1 : outB n 0 400 = true
  · rw [if_pos h1] at h; omega
  rw [if_neg h1] at h
  have h1' := outB_f.1 (by simpa using h1)
  by_cases h2 : (n : Int) = 0
  · omega
  rw [if_neg h2] at h
  by_cases h3 : outB a 0 200000 = true
  · rw [if_pos h3] at h; omega
  have h3' := outB_f.1 (by simpa using h3)
  exact ⟨by omega, fun _ => h3'⟩
theorem TabAt.up {w w' : World} {r : SV} {cs : List ConI} (h : TabAt w (Lt w.heap.size) r cs) (hb : Below w.heap.size w w') : TabAt w' (Lt w'.heap.size) r cs := ⟨(h.ls.below hb).mono fun _ hj => Nat.lt_of_lt_of_le hj hb.size, h.nm⟩
set_option maxHeartbeats 16000000 in
theorem tdLevels_made {r : SV} {m t : Int} {cs : List ConI} {n : Nat} {w : World} (hr : TabAt w (Lt w.heap.size) r cs) :
    Calls Tryd.prog 47 #[.agg ⟨tabC r m⟩, .int .i64 t, .int .i64 (n : Nat)] w (Made w (LvlV n)) := by
  simp only [tabC]
  refine enter Tryd.func47 rfl Tryd.ntmps47 rfl ?_; simp only [frame, Nat.zero_add, Nat.reduceAdd]
  repeat (first | (refine M0 ?_; first | refine O0 ?_ | refine z1 tok rfl ?_ | refine O1 rfl ?_ rfl | refine O2 rfl ?_ | refine O3 rfl ?_ rfl | refine O4 rfl rfl rfl (fun _ _ => ?_) | refine O5 tok rfl rfl rfl (fun _ _ => ?_) | refine U0 _ (U2 rfl) rfl ?_ | refine U0 _ (U3 tok rfl rfl rfl rfl rfl) rfl ?_ | refine z3 tok rfl ?_ | refine U0 _ (U4 rfl rfl) rfl ?_ | refine U0 _ (U5 rfl rfl) rfl ?_) | (refine M1 ?_; first | refine J0 ?_ | refine J1 ?_ | refine J4 ?_ | refine J5 ?_ | refine J6 ?_ | refine J7 ?_ | refine J8 rfl ?_ | refine J9 rfl ?_) | (refine M2 ?_; first | refine I0 ?_ | refine I1 ?_ | refine I2 ?_ | refine I3 ?_ | refine I4 ?_ | refine I5 ?_ | refine I6 rfl ?_ | refine I7 ?_ | refine I8 ?_ | refine z4 ?_) | (refine M3 ?_; first | refine O6 ?_ | refine z2 tok rfl ?_ | refine O8 rfl ?_ | refine O7 rfl ?_ rfl | refine O9 rfl ?_ rfl | refine U1 _ (U4 rfl rfl) rfl ?_ | refine U1 _ (U5 rfl rfl) rfl ?_ | refine U1 _ (U2 rfl) rfl ?_ | refine U1 _ (U3 tok rfl rfl rfl rfl rfl) rfl ?_) | (refine M4 ?_; first | refine M6 ?_ | refine U6 rfl (by kernel_rfl) ?_ | refine U7 (by kernel_rfl) ?_) | (refine M5 ?_; first | exact M7 | refine U8 rfl ?_ | refine U9 rfl rfl ?_ ?_))
  rename_i g3 hg3
  refine XL.callF (ChkV m cs) (vs := [.agg ⟨tabC r m⟩]) (ck rfl) rfl rfl (Fam.start (ks := []) (Nat.le_refl w.heap.size)) (fun _ h => by cases h) (Below.refl w.heap.size w) (fun w1 S1 _ _ => tdCheck_made (hr.up S1.toBelow)) (fun w2 v new hR hF2 hB2 hk2 => ?_)
  obtain ⟨i, e, rfl, hok, rfl⟩ := hR
  repeat (first | (refine M0 ?_; first | refine O0 ?_ | refine z1 tok rfl ?_ | refine O1 rfl ?_ rfl | refine O2 rfl ?_ | refine O3 rfl ?_ rfl | refine O4 rfl rfl rfl (fun _ _ => ?_) | refine O5 tok rfl rfl rfl (fun _ _ => ?_) | refine U0 _ (U2 rfl) rfl ?_ | refine U0 _ (U3 tok rfl rfl rfl rfl rfl) rfl ?_ | refine z3 tok rfl ?_ | refine U0 _ (U4 rfl rfl) rfl ?_ | refine U0 _ (U5 rfl rfl) rfl ?_) | (refine M1 ?_; first | refine J0 ?_ | refine J1 ?_ | refine J4 ?_ | refine J5 ?_ | refine J6 ?_ | refine J7 ?_ | refine J8 rfl ?_ | refine J9 rfl ?_) | (refine M2 ?_; first | refine I0 ?_ | refine I1 ?_ | refine I2 ?_ | refine I3 ?_ | refine I4 ?_ | refine I5 ?_ | refine I6 rfl ?_ | refine I7 ?_ | refine I8 ?_ | refine z4 ?_) | (refine M3 ?_; first | refine O6 ?_ | refine z2 tok rfl ?_ | refine O8 rfl ?_ | refine O7 rfl ?_ rfl | refine O9 rfl ?_ rfl | refine U1 _ (U4 rfl rfl) rfl ?_ | refine U1 _ (U5 rfl rfl) rfl ?_ | refine U1 _ (U2 rfl) rfl ?_ | refine U1 _ (U3 tok rfl rfl rfl rfl rfl) rfl ?_) | (refine M4 ?_; first | refine M6 ?_ | refine U6 rfl (by kernel_rfl) ?_ | refine U7 (by kernel_rfl) ?_) | (refine M5 ?_; first | exact M7 | refine U8 rfl ?_ | refine U9 rfl rfl ?_ ?_))
  refine XC.cond _ rfl (fun h0 => ?_) (fun h0 => ?_)
  rotate_left
  · have he : e ≠ 0 := by simpa using h0
    repeat (first | (refine M0 ?_; first | refine O0 ?_ | refine z1 tok rfl ?_ | refine O1 rfl ?_ rfl | refine O2 rfl ?_ | refine O3 rfl ?_ rfl | refine O4 rfl rfl rfl (fun _ _ => ?_) | refine O5 tok rfl rfl rfl (fun _ _ => ?_) | refine U0 _ (U2 rfl) rfl ?_ | refine U0 _ (U3 tok rfl rfl rfl rfl rfl) rfl ?_ | refine z3 tok rfl ?_ | refine U0 _ (U4 rfl rfl) rfl ?_ | refine U0 _ (U5 rfl rfl) rfl ?_) | (refine M1 ?_; first | refine J0 ?_ | refine J1 ?_ | refine J4 ?_ | refine J5 ?_ | refine J6 ?_ | refine J7 ?_ | refine J8 rfl ?_ | refine J9 rfl ?_) | (refine M2 ?_; first | refine I0 ?_ | refine I1 ?_ | refine I2 ?_ | refine I3 ?_ | refine I4 ?_ | refine I5 ?_ | refine I6 rfl ?_ | refine I7 ?_ | refine I8 ?_ | refine z4 ?_) | (refine M3 ?_; first | refine O6 ?_ | refine z2 tok rfl ?_ | refine O8 rfl ?_ | refine O7 rfl ?_ rfl | refine O9 rfl ?_ rfl | refine U1 _ (U4 rfl rfl) rfl ?_ | refine U1 _ (U5 rfl rfl) rfl ?_ | refine U1 _ (U2 rfl) rfl ?_ | refine U1 _ (U3 tok rfl rfl rfl rfl rfl) rfl ?_) | (refine M4 ?_; first | refine M6 ?_ | refine U6 rfl (by kernel_rfl) ?_ | refine U7 (by kernel_rfl) ?_) | (refine M5 ?_; first | exact M7 | refine U8 rfl ?_ | refine U9 rfl rfl ?_ ?_))
    refine XC.cond _ rfl (fun h1 => ?_) (fun h1 => absurd (by simpa using h1) he)
    repeat (first | (refine M0 ?_; first | refine O0 ?_ | refine z1 tok rfl ?_ | refine O1 rfl ?_ rfl | refine O2 rfl ?_ | refine O3 rfl ?_ rfl | refine O4 rfl rfl rfl (fun _ _ => ?_) | refine O5 tok rfl rfl rfl (fun _ _ => ?_) | refine U0 _ (U2 rfl) rfl ?_ | refine U0 _ (U3 tok rfl rfl rfl rfl rfl) rfl ?_ | refine z3 tok rfl ?_ | refine U0 _ (U4 rfl rfl) rfl ?_ | refine U0 _ (U5 rfl rfl) rfl ?_) | (refine M1 ?_; first | refine J0 ?_ | refine J1 ?_ | refine J4 ?_ | refine J5 ?_ | refine J6 ?_ | refine J7 ?_ | refine J8 rfl ?_ | refine J9 rfl ?_) | (refine M2 ?_; first | refine I0 ?_ | refine I1 ?_ | refine I2 ?_ | refine I3 ?_ | refine I4 ?_ | refine I5 ?_ | refine I6 rfl ?_ | refine I7 ?_ | refine I8 ?_ | refine z4 ?_) | (refine M3 ?_; first | refine O6 ?_ | refine z2 tok rfl ?_ | refine O8 rfl ?_ | refine O7 rfl ?_ rfl | refine O9 rfl ?_ rfl | refine U1 _ (U4 rfl rfl) rfl ?_ | refine U1 _ (U5 rfl rfl) rfl ?_ | refine U1 _ (U2 rfl) rfl ?_ | refine U1 _ (U3 tok rfl rfl rfl rfl rfl) rfl ?_) | (refine M4 ?_; first | refine M6 ?_ | refine U6 rfl (by kernel_rfl) ?_ | refine U7 (by kernel_rfl) ?_) | (refine M5 ?_; first | exact M7 | refine U8 rfl ?_ | refine U9 rfl rfl ?_ ?_))
    refine XE.retg tok Tryd.results47 rfl (by simp only [and_self, and_true]) (fun w' S => ?_)
    exact ⟨_, _, rfl, ⟨⟨none, 0, 0⟩, [], e, rfl, rfl, fun h => absurd h he⟩, (fun x hx => by rw [List.mem_singleton.1 hx]; exact ListAt.nil), hB2.trans S.toBelow⟩
  have he : e = 0 := by simpa using h0
  subst he
  have hok := hok rfl
  repeat (first | (refine M0 ?_; first | refine O0 ?_ | refine z1 tok rfl ?_ | refine O1 rfl ?_ rfl | refine O2 rfl ?_ | refine O3 rfl ?_ rfl | refine U0 _ (Ev.call (f := 83) (ck rfl) rfl (fun w5 S5 => some_any t n w5)) rfl ?_ | refine O4 rfl rfl rfl (fun _ _ => ?_) | refine O5 tok rfl rfl rfl (fun _ _ => ?_) | refine U0 _ (U2 rfl) rfl ?_ | refine U0 _ (U3 tok rfl rfl rfl rfl rfl) rfl ?_ | refine z3 tok rfl ?_ | refine U0 _ (U4 rfl rfl) rfl ?_ | refine U0 _ (U5 rfl rfl) rfl ?_) | (refine M1 ?_; first | refine J0 ?_ | refine J1 ?_ | refine J4 ?_ | refine J5 ?_ | refine J6 ?_ | refine J7 ?_ | refine J8 rfl ?_ | refine J9 rfl ?_) | (refine M2 ?_; first | refine I0 ?_ | refine I1 ?_ | refine I2 ?_ | refine I3 ?_ | refine I4 ?_ | refine I5 ?_ | refine I6 rfl ?_ | refine I7 ?_ | refine I8 ?_ | refine z4 ?_) | (refine M3 ?_; first | refine O6 ?_ | refine z2 tok rfl ?_ | refine O8 rfl ?_ | refine O7 rfl ?_ rfl | refine O9 rfl ?_ rfl | refine U1 _ (Ev.call (f := 83) (ck rfl) rfl (fun w5 S5 => some_any t n w5)) rfl ?_ | refine U1 _ (U4 rfl rfl) rfl ?_ | refine U1 _ (U5 rfl rfl) rfl ?_ | refine U1 _ (U2 rfl) rfl ?_ | refine U1 _ (U3 tok rfl rfl rfl rfl rfl) rfl ?_) | (refine M4 ?_; first | refine M6 ?_ | refine U6 rfl (by kernel_rfl) ?_ | refine U7 (by kernel_rfl) ?_) | (refine M5 ?_; first | exact M7 | refine U8 rfl ?_ | refine U9 rfl rfl ?_ ?_))
  refine XC.cond _ rfl (fun h1 => ?_) (fun h1 => ?_)
  · have he : someE t n ≠ 0 := by simpa using h1
    repeat (first | (refine M0 ?_; first | refine O0 ?_ | refine z1 tok rfl ?_ | refine O1 rfl ?_ rfl | refine O2 rfl ?_ | refine O3 rfl ?_ rfl | refine O4 rfl rfl rfl (fun _ _ => ?_) | refine O5 tok rfl rfl rfl (fun _ _ => ?_) | refine U0 _ (U2 rfl) rfl ?_ | refine U0 _ (U3 tok rfl rfl rfl rfl rfl) rfl ?_ | refine z3 tok rfl ?_ | refine U0 _ (U4 rfl rfl) rfl ?_ | refine U0 _ (U5 rfl rfl) rfl ?_) | (refine M1 ?_; first | refine J0 ?_ | refine J1 ?_ | refine J4 ?_ | refine J5 ?_ | refine J6 ?_ | refine J7 ?_ | refine J8 rfl ?_ | refine J9 rfl ?_) | (refine M2 ?_; first | refine I0 ?_ | refine I1 ?_ | refine I2 ?_ | refine I3 ?_ | refine I4 ?_ | refine I5 ?_ | refine I6 rfl ?_ | refine I7 ?_ | refine I8 ?_ | refine z4 ?_) | (refine M3 ?_; first | refine O6 ?_ | refine z2 tok rfl ?_ | refine O8 rfl ?_ | refine O7 rfl ?_ rfl | refine O9 rfl ?_ rfl | refine U1 _ (U4 rfl rfl) rfl ?_ | refine U1 _ (U5 rfl rfl) rfl ?_ | refine U1 _ (U2 rfl) rfl ?_ | refine U1 _ (U3 tok rfl rfl rfl rfl rfl) rfl ?_) | (refine M4 ?_; first | refine M6 ?_ | refine U6 rfl (by kernel_rfl) ?_ | refine U7 (by kernel_rfl) ?_) | (refine M5 ?_; first | exact M7 | refine U8 rfl ?_ | refine U9 rfl rfl ?_ ?_))
    refine XE.retg tok Tryd.results47 rfl (by simp only [and_self, and_true]) (fun w' S => ?_)
    exact ⟨_, _, rfl, ⟨⟨none, 0, 0⟩, [], _, rfl, rfl, fun h => absurd h he⟩, (fun x hx => by rw [List.mem_singleton.1 hx]; exact ListAt.nil), hB2.trans S.toBelow⟩
  have he : someE t n = 0 := by simpa using h1
  obtain ⟨h4, h5⟩ := someE_0 he
  repeat (first | (refine M0 ?_; first | refine O0 ?_ | refine z1 tok rfl ?_ | refine O1 rfl ?_ rfl | refine O2 rfl ?_ | refine O3 rfl ?_ rfl | refine O4 rfl rfl rfl (fun _ _ => ?_) | refine O5 tok rfl rfl rfl (fun _ _ => ?_) | refine U0 _ (U2 rfl) rfl ?_ | refine U0 _ (U3 tok rfl rfl rfl rfl rfl) rfl ?_ | refine z3 tok rfl ?_ | refine U0 _ (U4 rfl rfl) rfl ?_ | refine U0 _ (U5 rfl rfl) rfl ?_) | (refine M1 ?_; first | refine J0 ?_ | refine J1 ?_ | refine J4 ?_ | refine J5 ?_ | refine J6 ?_ | refine J7 ?_ | refine J8 rfl ?_ | refine J9 rfl ?_) | (refine M2 ?_; first | refine I0 ?_ | refine I1 ?_ | refine I2 ?_ | refine I3 ?_ | refine I4 ?_ | refine I5 ?_ | refine I6 rfl ?_ | refine I7 ?_ | refine I8 ?_ | refine z4 ?_) | (refine M3 ?_; first | refine O6 ?_ | refine z2 tok rfl ?_ | refine O8 rfl ?_ | refine O7 rfl ?_ rfl | refine O9 rfl ?_ rfl | refine U1 _ (U4 rfl rfl) rfl ?_ | refine U1 _ (U5 rfl rfl) rfl ?_ | refine U1 _ (U2 rfl) rfl ?_ | refine U1 _ (U3 tok rfl rfl rfl rfl rfl) rfl ?_) | (refine M4 ?_; first | refine M6 ?_ | refine U6 rfl (by kernel_rfl) ?_ | refine U7 (by kernel_rfl) ?_) | (refine M5 ?_; first | exact M7 | refine U8 rfl ?_ | refine U9 rfl rfl ?_ ?_))
  refine XL.callF (LevV n) (vs := [.agg ⟨tabC r m⟩, .int .i64 t, .int .i64 (n : Nat)]) (ck rfl) rfl rfl hF2 hk2 hB2 (fun w1 S1 _ _ => levels_made (hr.up (hB2.trans S1.toBelow)) hok h4 h5) (fun w3 v new hR hF3 hB3 hk3 => ?_)
  obtain ⟨r1, l, rfl, rfl, hsp⟩ := hR
  repeat (first | (refine M0 ?_; first | refine O0 ?_ | refine z1 tok rfl ?_ | refine O1 rfl ?_ rfl | refine O2 rfl ?_ | refine O3 rfl ?_ rfl | refine O4 rfl rfl rfl (fun _ _ => ?_) | refine O5 tok rfl rfl rfl (fun _ _ => ?_) | refine U0 _ (U2 rfl) rfl ?_ | refine U0 _ (U3 tok rfl rfl rfl rfl rfl) rfl ?_ | refine z3 tok rfl ?_ | refine U0 _ (U4 rfl rfl) rfl ?_ | refine U0 _ (U5 rfl rfl) rfl ?_) | (refine M1 ?_; first | refine J0 ?_ | refine J1 ?_ | refine J4 ?_ | refine J5 ?_ | refine J6 ?_ | refine J7 ?_ | refine J8 rfl ?_ | refine J9 rfl ?_) | (refine M2 ?_; first | refine I0 ?_ | refine I1 ?_ | refine I2 ?_ | refine I3 ?_ | refine I4 ?_ | refine I5 ?_ | refine I6 rfl ?_ | refine I7 ?_ | refine I8 ?_ | refine z4 ?_) | (refine M3 ?_; first | refine O6 ?_ | refine z2 tok rfl ?_ | refine O8 rfl ?_ | refine O7 rfl ?_ rfl | refine O9 rfl ?_ rfl | refine U1 _ (U4 rfl rfl) rfl ?_ | refine U1 _ (U5 rfl rfl) rfl ?_ | refine U1 _ (U2 rfl) rfl ?_ | refine U1 _ (U3 tok rfl rfl rfl rfl rfl) rfl ?_) | (refine M4 ?_; first | refine M6 ?_ | refine U6 rfl (by kernel_rfl) ?_ | refine U7 (by kernel_rfl) ?_) | (refine M5 ?_; first | exact M7 | refine U8 rfl ?_ | refine U9 rfl rfl ?_ ?_))
  refine XE.retg tok Tryd.results47 rfl (by simp only [and_self, and_true]) (fun w' S => ?_)
  have hF6 := hF3.sys S (by intro e he; repeat (first | (cases he; done) | (rcases List.mem_cons.1 he with rfl | he; · first | (right; assumption) | (left; simp <;> fail))))
  exact ⟨_, _, rfl, ⟨r1, l, 0, rfl, rfl, fun _ => ⟨by omega, hsp⟩⟩, (fun x hx => by rw [List.mem_singleton.1 hx]; exact hF6.get (x := hList spanK r1 l) (.head _)), hB3.trans S.toBelow⟩
end Go.Proofs.YtoiepgcjinccpaaDoor.X
/-
  The law BasinTides.
-/
namespace Go.Proofs.YtoiepgcjinccpaaDoor.X
open Go Go.RowKit Go.Proofs.YtoiepgcjinccpaaDoor.Bs
set_option linter.unusedVariables false
def u8K : Kind Int := ⟨5, 1, fun k => [.int .u8 k], fun _ => [], fun _ => rfl⟩
/-- a sea. -/
structure Sea where
  m : Int
  cs : List ConI
  t : Int
  sg : Int
  sh : List Int
structure SeaV where
  r : SV
  q : SV
def seaC (y : SeaV) (a : Sea) : List Value := [.int .i64 a.m, .slice y.r.A y.r.n y.r.c, .int .i64 a.t, .int .u16 a.sg, .slice y.q.A y.q.n y.q.c]
def seaV (y : SeaV) (a : Sea) : Value := .agg ⟨seaC y a⟩
structure SeaAt (w : World) (ok : Nat → Prop) (y : SeaV) (a : Sea) : Prop where
  tab : TabAt w ok y.r a.cs
  shs : ListAt u8K w ok y.q a.sh
  sg : 0 ≤ a.sg ∧ a.sg ≤ 65535
  sh : ∀ x, x ∈ a.sh → 0 ≤ x ∧ x ≤ 255
theorem Fam.row_at {W : World} {b0 : Nat} {ks : List Nat} {rs : List RowX} {hs : List Held} {α : Type} {K : Kind α} {r : SV} {l : List α} (h : Fam W b0 ks rs hs) (hr : (⟨α, K, svV r, l⟩ : RowX) ∈ rs) : ListAt K W (Lt W.heap.size) r l := by
  obtain ⟨⟨A, n, c⟩, e, h1⟩ := h.list hr
  obtain ⟨A2, n2, c2⟩ := r
  cases e
  exact h1.mono fun k hk => hk.2
set_option maxHeartbeats 16000000 in
theorem BasinTides_any {y : SeaV} {a : Sea} {p : BV} {b : Bas} {x : CV} {c : Cas} {w : World} (hL : Laid w) (hy : SeaAt w (Lt w.heap.size) y a) (hb : BasAt w w.heap.size p b) (hc : CaseAt w (Lt w.heap.size) x c) :
    Calls Tryd.prog 16 #[seaV y a, basV p b, caseV x c] w fun e w' => e = .returned (.bool true) ∧ Below w.heap.size w w' := by
  obtain ⟨⟨Ar, nr, cr⟩, ⟨As, ns, csh⟩⟩ := y
  obtain ⟨m, cs, tf, sg, sh⟩ := a
  obtain ⟨⟨Aq, nq, cq⟩, ⟨A7, n7, c7⟩⟩ := x
  obtain ⟨s, ts, lim⟩ := c
  obtain ⟨hq, ht⟩ := hc
  obtain ⟨htab, hshs, hsg, hsh⟩ := hy
  simp only at hq ht htab hshs hsg hsh
  have hn7 := ht.len
  simp only at hn7
  subst hn7
  have hns := hshs.len (by decide)
  simp only at hns
  subst hns
  simp only [basV, basC, caseV, caseC, seaV, seaC]
  refine enter Tryd.func16 rfl Tryd.ntmps16 rfl ?_; simp only [frame, Nat.zero_add, Nat.reduceAdd]
  repeat (first | (refine M0 ?_; first | refine O0 ?_ | refine z1 tok rfl ?_ | refine O1 rfl ?_ rfl | refine O2 rfl ?_ | refine O3 rfl ?_ rfl | refine O4 rfl rfl rfl (fun _ _ => ?_) | refine O5 tok rfl rfl rfl (fun _ _ => ?_) | refine U0 _ (U2 rfl) rfl ?_ | refine U0 _ (U3 tok rfl rfl rfl rfl rfl) rfl ?_ | refine z3 tok rfl ?_ | refine U0 _ (U4 rfl rfl) rfl ?_ | refine U0 _ (U5 rfl rfl) rfl ?_) | (refine M1 ?_; first | refine J0 ?_ | refine J1 ?_ | refine J4 ?_ | refine J5 ?_ | refine J6 ?_ | refine J7 ?_ | refine J8 rfl ?_ | refine J9 rfl ?_) | (refine M2 ?_; first | refine I0 ?_ | refine I1 ?_ | refine I2 ?_ | refine I3 ?_ | refine I4 ?_ | refine I5 ?_ | refine I6 rfl ?_ | refine I7 ?_ | refine I8 ?_ | refine z4 ?_) | (refine M3 ?_; first | refine O6 ?_ | refine z2 tok rfl ?_ | refine O8 rfl ?_ | refine O7 rfl ?_ rfl | refine O9 rfl ?_ rfl | refine U1 _ (U4 rfl rfl) rfl ?_ | refine U1 _ (U5 rfl rfl) rfl ?_ | refine U1 _ (U2 rfl) rfl ?_ | refine U1 _ (U3 tok rfl rfl rfl rfl rfl) rfl ?_) | (refine M4 ?_; first | refine M6 ?_ | refine U6 rfl (by kernel_rfl) ?_ | refine U7 (by kernel_rfl) ?_) | (refine M5 ?_; first | exact M7 | refine U8 rfl ?_ | refine U9 rfl rfl ?_ ?_))
  rename_i g3 hg3 g4 hg4 g5 hg5
  refine XL.callF (LvlV (ts.length : Nat)) (vs := [.agg ⟨tabC ⟨Ar, nr, cr⟩ m⟩, .int .i64 tf, .int .i64 (ts.length : Nat)]) (ck rfl) rfl rfl (Fam.start (ks := []) (Nat.le_refl w.heap.size)) (fun _ h => by cases h) (Below.refl w.heap.size w) (fun w1 S1 _ _ => tdLevels_made (htab.up S1.toBelow)) (fun w2 v new hR hF2 hB2 hk2 => ?_)
  obtain ⟨⟨Al, nl, cl⟩, l, e, rfl, rfl, hlv⟩ := hR
  simp only [svV]
  repeat (first | (refine M0 ?_; first | refine O0 ?_ | refine z1 tok rfl ?_ | refine O1 rfl ?_ rfl | refine O2 rfl ?_ | refine O3 rfl ?_ rfl | refine O4 rfl rfl rfl (fun _ _ => ?_) | refine O5 tok rfl rfl rfl (fun _ _ => ?_) | refine U0 _ (U2 rfl) rfl ?_ | refine U0 _ (U3 tok rfl rfl rfl rfl rfl) rfl ?_ | refine z3 tok rfl ?_ | refine U0 _ (U4 rfl rfl) rfl ?_ | refine U0 _ (U5 rfl rfl) rfl ?_) | (refine M1 ?_; first | refine J0 ?_ | refine J1 ?_ | refine J4 ?_ | refine J5 ?_ | refine J6 ?_ | refine J7 ?_ | refine J8 rfl ?_ | refine J9 rfl ?_) | (refine M2 ?_; first | refine I0 ?_ | refine I1 ?_ | refine I2 ?_ | refine I3 ?_ | refine I4 ?_ | refine I5 ?_ | refine I6 rfl ?_ | refine I7 ?_ | refine I8 ?_ | refine z4 ?_) | (refine M3 ?_; first | refine O6 ?_ | refine z2 tok rfl ?_ | refine O8 rfl ?_ | refine O7 rfl ?_ rfl | refine O9 rfl ?_ rfl | refine U1 _ (U4 rfl rfl) rfl ?_ | refine U1 _ (U5 rfl rfl) rfl ?_ | refine U1 _ (U2 rfl) rfl ?_ | refine U1 _ (U3 tok rfl rfl rfl rfl rfl) rfl ?_) | (refine M4 ?_; first | refine M6 ?_ | refine U6 rfl (by kernel_rfl) ?_ | refine U7 (by kernel_rfl) ?_) | (refine M5 ?_; first | exact M7 | refine U8 rfl ?_ | refine U9 rfl rfl ?_ ?_))
  refine XL.split _ _ rfl (fun h0 => ?_) (fun h0 => ?_) <;> rw [h0]
  · repeat (first | (refine M0 ?_; first | refine O0 ?_ | refine z1 tok rfl ?_ | refine O1 rfl ?_ rfl | refine O2 rfl ?_ | refine O3 rfl ?_ rfl | refine U0 _ (Ev.call (f := 23) (ck rfl) rfl (fun w S => (Awake_any (hL.below (hB2.trans S.toBelow)) :))) rfl ?_ | refine O4 rfl rfl rfl (fun _ _ => ?_) | refine O5 tok rfl rfl rfl (fun _ _ => ?_) | refine U0 _ (U2 rfl) rfl ?_ | refine U0 _ (U3 tok rfl rfl rfl rfl rfl) rfl ?_ | refine z3 tok rfl ?_ | refine U0 _ (U4 rfl rfl) rfl ?_ | refine U0 _ (U5 rfl rfl) rfl ?_) | (refine M1 ?_; first | refine J0 ?_ | refine J1 ?_ | refine J4 ?_ | refine J5 ?_ | refine J6 ?_ | refine J7 ?_ | refine J8 rfl ?_ | refine J9 rfl ?_) | (refine M2 ?_; first | refine I0 ?_ | refine I1 ?_ | refine I2 ?_ | refine I3 ?_ | refine I4 ?_ | refine I5 ?_ | refine I6 rfl ?_ | refine I7 ?_ | refine I8 ?_ | refine z4 ?_) | (refine M3 ?_; first | refine O6 ?_ | refine z2 tok rfl ?_ | refine O8 rfl ?_ | refine O7 rfl ?_ rfl | refine O9 rfl ?_ rfl | refine U1 _ (Ev.call (f := 23) (ck rfl) rfl (fun w S => (Awake_any (hL.below (hB2.trans S.toBelow)) :))) rfl ?_ | refine U1 _ (U4 rfl rfl) rfl ?_ | refine U1 _ (U5 rfl rfl) rfl ?_ | refine U1 _ (U2 rfl) rfl ?_ | refine U1 _ (U3 tok rfl rfl rfl rfl rfl) rfl ?_) | (refine M4 ?_; first | refine M6 ?_ | refine U6 rfl (by kernel_rfl) ?_ | refine U7 (by kernel_rfl) ?_) | (refine M5 ?_; first | exact M7 | refine U8 rfl ?_ | refine U9 rfl rfl ?_ ?_))
    refine XE.retg tok Tryd.results16 rfl (by simp only [and_self, and_true]) (fun w' S => ?_)
    exact ⟨rfl, hB2.trans S.toBelow⟩
  have he : e = 0 := by simpa using h0
  obtain ⟨h400, hsp⟩ := hlv he
  subst he
  repeat (first | (refine M0 ?_; first | refine O0 ?_ | refine z1 tok rfl ?_ | refine O1 rfl ?_ rfl | refine O2 rfl ?_ | refine O3 rfl ?_ rfl | refine O4 rfl rfl rfl (fun _ _ => ?_) | refine O5 tok rfl rfl rfl (fun _ _ => ?_) | refine U0 _ (U2 rfl) rfl ?_ | refine U0 _ (U3 tok rfl rfl rfl rfl rfl) rfl ?_ | refine z3 tok rfl ?_ | refine U0 _ (U4 rfl rfl) rfl ?_ | refine U0 _ (U5 rfl rfl) rfl ?_) | (refine M1 ?_; first | refine J0 ?_ | refine J1 ?_ | refine J4 ?_ | refine J5 ?_ | refine J6 ?_ | refine J7 ?_ | refine J8 rfl ?_ | refine J9 rfl ?_) | (refine M2 ?_; first | refine I0 ?_ | refine I1 ?_ | refine I2 ?_ | refine I3 ?_ | refine I4 ?_ | refine I5 ?_ | refine I6 rfl ?_ | refine I7 ?_ | refine I8 ?_ | refine z4 ?_) | (refine M3 ?_; first | refine O6 ?_ | refine z2 tok rfl ?_ | refine O8 rfl ?_ | refine O7 rfl ?_ rfl | refine O9 rfl ?_ rfl | refine U1 _ (U4 rfl rfl) rfl ?_ | refine U1 _ (U5 rfl rfl) rfl ?_ | refine U1 _ (U2 rfl) rfl ?_ | refine U1 _ (U3 tok rfl rfl rfl rfl rfl) rfl ?_) | (refine M4 ?_; first | refine M6 ?_ | refine U6 rfl (by kernel_rfl) ?_ | refine U7 (by kernel_rfl) ?_) | (refine M5 ?_; first | exact M7 | refine U8 rfl ?_ | refine U9 rfl rfl ?_ ?_))
  refine XL.split _ _ rfl (fun h0 => ?_) (fun h0 => ?_) <;> rw [h0]
  · repeat (first | (refine M0 ?_; first | refine O0 ?_ | refine z1 tok rfl ?_ | refine O1 rfl ?_ rfl | refine O2 rfl ?_ | refine O3 rfl ?_ rfl | refine U0 _ (Ev.call (f := 23) (ck rfl) rfl (fun w S => (Awake_any (hL.below (hB2.trans S.toBelow)) :))) rfl ?_ | refine O4 rfl rfl rfl (fun _ _ => ?_) | refine O5 tok rfl rfl rfl (fun _ _ => ?_) | refine U0 _ (U2 rfl) rfl ?_ | refine U0 _ (U3 tok rfl rfl rfl rfl rfl) rfl ?_ | refine z3 tok rfl ?_ | refine U0 _ (U4 rfl rfl) rfl ?_ | refine U0 _ (U5 rfl rfl) rfl ?_) | (refine M1 ?_; first | refine J0 ?_ | refine J1 ?_ | refine J4 ?_ | refine J5 ?_ | refine J6 ?_ | refine J7 ?_ | refine J8 rfl ?_ | refine J9 rfl ?_) | (refine M2 ?_; first | refine I0 ?_ | refine I1 ?_ | refine I2 ?_ | refine I3 ?_ | refine I4 ?_ | refine I5 ?_ | refine I6 rfl ?_ | refine I7 ?_ | refine I8 ?_ | refine z4 ?_) | (refine M3 ?_; first | refine O6 ?_ | refine z2 tok rfl ?_ | refine O8 rfl ?_ | refine O7 rfl ?_ rfl | refine O9 rfl ?_ rfl | refine U1 _ (Ev.call (f := 23) (ck rfl) rfl (fun w S => (Awake_any (hL.below (hB2.trans S.toBelow)) :))) rfl ?_ | refine U1 _ (U4 rfl rfl) rfl ?_ | refine U1 _ (U5 rfl rfl) rfl ?_ | refine U1 _ (U2 rfl) rfl ?_ | refine U1 _ (U3 tok rfl rfl rfl rfl rfl) rfl ?_) | (refine M4 ?_; first | refine M6 ?_ | refine U6 rfl (by kernel_rfl) ?_ | refine U7 (by kernel_rfl) ?_) | (refine M5 ?_; first | exact M7 | refine U8 rfl ?_ | refine U9 rfl rfl ?_ ?_))
    refine XE.retg tok Tryd.results16 rfl (by simp only [and_self, and_true]) (fun w' S => ?_)
    exact ⟨rfl, hB2.trans S.toBelow⟩
  have h60 : ts.length ≤ 60 := by have : ¬ ((60 : Int) < ts.length) := by simpa using h0
                                  omega
  have hnl : nl = l.length := ((hF2.held (hList spanK ⟨Al, nl, cl⟩ l) (.head _) : ListAt spanK _ _ _ _)).len (by decide)
  have hll := hsp.len
  simp only [Int.toNat_natCast] at hll
  subst hnl
  repeat (first | (refine M0 ?_; first | refine O0 ?_ | refine z1 tok rfl ?_ | refine O1 rfl ?_ rfl | refine O2 rfl ?_ | refine O3 rfl ?_ rfl | refine O4 rfl rfl rfl (fun _ _ => ?_) | refine O5 tok rfl rfl rfl (fun _ _ => ?_) | refine U0 _ (U2 rfl) rfl ?_ | refine U0 _ (U3 tok rfl rfl rfl rfl rfl) rfl ?_ | refine z3 tok rfl ?_ | refine U0 _ (U4 rfl rfl) rfl ?_ | refine U0 _ (U5 rfl rfl) rfl ?_) | (refine M1 ?_; first | refine J0 ?_ | refine J1 ?_ | refine J4 ?_ | refine J5 ?_ | refine J6 ?_ | refine J7 ?_ | refine J8 rfl ?_ | refine J9 rfl ?_) | (refine M2 ?_; first | refine I0 ?_ | refine I1 ?_ | refine I2 ?_ | refine I3 ?_ | refine I4 ?_ | refine I5 ?_ | refine I6 rfl ?_ | refine I7 ?_ | refine I8 ?_ | refine z4 ?_) | (refine M3 ?_; first | refine O6 ?_ | refine z2 tok rfl ?_ | refine O8 rfl ?_ | refine O7 rfl ?_ rfl | refine O9 rfl ?_ rfl | refine U1 _ (U4 rfl rfl) rfl ?_ | refine U1 _ (U5 rfl rfl) rfl ?_ | refine U1 _ (U2 rfl) rfl ?_ | refine U1 _ (U3 tok rfl rfl rfl rfl rfl) rfl ?_) | (refine M4 ?_; first | refine M6 ?_ | refine U6 rfl (by kernel_rfl) ?_ | refine U7 (by kernel_rfl) ?_) | (refine M5 ?_; first | exact M7 | refine U8 rfl ?_ | refine U9 rfl rfl ?_ ?_))
  refine XC.cond _ rfl (fun h1 => ?_) (fun h1 => ?_)
  · repeat (first | (refine M0 ?_; first | refine O0 ?_ | refine z1 tok rfl ?_ | refine O1 rfl ?_ rfl | refine O2 rfl ?_ | refine O3 rfl ?_ rfl | refine U0 _ (Ev.call (f := 23) (ck rfl) rfl (fun w S => (Awake_any (hL.below (hB2.trans S.toBelow)) :))) rfl ?_ | refine O4 rfl rfl rfl (fun _ _ => ?_) | refine O5 tok rfl rfl rfl (fun _ _ => ?_) | refine U0 _ (U2 rfl) rfl ?_ | refine U0 _ (U3 tok rfl rfl rfl rfl rfl) rfl ?_ | refine z3 tok rfl ?_ | refine U0 _ (U4 rfl rfl) rfl ?_ | refine U0 _ (U5 rfl rfl) rfl ?_) | (refine M1 ?_; first | refine J0 ?_ | refine J1 ?_ | refine J4 ?_ | refine J5 ?_ | refine J6 ?_ | refine J7 ?_ | refine J8 rfl ?_ | refine J9 rfl ?_) | (refine M2 ?_; first | refine I0 ?_ | refine I1 ?_ | refine I2 ?_ | refine I3 ?_ | refine I4 ?_ | refine I5 ?_ | refine I6 rfl ?_ | refine I7 ?_ | refine I8 ?_ | refine z4 ?_) | (refine M3 ?_; first | refine O6 ?_ | refine z2 tok rfl ?_ | refine O8 rfl ?_ | refine O7 rfl ?_ rfl | refine O9 rfl ?_ rfl | refine U1 _ (Ev.call (f := 23) (ck rfl) rfl (fun w S => (Awake_any (hL.below (hB2.trans S.toBelow)) :))) rfl ?_ | refine U1 _ (U4 rfl rfl) rfl ?_ | refine U1 _ (U5 rfl rfl) rfl ?_ | refine U1 _ (U2 rfl) rfl ?_ | refine U1 _ (U3 tok rfl rfl rfl rfl rfl) rfl ?_) | (refine M4 ?_; first | refine M6 ?_ | refine U6 rfl (by kernel_rfl) ?_ | refine U7 (by kernel_rfl) ?_) | (refine M5 ?_; first | exact M7 | refine U8 rfl ?_ | refine U9 rfl rfl ?_ ?_))
    refine XE.retg tok Tryd.results16 rfl (by simp only [and_self, and_true]) (fun w' S => ?_)
    exact ⟨rfl, hB2.trans S.toBelow⟩
  have hln : l.length = ts.length := hll
  repeat (first | (refine M0 ?_; first | refine O0 ?_ | refine z1 tok rfl ?_ | refine O1 rfl ?_ rfl | refine O2 rfl ?_ | refine O3 rfl ?_ rfl | refine O4 rfl rfl rfl (fun _ _ => ?_) | refine O5 tok rfl rfl rfl (fun _ _ => ?_) | refine U0 _ (U2 rfl) rfl ?_ | refine U0 _ (U3 tok rfl rfl rfl rfl rfl) rfl ?_ | refine z3 tok rfl ?_ | refine U0 _ (U4 rfl rfl) rfl ?_ | refine U0 _ (U5 rfl rfl) rfl ?_) | (refine M1 ?_; first | refine J0 ?_ | refine J1 ?_ | refine J4 ?_ | refine J5 ?_ | refine J6 ?_ | refine J7 ?_ | refine J8 rfl ?_ | refine J9 rfl ?_) | (refine M2 ?_; first | refine I0 ?_ | refine I1 ?_ | refine I2 ?_ | refine I3 ?_ | refine I4 ?_ | refine I5 ?_ | refine I6 rfl ?_ | refine I7 ?_ | refine I8 ?_ | refine z4 ?_) | (refine M3 ?_; first | refine O6 ?_ | refine z2 tok rfl ?_ | refine O8 rfl ?_ | refine O7 rfl ?_ rfl | refine O9 rfl ?_ rfl | refine U1 _ (U4 rfl rfl) rfl ?_ | refine U1 _ (U5 rfl rfl) rfl ?_ | refine U1 _ (U2 rfl) rfl ?_ | refine U1 _ (U3 tok rfl rfl rfl rfl rfl) rfl ?_) | (refine M4 ?_; first | refine M6 ?_ | refine U6 rfl (by kernel_rfl) ?_ | refine U7 (by kernel_rfl) ?_) | (refine M5 ?_; first | exact M7 | refine U8 rfl ?_ | refine U9 rfl rfl ?_ ?_))
  have hFs : Fam w2 w.heap.size [g5, g4, g3] [] [hList spanK ⟨Al, l.length, cl⟩ l] := hF2
  have hks2 : ∀ k, k ∈ [g5, g4, g3] → k < w2.heap.size := hk2
  refine XC.loopk [3, 4, 5, 7, 8] rfl (fun s : Nat × World × Value × Value × Value => [(10, s.2.2.1), (11, s.2.2.2.1), (12, s.2.2.2.2), (13, .int .i64 (s.1 : Nat))]) (fun _ => [(g5, _), (g4, _), (g3, _)]) (fun s => s.2.1)
    (fun s => s.1 ≤ ts.length ∧ Fam s.2.1 w.heap.size [g5, g4, g3] [⟨Tick, tickK, s.2.2.1, tiL (hiT l sg ts) s.1⟩, ⟨Tick, tickK, s.2.2.2.1, tiL (loT l ts) s.1⟩, ⟨Tick, tickK, s.2.2.2.2, tiL (atT l sg sh ts) s.1⟩] [hList spanK ⟨Al, l.length, cl⟩ l] ∧ Below w.heap.size w s.2.1 ∧ (∀ k, k ∈ [g5, g4, g3] → k < s.2.1.heap.size) ∧ ∀ j, j < s.1 → -20000 ≤ (loT l ts j).outer ∧ (hiT l sg ts j).outer ≤ 20000)
    (fun s => ts.length - s.1) (0, w2, .slice none 0 0, .slice none 0 0, .slice none 0 0) ⟨Nat.zero_le _, ((hFs.nil tickK).nil tickK).nil tickK, hB2, hks2, fun j hj => absurd hj (by simp)⟩ (by repeat (first | exact Sub.nil | refine Sub.cons rfl ?_)) (fun _ h => h) ?_
  rintro ⟨k, W, v1, v2, v3⟩ ⟨hk, hF, hBW, hks, hbd⟩
  simp only at hk hF hBW hks hbd
  clear hF2 hk2 hFs hks2
  dsimp only [List.cons_append, List.nil_append]
  repeat (first | (refine M0 ?_; first | refine O0 ?_ | refine z1 tok rfl ?_ | refine O1 rfl ?_ rfl | refine O2 rfl ?_ | refine O3 rfl ?_ rfl | refine O4 rfl rfl rfl (fun _ _ => ?_) | refine O5 tok rfl rfl rfl (fun _ _ => ?_) | refine U0 _ (U2 rfl) rfl ?_ | refine U0 _ (U3 tok rfl rfl rfl rfl rfl) rfl ?_ | refine z3 tok rfl ?_ | refine U0 _ (U4 rfl rfl) rfl ?_ | refine U0 _ (U5 rfl rfl) rfl ?_) | (refine M1 ?_; first | refine J0 ?_ | refine J1 ?_ | refine J4 ?_ | refine J5 ?_ | refine J6 ?_ | refine J7 ?_ | refine J8 rfl ?_ | refine J9 rfl ?_) | (refine M2 ?_; first | refine I0 ?_ | refine I1 ?_ | refine I2 ?_ | refine I3 ?_ | refine I4 ?_ | refine I5 ?_ | refine I6 rfl ?_ | refine I7 ?_ | refine I8 ?_ | refine z4 ?_) | (refine M3 ?_; first | refine O6 ?_ | refine z2 tok rfl ?_ | refine O8 rfl ?_ | refine O7 rfl ?_ rfl | refine O9 rfl ?_ rfl | refine U1 _ (U4 rfl rfl) rfl ?_ | refine U1 _ (U5 rfl rfl) rfl ?_ | refine U1 _ (U2 rfl) rfl ?_ | refine U1 _ (U3 tok rfl rfl rfl rfl rfl) rfl ?_) | (refine M4 ?_; first | refine M6 ?_ | refine U6 rfl (by kernel_rfl) ?_ | refine U7 (by kernel_rfl) ?_) | (refine M5 ?_; first | exact M7 | refine U8 rfl ?_ | refine U9 rfl rfl ?_ ?_))
  refine XC.cond _ rfl (fun h1 => ?_) (fun h1 => ?_)
  · have hkn : k < ts.length := by simpa using h1
    obtain ⟨ad, rfl, hlt, _⟩ := ht.rd.at_ (by simp only; omega)
    have hcell := (ht.below hBW).tick hkn
    have hls : ListAt spanK W (Free W w.heap.size [g5, g4, g3] _) ⟨Al, l.length, cl⟩ l := hF.held (hList spanK ⟨Al, l.length, cl⟩ l) (.head _)
    obtain ⟨al, rfl, hfl⟩ := ListAt.addr hls (by decide) (by omega)
    have hkl : k < l.length := by omega
    have hlk : l[k]? = some l[k] := List.getElem?_eq_getElem hkl
    have hc0 := ListAt.elem hls hlk 0 (.int .i64 l[k].1) rfl
    have hc1 := ListAt.elem hls hlk 1 (.int .i64 l[k].2) rfl
    have hspk := hsp.ok k hkl
    have hatb := atO_bd (sg := sg) (sh := sh) hkl hspk.1 hsg.1 (fun i hi => by unfold at0; rw [List.getElem?_eq_getElem hi]; exact hsh _ (List.getElem_mem hi))
    obtain ⟨t, htk⟩ : ∃ t, t = tk ts k := ⟨_, rfl⟩
    have eh : hiT l sg ts k = ⟨l[k].2 + sg, t.river, t.out⟩ := by unfold hiT; rw [hlk, htk]; rfl
    have el : loT l ts k = ⟨l[k].1, t.river, t.out⟩ := by unfold loT; rw [hlk, htk]; rfl
    have ea : atT l sg sh ts k = ⟨atO l sg sh k, t.river, t.out⟩ := by unfold atT; rw [htk]
    have eo : atO l sg sh k = if k < sh.length then l[k].1 + ((l[k].2 + sg - l[k].1) * at0 sh k).tdiv 255 else l[k].1 := by unfold atO; rw [hlk]; rfl
    rw [← htk] at hcell
    have hwsg : IntKind.i64.wrap sg = sg := wrap_in (by unfold i64in; omega)
    repeat (first | (refine M0 ?_; first | refine O0 ?_ | refine z1 tok rfl ?_ | refine O1 rfl ?_ rfl | refine O2 rfl ?_ | refine O3 rfl ?_ rfl | refine U0 _ (Ev.load_old_agg tok (tickC t) rfl rfl rfl (add_lt hlt) hcell) rfl ?_ | refine O4 rfl rfl rfl (fun _ _ => ?_) | refine O5 tok rfl rfl rfl (fun _ _ => ?_) | refine U0 _ (U2 rfl) rfl ?_ | refine U0 _ (U3 tok rfl rfl rfl rfl rfl) rfl ?_ | refine z3 tok rfl ?_ | refine U0 _ (U4 rfl rfl) rfl ?_ | refine U0 _ (U5 rfl rfl) rfl ?_) | (refine M1 ?_; first | refine J0 ?_ | refine J1 ?_ | refine J2 mixed rfl (by kernel_rfl) ?_ | refine J3 mixed rfl rfl (by kernel_rfl) ?_ | refine J4 ?_ | refine J5 ?_ | refine J6 ?_ | refine J7 ?_ | refine J8 rfl ?_ | refine J9 rfl ?_) | (refine M2 ?_; first | refine I0 ?_ | refine I1 ?_ | refine I2 ?_ | refine I3 ?_ | refine I4 ?_ | refine I5 ?_ | refine I6 rfl ?_ | refine I7 ?_ | refine I8 ?_ | refine z4 ?_) | (refine M3 ?_; first | refine O6 ?_ | refine z2 tok rfl ?_ | refine O8 rfl ?_ | refine O7 rfl ?_ rfl | refine O9 rfl ?_ rfl | refine U1 _ (Ev.load_old_agg tok (tickC t) rfl rfl rfl (add_lt hlt) hcell) rfl ?_ | refine U1 _ (U4 rfl rfl) rfl ?_ | refine U1 _ (U5 rfl rfl) rfl ?_ | refine U1 _ (U2 rfl) rfl ?_ | refine U1 _ (U3 tok rfl rfl rfl rfl rfl) rfl ?_) | (refine M4 ?_; first | refine M6 ?_ | refine U6 rfl (by kernel_rfl) ?_ | refine U7 (by kernel_rfl) ?_) | (refine M5 ?_; first | exact M7 | refine U8 rfl ?_ | refine U9 rfl rfl ?_ ?_))
    rename_i g14 hg14
    have hne : ∀ g, g ∈ [g14, g5, g4, g3] → g ≠ al.block := fun g hg e1 => by
      rcases List.mem_cons.1 hg with rfl | hg
      · have := hfl.2.1; omega
      · exact hfl.2.2.1 (e1 ▸ hg)
    repeat (first | (refine M0 ?_; first | refine O0 ?_ | refine z1 tok rfl ?_ | refine O1 rfl ?_ rfl | refine O2 rfl ?_ | refine O3 rfl ?_ rfl | refine U0 _ (Ev.load_far tok rfl rfl (add_lt2 hfl.2.1) (fun e he => by rw [add_block, add_block]; exact hne e.1 (List.mem_map_of_mem he)) hc0) rfl ?_ | refine U0 _ (Ev.load_far tok rfl rfl (add_lt2 hfl.2.1) (fun e he => by rw [add_block, add_block]; exact hne e.1 (List.mem_map_of_mem he)) hc1) rfl ?_ | refine U0 _ (Ev.conv Tryd.underlying50 Tryd.underlying3 rfl hwsg) rfl ?_ | refine O4 rfl rfl rfl (fun _ _ => ?_) | refine O5 tok rfl rfl rfl (fun _ _ => ?_) | refine U0 _ (U2 rfl) rfl ?_ | refine U0 _ (U3 tok rfl rfl rfl rfl rfl) rfl ?_ | refine z3 tok rfl ?_ | refine U0 _ (U4 rfl rfl) rfl ?_ | refine U0 _ (U5 rfl rfl) rfl ?_) | (refine M1 ?_; first | refine J0 ?_ | refine J1 ?_ | refine J2 mixed rfl (by kernel_rfl) ?_ | refine J3 mixed rfl rfl (by kernel_rfl) ?_ | refine J4 ?_ | refine J5 ?_ | refine J6 ?_ | refine J7 ?_ | refine J8 rfl ?_ | refine J9 rfl ?_) | (refine M2 ?_; first | refine I0 ?_ | refine I1 ?_ | refine I2 ?_ | refine I3 ?_ | refine I4 ?_ | refine I5 ?_ | refine I6 rfl ?_ | refine I7 ?_ | refine I8 ?_ | refine z4 ?_) | (refine M3 ?_; first | refine O6 ?_ | refine z2 tok rfl ?_ | refine O8 rfl ?_ | refine O7 rfl ?_ rfl | refine O9 rfl ?_ rfl | refine U1 _ (Ev.load_far tok rfl rfl (add_lt2 hfl.2.1) (fun e he => by rw [add_block, add_block]; exact hne e.1 (List.mem_map_of_mem he)) hc0) rfl ?_ | refine U1 _ (Ev.load_far tok rfl rfl (add_lt2 hfl.2.1) (fun e he => by rw [add_block, add_block]; exact hne e.1 (List.mem_map_of_mem he)) hc1) rfl ?_ | refine U1 _ (Ev.conv Tryd.underlying50 Tryd.underlying3 rfl hwsg) rfl ?_ | refine U1 _ (U4 rfl rfl) rfl ?_ | refine U1 _ (U5 rfl rfl) rfl ?_ | refine U1 _ (U2 rfl) rfl ?_ | refine U1 _ (U3 tok rfl rfl rfl rfl rfl) rfl ?_) | (refine M4 ?_; first | refine M6 ?_ | refine U6 rfl (by kernel_rfl) ?_ | refine U7 (by kernel_rfl) ?_) | (refine M5 ?_; first | exact M7 | refine U8 rfl ?_ | refine U9 rfl rfl ?_ ?_))
    refine XL.split _ _ rfl (fun h2 => ?_) (fun h2 => ?_) <;> rw [h2]
    · repeat (first | (refine M0 ?_; first | refine O0 ?_ | refine z1 tok rfl ?_ | refine O1 rfl ?_ rfl | refine O2 rfl ?_ | refine O3 rfl ?_ rfl | refine U0 _ (Ev.call (f := 23) (ck rfl) rfl (fun w S => (Awake_any (hL.below (hBW.trans S.toBelow)) :))) rfl ?_ | refine O4 rfl rfl rfl (fun _ _ => ?_) | refine O5 tok rfl rfl rfl (fun _ _ => ?_) | refine U0 _ (U2 rfl) rfl ?_ | refine U0 _ (U3 tok rfl rfl rfl rfl rfl) rfl ?_ | refine z3 tok rfl ?_ | refine U0 _ (U4 rfl rfl) rfl ?_ | refine U0 _ (U5 rfl rfl) rfl ?_) | (refine M1 ?_; first | refine J0 ?_ | refine J1 ?_ | refine J4 ?_ | refine J5 ?_ | refine J6 ?_ | refine J7 ?_ | refine J8 rfl ?_ | refine J9 rfl ?_) | (refine M2 ?_; first | refine I0 ?_ | refine I1 ?_ | refine I2 ?_ | refine I3 ?_ | refine I4 ?_ | refine I5 ?_ | refine I6 rfl ?_ | refine I7 ?_ | refine I8 ?_ | refine z4 ?_) | (refine M3 ?_; first | refine O6 ?_ | refine z2 tok rfl ?_ | refine O8 rfl ?_ | refine O7 rfl ?_ rfl | refine O9 rfl ?_ rfl | refine U1 _ (Ev.call (f := 23) (ck rfl) rfl (fun w S => (Awake_any (hL.below (hBW.trans S.toBelow)) :))) rfl ?_ | refine U1 _ (U4 rfl rfl) rfl ?_ | refine U1 _ (U5 rfl rfl) rfl ?_ | refine U1 _ (U2 rfl) rfl ?_ | refine U1 _ (U3 tok rfl rfl rfl rfl rfl) rfl ?_) | (refine M4 ?_; first | refine M6 ?_ | refine U6 rfl (by kernel_rfl) ?_ | refine U7 (by kernel_rfl) ?_) | (refine M5 ?_; first | exact M7 | refine U8 rfl ?_ | refine U9 rfl rfl ?_ ?_))
      refine XE.retg tok Tryd.results16 rfl (by simp only [and_self, and_true]) (fun w' S => ?_)
      exact ⟨rfl, hBW.trans S.toBelow⟩
    repeat (first | (refine M0 ?_; first | refine O0 ?_ | refine z1 tok rfl ?_ | refine O1 rfl ?_ rfl | refine O2 rfl ?_ | refine O3 rfl ?_ rfl | refine O4 rfl rfl rfl (fun _ _ => ?_) | refine O5 tok rfl rfl rfl (fun _ _ => ?_) | refine U0 _ (U2 rfl) rfl ?_ | refine U0 _ (U3 tok rfl rfl rfl rfl rfl) rfl ?_ | refine z3 tok rfl ?_ | refine U0 _ (U4 rfl rfl) rfl ?_ | refine U0 _ (U5 rfl rfl) rfl ?_) | (refine M1 ?_; first | refine J0 ?_ | refine J1 ?_ | refine J4 ?_ | refine J5 ?_ | refine J6 ?_ | refine J7 ?_ | refine J8 rfl ?_ | refine J9 rfl ?_) | (refine M2 ?_; first | refine I0 ?_ | refine I1 ?_ | refine I2 ?_ | refine I3 ?_ | refine I4 ?_ | refine I5 ?_ | refine I6 rfl ?_ | refine I7 ?_ | refine I8 ?_ | refine z4 ?_) | (refine M3 ?_; first | refine O6 ?_ | refine z2 tok rfl ?_ | refine O8 rfl ?_ | refine O7 rfl ?_ rfl | refine O9 rfl ?_ rfl | refine U1 _ (U4 rfl rfl) rfl ?_ | refine U1 _ (U5 rfl rfl) rfl ?_ | refine U1 _ (U2 rfl) rfl ?_ | refine U1 _ (U3 tok rfl rfl rfl rfl rfl) rfl ?_) | (refine M4 ?_; first | refine M6 ?_ | refine U6 rfl (by kernel_rfl) ?_ | refine U7 (by kernel_rfl) ?_) | (refine M5 ?_; first | exact M7 | refine U8 rfl ?_ | refine U9 rfl rfl ?_ ?_))
    refine XC.cond _ rfl (fun h3 => ?_) (fun h3 => ?_)
    · repeat (first | (refine M0 ?_; first | refine O0 ?_ | refine z1 tok rfl ?_ | refine O1 rfl ?_ rfl | refine O2 rfl ?_ | refine O3 rfl ?_ rfl | refine U0 _ (Ev.call (f := 23) (ck rfl) rfl (fun w S => (Awake_any (hL.below (hBW.trans S.toBelow)) :))) rfl ?_ | refine O4 rfl rfl rfl (fun _ _ => ?_) | refine O5 tok rfl rfl rfl (fun _ _ => ?_) | refine U0 _ (U2 rfl) rfl ?_ | refine U0 _ (U3 tok rfl rfl rfl rfl rfl) rfl ?_ | refine z3 tok rfl ?_ | refine U0 _ (U4 rfl rfl) rfl ?_ | refine U0 _ (U5 rfl rfl) rfl ?_) | (refine M1 ?_; first | refine J0 ?_ | refine J1 ?_ | refine J4 ?_ | refine J5 ?_ | refine J6 ?_ | refine J7 ?_ | refine J8 rfl ?_ | refine J9 rfl ?_) | (refine M2 ?_; first | refine I0 ?_ | refine I1 ?_ | refine I2 ?_ | refine I3 ?_ | refine I4 ?_ | refine I5 ?_ | refine I6 rfl ?_ | refine I7 ?_ | refine I8 ?_ | refine z4 ?_) | (refine M3 ?_; first | refine O6 ?_ | refine z2 tok rfl ?_ | refine O8 rfl ?_ | refine O7 rfl ?_ rfl | refine O9 rfl ?_ rfl | refine U1 _ (Ev.call (f := 23) (ck rfl) rfl (fun w S => (Awake_any (hL.below (hBW.trans S.toBelow)) :))) rfl ?_ | refine U1 _ (U4 rfl rfl) rfl ?_ | refine U1 _ (U5 rfl rfl) rfl ?_ | refine U1 _ (U2 rfl) rfl ?_ | refine U1 _ (U3 tok rfl rfl rfl rfl rfl) rfl ?_) | (refine M4 ?_; first | refine M6 ?_ | refine U6 rfl (by kernel_rfl) ?_ | refine U7 (by kernel_rfl) ?_) | (refine M5 ?_; first | exact M7 | refine U8 rfl ?_ | refine U9 rfl rfl ?_ ?_))
      refine XE.retg tok Tryd.results16 rfl (by simp only [and_self, and_true]) (fun w' S => ?_)
      exact ⟨rfl, hBW.trans S.toBelow⟩
    have b1 : -20000 ≤ l[k].1 := by have := of_decide_eq_false h2; omega
    have b2 : l[k].2 + sg ≤ 20000 := by have := of_decide_eq_false h3; omega
    repeat (first | (refine M0 ?_; first | refine O0 ?_ | refine z1 tok rfl ?_ | refine O1 rfl ?_ rfl | refine O2 rfl ?_ | refine O3 rfl ?_ rfl | refine O4 rfl rfl rfl (fun _ _ => ?_) | refine O5 tok rfl rfl rfl (fun _ _ => ?_) | refine U0 _ (U2 rfl) rfl ?_ | refine U0 _ (U3 tok rfl rfl rfl rfl rfl) rfl ?_ | refine z3 tok rfl ?_ | refine U0 _ (U4 rfl rfl) rfl ?_ | refine U0 _ (U5 rfl rfl) rfl ?_) | (refine M1 ?_; first | refine J0 ?_ | refine J1 ?_ | refine J4 ?_ | refine J5 ?_ | refine J6 ?_ | refine J7 ?_ | refine J8 rfl ?_ | refine J9 rfl ?_) | (refine M2 ?_; first | refine I0 ?_ | refine I1 ?_ | refine I2 ?_ | refine I3 ?_ | refine I4 ?_ | refine I5 ?_ | refine I6 rfl ?_ | refine I7 ?_ | refine I8 ?_ | refine z4 ?_) | (refine M3 ?_; first | refine O6 ?_ | refine z2 tok rfl ?_ | refine O8 rfl ?_ | refine O7 rfl ?_ rfl | refine O9 rfl ?_ rfl | refine U1 _ (U4 rfl rfl) rfl ?_ | refine U1 _ (U5 rfl rfl) rfl ?_ | refine U1 _ (U2 rfl) rfl ?_ | refine U1 _ (U3 tok rfl rfl rfl rfl rfl) rfl ?_) | (refine M4 ?_; first | refine M6 ?_ | refine U6 rfl (by kernel_rfl) ?_ | refine U7 (by kernel_rfl) ?_) | (refine M5 ?_; first | exact M7 | refine U8 rfl ?_ | refine U9 rfl rfl ?_ ?_))
    refine XC.cutln [3, 4, 5, 7, 8, 10, 11, 12, 13, 14, 15, 16] rfl (fun _ : Unit => [(17, .int .i64 (atO l sg sh k))]) (fun _ => []) (fun _ => True) ?_ (fun _ _ => ?_)
    · refine XC.cond _ rfl (fun h4 => ?_) (fun h4 => ?_)
      · have hks9 : k < sh.length := by simpa using h4
        obtain ⟨ash, rfl, hlas⟩ := hshs.addr (by decide) (by omega)
        have hc8 : W.cell? (ash.add (k * 1)) = some (.int .u8 (at0 sh k)) := by
          have h9 := (hshs.below hBW).elem (List.getElem?_eq_getElem hks9) 0 (.int .u8 sh[k]) rfl
          rw [add_add, Nat.add_zero] at h9
          unfold at0
          rw [List.getElem?_eq_getElem hks9]
          exact h9
        have hs8 : 0 ≤ at0 sh k ∧ at0 sh k ≤ 255 := by unfold at0; rw [List.getElem?_eq_getElem hks9]; exact hsh _ (List.getElem_mem hks9)
        have hw8 : IntKind.i64.wrap (at0 sh k) = at0 sh k := wrap_in (by unfold i64in; omega)
        rw [if_pos hks9] at eo
        have m1 : 0 ≤ (l[k].2 + sg - l[k].1) * at0 sh k := Int.mul_nonneg (by omega) hs8.1
        have m2 : (l[k].2 + sg - l[k].1) * at0 sh k ≤ (l[k].2 + sg - l[k].1) * 255 := Int.mul_le_mul_of_nonneg_left hs8.2 (by omega)
        have i1 : i64in ((l[k].2 + sg - l[k].1) * at0 sh k) := by unfold i64in; omega
        repeat (first | (refine M0 ?_; first | refine O0 ?_ | refine z1 tok rfl ?_ | refine O1 rfl ?_ rfl | refine O2 rfl ?_ | refine O3 rfl ?_ rfl | refine U0 _ (Ev.load_old tok rfl rfl (add_lt hlas) hc8) rfl ?_ | refine U0 _ (Ev.conv Tryd.underlying5 Tryd.underlying3 rfl hw8) rfl ?_ | refine O4 rfl rfl rfl (fun _ _ => ?_) | refine O5 tok rfl rfl rfl (fun _ _ => ?_) | refine U0 _ (U2 rfl) rfl ?_ | refine U0 _ (U3 tok rfl rfl rfl rfl rfl) rfl ?_ | refine z3 tok rfl ?_ | refine U0 _ (U4 rfl rfl) rfl ?_ | refine U0 _ (U5 rfl rfl) rfl ?_) | (refine M1 ?_; first | refine J0 ?_ | refine J1 ?_ | refine J4 ?_ | refine J5 ?_ | refine J6 ?_ | refine J7 ?_ | refine J8 rfl ?_ | refine J9 rfl ?_) | (refine M2 ?_; first | refine I0 ?_ | refine I1 ?_ | refine I2 ?_ | refine I3 ?_ | refine I4 ?_ | refine I5 ?_ | refine I6 rfl ?_ | refine I7 ?_ | refine I8 ?_ | refine z4 ?_) | (refine M3 ?_; first | refine O6 ?_ | refine z2 tok rfl ?_ | refine O8 rfl ?_ | refine O7 rfl ?_ rfl | refine O9 rfl ?_ rfl | refine U1 _ (Ev.load_old tok rfl rfl (add_lt hlas) hc8) rfl ?_ | refine U1 _ (Ev.conv Tryd.underlying5 Tryd.underlying3 rfl hw8) rfl ?_ | refine U1 _ (U4 rfl rfl) rfl ?_ | refine U1 _ (U5 rfl rfl) rfl ?_ | refine U1 _ (U2 rfl) rfl ?_ | refine U1 _ (U3 tok rfl rfl rfl rfl rfl) rfl ?_) | (refine M4 ?_; first | refine M6 ?_ | refine U6 rfl (by kernel_rfl) ?_ | refine U7 (by kernel_rfl) ?_) | (refine M5 ?_; first | exact M7 | refine U8 rfl ?_ | refine U9 rfl rfl ?_ ?_))
        rw [← eo]
        refine XE.leaf () (by repeat (first | exact Sub.nil | refine Sub.cons rfl ?_)) (fun _ S' => by first | exact S' | exact S'.perm (by repeat (first | exact List.Perm.refl _ | refine perm1 ?_ | refine List.Perm.cons _ ?_ | refine perm2 ?_)) | exact (S'.pop (by assumption)) | exact (S'.pop2 (by assumption))) ?_
        trivial
      · rw [if_neg (by simpa using h4)] at eo
        repeat (first | (refine M0 ?_; first | refine O0 ?_ | refine z1 tok rfl ?_ | refine O1 rfl ?_ rfl | refine O2 rfl ?_ | refine O3 rfl ?_ rfl | refine O4 rfl rfl rfl (fun _ _ => ?_) | refine O5 tok rfl rfl rfl (fun _ _ => ?_) | refine U0 _ (U2 rfl) rfl ?_ | refine U0 _ (U3 tok rfl rfl rfl rfl rfl) rfl ?_ | refine z3 tok rfl ?_ | refine U0 _ (U4 rfl rfl) rfl ?_ | refine U0 _ (U5 rfl rfl) rfl ?_) | (refine M1 ?_; first | refine J0 ?_ | refine J1 ?_ | refine J4 ?_ | refine J5 ?_ | refine J6 ?_ | refine J7 ?_ | refine J8 rfl ?_ | refine J9 rfl ?_) | (refine M2 ?_; first | refine I0 ?_ | refine I1 ?_ | refine I2 ?_ | refine I3 ?_ | refine I4 ?_ | refine I5 ?_ | refine I6 rfl ?_ | refine I7 ?_ | refine I8 ?_ | refine z4 ?_) | (refine M3 ?_; first | refine O6 ?_ | refine z2 tok rfl ?_ | refine O8 rfl ?_ | refine O7 rfl ?_ rfl | refine O9 rfl ?_ rfl | refine U1 _ (U4 rfl rfl) rfl ?_ | refine U1 _ (U5 rfl rfl) rfl ?_ | refine U1 _ (U2 rfl) rfl ?_ | refine U1 _ (U3 tok rfl rfl rfl rfl rfl) rfl ?_) | (refine M4 ?_; first | refine M6 ?_ | refine U6 rfl (by kernel_rfl) ?_ | refine U7 (by kernel_rfl) ?_) | (refine M5 ?_; first | exact M7 | refine U8 rfl ?_ | refine U9 rfl rfl ?_ ?_))
        rw [← eo]
        refine XE.leaf () (by repeat (first | exact Sub.nil | refine Sub.cons rfl ?_)) (fun _ S' => by first | exact S' | exact S'.perm (by repeat (first | exact List.Perm.refl _ | refine perm1 ?_ | refine List.Perm.cons _ ?_ | refine perm2 ?_)) | exact (S'.pop (by assumption)) | exact (S'.pop2 (by assumption))) ?_
        trivial
    dsimp only [List.cons_append, List.nil_append]
    have hl1 : ∀ f : Nat → Tick, (tiL f k).length + 1 ≤ 10000000 := fun f => by rw [tiL_len]; omega
    have ha1 : ∀ (t : Tick) x, x ∈ tickK.sl t → x ∈ [hList spanK ⟨some al, l.length, cl⟩ l] := fun t x hx => by cases hx
    repeat (first | (refine M0 ?_; first | refine O0 ?_ | refine z1 tok rfl ?_ | refine O1 rfl ?_ rfl | refine O2 rfl ?_ | refine O3 rfl ?_ rfl | refine O4 rfl rfl rfl (fun _ _ => ?_) | refine O5 tok rfl rfl rfl (fun _ _ => ?_) | refine U0 _ (U2 rfl) rfl ?_ | refine U0 _ (U3 tok rfl rfl rfl rfl rfl) rfl ?_ | refine z3 tok rfl ?_ | refine U0 _ (U4 rfl rfl) rfl ?_ | refine U0 _ (U5 rfl rfl) rfl ?_ | refine XL.buildSlice tok rfl rfl rfl rfl rfl rfl rfl rfl rfl (fun _ _ => ?_)) | (refine M1 ?_; first | refine J0 ?_ | refine J1 ?_ | refine J4 ?_ | refine J5 ?_ | refine J6 ?_ | refine J7 ?_ | refine J8 rfl ?_ | refine J9 rfl ?_) | (refine M2 ?_; first | refine I0 ?_ | refine I1 ?_ | refine I2 ?_ | refine I3 ?_ | refine I4 ?_ | refine I5 ?_ | refine I6 rfl ?_ | refine I7 ?_ | refine I8 ?_ | refine z4 ?_) | (refine M3 ?_; first | refine O6 ?_ | refine z2 tok rfl ?_ | refine O8 rfl ?_ | refine O7 rfl ?_ rfl | refine O9 rfl ?_ rfl | refine U1 _ (U4 rfl rfl) rfl ?_ | refine U1 _ (U5 rfl rfl) rfl ?_ | refine U1 _ (U2 rfl) rfl ?_ | refine U1 _ (U3 tok rfl rfl rfl rfl rfl) rfl ?_) | (refine M4 ?_; first | refine M6 ?_ | refine U6 rfl (by kernel_rfl) ?_ | refine U7 (by kernel_rfl) ?_) | (refine M5 ?_; first | exact M7 | refine U8 rfl ?_ | refine U9 rfl rfl ?_ ?_))
    refine XL.push (K := tickK) (a := ⟨l[k].2 + sg, t.river, t.out⟩) (wE := w) 0 tick_el (by decide) rfl rfl rfl hF rfl hks hBW (Nat.le_refl _) rfl (hl1 _) (by decide) (ha1 _) (fun W1 u1 hF1 hB1 hk1 => ?_)
    clear hF hks
    repeat (first | (refine M0 ?_; first | refine O0 ?_ | refine z1 tok rfl ?_ | refine O1 rfl ?_ rfl | refine O2 rfl ?_ | refine O3 rfl ?_ rfl | refine O4 rfl rfl rfl (fun _ _ => ?_) | refine O5 tok rfl rfl rfl (fun _ _ => ?_) | refine U0 _ (U2 rfl) rfl ?_ | refine U0 _ (U3 tok rfl rfl rfl rfl rfl) rfl ?_ | refine z3 tok rfl ?_ | refine U0 _ (U4 rfl rfl) rfl ?_ | refine U0 _ (U5 rfl rfl) rfl ?_ | refine XL.buildSlice tok rfl rfl rfl rfl rfl rfl rfl rfl rfl (fun _ _ => ?_)) | (refine M1 ?_; first | refine J0 ?_ | refine J1 ?_ | refine J4 ?_ | refine J5 ?_ | refine J6 ?_ | refine J7 ?_ | refine J8 rfl ?_ | refine J9 rfl ?_) | (refine M2 ?_; first | refine I0 ?_ | refine I1 ?_ | refine I2 ?_ | refine I3 ?_ | refine I4 ?_ | refine I5 ?_ | refine I6 rfl ?_ | refine I7 ?_ | refine I8 ?_ | refine z4 ?_) | (refine M3 ?_; first | refine O6 ?_ | refine z2 tok rfl ?_ | refine O8 rfl ?_ | refine O7 rfl ?_ rfl | refine O9 rfl ?_ rfl | refine U1 _ (U4 rfl rfl) rfl ?_ | refine U1 _ (U5 rfl rfl) rfl ?_ | refine U1 _ (U2 rfl) rfl ?_ | refine U1 _ (U3 tok rfl rfl rfl rfl rfl) rfl ?_) | (refine M4 ?_; first | refine M6 ?_ | refine U6 rfl (by kernel_rfl) ?_ | refine U7 (by kernel_rfl) ?_) | (refine M5 ?_; first | exact M7 | refine U8 rfl ?_ | refine U9 rfl rfl ?_ ?_))
    refine XL.push (K := tickK) (a := ⟨l[k].1, t.river, t.out⟩) (wE := w) 1 tick_el (by decide) rfl rfl rfl hF1 rfl hk1 hB1 (Nat.le_refl _) rfl (hl1 _) (by decide) (ha1 _) (fun W2 u2 hF2 hB2 hk2 => ?_)
    clear hF1 hk1
    repeat (first | (refine M0 ?_; first | refine O0 ?_ | refine z1 tok rfl ?_ | refine O1 rfl ?_ rfl | refine O2 rfl ?_ | refine O3 rfl ?_ rfl | refine O4 rfl rfl rfl (fun _ _ => ?_) | refine O5 tok rfl rfl rfl (fun _ _ => ?_) | refine U0 _ (U2 rfl) rfl ?_ | refine U0 _ (U3 tok rfl rfl rfl rfl rfl) rfl ?_ | refine z3 tok rfl ?_ | refine U0 _ (U4 rfl rfl) rfl ?_ | refine U0 _ (U5 rfl rfl) rfl ?_ | refine XL.buildSlice tok rfl rfl rfl rfl rfl rfl rfl rfl rfl (fun _ _ => ?_)) | (refine M1 ?_; first | refine J0 ?_ | refine J1 ?_ | refine J4 ?_ | refine J5 ?_ | refine J6 ?_ | refine J7 ?_ | refine J8 rfl ?_ | refine J9 rfl ?_) | (refine M2 ?_; first | refine I0 ?_ | refine I1 ?_ | refine I2 ?_ | refine I3 ?_ | refine I4 ?_ | refine I5 ?_ | refine I6 rfl ?_ | refine I7 ?_ | refine I8 ?_ | refine z4 ?_) | (refine M3 ?_; first | refine O6 ?_ | refine z2 tok rfl ?_ | refine O8 rfl ?_ | refine O7 rfl ?_ rfl | refine O9 rfl ?_ rfl | refine U1 _ (U4 rfl rfl) rfl ?_ | refine U1 _ (U5 rfl rfl) rfl ?_ | refine U1 _ (U2 rfl) rfl ?_ | refine U1 _ (U3 tok rfl rfl rfl rfl rfl) rfl ?_) | (refine M4 ?_; first | refine M6 ?_ | refine U6 rfl (by kernel_rfl) ?_ | refine U7 (by kernel_rfl) ?_) | (refine M5 ?_; first | exact M7 | refine U8 rfl ?_ | refine U9 rfl rfl ?_ ?_))
    refine XL.push (K := tickK) (a := ⟨atO l sg sh k, t.river, t.out⟩) (wE := w) 2 tick_el (by decide) rfl rfl rfl hF2 rfl hk2 hB2 (Nat.le_refl _) rfl (hl1 _) (by decide) (ha1 _) (fun W3 u3 hF3 hB3 hk3 => ?_)
    clear hF2 hk2
    repeat (first | (refine M0 ?_; first | refine O0 ?_ | refine z1 tok rfl ?_ | refine O1 rfl ?_ rfl | refine O2 rfl ?_ | refine O3 rfl ?_ rfl | refine O4 rfl rfl rfl (fun _ _ => ?_) | refine O5 tok rfl rfl rfl (fun _ _ => ?_) | refine U0 _ (U2 rfl) rfl ?_ | refine U0 _ (U3 tok rfl rfl rfl rfl rfl) rfl ?_ | refine z3 tok rfl ?_ | refine U0 _ (U4 rfl rfl) rfl ?_ | refine U0 _ (U5 rfl rfl) rfl ?_) | (refine M1 ?_; first | refine J0 ?_ | refine J1 ?_ | refine J4 ?_ | refine J5 ?_ | refine J6 ?_ | refine J7 ?_ | refine J8 rfl ?_ | refine J9 rfl ?_) | (refine M2 ?_; first | refine I0 ?_ | refine I1 ?_ | refine I2 ?_ | refine I3 ?_ | refine I4 ?_ | refine I5 ?_ | refine I6 rfl ?_ | refine I7 ?_ | refine I8 ?_ | refine z4 ?_) | (refine M3 ?_; first | refine O6 ?_ | refine z2 tok rfl ?_ | refine O8 rfl ?_ | refine O7 rfl ?_ rfl | refine O9 rfl ?_ rfl | refine U1 _ (U4 rfl rfl) rfl ?_ | refine U1 _ (U5 rfl rfl) rfl ?_ | refine U1 _ (U2 rfl) rfl ?_ | refine U1 _ (U3 tok rfl rfl rfl rfl rfl) rfl ?_) | (refine M4 ?_; first | refine M6 ?_ | refine U6 rfl (by kernel_rfl) ?_ | refine U7 (by kernel_rfl) ?_) | (refine M5 ?_; first | exact M7 | refine U8 rfl ?_ | refine U9 rfl rfl ?_ ?_))
    refine XE.roundW (s := (k, W, v1, v2, v3)) (fun w6 S6 => ⟨(k + 1, w6, u1, u2, u3), ⟨hkn, ?_, hB3.trans S6.toBelow, fun x hx => S6.keyLt x (by simp only [List.map_cons, List.map_nil, List.mem_cons, List.not_mem_nil, or_false] at hx ⊢; omega), fun j hj => ?_⟩, by simp only; omega, (by repeat (first | exact Sub.nil | refine Sub.cons rfl ?_)), S6.rebase (by repeat (first | exact List.Sublist.refl _ | exact List.nil_sublist _ | refine List.Sublist.cons _ ?_))⟩)
    · simp only [tiL_succ, eh, el, ea]
      exact Fam.add (Fam.sys hF3 S6 (by intro e he; repeat (first | (cases he; done) | (rcases List.mem_cons.1 he with rfl | he; · first | (right; assumption) | (left; simp <;> fail))))) (by intro k hk; repeat (first | (cases hk; done) | (rcases List.mem_cons.1 hk with rfl | hk; · first | (right; assumption) | (left; simp <;> fail))))
    · by_cases hjk : j = k
      · subst hjk; rw [eh, el]; exact ⟨b1, b2⟩
      · exact hbd j (by simp only at hj; omega)
  have hkn : k = ts.length := by have : ¬ (k < ts.length) := by simpa using h1
                                 omega
  subst hkn
  obtain ⟨r1, rfl, _⟩ := hF.list (.head _)
  obtain ⟨r2, rfl, _⟩ := hF.list (.tail _ (.head _))
  obtain ⟨r3, rfl, _⟩ := hF.list (.tail _ (.tail _ (.head _)))
  obtain ⟨t1, ht1⟩ : ∃ t1, t1 = tiL (hiT l sg ts) ts.length := ⟨_, rfl⟩
  obtain ⟨t2, ht2⟩ : ∃ t2, t2 = tiL (loT l ts) ts.length := ⟨_, rfl⟩
  obtain ⟨t3, ht3⟩ : ∃ t3, t3 = tiL (atT l sg sh ts) ts.length := ⟨_, rfl⟩
  rw [← ht1, ← ht2, ← ht3] at hF
  repeat (first | (refine M0 ?_; first | refine O0 ?_ | refine z1 tok rfl ?_ | refine O1 rfl ?_ rfl | refine O2 rfl ?_ | refine O3 rfl ?_ rfl | refine O4 rfl rfl rfl (fun _ _ => ?_) | refine O5 tok rfl rfl rfl (fun _ _ => ?_) | refine U0 _ (U2 rfl) rfl ?_ | refine U0 _ (U3 tok rfl rfl rfl rfl rfl) rfl ?_ | refine z3 tok rfl ?_ | refine U0 _ (U4 rfl rfl) rfl ?_ | refine U0 _ (U5 rfl rfl) rfl ?_) | (refine M1 ?_; first | refine J0 ?_ | refine J1 ?_ | refine J4 ?_ | refine J5 ?_ | refine J6 ?_ | refine J7 ?_ | refine J8 rfl ?_ | refine J9 rfl ?_) | (refine M2 ?_; first | refine I0 ?_ | refine I1 ?_ | refine I2 ?_ | refine I3 ?_ | refine I4 ?_ | refine I5 ?_ | refine I6 rfl ?_ | refine I7 ?_ | refine I8 ?_ | refine z4 ?_) | (refine M3 ?_; first | refine O6 ?_ | refine z2 tok rfl ?_ | refine O8 rfl ?_ | refine O7 rfl ?_ rfl | refine O9 rfl ?_ rfl | refine U1 _ (U4 rfl rfl) rfl ?_ | refine U1 _ (U5 rfl rfl) rfl ?_ | refine U1 _ (U2 rfl) rfl ?_ | refine U1 _ (U3 tok rfl rfl rfl rfl rfl) rfl ?_) | (refine M4 ?_; first | refine M6 ?_ | refine U6 rfl (by kernel_rfl) ?_ | refine U7 (by kernel_rfl) ?_) | (refine M5 ?_; first | exact M7 | refine U8 rfl ?_ | refine U9 rfl rfl ?_ ?_))
  refine XL.callF (RunV b s t1) (vs := [basV p b, staV ⟨Aq, nq, cq⟩ s, svV r1]) (ck rfl) rfl rfl hF hks hBW (fun w1 S1 hF1 hB1 => Run_made (p := p) (q := ⟨Aq, nq, cq⟩) (r := r1) (hL.below hB1) ((hb.below hBW).sys S1) ((hq.below hBW).arg S1) (ListAt.tks (hF1.row_at (.head _)))) (fun w4 v new hR hF4 hB4 hk4 => ?_)
  obtain ⟨⟨A1, n1, c1⟩, q1, l1, m1, rfl, rfl, e1, e2⟩ := hR
  simp only [svV]
  repeat (first | (refine M0 ?_; first | refine O0 ?_ | refine z1 tok rfl ?_ | refine O1 rfl ?_ rfl | refine O2 rfl ?_ | refine O3 rfl ?_ rfl | refine O4 rfl rfl rfl (fun _ _ => ?_) | refine O5 tok rfl rfl rfl (fun _ _ => ?_) | refine U0 _ (U2 rfl) rfl ?_ | refine U0 _ (U3 tok rfl rfl rfl rfl rfl) rfl ?_ | refine z3 tok rfl ?_ | refine U0 _ (U4 rfl rfl) rfl ?_ | refine U0 _ (U5 rfl rfl) rfl ?_) | (refine M1 ?_; first | refine J0 ?_ | refine J1 ?_ | refine J4 ?_ | refine J5 ?_ | refine J6 ?_ | refine J7 ?_ | refine J8 rfl ?_ | refine J9 rfl ?_) | (refine M2 ?_; first | refine I0 ?_ | refine I1 ?_ | refine I2 ?_ | refine I3 ?_ | refine I4 ?_ | refine I5 ?_ | refine I6 rfl ?_ | refine I7 ?_ | refine I8 ?_ | refine z4 ?_) | (refine M3 ?_; first | refine O6 ?_ | refine z2 tok rfl ?_ | refine O8 rfl ?_ | refine O7 rfl ?_ rfl | refine O9 rfl ?_ rfl | refine U1 _ (U4 rfl rfl) rfl ?_ | refine U1 _ (U5 rfl rfl) rfl ?_ | refine U1 _ (U2 rfl) rfl ?_ | refine U1 _ (U3 tok rfl rfl rfl rfl rfl) rfl ?_) | (refine M4 ?_; first | refine M6 ?_ | refine U6 rfl (by kernel_rfl) ?_ | refine U7 (by kernel_rfl) ?_) | (refine M5 ?_; first | exact M7 | refine U8 rfl ?_ | refine U9 rfl rfl ?_ ?_))
  refine XL.callF (RunV b s t2) (vs := [basV p b, staV ⟨Aq, nq, cq⟩ s, svV r2]) (ck rfl) rfl rfl hF4 hk4 hB4 (fun w1 S1 hF1 hB1 => Run_made (p := p) (q := ⟨Aq, nq, cq⟩) (r := r2) (hL.below hB1) ((hb.below hB4).sys S1) ((hq.below hB4).arg S1) (ListAt.tks (hF1.row_at (.tail _ (.head _))))) (fun w5 v new hR hF5 hB5 hk5 => ?_)
  obtain ⟨⟨A2, n2, c2⟩, q2, l2, m2, rfl, rfl, e3, e4⟩ := hR
  clear hF4 hk4
  simp only [svV]
  repeat (first | (refine M0 ?_; first | refine O0 ?_ | refine z1 tok rfl ?_ | refine O1 rfl ?_ rfl | refine O2 rfl ?_ | refine O3 rfl ?_ rfl | refine O4 rfl rfl rfl (fun _ _ => ?_) | refine O5 tok rfl rfl rfl (fun _ _ => ?_) | refine U0 _ (U2 rfl) rfl ?_ | refine U0 _ (U3 tok rfl rfl rfl rfl rfl) rfl ?_ | refine z3 tok rfl ?_ | refine U0 _ (U4 rfl rfl) rfl ?_ | refine U0 _ (U5 rfl rfl) rfl ?_) | (refine M1 ?_; first | refine J0 ?_ | refine J1 ?_ | refine J4 ?_ | refine J5 ?_ | refine J6 ?_ | refine J7 ?_ | refine J8 rfl ?_ | refine J9 rfl ?_) | (refine M2 ?_; first | refine I0 ?_ | refine I1 ?_ | refine I2 ?_ | refine I3 ?_ | refine I4 ?_ | refine I5 ?_ | refine I6 rfl ?_ | refine I7 ?_ | refine I8 ?_ | refine z4 ?_) | (refine M3 ?_; first | refine O6 ?_ | refine z2 tok rfl ?_ | refine O8 rfl ?_ | refine O7 rfl ?_ rfl | refine O9 rfl ?_ rfl | refine U1 _ (U4 rfl rfl) rfl ?_ | refine U1 _ (U5 rfl rfl) rfl ?_ | refine U1 _ (U2 rfl) rfl ?_ | refine U1 _ (U3 tok rfl rfl rfl rfl rfl) rfl ?_) | (refine M4 ?_; first | refine M6 ?_ | refine U6 rfl (by kernel_rfl) ?_ | refine U7 (by kernel_rfl) ?_) | (refine M5 ?_; first | exact M7 | refine U8 rfl ?_ | refine U9 rfl rfl ?_ ?_))
  refine XL.callF (RunV b s t3) (vs := [basV p b, staV ⟨Aq, nq, cq⟩ s, svV r3]) (ck rfl) rfl rfl hF5 hk5 hB5 (fun w1 S1 hF1 hB1 => Run_made (p := p) (q := ⟨Aq, nq, cq⟩) (r := r3) (hL.below hB1) ((hb.below hB5).sys S1) ((hq.below hB5).arg S1) (ListAt.tks (hF1.row_at (.tail _ (.tail _ (.head _)))))) (fun w6 v new hR hF6 hB6 hk6 => ?_)
  obtain ⟨⟨A3, n3, c3⟩, q3, l3, m3, rfl, rfl, e5, e6⟩ := hR
  clear hF5 hk5
  simp only [svV]
  repeat (first | (refine M0 ?_; first | refine O0 ?_ | refine z1 tok rfl ?_ | refine O1 rfl ?_ rfl | refine O2 rfl ?_ | refine O3 rfl ?_ rfl | refine O4 rfl rfl rfl (fun _ _ => ?_) | refine O5 tok rfl rfl rfl (fun _ _ => ?_) | refine U0 _ (U2 rfl) rfl ?_ | refine U0 _ (U3 tok rfl rfl rfl rfl rfl) rfl ?_ | refine z3 tok rfl ?_ | refine U0 _ (U4 rfl rfl) rfl ?_ | refine U0 _ (U5 rfl rfl) rfl ?_) | (refine M1 ?_; first | refine J0 ?_ | refine J1 ?_ | refine J4 ?_ | refine J5 ?_ | refine J6 ?_ | refine J7 ?_ | refine J8 rfl ?_ | refine J9 rfl ?_) | (refine M2 ?_; first | refine I0 ?_ | refine I1 ?_ | refine I2 ?_ | refine I3 ?_ | refine I4 ?_ | refine I5 ?_ | refine I6 rfl ?_ | refine I7 ?_ | refine I8 ?_ | refine z4 ?_) | (refine M3 ?_; first | refine O6 ?_ | refine z2 tok rfl ?_ | refine O8 rfl ?_ | refine O7 rfl ?_ rfl | refine O9 rfl ?_ rfl | refine U1 _ (U4 rfl rfl) rfl ?_ | refine U1 _ (U5 rfl rfl) rfl ?_ | refine U1 _ (U2 rfl) rfl ?_ | refine U1 _ (U3 tok rfl rfl rfl rfl rfl) rfl ?_) | (refine M4 ?_; first | refine M6 ?_ | refine U6 rfl (by kernel_rfl) ?_ | refine U7 (by kernel_rfl) ?_) | (refine M5 ?_; first | exact M7 | refine U8 rfl ?_ | refine U9 rfl rfl ?_ ?_))
  refine XC.cond _ rfl (fun h0 => ?_) (fun h0 => ?_)
  · repeat (first | (refine M0 ?_; first | refine O0 ?_ | refine z1 tok rfl ?_ | refine O1 rfl ?_ rfl | refine O2 rfl ?_ | refine O3 rfl ?_ rfl | refine U0 _ (Ev.call (f := 23) (ck rfl) rfl (fun w S => (Awake_any (hL.below (hB6.trans S.toBelow)) :))) rfl ?_ | refine O4 rfl rfl rfl (fun _ _ => ?_) | refine O5 tok rfl rfl rfl (fun _ _ => ?_) | refine U0 _ (U2 rfl) rfl ?_ | refine U0 _ (U3 tok rfl rfl rfl rfl rfl) rfl ?_ | refine z3 tok rfl ?_ | refine U0 _ (U4 rfl rfl) rfl ?_ | refine U0 _ (U5 rfl rfl) rfl ?_) | (refine M1 ?_; first | refine J0 ?_ | refine J1 ?_ | refine J4 ?_ | refine J5 ?_ | refine J6 ?_ | refine J7 ?_ | refine J8 rfl ?_ | refine J9 rfl ?_) | (refine M2 ?_; first | refine I0 ?_ | refine I1 ?_ | refine I2 ?_ | refine I3 ?_ | refine I4 ?_ | refine I5 ?_ | refine I6 rfl ?_ | refine I7 ?_ | refine I8 ?_ | refine z4 ?_) | (refine M3 ?_; first | refine O6 ?_ | refine z2 tok rfl ?_ | refine O8 rfl ?_ | refine O7 rfl ?_ rfl | refine O9 rfl ?_ rfl | refine U1 _ (Ev.call (f := 23) (ck rfl) rfl (fun w S => (Awake_any (hL.below (hB6.trans S.toBelow)) :))) rfl ?_ | refine U1 _ (U4 rfl rfl) rfl ?_ | refine U1 _ (U5 rfl rfl) rfl ?_ | refine U1 _ (U2 rfl) rfl ?_ | refine U1 _ (U3 tok rfl rfl rfl rfl rfl) rfl ?_) | (refine M4 ?_; first | refine M6 ?_ | refine U6 rfl (by kernel_rfl) ?_ | refine U7 (by kernel_rfl) ?_) | (refine M5 ?_; first | exact M7 | refine U8 rfl ?_ | refine U9 rfl rfl ?_ ?_))
    refine XE.retg tok Tryd.results16 rfl (by simp only [and_self, and_true]) (fun w' S => ?_)
    exact ⟨rfl, hB6.trans S.toBelow⟩
  have hE1 : runE b s t1 = 0 := by simpa using h0
  have hsh' : ∀ i, i < sh.length → 0 ≤ at0 sh i ∧ at0 sh i ≤ 255 := fun i hi => by unfold at0; rw [List.getElem?_eq_getElem hi]; exact hsh _ (List.getElem_mem hi)
  have hTl : ∀ k, k < ts.length → TickLe (loT l ts k) (atT l sg sh ts k) := fun k hk => by
    have h1 := hsp.ok k (by omega)
    have h2 := atO_bd (sg := sg) (sh := sh) (show k < l.length by omega) h1.1 hsg.1 hsh'
    refine ⟨?_, Int.le_refl _, Int.le_refl _⟩
    simp only [loT, atT]
    rw [List.getElem?_eq_getElem (show k < l.length by omega)]
    exact h2.1
  have hTh : ∀ k, k < ts.length → TickLe (atT l sg sh ts k) (hiT l sg ts k) := fun k hk => by
    have h1 := hsp.ok k (by omega)
    have h2 := atO_bd (sg := sg) (sh := sh) (show k < l.length by omega) h1.1 hsg.1 hsh'
    refine ⟨?_, Int.le_refl _, Int.le_refl _⟩
    simp only [hiT, atT]
    rw [List.getElem?_eq_getElem (show k < l.length by omega)]
    exact h2.2
  have hE3 : runE b s t3 = 0 := by
    rw [ht3]
    exact ti_run hTh (fun k hk => ⟨Int.le_trans (hbd k hk).1 (hTl k hk).outer, rfl, rfl⟩) (ht1 ▸ hE1)
  have hE2 : runE b s t2 = 0 := by
    rw [ht2]
    exact ti_run hTl (fun k hk => ⟨(hbd k hk).1, rfl, rfl⟩) (ht3 ▸ hE3)
  have lt1 : t1.length = ts.length := by rw [ht1, tiL_len]
  have lt2 : t2.length = ts.length := by rw [ht2, tiL_len]
  have lt3 : t3.length = ts.length := by rw [ht3, tiL_len]
  have hl1 : l1.length = ts.length := by
    have := congrArg List.length e1
    rw [runS_len hE1, lt1] at this
    simpa using this
  have hl2 : l2.length = ts.length := by
    have := congrArg List.length e3
    rw [runS_len hE2, lt2] at this
    simpa using this
  have hl3 : l3.length = ts.length := by
    have := congrArg List.length e5
    rw [runS_len hE3, lt3] at this
    simpa using this
  have hn1 : n1 = l1.length := (hF6.get (x := hList staK ⟨A1, n1, c1⟩ l1) (.tail _ (.tail _ (.tail _ (.tail _ (.head _)))))).len (by decide)
  have hn2 : n2 = l2.length := (hF6.get (x := hList staK ⟨A2, n2, c2⟩ l2) (.tail _ (.tail _ (.head _)))).len (by decide)
  have hn3 : n3 = l3.length := (hF6.get (x := hList staK ⟨A3, n3, c3⟩ l3) (.head _)).len (by decide)
  subst hn1 hn2 hn3
  obtain ⟨hs0, h300, herr1⟩ := runE_0 hE1
  obtain ⟨_, _, herr2⟩ := runE_0 hE2
  obtain ⟨_, _, herr3⟩ := runE_0 hE3
  obtain ⟨ho, hs⟩ := staOk_of hs0
  have hat : ∀ (li : List StaI) (ti : List Tick), li.map (·.s) = runS b s ti → runE b s ti = 0 → ti.length = ts.length → (∀ k, k < ti.length → errAt b s ti k = 0) → ∀ k, (h : k < li.length) → k < ts.length → li[k].s = staAt b s ti (k + 1) ∧ StaOk b li[k].s := fun li ti e hE hl herr k h hk => by
    have a1 : li[k].s = staAt b s ti (k + 1) := by
      have h6 : (li.map (·.s))[k]? = (runS b s ti)[k]? := by rw [e]
      unfold runS at h6
      rw [if_neg (by simp [hE])] at h6
      simpa [h, show k < ti.length by omega] using h6
    rw [a1]
    exact ⟨rfl, staAt_ok ho hs (k + 1) fun j hj => herr j (by omega)⟩
  repeat (first | (refine M0 ?_; first | refine O0 ?_ | refine z1 tok rfl ?_ | refine O1 rfl ?_ rfl | refine O2 rfl ?_ | refine O3 rfl ?_ rfl | refine O4 rfl rfl rfl (fun _ _ => ?_) | refine O5 tok rfl rfl rfl (fun _ _ => ?_) | refine U0 _ (U2 rfl) rfl ?_ | refine U0 _ (U3 tok rfl rfl rfl rfl rfl) rfl ?_ | refine z3 tok rfl ?_ | refine U0 _ (U4 rfl rfl) rfl ?_ | refine U0 _ (U5 rfl rfl) rfl ?_) | (refine M1 ?_; first | refine J0 ?_ | refine J1 ?_ | refine J4 ?_ | refine J5 ?_ | refine J6 ?_ | refine J7 ?_ | refine J8 rfl ?_ | refine J9 rfl ?_) | (refine M2 ?_; first | refine I0 ?_ | refine I1 ?_ | refine I2 ?_ | refine I3 ?_ | refine I4 ?_ | refine I5 ?_ | refine I6 rfl ?_ | refine I7 ?_ | refine I8 ?_ | refine z4 ?_) | (refine M3 ?_; first | refine O6 ?_ | refine z2 tok rfl ?_ | refine O8 rfl ?_ | refine O7 rfl ?_ rfl | refine O9 rfl ?_ rfl | refine U1 _ (U4 rfl rfl) rfl ?_ | refine U1 _ (U5 rfl rfl) rfl ?_ | refine U1 _ (U2 rfl) rfl ?_ | refine U1 _ (U3 tok rfl rfl rfl rfl rfl) rfl ?_) | (refine M4 ?_; first | refine M6 ?_ | refine U6 rfl (by kernel_rfl) ?_ | refine U7 (by kernel_rfl) ?_) | (refine M5 ?_; first | exact M7 | refine U8 rfl ?_ | refine U9 rfl rfl ?_ ?_))
  refine XL.split _ _ rfl (fun h => absurd hE2 (of_decide_eq_true h)) (fun h => ?_)
  rw [h]
  repeat (first | (refine M0 ?_; first | refine O0 ?_ | refine z1 tok rfl ?_ | refine O1 rfl ?_ rfl | refine O2 rfl ?_ | refine O3 rfl ?_ rfl | refine O4 rfl rfl rfl (fun _ _ => ?_) | refine O5 tok rfl rfl rfl (fun _ _ => ?_) | refine U0 _ (U2 rfl) rfl ?_ | refine U0 _ (U3 tok rfl rfl rfl rfl rfl) rfl ?_ | refine z3 tok rfl ?_ | refine U0 _ (U4 rfl rfl) rfl ?_ | refine U0 _ (U5 rfl rfl) rfl ?_) | (refine M1 ?_; first | refine J0 ?_ | refine J1 ?_ | refine J4 ?_ | refine J5 ?_ | refine J6 ?_ | refine J7 ?_ | refine J8 rfl ?_ | refine J9 rfl ?_) | (refine M2 ?_; first | refine I0 ?_ | refine I1 ?_ | refine I2 ?_ | refine I3 ?_ | refine I4 ?_ | refine I5 ?_ | refine I6 rfl ?_ | refine I7 ?_ | refine I8 ?_ | refine z4 ?_) | (refine M3 ?_; first | refine O6 ?_ | refine z2 tok rfl ?_ | refine O8 rfl ?_ | refine O7 rfl ?_ rfl | refine O9 rfl ?_ rfl | refine U1 _ (U4 rfl rfl) rfl ?_ | refine U1 _ (U5 rfl rfl) rfl ?_ | refine U1 _ (U2 rfl) rfl ?_ | refine U1 _ (U3 tok rfl rfl rfl rfl rfl) rfl ?_) | (refine M4 ?_; first | refine M6 ?_ | refine U6 rfl (by kernel_rfl) ?_ | refine U7 (by kernel_rfl) ?_) | (refine M5 ?_; first | exact M7 | refine U8 rfl ?_ | refine U9 rfl rfl ?_ ?_))
  refine XL.split _ _ rfl (fun h => absurd hE3 (of_decide_eq_true h)) (fun h => ?_)
  rw [h]
  repeat (first | (refine M0 ?_; first | refine O0 ?_ | refine z1 tok rfl ?_ | refine O1 rfl ?_ rfl | refine O2 rfl ?_ | refine O3 rfl ?_ rfl | refine O4 rfl rfl rfl (fun _ _ => ?_) | refine O5 tok rfl rfl rfl (fun _ _ => ?_) | refine U0 _ (U2 rfl) rfl ?_ | refine U0 _ (U3 tok rfl rfl rfl rfl rfl) rfl ?_ | refine z3 tok rfl ?_ | refine U0 _ (U4 rfl rfl) rfl ?_ | refine U0 _ (U5 rfl rfl) rfl ?_) | (refine M1 ?_; first | refine J0 ?_ | refine J1 ?_ | refine J4 ?_ | refine J5 ?_ | refine J6 ?_ | refine J7 ?_ | refine J8 rfl ?_ | refine J9 rfl ?_) | (refine M2 ?_; first | refine I0 ?_ | refine I1 ?_ | refine I2 ?_ | refine I3 ?_ | refine I4 ?_ | refine I5 ?_ | refine I6 rfl ?_ | refine I7 ?_ | refine I8 ?_ | refine z4 ?_) | (refine M3 ?_; first | refine O6 ?_ | refine z2 tok rfl ?_ | refine O8 rfl ?_ | refine O7 rfl ?_ rfl | refine O9 rfl ?_ rfl | refine U1 _ (U4 rfl rfl) rfl ?_ | refine U1 _ (U5 rfl rfl) rfl ?_ | refine U1 _ (U2 rfl) rfl ?_ | refine U1 _ (U3 tok rfl rfl rfl rfl rfl) rfl ?_) | (refine M4 ?_; first | refine M6 ?_ | refine U6 rfl (by kernel_rfl) ?_ | refine U7 (by kernel_rfl) ?_) | (refine M5 ?_; first | exact M7 | refine U8 rfl ?_ | refine U9 rfl rfl ?_ ?_))
  refine XL.split _ _ rfl (fun h => absurd (of_decide_eq_true h) (by omega)) (fun h => ?_)
  rw [h]
  repeat (first | (refine M0 ?_; first | refine O0 ?_ | refine z1 tok rfl ?_ | refine O1 rfl ?_ rfl | refine O2 rfl ?_ | refine O3 rfl ?_ rfl | refine O4 rfl rfl rfl (fun _ _ => ?_) | refine O5 tok rfl rfl rfl (fun _ _ => ?_) | refine U0 _ (U2 rfl) rfl ?_ | refine U0 _ (U3 tok rfl rfl rfl rfl rfl) rfl ?_ | refine z3 tok rfl ?_ | refine U0 _ (U4 rfl rfl) rfl ?_ | refine U0 _ (U5 rfl rfl) rfl ?_) | (refine M1 ?_; first | refine J0 ?_ | refine J1 ?_ | refine J4 ?_ | refine J5 ?_ | refine J6 ?_ | refine J7 ?_ | refine J8 rfl ?_ | refine J9 rfl ?_) | (refine M2 ?_; first | refine I0 ?_ | refine I1 ?_ | refine I2 ?_ | refine I3 ?_ | refine I4 ?_ | refine I5 ?_ | refine I6 rfl ?_ | refine I7 ?_ | refine I8 ?_ | refine z4 ?_) | (refine M3 ?_; first | refine O6 ?_ | refine z2 tok rfl ?_ | refine O8 rfl ?_ | refine O7 rfl ?_ rfl | refine O9 rfl ?_ rfl | refine U1 _ (U4 rfl rfl) rfl ?_ | refine U1 _ (U5 rfl rfl) rfl ?_ | refine U1 _ (U2 rfl) rfl ?_ | refine U1 _ (U3 tok rfl rfl rfl rfl rfl) rfl ?_) | (refine M4 ?_; first | refine M6 ?_ | refine U6 rfl (by kernel_rfl) ?_ | refine U7 (by kernel_rfl) ?_) | (refine M5 ?_; first | exact M7 | refine U8 rfl ?_ | refine U9 rfl rfl ?_ ?_))
  refine XL.split _ _ rfl (fun h => absurd (of_decide_eq_true h) (by omega)) (fun h => ?_)
  rw [h]
  repeat (first | (refine M0 ?_; first | refine O0 ?_ | refine z1 tok rfl ?_ | refine O1 rfl ?_ rfl | refine O2 rfl ?_ | refine O3 rfl ?_ rfl | refine O4 rfl rfl rfl (fun _ _ => ?_) | refine O5 tok rfl rfl rfl (fun _ _ => ?_) | refine U0 _ (U2 rfl) rfl ?_ | refine U0 _ (U3 tok rfl rfl rfl rfl rfl) rfl ?_ | refine z3 tok rfl ?_ | refine U0 _ (U4 rfl rfl) rfl ?_ | refine U0 _ (U5 rfl rfl) rfl ?_) | (refine M1 ?_; first | refine J0 ?_ | refine J1 ?_ | refine J4 ?_ | refine J5 ?_ | refine J6 ?_ | refine J7 ?_ | refine J8 rfl ?_ | refine J9 rfl ?_) | (refine M2 ?_; first | refine I0 ?_ | refine I1 ?_ | refine I2 ?_ | refine I3 ?_ | refine I4 ?_ | refine I5 ?_ | refine I6 rfl ?_ | refine I7 ?_ | refine I8 ?_ | refine z4 ?_) | (refine M3 ?_; first | refine O6 ?_ | refine z2 tok rfl ?_ | refine O8 rfl ?_ | refine O7 rfl ?_ rfl | refine O9 rfl ?_ rfl | refine U1 _ (U4 rfl rfl) rfl ?_ | refine U1 _ (U5 rfl rfl) rfl ?_ | refine U1 _ (U2 rfl) rfl ?_ | refine U1 _ (U3 tok rfl rfl rfl rfl rfl) rfl ?_) | (refine M4 ?_; first | refine M6 ?_ | refine U6 rfl (by kernel_rfl) ?_ | refine U7 (by kernel_rfl) ?_) | (refine M5 ?_; first | exact M7 | refine U8 rfl ?_ | refine U9 rfl rfl ?_ ?_))
  refine XC.cond _ rfl (fun h => absurd (of_decide_eq_true h) (by omega)) (fun h => ?_)
  repeat (first | (refine M0 ?_; first | refine O0 ?_ | refine z1 tok rfl ?_ | refine O1 rfl ?_ rfl | refine O2 rfl ?_ | refine O3 rfl ?_ rfl | refine O4 rfl rfl rfl (fun _ _ => ?_) | refine O5 tok rfl rfl rfl (fun _ _ => ?_) | refine U0 _ (U2 rfl) rfl ?_ | refine U0 _ (U3 tok rfl rfl rfl rfl rfl) rfl ?_ | refine z3 tok rfl ?_ | refine U0 _ (U4 rfl rfl) rfl ?_ | refine U0 _ (U5 rfl rfl) rfl ?_) | (refine M1 ?_; first | refine J0 ?_ | refine J1 ?_ | refine J4 ?_ | refine J5 ?_ | refine J6 ?_ | refine J7 ?_ | refine J8 rfl ?_ | refine J9 rfl ?_) | (refine M2 ?_; first | refine I0 ?_ | refine I1 ?_ | refine I2 ?_ | refine I3 ?_ | refine I4 ?_ | refine I5 ?_ | refine I6 rfl ?_ | refine I7 ?_ | refine I8 ?_ | refine z4 ?_) | (refine M3 ?_; first | refine O6 ?_ | refine z2 tok rfl ?_ | refine O8 rfl ?_ | refine O7 rfl ?_ rfl | refine O9 rfl ?_ rfl | refine U1 _ (U4 rfl rfl) rfl ?_ | refine U1 _ (U5 rfl rfl) rfl ?_ | refine U1 _ (U2 rfl) rfl ?_ | refine U1 _ (U3 tok rfl rfl rfl rfl rfl) rfl ?_) | (refine M4 ?_; first | refine M6 ?_ | refine U6 rfl (by kernel_rfl) ?_ | refine U7 (by kernel_rfl) ?_) | (refine M5 ?_; first | exact M7 | refine U8 rfl ?_ | refine U9 rfl rfl ?_ ?_))
  refine XC.loopk [4, 5, 7, 10, 12, 18, 20, 23] rfl (fun k : Nat => [(26, .int .i64 (k : Nat))]) (fun _ => [(g5, _), (g4, _), (g3, _)]) (fun _ => w6) (fun k => k ≤ ts.length) (fun k => ts.length - k) 0 (Nat.zero_le _) (by repeat (first | exact Sub.nil | refine Sub.cons rfl ?_)) (fun _ h => h) ?_
  rintro k hk
  dsimp only [List.cons_append, List.nil_append]
  repeat (first | (refine M0 ?_; first | refine O0 ?_ | refine z1 tok rfl ?_ | refine O1 rfl ?_ rfl | refine O2 rfl ?_ | refine O3 rfl ?_ rfl | refine O4 rfl rfl rfl (fun _ _ => ?_) | refine O5 tok rfl rfl rfl (fun _ _ => ?_) | refine U0 _ (U2 rfl) rfl ?_ | refine U0 _ (U3 tok rfl rfl rfl rfl rfl) rfl ?_ | refine z3 tok rfl ?_ | refine U0 _ (U4 rfl rfl) rfl ?_ | refine U0 _ (U5 rfl rfl) rfl ?_) | (refine M1 ?_; first | refine J0 ?_ | refine J1 ?_ | refine J4 ?_ | refine J5 ?_ | refine J6 ?_ | refine J7 ?_ | refine J8 rfl ?_ | refine J9 rfl ?_) | (refine M2 ?_; first | refine I0 ?_ | refine I1 ?_ | refine I2 ?_ | refine I3 ?_ | refine I4 ?_ | refine I5 ?_ | refine I6 rfl ?_ | refine I7 ?_ | refine I8 ?_ | refine z4 ?_) | (refine M3 ?_; first | refine O6 ?_ | refine z2 tok rfl ?_ | refine O8 rfl ?_ | refine O7 rfl ?_ rfl | refine O9 rfl ?_ rfl | refine U1 _ (U4 rfl rfl) rfl ?_ | refine U1 _ (U5 rfl rfl) rfl ?_ | refine U1 _ (U2 rfl) rfl ?_ | refine U1 _ (U3 tok rfl rfl rfl rfl rfl) rfl ?_) | (refine M4 ?_; first | refine M6 ?_ | refine U6 rfl (by kernel_rfl) ?_ | refine U7 (by kernel_rfl) ?_) | (refine M5 ?_; first | exact M7 | refine U8 rfl ?_ | refine U9 rfl rfl ?_ ?_))
  refine XC.cond _ rfl (fun h1 => ?_) (fun h1 => ?_)
  rotate_left
  · repeat (first | (refine M0 ?_; first | refine O0 ?_ | refine z1 tok rfl ?_ | refine O1 rfl ?_ rfl | refine O2 rfl ?_ | refine O3 rfl ?_ rfl | refine O4 rfl rfl rfl (fun _ _ => ?_) | refine O5 tok rfl rfl rfl (fun _ _ => ?_) | refine U0 _ (U2 rfl) rfl ?_ | refine U0 _ (U3 tok rfl rfl rfl rfl rfl) rfl ?_ | refine z3 tok rfl ?_ | refine U0 _ (U4 rfl rfl) rfl ?_ | refine U0 _ (U5 rfl rfl) rfl ?_) | (refine M1 ?_; first | refine J0 ?_ | refine J1 ?_ | refine J4 ?_ | refine J5 ?_ | refine J6 ?_ | refine J7 ?_ | refine J8 rfl ?_ | refine J9 rfl ?_) | (refine M2 ?_; first | refine I0 ?_ | refine I1 ?_ | refine I2 ?_ | refine I3 ?_ | refine I4 ?_ | refine I5 ?_ | refine I6 rfl ?_ | refine I7 ?_ | refine I8 ?_ | refine z4 ?_) | (refine M3 ?_; first | refine O6 ?_ | refine z2 tok rfl ?_ | refine O8 rfl ?_ | refine O7 rfl ?_ rfl | refine O9 rfl ?_ rfl | refine U1 _ (U4 rfl rfl) rfl ?_ | refine U1 _ (U5 rfl rfl) rfl ?_ | refine U1 _ (U2 rfl) rfl ?_ | refine U1 _ (U3 tok rfl rfl rfl rfl rfl) rfl ?_) | (refine M4 ?_; first | refine M6 ?_ | refine U6 rfl (by kernel_rfl) ?_ | refine U7 (by kernel_rfl) ?_) | (refine M5 ?_; first | exact M7 | refine U8 rfl ?_ | refine U9 rfl rfl ?_ ?_))
    refine XL.step _ (Ev.call (f := 27) (vs := [basV p b, staV ⟨Aq, nq, cq⟩ s, svV r1, .int .i64 lim]) (ck rfl) rfl (fun w S => (Stay_any (p := p) (q := ⟨Aq, nq, cq⟩) (r := r1) (s := s) (ts := t1) (lim := lim) (hL.below (hB6.trans S.toBelow)) ((hb.below hB6).sys S) ((hq.below hB6).arg S) (ListAt.tks ((hF6.sys S (by intro e he; repeat (first | (cases he; done) | (rcases List.mem_cons.1 he with rfl | he; · first | (right; assumption) | (left; simp <;> fail))))).row_at (.head _)))))) rfl ?_
    repeat (first | (refine M0 ?_; first | refine O0 ?_ | refine z1 tok rfl ?_ | refine O1 rfl ?_ rfl | refine O2 rfl ?_ | refine O3 rfl ?_ rfl | refine O4 rfl rfl rfl (fun _ _ => ?_) | refine O5 tok rfl rfl rfl (fun _ _ => ?_) | refine U0 _ (U2 rfl) rfl ?_ | refine U0 _ (U3 tok rfl rfl rfl rfl rfl) rfl ?_ | refine z3 tok rfl ?_ | refine U0 _ (U4 rfl rfl) rfl ?_ | refine U0 _ (U5 rfl rfl) rfl ?_) | (refine M1 ?_; first | refine J0 ?_ | refine J1 ?_ | refine J4 ?_ | refine J5 ?_ | refine J6 ?_ | refine J7 ?_ | refine J8 rfl ?_ | refine J9 rfl ?_) | (refine M2 ?_; first | refine I0 ?_ | refine I1 ?_ | refine I2 ?_ | refine I3 ?_ | refine I4 ?_ | refine I5 ?_ | refine I6 rfl ?_ | refine I7 ?_ | refine I8 ?_ | refine z4 ?_) | (refine M3 ?_; first | refine O6 ?_ | refine z2 tok rfl ?_ | refine O8 rfl ?_ | refine O7 rfl ?_ rfl | refine O9 rfl ?_ rfl | refine U1 _ (U4 rfl rfl) rfl ?_ | refine U1 _ (U5 rfl rfl) rfl ?_ | refine U1 _ (U2 rfl) rfl ?_ | refine U1 _ (U3 tok rfl rfl rfl rfl rfl) rfl ?_) | (refine M4 ?_; first | refine M6 ?_ | refine U6 rfl (by kernel_rfl) ?_ | refine U7 (by kernel_rfl) ?_) | (refine M5 ?_; first | exact M7 | refine U8 rfl ?_ | refine U9 rfl rfl ?_ ?_))
    refine XL.step _ (Ev.call (f := 27) (vs := [basV p b, staV ⟨Aq, nq, cq⟩ s, svV r3, .int .i64 lim]) (ck rfl) rfl (fun w S => (Stay_any (p := p) (q := ⟨Aq, nq, cq⟩) (r := r3) (s := s) (ts := t3) (lim := lim) (hL.below (hB6.trans S.toBelow)) ((hb.below hB6).sys S) ((hq.below hB6).arg S) (ListAt.tks ((hF6.sys S (by intro e he; repeat (first | (cases he; done) | (rcases List.mem_cons.1 he with rfl | he; · first | (right; assumption) | (left; simp <;> fail))))).row_at (.tail _ (.tail _ (.head _)))))))) rfl ?_
    obtain ⟨y1, y2⟩ := stay_mono (b := b) (s := s) (by rw [ht3, ht1]; exact ti_case hTh) hE3 hE1 lim
    repeat (first | (refine M0 ?_; first | refine O0 ?_ | refine z1 tok rfl ?_ | refine O1 rfl ?_ rfl | refine O2 rfl ?_ | refine O3 rfl ?_ rfl | refine O4 rfl rfl rfl (fun _ _ => ?_) | refine O5 tok rfl rfl rfl (fun _ _ => ?_) | refine U0 _ (U2 rfl) rfl ?_ | refine U0 _ (U3 tok rfl rfl rfl rfl rfl) rfl ?_ | refine z3 tok rfl ?_ | refine U0 _ (U4 rfl rfl) rfl ?_ | refine U0 _ (U5 rfl rfl) rfl ?_) | (refine M1 ?_; first | refine J0 ?_ | refine J1 ?_ | refine J4 ?_ | refine J5 ?_ | refine J6 ?_ | refine J7 ?_ | refine J8 rfl ?_ | refine J9 rfl ?_) | (refine M2 ?_; first | refine I0 ?_ | refine I1 ?_ | refine I2 ?_ | refine I3 ?_ | refine I4 ?_ | refine I5 ?_ | refine I6 rfl ?_ | refine I7 ?_ | refine I8 ?_ | refine z4 ?_) | (refine M3 ?_; first | refine O6 ?_ | refine z2 tok rfl ?_ | refine O8 rfl ?_ | refine O7 rfl ?_ rfl | refine O9 rfl ?_ rfl | refine U1 _ (U4 rfl rfl) rfl ?_ | refine U1 _ (U5 rfl rfl) rfl ?_ | refine U1 _ (U2 rfl) rfl ?_ | refine U1 _ (U3 tok rfl rfl rfl rfl rfl) rfl ?_) | (refine M4 ?_; first | refine M6 ?_ | refine U6 rfl (by kernel_rfl) ?_ | refine U7 (by kernel_rfl) ?_) | (refine M5 ?_; first | exact M7 | refine U8 rfl ?_ | refine U9 rfl rfl ?_ ?_))
    refine XL.split _ _ rfl (fun h => ?_) (fun h => absurd y1.symm (of_decide_eq_false h))
    rw [h]
    repeat (first | (refine M0 ?_; first | refine O0 ?_ | refine z1 tok rfl ?_ | refine O1 rfl ?_ rfl | refine O2 rfl ?_ | refine O3 rfl ?_ rfl | refine O4 rfl rfl rfl (fun _ _ => ?_) | refine O5 tok rfl rfl rfl (fun _ _ => ?_) | refine U0 _ (U2 rfl) rfl ?_ | refine U0 _ (U3 tok rfl rfl rfl rfl rfl) rfl ?_ | refine z3 tok rfl ?_ | refine U0 _ (U4 rfl rfl) rfl ?_ | refine U0 _ (U5 rfl rfl) rfl ?_) | (refine M1 ?_; first | refine J0 ?_ | refine J1 ?_ | refine J4 ?_ | refine J5 ?_ | refine J6 ?_ | refine J7 ?_ | refine J8 rfl ?_ | refine J9 rfl ?_) | (refine M2 ?_; first | refine I0 ?_ | refine I1 ?_ | refine I2 ?_ | refine I3 ?_ | refine I4 ?_ | refine I5 ?_ | refine I6 rfl ?_ | refine I7 ?_ | refine I8 ?_ | refine z4 ?_) | (refine M3 ?_; first | refine O6 ?_ | refine z2 tok rfl ?_ | refine O8 rfl ?_ | refine O7 rfl ?_ rfl | refine O9 rfl ?_ rfl | refine U1 _ (U4 rfl rfl) rfl ?_ | refine U1 _ (U5 rfl rfl) rfl ?_ | refine U1 _ (U2 rfl) rfl ?_ | refine U1 _ (U3 tok rfl rfl rfl rfl rfl) rfl ?_) | (refine M4 ?_; first | refine M6 ?_ | refine U6 rfl (by kernel_rfl) ?_ | refine U7 (by kernel_rfl) ?_) | (refine M5 ?_; first | exact M7 | refine U8 rfl ?_ | refine U9 rfl rfl ?_ ?_))
    rw [decide_eq_true y2]
    repeat (first | (refine M0 ?_; first | refine O0 ?_ | refine z1 tok rfl ?_ | refine O1 rfl ?_ rfl | refine O2 rfl ?_ | refine O3 rfl ?_ rfl | refine U0 _ (Ev.call (f := 23) (ck rfl) rfl (fun w S => (Awake_any (hL.below (hB6.trans S.toBelow)) :))) rfl ?_ | refine O4 rfl rfl rfl (fun _ _ => ?_) | refine O5 tok rfl rfl rfl (fun _ _ => ?_) | refine U0 _ (U2 rfl) rfl ?_ | refine U0 _ (U3 tok rfl rfl rfl rfl rfl) rfl ?_ | refine z3 tok rfl ?_ | refine U0 _ (U4 rfl rfl) rfl ?_ | refine U0 _ (U5 rfl rfl) rfl ?_) | (refine M1 ?_; first | refine J0 ?_ | refine J1 ?_ | refine J4 ?_ | refine J5 ?_ | refine J6 ?_ | refine J7 ?_ | refine J8 rfl ?_ | refine J9 rfl ?_) | (refine M2 ?_; first | refine I0 ?_ | refine I1 ?_ | refine I2 ?_ | refine I3 ?_ | refine I4 ?_ | refine I5 ?_ | refine I6 rfl ?_ | refine I7 ?_ | refine I8 ?_ | refine z4 ?_) | (refine M3 ?_; first | refine O6 ?_ | refine z2 tok rfl ?_ | refine O8 rfl ?_ | refine O7 rfl ?_ rfl | refine O9 rfl ?_ rfl | refine U1 _ (Ev.call (f := 23) (ck rfl) rfl (fun w S => (Awake_any (hL.below (hB6.trans S.toBelow)) :))) rfl ?_ | refine U1 _ (U4 rfl rfl) rfl ?_ | refine U1 _ (U5 rfl rfl) rfl ?_ | refine U1 _ (U2 rfl) rfl ?_ | refine U1 _ (U3 tok rfl rfl rfl rfl rfl) rfl ?_) | (refine M4 ?_; first | refine M6 ?_ | refine U6 rfl (by kernel_rfl) ?_ | refine U7 (by kernel_rfl) ?_) | (refine M5 ?_; first | exact M7 | refine U8 rfl ?_ | refine U9 rfl rfl ?_ ?_))
    refine XE.retg tok Tryd.results16 rfl (by simp only [and_self, and_true]) (fun w' S => ?_)
    exact ⟨rfl, hB6.trans S.toBelow⟩
  have hkn : k < ts.length := by simpa using h1
  have hs1 : ListAt staK w6 _ ⟨A1, l1.length, c1⟩ l1 := hF6.held (hList staK ⟨A1, l1.length, c1⟩ l1) (.tail _ (.tail _ (.tail _ (.tail _ (.head _)))))
  have hs2 : ListAt staK w6 _ ⟨A2, l2.length, c2⟩ l2 := hF6.held (hList staK ⟨A2, l2.length, c2⟩ l2) (.tail _ (.tail _ (.head _)))
  have hs3 : ListAt staK w6 _ ⟨A3, l3.length, c3⟩ l3 := hF6.held (hList staK ⟨A3, l3.length, c3⟩ l3) (.head _)
  obtain ⟨ad1, rfl, hf1⟩ := hs1.addr (by decide) (by omega)
  obtain ⟨ad2, rfl, hf2⟩ := hs2.addr (by decide) (by omega)
  obtain ⟨ad3, rfl, hf3⟩ := hs3.addr (by decide) (by omega)
  have k1 : k < l1.length := by omega
  have k2 : k < l2.length := by omega
  have k3 : k < l3.length := by omega
  have hv1 := hs1.elem (List.getElem?_eq_getElem k1) 0 (.int .i64 l1[k].s.vol) rfl
  have hv2 := hs2.elem (List.getElem?_eq_getElem k2) 0 (.int .i64 l2[k].s.vol) rfl
  have hv3 := hs3.elem (List.getElem?_eq_getElem k3) 0 (.int .i64 l3[k].s.vol) rfl
  have hw1 := hs1.elem (List.getElem?_eq_getElem k1) 1 (.slice l1[k].q.A l1[k].q.n l1[k].q.c) rfl
  have hw2 := hs2.elem (List.getElem?_eq_getElem k2) 1 (.slice l2[k].q.A l2[k].q.n l2[k].q.c) rfl
  have hw3 := hs3.elem (List.getElem?_eq_getElem k3) 1 (.slice l3[k].q.A l3[k].q.n l3[k].q.c) rfl
  obtain ⟨a1, o1⟩ := hat l1 t1 e1 hE1 lt1 herr1 k k1 hkn
  obtain ⟨a2, o2⟩ := hat l2 t2 e3 hE2 lt2 herr2 k k2 hkn
  obtain ⟨a3, o3⟩ := hat l3 t3 e5 hE3 lt3 herr3 k k3 hkn
  have g1 := ti_sta (b := b) (s := s) hTl (ht2 ▸ hE2) (ht3 ▸ hE3) hkn
  have g2 := ti_sta (b := b) (s := s) hTh (ht3 ▸ hE3) (ht1 ▸ hE1) hkn
  rw [← ht2, ← ht3, ← a2, ← a3] at g1
  rw [← ht3, ← ht1, ← a3, ← a1] at g2
  have hm6 := ho.m6
  have hsum : ∀ (q : SV) (x : Sta), StaOk b x → ∀ w5, IntsAt w5 (Lt w5.heap.size) q x.fil → Calls Tryd.prog 44 #[svV q] w5 fun e w' => e = .returned (.int .i64 (sumTo (at0 x.fil) x.fil.length)) ∧ Below w5.heap.size w5 w' := fun q x hx w5 hi =>
    sum_any hi (by rw [hx.len]; omega) (fun i hi => by
      have h1 := hx.fil i (by rw [← hx.len]; exact hi)
      have h2 := ho.room i (by rw [← hx.len]; exact hi)
      simp only [Sta.f] at h1; unfold at0; omega)
  have hsum1 : ∀ w5 (L : Lo), Sys w.heap.size w6 L w5 → (∀ e, e ∈ L → e.1 ∈ [g5, g4, g3]) → Calls Tryd.prog 44 #[svV l1[k].q] w5 fun e w' => e = .returned (.int .i64 (sumTo (at0 l1[k].s.fil) l1[k].s.fil.length)) ∧ Below w5.heap.size w5 w' := fun w5 L S5 hLL => hsum l1[k].q l1[k].s o1 w5 (((((hF6.sys S5 (fun e he => .inl (List.mem_append_left _ (hLL e he)))).held (hList staK ⟨some ad1, l1.length, c1⟩ l1) (.tail _ (.tail _ (.tail _ (.tail _ (.head _))))) : ListAt staK _ _ _ _)).ins _ (List.getElem_mem k1) (hInts l1[k].q l1[k].s.fil) (.head _) : IntsAt w5 _ _ _).mono fun j hj => hj.2.1)
  have hsum2 : ∀ w5 (L : Lo), Sys w.heap.size w6 L w5 → (∀ e, e ∈ L → e.1 ∈ [g5, g4, g3]) → Calls Tryd.prog 44 #[svV l2[k].q] w5 fun e w' => e = .returned (.int .i64 (sumTo (at0 l2[k].s.fil) l2[k].s.fil.length)) ∧ Below w5.heap.size w5 w' := fun w5 L S5 hLL => hsum l2[k].q l2[k].s o2 w5 (((((hF6.sys S5 (fun e he => .inl (List.mem_append_left _ (hLL e he)))).held (hList staK ⟨some ad2, l2.length, c2⟩ l2) (.tail _ (.tail _ (.head _))) : ListAt staK _ _ _ _)).ins _ (List.getElem_mem k2) (hInts l2[k].q l2[k].s.fil) (.head _) : IntsAt w5 _ _ _).mono fun j hj => hj.2.1)
  have hsum3 : ∀ w5 (L : Lo), Sys w.heap.size w6 L w5 → (∀ e, e ∈ L → e.1 ∈ [g5, g4, g3]) → Calls Tryd.prog 44 #[svV l3[k].q] w5 fun e w' => e = .returned (.int .i64 (sumTo (at0 l3[k].s.fil) l3[k].s.fil.length)) ∧ Below w5.heap.size w5 w' := fun w5 L S5 hLL => hsum l3[k].q l3[k].s o3 w5 (((((hF6.sys S5 (fun e he => .inl (List.mem_append_left _ (hLL e he)))).held (hList staK ⟨some ad3, l3.length, c3⟩ l3) (.head _) : ListAt staK _ _ _ _)).ins _ (List.getElem_mem k3) (hInts l3[k].q l3[k].s.fil) (.head _) : IntsAt w5 _ _ _).mono fun j hj => hj.2.1)
  repeat (first | (refine M0 ?_; first | refine O0 ?_ | refine z1 tok rfl ?_ | refine O1 rfl ?_ rfl | refine O2 rfl ?_ | refine O3 rfl ?_ rfl | refine O4 rfl rfl rfl (fun _ _ => ?_) | refine O5 tok rfl rfl rfl (fun _ _ => ?_) | refine U0 _ (U2 rfl) rfl ?_ | refine U0 _ (U3 tok rfl rfl rfl rfl rfl) rfl ?_ | refine z3 tok rfl ?_ | refine U0 _ (U4 rfl rfl) rfl ?_ | refine U0 _ (U5 rfl rfl) rfl ?_) | (refine M1 ?_; first | refine J0 ?_ | refine J1 ?_ | refine J4 ?_ | refine J5 ?_ | refine J6 ?_ | refine J7 ?_ | refine J8 rfl ?_ | refine J9 rfl ?_) | (refine M2 ?_; first | refine I0 ?_ | refine I1 ?_ | refine I2 ?_ | refine I3 ?_ | refine I4 ?_ | refine I5 ?_ | refine I6 rfl ?_ | refine I7 ?_ | refine I8 ?_ | refine z4 ?_) | (refine M3 ?_; first | refine O6 ?_ | refine z2 tok rfl ?_ | refine O8 rfl ?_ | refine O7 rfl ?_ rfl | refine O9 rfl ?_ rfl | refine U1 _ (U4 rfl rfl) rfl ?_ | refine U1 _ (U5 rfl rfl) rfl ?_ | refine U1 _ (U2 rfl) rfl ?_ | refine U1 _ (U3 tok rfl rfl rfl rfl rfl) rfl ?_) | (refine M4 ?_; first | refine M6 ?_ | refine U6 rfl (by kernel_rfl) ?_ | refine U7 (by kernel_rfl) ?_) | (refine M5 ?_; first | exact M7 | refine U8 rfl ?_ | refine U9 rfl rfl ?_ ?_))
  repeat (first | (refine M0 ?_; first | refine O0 ?_ | refine z1 tok rfl ?_ | refine O1 rfl ?_ rfl | refine O2 rfl ?_ | refine O3 rfl ?_ rfl | refine U0 _ (Ev.load_far tok rfl rfl (add_lt2 hf1.2.1) (fun e he => by rw [add_block, add_block]; exact hf1.ne (fun e he => List.mem_append_left _ (List.mem_map_of_mem he)) e he) hv1) rfl ?_ | refine U0 _ (Ev.load_far tok rfl rfl (add_lt2 hf2.2.1) (fun e he => by rw [add_block, add_block]; exact hf2.ne (fun e he => List.mem_append_left _ (List.mem_map_of_mem he)) e he) hv2) rfl ?_ | refine U0 _ (Ev.load_far tok rfl rfl (add_lt2 hf3.2.1) (fun e he => by rw [add_block, add_block]; exact hf3.ne (fun e he => List.mem_append_left _ (List.mem_map_of_mem he)) e he) hv3) rfl ?_ | refine U0 _ (Ev.load_far tok rfl rfl (add_lt2 hf1.2.1) (fun e he => by rw [add_block, add_block]; exact hf1.ne (fun e he => List.mem_append_left _ (List.mem_map_of_mem he)) e he) hw1) rfl ?_ | refine U0 _ (Ev.load_far tok rfl rfl (add_lt2 hf2.2.1) (fun e he => by rw [add_block, add_block]; exact hf2.ne (fun e he => List.mem_append_left _ (List.mem_map_of_mem he)) e he) hw2) rfl ?_ | refine U0 _ (Ev.load_far tok rfl rfl (add_lt2 hf3.2.1) (fun e he => by rw [add_block, add_block]; exact hf3.ne (fun e he => List.mem_append_left _ (List.mem_map_of_mem he)) e he) hw3) rfl ?_ | refine O4 rfl rfl rfl (fun _ _ => ?_) | refine O5 tok rfl rfl rfl (fun _ _ => ?_) | refine U0 _ (U2 rfl) rfl ?_ | refine U0 _ (U3 tok rfl rfl rfl rfl rfl) rfl ?_ | refine z3 tok rfl ?_ | refine U0 _ (U4 rfl rfl) rfl ?_ | refine U0 _ (U5 rfl rfl) rfl ?_) | (refine M1 ?_; first | refine J0 ?_ | refine J1 ?_ | refine J2 mixed rfl (by kernel_rfl) ?_ | refine J3 mixed rfl rfl (by kernel_rfl) ?_ | refine J4 ?_ | refine J5 ?_ | refine J6 ?_ | refine J7 ?_ | refine J8 rfl ?_ | refine J9 rfl ?_) | (refine M2 ?_; first | refine I0 ?_ | refine I1 ?_ | refine I2 ?_ | refine I3 ?_ | refine I4 ?_ | refine I5 ?_ | refine I6 rfl ?_ | refine I7 ?_ | refine I8 ?_ | refine z4 ?_) | (refine M3 ?_; first | refine O6 ?_ | refine z2 tok rfl ?_ | refine O8 rfl ?_ | refine O7 rfl ?_ rfl | refine O9 rfl ?_ rfl | refine U1 _ (Ev.load_far tok rfl rfl (add_lt2 hf1.2.1) (fun e he => by rw [add_block, add_block]; exact hf1.ne (fun e he => List.mem_append_left _ (List.mem_map_of_mem he)) e he) hv1) rfl ?_ | refine U1 _ (Ev.load_far tok rfl rfl (add_lt2 hf2.2.1) (fun e he => by rw [add_block, add_block]; exact hf2.ne (fun e he => List.mem_append_left _ (List.mem_map_of_mem he)) e he) hv2) rfl ?_ | refine U1 _ (Ev.load_far tok rfl rfl (add_lt2 hf3.2.1) (fun e he => by rw [add_block, add_block]; exact hf3.ne (fun e he => List.mem_append_left _ (List.mem_map_of_mem he)) e he) hv3) rfl ?_ | refine U1 _ (Ev.load_far tok rfl rfl (add_lt2 hf1.2.1) (fun e he => by rw [add_block, add_block]; exact hf1.ne (fun e he => List.mem_append_left _ (List.mem_map_of_mem he)) e he) hw1) rfl ?_ | refine U1 _ (Ev.load_far tok rfl rfl (add_lt2 hf2.2.1) (fun e he => by rw [add_block, add_block]; exact hf2.ne (fun e he => List.mem_append_left _ (List.mem_map_of_mem he)) e he) hw2) rfl ?_ | refine U1 _ (Ev.load_far tok rfl rfl (add_lt2 hf3.2.1) (fun e he => by rw [add_block, add_block]; exact hf3.ne (fun e he => List.mem_append_left _ (List.mem_map_of_mem he)) e he) hw3) rfl ?_ | refine U1 _ (U4 rfl rfl) rfl ?_ | refine U1 _ (U5 rfl rfl) rfl ?_ | refine U1 _ (U2 rfl) rfl ?_ | refine U1 _ (U3 tok rfl rfl rfl rfl rfl) rfl ?_) | (refine M4 ?_; first | refine M6 ?_ | refine U6 rfl (by kernel_rfl) ?_ | refine U7 (by kernel_rfl) ?_) | (refine M5 ?_; first | exact M7 | refine U8 rfl ?_ | refine U9 rfl rfl ?_ ?_))
  refine Fw.split _ _ rfl (fun h => absurd (of_decide_eq_true h) (by omega)) (fun h => ?_)
  rw [h]
  repeat (first | (refine M0 ?_; first | refine O0 ?_ | refine z1 tok rfl ?_ | refine O1 rfl ?_ rfl | refine O2 rfl ?_ | refine O3 rfl ?_ rfl | refine U0 _ (Ev.load_far tok rfl rfl (add_lt2 hf1.2.1) (fun e he => by rw [add_block, add_block]; exact hf1.ne (fun e he => List.mem_append_left _ (List.mem_map_of_mem he)) e he) hv1) rfl ?_ | refine U0 _ (Ev.load_far tok rfl rfl (add_lt2 hf2.2.1) (fun e he => by rw [add_block, add_block]; exact hf2.ne (fun e he => List.mem_append_left _ (List.mem_map_of_mem he)) e he) hv2) rfl ?_ | refine U0 _ (Ev.load_far tok rfl rfl (add_lt2 hf3.2.1) (fun e he => by rw [add_block, add_block]; exact hf3.ne (fun e he => List.mem_append_left _ (List.mem_map_of_mem he)) e he) hv3) rfl ?_ | refine U0 _ (Ev.load_far tok rfl rfl (add_lt2 hf1.2.1) (fun e he => by rw [add_block, add_block]; exact hf1.ne (fun e he => List.mem_append_left _ (List.mem_map_of_mem he)) e he) hw1) rfl ?_ | refine U0 _ (Ev.load_far tok rfl rfl (add_lt2 hf2.2.1) (fun e he => by rw [add_block, add_block]; exact hf2.ne (fun e he => List.mem_append_left _ (List.mem_map_of_mem he)) e he) hw2) rfl ?_ | refine U0 _ (Ev.load_far tok rfl rfl (add_lt2 hf3.2.1) (fun e he => by rw [add_block, add_block]; exact hf3.ne (fun e he => List.mem_append_left _ (List.mem_map_of_mem he)) e he) hw3) rfl ?_ | refine O4 rfl rfl rfl (fun _ _ => ?_) | refine O5 tok rfl rfl rfl (fun _ _ => ?_) | refine U0 _ (U2 rfl) rfl ?_ | refine U0 _ (U3 tok rfl rfl rfl rfl rfl) rfl ?_ | refine z3 tok rfl ?_ | refine U0 _ (U4 rfl rfl) rfl ?_ | refine U0 _ (U5 rfl rfl) rfl ?_) | (refine M1 ?_; first | refine J0 ?_ | refine J1 ?_ | refine J2 mixed rfl (by kernel_rfl) ?_ | refine J3 mixed rfl rfl (by kernel_rfl) ?_ | refine J4 ?_ | refine J5 ?_ | refine J6 ?_ | refine J7 ?_ | refine J8 rfl ?_ | refine J9 rfl ?_) | (refine M2 ?_; first | refine I0 ?_ | refine I1 ?_ | refine I2 ?_ | refine I3 ?_ | refine I4 ?_ | refine I5 ?_ | refine I6 rfl ?_ | refine I7 ?_ | refine I8 ?_ | refine z4 ?_) | (refine M3 ?_; first | refine O6 ?_ | refine z2 tok rfl ?_ | refine O8 rfl ?_ | refine O7 rfl ?_ rfl | refine O9 rfl ?_ rfl | refine U1 _ (Ev.load_far tok rfl rfl (add_lt2 hf1.2.1) (fun e he => by rw [add_block, add_block]; exact hf1.ne (fun e he => List.mem_append_left _ (List.mem_map_of_mem he)) e he) hv1) rfl ?_ | refine U1 _ (Ev.load_far tok rfl rfl (add_lt2 hf2.2.1) (fun e he => by rw [add_block, add_block]; exact hf2.ne (fun e he => List.mem_append_left _ (List.mem_map_of_mem he)) e he) hv2) rfl ?_ | refine U1 _ (Ev.load_far tok rfl rfl (add_lt2 hf3.2.1) (fun e he => by rw [add_block, add_block]; exact hf3.ne (fun e he => List.mem_append_left _ (List.mem_map_of_mem he)) e he) hv3) rfl ?_ | refine U1 _ (Ev.load_far tok rfl rfl (add_lt2 hf1.2.1) (fun e he => by rw [add_block, add_block]; exact hf1.ne (fun e he => List.mem_append_left _ (List.mem_map_of_mem he)) e he) hw1) rfl ?_ | refine U1 _ (Ev.load_far tok rfl rfl (add_lt2 hf2.2.1) (fun e he => by rw [add_block, add_block]; exact hf2.ne (fun e he => List.mem_append_left _ (List.mem_map_of_mem he)) e he) hw2) rfl ?_ | refine U1 _ (Ev.load_far tok rfl rfl (add_lt2 hf3.2.1) (fun e he => by rw [add_block, add_block]; exact hf3.ne (fun e he => List.mem_append_left _ (List.mem_map_of_mem he)) e he) hw3) rfl ?_ | refine U1 _ (U4 rfl rfl) rfl ?_ | refine U1 _ (U5 rfl rfl) rfl ?_ | refine U1 _ (U2 rfl) rfl ?_ | refine U1 _ (U3 tok rfl rfl rfl rfl rfl) rfl ?_) | (refine M4 ?_; first | refine M6 ?_ | refine U6 rfl (by kernel_rfl) ?_ | refine U7 (by kernel_rfl) ?_) | (refine M5 ?_; first | exact M7 | refine U8 rfl ?_ | refine U9 rfl rfl ?_ ?_))
  refine Fw.split _ _ rfl (fun h => absurd (of_decide_eq_true h) (by omega)) (fun h => ?_)
  rw [h]
  repeat (first | (refine M0 ?_; first | refine O0 ?_ | refine z1 tok rfl ?_ | refine O1 rfl ?_ rfl | refine O2 rfl ?_ | refine O3 rfl ?_ rfl | refine U0 _ (Ev.load_far tok rfl rfl (add_lt2 hf1.2.1) (fun e he => by rw [add_block, add_block]; exact hf1.ne (fun e he => List.mem_append_left _ (List.mem_map_of_mem he)) e he) hv1) rfl ?_ | refine U0 _ (Ev.load_far tok rfl rfl (add_lt2 hf2.2.1) (fun e he => by rw [add_block, add_block]; exact hf2.ne (fun e he => List.mem_append_left _ (List.mem_map_of_mem he)) e he) hv2) rfl ?_ | refine U0 _ (Ev.load_far tok rfl rfl (add_lt2 hf3.2.1) (fun e he => by rw [add_block, add_block]; exact hf3.ne (fun e he => List.mem_append_left _ (List.mem_map_of_mem he)) e he) hv3) rfl ?_ | refine U0 _ (Ev.load_far tok rfl rfl (add_lt2 hf1.2.1) (fun e he => by rw [add_block, add_block]; exact hf1.ne (fun e he => List.mem_append_left _ (List.mem_map_of_mem he)) e he) hw1) rfl ?_ | refine U0 _ (Ev.load_far tok rfl rfl (add_lt2 hf2.2.1) (fun e he => by rw [add_block, add_block]; exact hf2.ne (fun e he => List.mem_append_left _ (List.mem_map_of_mem he)) e he) hw2) rfl ?_ | refine U0 _ (Ev.load_far tok rfl rfl (add_lt2 hf3.2.1) (fun e he => by rw [add_block, add_block]; exact hf3.ne (fun e he => List.mem_append_left _ (List.mem_map_of_mem he)) e he) hw3) rfl ?_ | refine U0 _ (Ev.call (f := 44) (vs := [svV l2[k].q]) (ck rfl) rfl (fun w5 S5 => hsum2 w5 _ S5 (fun e he => List.mem_map_of_mem he))) rfl ?_ | refine U0 _ (Ev.call (f := 44) (vs := [svV l3[k].q]) (ck rfl) rfl (fun w5 S5 => hsum3 w5 _ S5 (fun e he => List.mem_map_of_mem he))) rfl ?_ | refine O4 rfl rfl rfl (fun _ _ => ?_) | refine O5 tok rfl rfl rfl (fun _ _ => ?_) | refine U0 _ (U2 rfl) rfl ?_ | refine U0 _ (U3 tok rfl rfl rfl rfl rfl) rfl ?_ | refine z3 tok rfl ?_ | refine U0 _ (U4 rfl rfl) rfl ?_ | refine U0 _ (U5 rfl rfl) rfl ?_) | (refine M1 ?_; first | refine J0 ?_ | refine J1 ?_ | refine J2 mixed rfl (by kernel_rfl) ?_ | refine J3 mixed rfl rfl (by kernel_rfl) ?_ | refine J4 ?_ | refine J5 ?_ | refine J6 ?_ | refine J7 ?_ | refine J8 rfl ?_ | refine J9 rfl ?_) | (refine M2 ?_; first | refine I0 ?_ | refine I1 ?_ | refine I2 ?_ | refine I3 ?_ | refine I4 ?_ | refine I5 ?_ | refine I6 rfl ?_ | refine I7 ?_ | refine I8 ?_ | refine z4 ?_) | (refine M3 ?_; first | refine O6 ?_ | refine z2 tok rfl ?_ | refine O8 rfl ?_ | refine O7 rfl ?_ rfl | refine O9 rfl ?_ rfl | refine U1 _ (Ev.load_far tok rfl rfl (add_lt2 hf1.2.1) (fun e he => by rw [add_block, add_block]; exact hf1.ne (fun e he => List.mem_append_left _ (List.mem_map_of_mem he)) e he) hv1) rfl ?_ | refine U1 _ (Ev.load_far tok rfl rfl (add_lt2 hf2.2.1) (fun e he => by rw [add_block, add_block]; exact hf2.ne (fun e he => List.mem_append_left _ (List.mem_map_of_mem he)) e he) hv2) rfl ?_ | refine U1 _ (Ev.load_far tok rfl rfl (add_lt2 hf3.2.1) (fun e he => by rw [add_block, add_block]; exact hf3.ne (fun e he => List.mem_append_left _ (List.mem_map_of_mem he)) e he) hv3) rfl ?_ | refine U1 _ (Ev.load_far tok rfl rfl (add_lt2 hf1.2.1) (fun e he => by rw [add_block, add_block]; exact hf1.ne (fun e he => List.mem_append_left _ (List.mem_map_of_mem he)) e he) hw1) rfl ?_ | refine U1 _ (Ev.load_far tok rfl rfl (add_lt2 hf2.2.1) (fun e he => by rw [add_block, add_block]; exact hf2.ne (fun e he => List.mem_append_left _ (List.mem_map_of_mem he)) e he) hw2) rfl ?_ | refine U1 _ (Ev.load_far tok rfl rfl (add_lt2 hf3.2.1) (fun e he => by rw [add_block, add_block]; exact hf3.ne (fun e he => List.mem_append_left _ (List.mem_map_of_mem he)) e he) hw3) rfl ?_ | refine U1 _ (Ev.call (f := 44) (vs := [svV l2[k].q]) (ck rfl) rfl (fun w5 S5 => hsum2 w5 _ S5 (fun e he => List.mem_map_of_mem he))) rfl ?_ | refine U1 _ (Ev.call (f := 44) (vs := [svV l3[k].q]) (ck rfl) rfl (fun w5 S5 => hsum3 w5 _ S5 (fun e he => List.mem_map_of_mem he))) rfl ?_ | refine U1 _ (U4 rfl rfl) rfl ?_ | refine U1 _ (U5 rfl rfl) rfl ?_ | refine U1 _ (U2 rfl) rfl ?_ | refine U1 _ (U3 tok rfl rfl rfl rfl rfl) rfl ?_) | (refine M4 ?_; first | refine M6 ?_ | refine U6 rfl (by kernel_rfl) ?_ | refine U7 (by kernel_rfl) ?_) | (refine M5 ?_; first | exact M7 | refine U8 rfl ?_ | refine U9 rfl rfl ?_ ?_))
  refine Fw.split _ _ rfl (fun h => absurd (of_decide_eq_true h) (by omega)) (fun h => ?_)
  rw [h]
  repeat (first | (refine M0 ?_; first | refine O0 ?_ | refine z1 tok rfl ?_ | refine O1 rfl ?_ rfl | refine O2 rfl ?_ | refine O3 rfl ?_ rfl | refine U0 _ (Ev.load_far tok rfl rfl (add_lt2 hf1.2.1) (fun e he => by rw [add_block, add_block]; exact hf1.ne (fun e he => List.mem_append_left _ (List.mem_map_of_mem he)) e he) hv1) rfl ?_ | refine U0 _ (Ev.load_far tok rfl rfl (add_lt2 hf2.2.1) (fun e he => by rw [add_block, add_block]; exact hf2.ne (fun e he => List.mem_append_left _ (List.mem_map_of_mem he)) e he) hv2) rfl ?_ | refine U0 _ (Ev.load_far tok rfl rfl (add_lt2 hf3.2.1) (fun e he => by rw [add_block, add_block]; exact hf3.ne (fun e he => List.mem_append_left _ (List.mem_map_of_mem he)) e he) hv3) rfl ?_ | refine U0 _ (Ev.load_far tok rfl rfl (add_lt2 hf1.2.1) (fun e he => by rw [add_block, add_block]; exact hf1.ne (fun e he => List.mem_append_left _ (List.mem_map_of_mem he)) e he) hw1) rfl ?_ | refine U0 _ (Ev.load_far tok rfl rfl (add_lt2 hf2.2.1) (fun e he => by rw [add_block, add_block]; exact hf2.ne (fun e he => List.mem_append_left _ (List.mem_map_of_mem he)) e he) hw2) rfl ?_ | refine U0 _ (Ev.load_far tok rfl rfl (add_lt2 hf3.2.1) (fun e he => by rw [add_block, add_block]; exact hf3.ne (fun e he => List.mem_append_left _ (List.mem_map_of_mem he)) e he) hw3) rfl ?_ | refine U0 _ (Ev.call (f := 44) (vs := [svV l3[k].q]) (ck rfl) rfl (fun w5 S5 => hsum3 w5 _ S5 (fun e he => List.mem_map_of_mem he))) rfl ?_ | refine U0 _ (Ev.call (f := 44) (vs := [svV l1[k].q]) (ck rfl) rfl (fun w5 S5 => hsum1 w5 _ S5 (fun e he => List.mem_map_of_mem he))) rfl ?_ | refine O4 rfl rfl rfl (fun _ _ => ?_) | refine O5 tok rfl rfl rfl (fun _ _ => ?_) | refine U0 _ (U2 rfl) rfl ?_ | refine U0 _ (U3 tok rfl rfl rfl rfl rfl) rfl ?_ | refine z3 tok rfl ?_ | refine U0 _ (U4 rfl rfl) rfl ?_ | refine U0 _ (U5 rfl rfl) rfl ?_) | (refine M1 ?_; first | refine J0 ?_ | refine J1 ?_ | refine J2 mixed rfl (by kernel_rfl) ?_ | refine J3 mixed rfl rfl (by kernel_rfl) ?_ | refine J4 ?_ | refine J5 ?_ | refine J6 ?_ | refine J7 ?_ | refine J8 rfl ?_ | refine J9 rfl ?_) | (refine M2 ?_; first | refine I0 ?_ | refine I1 ?_ | refine I2 ?_ | refine I3 ?_ | refine I4 ?_ | refine I5 ?_ | refine I6 rfl ?_ | refine I7 ?_ | refine I8 ?_ | refine z4 ?_) | (refine M3 ?_; first | refine O6 ?_ | refine z2 tok rfl ?_ | refine O8 rfl ?_ | refine O7 rfl ?_ rfl | refine O9 rfl ?_ rfl | refine U1 _ (Ev.load_far tok rfl rfl (add_lt2 hf1.2.1) (fun e he => by rw [add_block, add_block]; exact hf1.ne (fun e he => List.mem_append_left _ (List.mem_map_of_mem he)) e he) hv1) rfl ?_ | refine U1 _ (Ev.load_far tok rfl rfl (add_lt2 hf2.2.1) (fun e he => by rw [add_block, add_block]; exact hf2.ne (fun e he => List.mem_append_left _ (List.mem_map_of_mem he)) e he) hv2) rfl ?_ | refine U1 _ (Ev.load_far tok rfl rfl (add_lt2 hf3.2.1) (fun e he => by rw [add_block, add_block]; exact hf3.ne (fun e he => List.mem_append_left _ (List.mem_map_of_mem he)) e he) hv3) rfl ?_ | refine U1 _ (Ev.load_far tok rfl rfl (add_lt2 hf1.2.1) (fun e he => by rw [add_block, add_block]; exact hf1.ne (fun e he => List.mem_append_left _ (List.mem_map_of_mem he)) e he) hw1) rfl ?_ | refine U1 _ (Ev.load_far tok rfl rfl (add_lt2 hf2.2.1) (fun e he => by rw [add_block, add_block]; exact hf2.ne (fun e he => List.mem_append_left _ (List.mem_map_of_mem he)) e he) hw2) rfl ?_ | refine U1 _ (Ev.load_far tok rfl rfl (add_lt2 hf3.2.1) (fun e he => by rw [add_block, add_block]; exact hf3.ne (fun e he => List.mem_append_left _ (List.mem_map_of_mem he)) e he) hw3) rfl ?_ | refine U1 _ (Ev.call (f := 44) (vs := [svV l3[k].q]) (ck rfl) rfl (fun w5 S5 => hsum3 w5 _ S5 (fun e he => List.mem_map_of_mem he))) rfl ?_ | refine U1 _ (Ev.call (f := 44) (vs := [svV l1[k].q]) (ck rfl) rfl (fun w5 S5 => hsum1 w5 _ S5 (fun e he => List.mem_map_of_mem he))) rfl ?_ | refine U1 _ (U4 rfl rfl) rfl ?_ | refine U1 _ (U5 rfl rfl) rfl ?_ | refine U1 _ (U2 rfl) rfl ?_ | refine U1 _ (U3 tok rfl rfl rfl rfl rfl) rfl ?_) | (refine M4 ?_; first | refine M6 ?_ | refine U6 rfl (by kernel_rfl) ?_ | refine U7 (by kernel_rfl) ?_) | (refine M5 ?_; first | exact M7 | refine U8 rfl ?_ | refine U9 rfl rfl ?_ ?_))
  refine XC.cond _ rfl (fun h => absurd (of_decide_eq_true h) (by omega)) (fun h => ?_)
  repeat (first | (refine M0 ?_; first | refine O0 ?_ | refine z1 tok rfl ?_ | refine O1 rfl ?_ rfl | refine O2 rfl ?_ | refine O3 rfl ?_ rfl | refine O4 rfl rfl rfl (fun _ _ => ?_) | refine O5 tok rfl rfl rfl (fun _ _ => ?_) | refine U0 _ (U2 rfl) rfl ?_ | refine U0 _ (U3 tok rfl rfl rfl rfl rfl) rfl ?_ | refine z3 tok rfl ?_ | refine U0 _ (U4 rfl rfl) rfl ?_ | refine U0 _ (U5 rfl rfl) rfl ?_) | (refine M1 ?_; first | refine J0 ?_ | refine J1 ?_ | refine J4 ?_ | refine J5 ?_ | refine J6 ?_ | refine J7 ?_ | refine J8 rfl ?_ | refine J9 rfl ?_) | (refine M2 ?_; first | refine I0 ?_ | refine I1 ?_ | refine I2 ?_ | refine I3 ?_ | refine I4 ?_ | refine I5 ?_ | refine I6 rfl ?_ | refine I7 ?_ | refine I8 ?_ | refine z4 ?_) | (refine M3 ?_; first | refine O6 ?_ | refine z2 tok rfl ?_ | refine O8 rfl ?_ | refine O7 rfl ?_ rfl | refine O9 rfl ?_ rfl | refine U1 _ (U4 rfl rfl) rfl ?_ | refine U1 _ (U5 rfl rfl) rfl ?_ | refine U1 _ (U2 rfl) rfl ?_ | refine U1 _ (U3 tok rfl rfl rfl rfl rfl) rfl ?_) | (refine M4 ?_; first | refine M6 ?_ | refine U6 rfl (by kernel_rfl) ?_ | refine U7 (by kernel_rfl) ?_) | (refine M5 ?_; first | exact M7 | refine U8 rfl ?_ | refine U9 rfl rfl ?_ ?_))
  exact XE.round (k + 1) hkn (by omega) (by repeat (first | exact Sub.nil | refine Sub.cons rfl ?_)) (fun _ h => h)
end Go.Proofs.YtoiepgcjinccpaaDoor.X
/-
  From the reading of the arguments to how they lie in memory.
-/
namespace Go.Proofs.YtoiepgcjinccpaaDoor.X
open Go Go.RowKit Go.Proofs.YtoiepgcjinccpaaDoor.Bs Go.WideShapes Go.ChangeShapes
set_option linter.unusedVariables false
section
variable {H : Type} {enc : TypeId × Value → H} {P : Program} {w : World} {base : Nat} {spare : Nat → Bool} {held : Bool}
/-- a field of one cell. -/
theorem fieldR {t : TypeId} {fs : Array Field} {fuel : Nat} {cs : List Value} {x : DataW H × List MemPlace} (ht : P.underlying t = some (.struct fs)) (h : DataW.trod enc P w base spare held fuel t cs = some x) :
    cs.length = P.cellsOf t ∧ ∃ n, ∀ (i : Nat) (f : Field), fs[i]? = some f → P.cellsOf f.type = 1 → f.offset < cs.length → ∃ c y, cs[f.offset]? = some c ∧ DataW.trod enc P w base spare held n f.type [c] = some y := by
  obtain ⟨xs, n, _, rfl, hl, hlen, hf⟩ := DataW.trod_struct ht h
  refine ⟨hl, n, fun i f hi hc ho => ?_⟩
  have h1 := hf i f hi
  have hi' : i < xs.length := by rw [hlen]; exact (Array.getElem?_eq_some_iff.1 hi).1
  rw [hc, List.getElem?_eq_getElem hi'] at h1
  refine ⟨cs[f.offset], xs[i], List.getElem?_eq_getElem ho, ?_⟩
  rw [List.drop_eq_getElem_cons ho, List.take_succ_cons, List.take_zero] at h1
  exact h1
theorem choose_list {α : Type} {p : Nat → α → Prop} : ∀ n : Nat, (∀ i, i < n → ∃ b, p i b) → ∃ l : List α, l.length = n ∧ ∀ i b, l[i]? = some b → p i b := by
  intro n
  induction n with
  | zero => intro _; exact ⟨[], rfl, fun i b hb => by cases hb⟩
  | succ k ih =>
    intro hall
    obtain ⟨l, h1, h2⟩ := ih fun i hi => hall i (by omega)
    obtain ⟨b, h3⟩ := hall k (by omega)
    refine ⟨l ++ [b], by simp [h1], fun i c hc => ?_⟩
    rcases Nat.lt_or_ge i l.length with hi | hi
    · rw [List.getElem?_append_left hi] at hc
      exact h2 i c hc
    · have hi' : i < (l ++ [b]).length := (List.getElem?_eq_some_iff.1 hc).1
      have : i = l.length := by simp at hi'; omega
      subst this
      simp at hc
      subst hc
      rw [h1]
      exact h3
/-- a slice of elements that are decoded by C. -/
theorem sliceR {α : Type} {C : α → List Value} {G : α → Prop} {t e : TypeId} {m fuel : Nat} {cs : List Value} {x : DataW H × List MemPlace} (ht : P.underlying t = some (.slice e)) (he : P.cellsOf e = m)
    (hd : ∀ n cs x, DataW.trod enc P w base spare held n e cs = some x → ∃ a, cs = C a ∧ G a) (hm : ∀ a, (C a).length = m) (h0 : 0 < m) (h : DataW.trod enc P w base spare held fuel t cs = some x) :
    ∃ (A : Option Addr) (n c : Nat) (l : List α), cs = [.slice A n c] ∧ Reads w w.heap.size m A n (l.flatMap C) ∧ n ≤ c ∧ c ≤ maxLen ∧ ∀ a, a ∈ l → G a := by
  rcases Go.Deep.open_slice ht h with ⟨rfl, _⟩ | ⟨a, len, cap, m', n', D, Pl, rfl, hb, hl, hcm, hmm, _, hx⟩
  · exact ⟨none, 0, 0, [], rfl, Reads.none_, Nat.le_refl _, Nat.zero_le _, fun a ha => by cases ha⟩
  · rw [he] at hx
    have hlm : len ≤ m' := by rw [hmm]; split <;> omega
    have hall : ∀ i, i < len → ∃ b : α, w.cells? base (a.add (i * m)) m = some (C b) ∧ G b := fun i hi => by
      obtain ⟨cs', h1, h2⟩ := hx i (by omega)
      obtain ⟨b, rfl, hg⟩ := hd _ _ _ h2
      exact ⟨b, h1, hg⟩
    obtain ⟨l, hll, hlx⟩ := choose_list len hall
    refine ⟨some a, len, cap, l, rfl, ⟨by rw [flat_len C m hm, hll], fun hn => ?_⟩, hl, hcm, fun b hb => ?_⟩
    · have hcell : ∀ j u, (l.flatMap C)[j]? = some u → w.cell? (a.add j) = some u := fun j u hj => by
        have hjl : j < (l.flatMap C).length := (List.getElem?_eq_some_iff.1 hj).1
        rw [flat_len C m hm] at hjl
        have hdm := Nat.div_add_mod j m
        have hlt : j / m < l.length := Nat.div_lt_of_lt_mul (by rw [Nat.mul_comm]; exact hjl)
        have hb : l[j / m]? = some l[j / m] := List.getElem?_eq_getElem hlt
        have h1 := flat_at C m hm l (j / m) (j % m) _ hb (Nat.mod_lt _ h0)
        rw [show j / m * m + j % m = j by rw [Nat.mul_comm]; exact hdm, hj] at h1
        obtain ⟨_, _, h2⟩ := World.cells?_some (hlx _ _ hb).1
        have h3 := h2 (j % m) (Nat.mod_lt _ h0)
        rw [add_add, show j / m * m + j % m = j by rw [Nat.mul_comm]; exact hdm, ← h1] at h3
        exact h3
      refine ⟨a, rfl, ?_, hcell⟩
      obtain ⟨b, h1, _⟩ := hall 0 hn
      have := World.cells?_block h1 h0
      simpa [add_block] using this
    · obtain ⟨i, hi, rfl⟩ := List.mem_iff_getElem.1 hb
      exact (hlx i _ (List.getElem?_eq_getElem hi)).2
end
section
variable {H : Type} {enc : TypeId × Value → H} {w : World} {base : Nat} {spare : Nat → Bool} {held : Bool} {fuel : Nat} {cs : List Value} {x : DataW H × List MemPlace}
theorem intR {n : Nat} {c : Value} {y : DataW H × List MemPlace} (h : DataW.trod enc Tryd.prog w base spare held n 3 [c] = some y) : ∃ k : Int, c = .int .i64 k := by
  obtain ⟨k, e, _⟩ := DataW.trod_int Tryd.underlying3 h
  exact ⟨k, by simpa using e⟩
theorem strR {n : Nat} {c : Value} {y : DataW H × List MemPlace} (h : DataW.trod enc Tryd.prog w base spare held n 9 [c] = some y) : ∃ s : ByteArray, c = .string s ∧ s.size ≤ maxLen := by
  obtain ⟨s, e, _, hs⟩ := DataW.trod_string Tryd.underlying9 h
  exact ⟨s, by simpa using e, hs⟩
theorem c_int : (Tryd.prog).cellsOf 3 = 1 := by kernel_rfl
theorem c_str : (Tryd.prog).cellsOf 9 = 1 := by kernel_rfl
theorem c_row : (Tryd.prog).cellsOf 67 = 2 := by kernel_rfl
theorem c_pol : (Tryd.prog).cellsOf 76 = 4 := by kernel_rfl
theorem c_tick : (Tryd.prog).cellsOf 30 = 3 := by kernel_rfl
theorem c_bas : (Tryd.prog).cellsOf 25 = 5 := by kernel_rfl
theorem c_sta : (Tryd.prog).cellsOf 28 = 2 := by kernel_rfl
theorem c_rows : (Tryd.prog).cellsOf 22 = 1 := by kernel_rfl
theorem c_pols : (Tryd.prog).cellsOf 23 = 1 := by kernel_rfl
theorem c_ints : (Tryd.prog).cellsOf 26 = 1 := by kernel_rfl
theorem rowR (h : DataW.trod enc Tryd.prog w base spare held fuel 67 cs = some x) : ∃ r : Row, cs = rowC r := by
  obtain ⟨hl, n, hf⟩ := fieldR Tryd.underlying67 h
  rw [c_row] at hl
  match cs, hl with
  | [c0, c1], _ =>
    obtain ⟨d0, y0, e0, h0⟩ := hf 0 _ rfl c_int (Nat.le_of_ble_eq_true rfl)
    obtain ⟨d1, y1, e1, h1⟩ := hf 1 _ rfl c_int (Nat.le_of_ble_eq_true rfl)
    obtain ⟨k0, rfl⟩ := intR h0
    obtain ⟨k1, rfl⟩ := intR h1
    cases e0; cases e1
    exact ⟨⟨k0, k1⟩, rfl⟩
theorem polR (h : DataW.trod enc Tryd.prog w base spare held fuel 76 cs = some x) : ∃ r : Pol, cs = polC r ∧ r.name.size ≤ maxLen := by
  obtain ⟨hl, n, hf⟩ := fieldR Tryd.underlying76 h
  rw [c_pol] at hl
  match cs, hl with
  | [c0, c1, c2, c3], _ =>
    obtain ⟨d0, y0, e0, h0⟩ := hf 0 _ rfl c_str (Nat.le_of_ble_eq_true rfl)
    obtain ⟨d1, y1, e1, h1⟩ := hf 1 _ rfl c_int (Nat.le_of_ble_eq_true rfl)
    obtain ⟨d2, y2, e2, h2⟩ := hf 2 _ rfl c_int (Nat.le_of_ble_eq_true rfl)
    obtain ⟨d3, y3, e3, h3⟩ := hf 3 _ rfl c_int (Nat.le_of_ble_eq_true rfl)
    obtain ⟨s, rfl, hs⟩ := strR h0
    obtain ⟨k1, rfl⟩ := intR h1
    obtain ⟨k2, rfl⟩ := intR h2
    obtain ⟨k3, rfl⟩ := intR h3
    cases e0; cases e1; cases e2; cases e3
    exact ⟨⟨s, k1, k2, k3⟩, rfl, hs⟩
theorem tickR (h : DataW.trod enc Tryd.prog w base spare held fuel 30 cs = some x) : ∃ r : Tick, cs = tickC r := by
  obtain ⟨hl, n, hf⟩ := fieldR Tryd.underlying30 h
  rw [c_tick] at hl
  match cs, hl with
  | [c0, c1, c2], _ =>
    obtain ⟨d0, y0, e0, h0⟩ := hf 0 _ rfl c_int (Nat.le_of_ble_eq_true rfl)
    obtain ⟨d1, y1, e1, h1⟩ := hf 1 _ rfl c_int (Nat.le_of_ble_eq_true rfl)
    obtain ⟨d2, y2, e2, h2⟩ := hf 2 _ rfl c_int (Nat.le_of_ble_eq_true rfl)
    obtain ⟨k0, rfl⟩ := intR h0
    obtain ⟨k1, rfl⟩ := intR h1
    obtain ⟨k2, rfl⟩ := intR h2
    cases e0; cases e1; cases e2
    exact ⟨⟨k0, k1, k2⟩, rfl⟩
theorem ints_flat (l : List Int) : l.flatMap (fun k : Int => [Value.int .i64 k]) = ints l := by
  unfold ints
  induction l with
  | nil => rfl
  | cons a l ih => rw [List.flatMap_cons, ih]; rfl
theorem intsR (h : DataW.trod enc Tryd.prog w base spare held fuel 26 cs = some x) : ∃ (q : SV) (l : List Int), cs = [svV q] ∧ IntsAt w (Lt w.heap.size) q l := by
  obtain ⟨A, n, c, l, rfl, hr, hnc, hcm, _⟩ := sliceR (C := fun k : Int => [.int .i64 k]) (G := fun _ => True) Tryd.underlying26 c_int (fun n cs x h => by
    obtain ⟨k, e, _⟩ := DataW.trod_int Tryd.underlying3 h
    exact ⟨k, e, trivial⟩) (fun _ => rfl) (by decide) h
  refine ⟨⟨A, n, c⟩, l, rfl, ?_, by simp only; unfold maxLen at hcm; omega⟩
  have := ints_flat l
  rw [this] at hr
  exact ReadsP.of hr
theorem staR (h : DataW.trod enc Tryd.prog w base spare held fuel 28 cs = some x) : ∃ (q : SV) (s : Sta), cs = staC q s ∧ IntsAt w (Lt w.heap.size) q s.fil := by
  obtain ⟨hl, n, hf⟩ := fieldR Tryd.underlying28 h
  rw [c_sta] at hl
  match cs, hl with
  | [c0, c1], _ =>
    obtain ⟨d0, y0, e0, h0⟩ := hf 0 _ rfl c_int (Nat.le_of_ble_eq_true rfl)
    obtain ⟨d1, y1, e1, h1⟩ := hf 1 _ rfl c_ints (Nat.le_of_ble_eq_true rfl)
    obtain ⟨k0, rfl⟩ := intR h0
    obtain ⟨q, l, e, hq⟩ := intsR h1
    cases e0; cases e1; cases e
    exact ⟨q, ⟨k0, l⟩, rfl, hq⟩
theorem basR (h : DataW.trod enc Tryd.prog w base spare held fuel 25 cs = some x) : ∃ (p : BV) (b : Bas), cs = basC p b ∧ BasAt w w.heap.size p b := by
  obtain ⟨hl, n, hf⟩ := fieldR Tryd.underlying25 h
  rw [c_bas] at hl
  match cs, hl with
  | [c0, c1, c2, c3, c4], _ =>
    obtain ⟨d0, y0, e0, h0⟩ := hf 0 _ rfl c_rows (Nat.le_of_ble_eq_true rfl)
    obtain ⟨d1, y1, e1, h1⟩ := hf 1 _ rfl c_int (Nat.le_of_ble_eq_true rfl)
    obtain ⟨d2, y2, e2, h2⟩ := hf 2 _ rfl c_int (Nat.le_of_ble_eq_true rfl)
    obtain ⟨d3, y3, e3, h3⟩ := hf 3 _ rfl c_int (Nat.le_of_ble_eq_true rfl)
    obtain ⟨d4, y4, e4, h4⟩ := hf 4 _ rfl c_pols (Nat.le_of_ble_eq_true rfl)
    obtain ⟨k1, rfl⟩ := intR h1
    obtain ⟨k2, rfl⟩ := intR h2
    obtain ⟨k3, rfl⟩ := intR h3
    obtain ⟨A, n1, cc, l, e5, hr, hnc, hcm, _⟩ := sliceR (C := rowC) (G := fun _ => True) Tryd.underlying22 c_row (fun n cs x h => by
      obtain ⟨k, e⟩ := rowR h
      exact ⟨k, e, trivial⟩) rowC_len (by decide) h0
    obtain ⟨A2, n2, cc2, l2, e6, hr2, hnc2, hcm2, hg⟩ := sliceR (C := polC) (G := fun r => r.name.size ≤ maxLen) Tryd.underlying23 c_pol (fun n cs x h => polR h) polC_len (by decide) h4
    cases e0; cases e1; cases e2; cases e3; cases e4; cases e5; cases e6
    refine ⟨⟨A, n1, cc, A2, n2, cc2⟩, ⟨l, k1, k2, k3, l2⟩, rfl, hr, hr2, hnc, ?_, ?_, fun r hr => ?_⟩
    · simp only; unfold maxLen at hcm; omega
    · simp only; unfold maxLen at hcm2; omega
    · have := hg r hr
      unfold maxLen at this; omega
end
end Go.Proofs.YtoiepgcjinccpaaDoor.X
/-
  From the reading of the arguments to how they lie in memory: ticks, numbers, cases.
-/
namespace Go.Proofs.YtoiepgcjinccpaaDoor.X
open Go Go.RowKit Go.Proofs.YtoiepgcjinccpaaDoor.Bs Go.WideShapes Go.ChangeShapes
set_option linter.unusedVariables false
section
variable {H : Type} {enc : TypeId × Value → H} {w : World} {base : Nat} {spare : Nat → Bool} {held : Bool} {fuel : Nat} {cs : List Value} {x : DataW H × List MemPlace}
theorem tksR (h : DataW.trod enc Tryd.prog w base spare held fuel 41 cs = some x) : ∃ (r : SV) (ts : List Tick), cs = [svV r] ∧ TksAt w (Lt w.heap.size) r ts := by
  obtain ⟨A, n, c, l, rfl, hr, hnc, hcm, _⟩ := sliceR (C := tickC) (G := fun _ => True) Tryd.underlying41 c_tick (fun n cs x h => by
    obtain ⟨k, e⟩ := tickR h
    exact ⟨k, e, trivial⟩) (fun _ => rfl) (by decide) h
  exact ⟨⟨A, n, c⟩, l, rfl, ReadsP.of hr, by simp only; unfold maxLen at hcm; omega⟩
/-- the fields, of however many cells. -/
theorem fieldN {P : Program} {t : TypeId} {fs : Array Field} (ht : P.underlying t = some (.struct fs)) (h : DataW.trod enc P w base spare held fuel t cs = some x) :
    cs.length = P.cellsOf t ∧ ∃ n, ∀ (i : Nat) (f : Field) (u : TypeId) (o m : Nat), fs[i]? = some f → f.type = u → f.offset = o → P.cellsOf u = m → ∃ y, DataW.trod enc P w base spare held n u ((cs.drop o).take m) = some y := by
  obtain ⟨xs, n, _, rfl, hl, hlen, hf⟩ := DataW.trod_struct ht h
  refine ⟨hl, n, fun i f u o m hi hu ho hm => ?_⟩
  subst hu ho hm
  have h1 := hf i f hi
  have hi' : i < xs.length := by rw [hlen]; exact (Array.getElem?_eq_some_iff.1 hi).1
  rw [List.getElem?_eq_getElem hi'] at h1
  exact ⟨xs[i], h1⟩
/-- a number. -/
theorem intR' (h : DataW.trod enc Tryd.prog w base spare held fuel 3 cs = some x) : ∃ k : Int, cs = [.int .i64 k] := by
  obtain ⟨k, e, _⟩ := DataW.trod_int Tryd.underlying3 h
  exact ⟨k, e⟩
end
end Go.Proofs.YtoiepgcjinccpaaDoor.X
/-
  From the reading of the arguments to how they lie in memory: cases.
-/
namespace Go.Proofs.YtoiepgcjinccpaaDoor.X
open Go Go.RowKit Go.Proofs.YtoiepgcjinccpaaDoor.Bs Go.WideShapes Go.ChangeShapes
set_option linter.unusedVariables false
section
variable {H : Type} {enc : TypeId × Value → H} {w : World} {base : Nat} {spare : Nat → Bool} {held : Bool} {fuel : Nat} {cs : List Value} {x : DataW H × List MemPlace}
theorem c_case : (Tryd.prog).cellsOf 49 = 4 := by kernel_rfl
theorem c_tks : (Tryd.prog).cellsOf 41 = 1 := by kernel_rfl
theorem caseR (h : DataW.trod enc Tryd.prog w base spare held fuel 49 cs = some x) : ∃ (y : CV) (c : Cas), cs = caseC y c ∧ CaseAt w (Lt w.heap.size) y c := by
  obtain ⟨hl, n, hf⟩ := fieldN Tryd.underlying49 h
  rw [c_case] at hl
  match cs, hl with
  | [c0, c1, c2, c3], _ =>
    obtain ⟨y0, h0'⟩ := hf 0 _ 28 0 2 rfl rfl rfl c_sta
    obtain ⟨y1, h1'⟩ := hf 1 _ 41 2 1 rfl rfl rfl c_tks
    obtain ⟨y2, h2'⟩ := hf 2 _ 3 3 1 rfl rfl rfl c_int
    obtain ⟨q, s, e0, hq⟩ := staR (cs := [c0, c1]) h0'
    obtain ⟨r, ts, e1, ht⟩ := tksR (cs := [c2]) h1'
    obtain ⟨k, e2, _⟩ := DataW.trod_int (cs := [c3]) Tryd.underlying3 h2'
    have e2' : c3 = .int .i64 k := by simpa using e2
    cases e0; cases e1; subst e2'
    exact ⟨⟨q, r⟩, ⟨s, ts, k⟩, rfl, hq, ht⟩
end
end Go.Proofs.YtoiepgcjinccpaaDoor.X
/-
  From the reading of the arguments to how they lie in memory: a table of tides, a sea.
-/
namespace Go.Proofs.YtoiepgcjinccpaaDoor.X
open Go Go.RowKit Go.Proofs.YtoiepgcjinccpaaDoor.Bs Go.WideShapes Go.ChangeShapes
set_option linter.unusedVariables false
section
variable {H : Type} {enc : TypeId × Value → H} {w : World} {base : Nat} {spare : Nat → Bool} {held : Bool} {fuel : Nat} {cs : List Value} {x : DataW H × List MemPlace}
theorem c_u8 : (Tryd.prog).cellsOf 5 = 1 := by kernel_rfl
theorem c_u8s : (Tryd.prog).cellsOf 90 = 1 := by kernel_rfl
theorem c_u16' : (Tryd.prog).cellsOf 50 = 1 := by kernel_rfl
theorem c_con : (Tryd.prog).cellsOf 159 = 6 := by kernel_rfl
theorem c_cons : (Tryd.prog).cellsOf 87 = 1 := by kernel_rfl
theorem c_tab : (Tryd.prog).cellsOf 89 = 2 := by kernel_rfl
theorem c_sea : (Tryd.prog).cellsOf 92 = 5 := by kernel_rfl
theorem u16R8 (h : DataW.trod enc Tryd.prog w base spare held fuel 50 cs = some x) : ∃ k : Int, cs = [.int .u16 k] ∧ (0 ≤ k ∧ k ≤ 65535) := by
  obtain ⟨k, e, _, h2⟩ := DataW.trod_int Tryd.underlying50 h
  have h3 := (Lit.wf_int_iff .u16 k).1 h2
  refine ⟨k, e, ?_⟩
  simp [IntKind.min, IntKind.max, IntKind.signed, IntKind.bits] at h3
  omega
theorem u8R (h : DataW.trod enc Tryd.prog w base spare held fuel 5 cs = some x) : ∃ k : Int, cs = [.int .u8 k] ∧ (0 ≤ k ∧ k ≤ 255) := by
  obtain ⟨k, e, _, h2⟩ := DataW.trod_int Tryd.underlying5 h
  have h3 := (Lit.wf_int_iff .u8 k).1 h2
  refine ⟨k, e, ?_⟩
  simp [IntKind.min, IntKind.max, IntKind.signed, IntKind.bits] at h3
  omega
theorem u8sR (h : DataW.trod enc Tryd.prog w base spare held fuel 90 cs = some x) : ∃ (r : SV) (xs : List Int), cs = [svV r] ∧ ListAt u8K w (Lt w.heap.size) r xs ∧ ∀ x, x ∈ xs → 0 ≤ x ∧ x ≤ 255 := by
  obtain ⟨A, n, c, l, rfl, hr, hnc, hcm, hg⟩ := sliceR (C := u8K.c) (G := fun k : Int => 0 ≤ k ∧ k ≤ 255) Tryd.underlying90 c_u8 (fun n cs x h => u8R h) (fun _ => rfl) (by decide) h
  exact ⟨⟨A, n, c⟩, l, rfl, ⟨ReadsP.of hr, by simp only; unfold maxLen at hcm; omega, fun a ha x hx => by cases hx⟩, hg⟩
theorem conR (h : DataW.trod enc Tryd.prog w base spare held fuel 159 cs = some x) : ∃ a : ConI, cs = a.v ∧ IntsAt w (Lt w.heap.size) a.q a.c.hs ∧ a.c.name.size ≤ 9223372036854775807 := by
  obtain ⟨hl, n, hf⟩ := fieldN Tryd.underlying159 h
  rw [c_con] at hl
  match cs, hl with
  | [c0, c1, c2, c3, c4, c5], _ =>
    obtain ⟨y0, h0⟩ := hf 0 _ 9 0 1 rfl rfl rfl c_str
    obtain ⟨y1, h1⟩ := hf 1 _ 26 1 1 rfl rfl rfl c_ints
    obtain ⟨y2, h2⟩ := hf 2 _ 3 2 1 rfl rfl rfl c_int
    obtain ⟨y3, h3⟩ := hf 3 _ 3 3 1 rfl rfl rfl c_int
    obtain ⟨y4, h4⟩ := hf 4 _ 3 4 1 rfl rfl rfl c_int
    obtain ⟨y5, h5⟩ := hf 5 _ 3 5 1 rfl rfl rfl c_int
    obtain ⟨s, e0, hs⟩ := strR (c := c0) h0
    obtain ⟨q, l, e1, hq⟩ := intsR (cs := [c1]) h1
    obtain ⟨k2, e2⟩ := intR' (cs := [c2]) h2
    obtain ⟨k3, e3⟩ := intR' (cs := [c3]) h3
    obtain ⟨k4, e4⟩ := intR' (cs := [c4]) h4
    obtain ⟨k5, e5⟩ := intR' (cs := [c5]) h5
    cases e0; cases e1; cases e2; cases e3; cases e4; cases e5
    exact ⟨⟨⟨s, l, k2, k3, k4, k5⟩, q⟩, rfl, hq, by unfold maxLen at hs; exact hs⟩
theorem consR (h : DataW.trod enc Tryd.prog w base spare held fuel 87 cs = some x) : ∃ (r : SV) (l : List ConI), cs = [svV r] ∧ TabAt w (Lt w.heap.size) r l := by
  obtain ⟨A, n, c, l, rfl, hr, hnc, hcm, hg⟩ := sliceR (C := conK.c) (G := fun a : ConI => IntsAt w (Lt w.heap.size) a.q a.c.hs ∧ a.c.name.size ≤ 9223372036854775807) Tryd.underlying87 c_con (fun n cs x h => conR h) conK.len (by decide) h
  exact ⟨⟨A, n, c⟩, l, rfl, ⟨ReadsP.of hr, by simp only; unfold maxLen at hcm; omega, fun a ha x hx => by
    have hx' : x = hInts a.q a.c.hs := List.mem_singleton.1 hx
    subst hx'
    exact (hg a ha).1⟩, fun a ha => (hg a ha).2⟩
theorem tabR (h : DataW.trod enc Tryd.prog w base spare held fuel 89 cs = some x) : ∃ (r : SV) (m : Int) (l : List ConI), cs = tabC r m ∧ TabAt w (Lt w.heap.size) r l := by
  obtain ⟨hl, n, hf⟩ := fieldN Tryd.underlying89 h
  rw [c_tab] at hl
  match cs, hl with
  | [c0, c1], _ =>
    obtain ⟨y0, h0⟩ := hf 0 _ 3 0 1 rfl rfl rfl c_int
    obtain ⟨y1, h1⟩ := hf 1 _ 87 1 1 rfl rfl rfl c_cons
    obtain ⟨k0, e0⟩ := intR' (cs := [c0]) h0
    obtain ⟨r, l, e1, hr⟩ := consR (cs := [c1]) h1
    cases e0; cases e1
    exact ⟨r, k0, l, rfl, hr⟩
theorem seaR (h : DataW.trod enc Tryd.prog w base spare held fuel 92 cs = some x) : ∃ (y : SeaV) (a : Sea), cs = seaC y a ∧ SeaAt w (Lt w.heap.size) y a := by
  obtain ⟨hl, n, hf⟩ := fieldN Tryd.underlying92 h
  rw [c_sea] at hl
  match cs, hl with
  | [c0, c1, c2, c3, c4], _ =>
    obtain ⟨y0, h0⟩ := hf 0 _ 89 0 2 rfl rfl rfl c_tab
    obtain ⟨y1, h1⟩ := hf 1 _ 3 2 1 rfl rfl rfl c_int
    obtain ⟨y2, h2⟩ := hf 2 _ 50 3 1 rfl rfl rfl c_u16'
    obtain ⟨y3, h3⟩ := hf 3 _ 90 4 1 rfl rfl rfl c_u8s
    obtain ⟨r, m, l, e0, hr⟩ := tabR (cs := [c0, c1]) h0
    obtain ⟨k1, e1⟩ := intR' (cs := [c2]) h1
    obtain ⟨k2, e2, g2⟩ := u16R8 (cs := [c3]) h2
    obtain ⟨q, sh, e3, hq, gq⟩ := u8sR (cs := [c4]) h3
    cases e0; cases e1; cases e2; cases e3
    exact ⟨⟨r, q⟩, ⟨m, l, k1, k2, sh⟩, rfl, hr, hq, g2, gq⟩
end
end Go.Proofs.YtoiepgcjinccpaaDoor.X
