/-
  A walk by lemmas (8): structs that are built; conversions; shifts; results in a cell; nil checks.
-/
import Derived.Test.YtoiepgcjinccpaaDoorEng7
namespace Go.Proofs.YtoiepgcjinccpaaDoor.X
open Go Go.RowKit
set_option linter.unusedVariables false

/-- the parts laid over the cells. -/
def fillN (F : Fr) (l : List (Nat × Nat × Nat)) : List Value → List (Nat × Operand) → Option (List Value)
  | cs, [] => some cs
  | cs, (i, x) :: r => match l[i]? with
    | some (off, n + 1, _) => match evo F x with
      | some v => match cellsO v with
        | some vs => match Nat.beq vs.length (n + 1) with
          | true => match putN cs off vs with
            | some cs' => fillN F l cs' r
            | none => none
          | false => none
        | none => none
      | none => none
    | _ => none
theorem putN_fold : ∀ (vs cs : List Value) (o : Nat) (cs' : List Value) (k : Nat), putN cs (o + k) vs = some cs' →
    (vs.zipIdx k).foldl (fun (a : Array Value) (x : Value × Nat) => a.setIfInBounds (o + x.2) x.1) cs.toArray = cs'.toArray ∧ cs'.length = cs.length ∧ (vs ≠ [] → o + k + vs.length ≤ cs.length) := by
  intro vs
  induction vs with
  | nil => intro cs o cs' k h; simp only [putN, Option.some.injEq] at h; subst h; simp
  | cons v r ih =>
    intro cs o cs' k h
    simp only [putN] at h
    cases hs : setN cs (o + k) v with
    | none => rw [hs] at h; cases h
    | some cs1 =>
      rw [hs] at h
      obtain ⟨e1, hlt⟩ := setN_spec _ _ _ _ hs
      obtain ⟨h1, h2, h3⟩ := ih cs1 o cs' (k + 1) (by rw [← Nat.add_assoc]; exact h)
      subst e1
      simp only [List.length_set] at h2 h3
      refine ⟨?_, h2, fun _ => ?_⟩
      · simp only [List.zipIdx_cons, List.foldl_cons]
        rw [← h1]
        simp
      · simp only [List.length_cons]
        by_cases hr : r = []
        · subst hr; simp; omega
        · have := h3 hr; omega
section
variable {P : Program} {T : TT} {N : Nat} {B : Nat} {w0 : World} {ds : List Deferred} {Q : Exit → Act → World → Prop} {F : Fr} {L : Lo} {pu : Prop}
variable {dst : Option Tmp} {ty : TypeId} {p : String} {af : Array Edge} {gd : Option (Nat × Bool)}

theorem fillN_spec {a : Act} (hf : Fits N ds F a) {l : List (Nat × Nat × Nat)} {place : Nat → Option (Nat × Nat)} (hp : ∀ i e, l[i]? = some e → place i = some (e.1, e.2.1)) :
    ∀ (ps : List (Nat × Operand)) (cs cs' : List Value), fillN F l cs ps = some cs' → Instr.fill place cs.toArray (ps.map fun x => (x.1, a.eval x.2)) = some cs'.toArray := by
  intro ps
  induction ps with
  | nil => intro cs cs' h; simp only [fillN, Option.some.injEq] at h; subst h; rfl
  | cons e r ih =>
    intro cs cs' h
    obtain ⟨i, x⟩ := e
    simp only [fillN] at h
    split at h
    · rename_i off n ft hi
      split at h
      · rename_i v hx
        split at h
        · rename_i vs hv
          split at h
          · rename_i hs
            split at h
            · rename_i cs1 hpn
              have hs' := Nat.eq_of_beq_eq_true hs
              obtain ⟨h1, h2, h3⟩ := putN_fold vs cs off cs1 0 (by simpa using hpn)
              have hc := cellsO_spec hv
              simp only [List.map_cons, Instr.fill, hp i _ hi, hf.eval hx, hc]
              have hz : vs.toArray.zipIdx = (vs.zipIdx 0).toArray := by simp
              rw [if_neg]
              · rw [hz]
                simp only [List.foldl_toArray]
                have : (List.foldl (fun cs (x : Value × Nat) => cs.setIfInBounds (off + x.2) x.1) cs.toArray (vs.zipIdx 0)) = cs1.toArray := h1
                rw [this]
                exact ih cs1 cs' h
              · intro hgt
                simp only [List.size_toArray, Bool.or_eq_true, decide_eq_true_eq, ne_eq, gt_iff_lt] at hgt
                rcases hgt with hgt | hgt
                · exact hgt hs'
                · by_cases hvs : vs = []
                  · subst hvs; simp at hs'
                  · have := h3 hvs; omega
            · cases h
          · cases h
        · cases h
      · cases h
    · cases h

theorem mapM_run {α β : Type} (f : α → Sem β) (g : α → β) : ∀ (l : List α) (w : World), (∀ x, x ∈ l → (f x).run P w = .ok (g x) w) → (l.mapM f).run P w = .ok (l.map g) w := by
  intro l
  induction l with
  | nil => intro w _; simp
  | cons x l ih =>
    intro w h
    simp [List.mapM_cons, h x (by simp), ih w (fun y hy => h y (List.mem_cons_of_mem _ hy))]
/-- a struct is built. -/
theorem Ev.build (hT : TOK P T) {t : TypeId} {parts : List (Nat × Operand)} {z : Value} {zs cs : List Value} {l : List (Nat × Nat × Nat)} (hs : lkG T.fld t = some l) (hz : lkG T.zero t = some z) (hzs : cellsO z = some zs)
    (hl : (l.all fun e => Nat.blt 0 e.2.1) = true) (hc : fillN F l zs parts = some cs) :
    Ev P N B w0 ds pu F L ⟨dst, .build t parts.toArray, ty, p, af, gd⟩ (.agg cs.toArray) := .of_run fun a w hf hw => by
  have h := tab_ok hT.fld hs
  unfold fldOf at h
  cases hu : P.underlying t with
  | none => rw [hu] at h; cases h
  | some d =>
    rw [hu] at h
    cases d <;> simp at h
    rename_i fs
    have hsz : ∀ f, f ∈ fs.toList → (do pure ((f : Field).offset, ← sizeOf f.type) : Sem (Nat × Nat)).run P w = .ok (f.offset, ((P.info? f.type).map (·.size)).getD 0) w := fun f hfm => by
      cases hi : P.info? f.type with
      | none =>
        rw [List.all_eq_true] at hl
        have := hl (f.offset, ((P.info? f.type).map (·.size)).getD 0, f.type) (by rw [← h]; exact List.mem_map.2 ⟨f, hfm, rfl⟩)
        rw [hi] at this
        simp at this
      | some i => simp [sizeOf_run hi]
    have hm := mapM_run (P := P) (fun f : Field => (do pure (f.offset, ← sizeOf f.type) : Sem (Nat × Nat))) (fun f => (f.offset, ((P.info? f.type).map (·.size)).getD 0)) fs.toList w hsz
    have hfill := fillN_spec hf (l := l) (place := fun i => ((fs.toList.map fun f => (f.offset, ((P.info? f.type).map (·.size)).getD 0)).toArray)[i]?) (fun i e he => by
      rw [← h] at he
      simp only [List.getElem?_map] at he
      simp only [List.getElem?_toArray, List.getElem?_map]
      cases hx : fs.toList[i]? with
      | none => rw [hx] at he; cases he
      | some f => rw [hx] at he; simp at he; subst he; rfl) parts zs cs hc
    have hmA : (fs.mapM fun f : Field => (do pure (f.offset, ← sizeOf f.type) : Sem (Nat × Nat))).run P w = .ok ((fs.toList.map fun f => (f.offset, ((P.info? f.type).map (·.size)).getD 0)).toArray) w := by
      rw [Array.mapM_eq_mapM_toList]
      simp only [Sem.run_map, hm]
      rfl
    simp only [execOp, Instr.build, Sem.run_bind, zero_run hT hz, Result.andThen_ok, run_underlying hu, hmA, cellsO_spec hzs, List.map_toArray]
    rw [hfill]
    simp
theorem Ev.conv {s d : TypeId} {sd : TypeDesc} {k j : IntKind} {n m : Int} {x : Operand} (hs : P.underlying s = some sd) (hd : P.underlying d = some (.int k)) (hx : evo F x = some (.int j n)) (hm : k.wrap n = m) :
    Ev P N B w0 ds pu F L ⟨dst, .convert s d x, ty, p, af, gd⟩ (.int k m) := .of_run fun a w hf hw => by
  simp [execOp, convert, run_underlying hs, run_underlying hd, hf.eval hx, Conv.intToInt, hm]
theorem Ev.shr {x y : Operand} {t u : TypeId} {k j : IntKind} {m n r : Int} (hx : evo F x = some (.int k m)) (hy : evo F y = some (.int j n)) (hn : 0 ≤ n) (hr : m.fdiv (2 ^ (Nat.min n.toNat k.bits)) = r) :
    Ev P N B w0 ds pu F L ⟨dst, .binOp .shr t x y u, ty, p, af, gd⟩ (.int k r) := .of_run fun a w hf hw => by
  have : ¬ n < 0 := by omega
  simp [execOp, hf.eval hx, hf.eval hy, eqGuard_run, binOp, Op.shift, this, ← hr]
theorem Ev.nilCheck {x : Operand} {ad : Addr} (hx : evo F x = some (.pointer (some ad))) : Ev P N B w0 ds pu F L ⟨dst, .nilCheck x, ty, p, af, gd⟩ (.pointer (some ad)) := .of_run fun a w hf hw => by
  simp [execOp, hf.eval hx]
/-- the result lies in a variable of the function's own. -/
theorem XE.retc (hT : TOK P T) {fn : Func} {R : Ending → World → Prop} {t : Nat} {tt tg : TypeId} {g o n i : Nat} {cs vs : List Value} (h : fn.results = #[.cell t tt]) (hv : evo F (.tmp t) = some (.pointer (some ⟨g, o, none⟩)))
    (hL : L[i]? = some (g, cel tg cs)) (h1 : lkG T.agg tt = some n) (hs : sliceN cs o n = some vs) (hR : ∀ w, Sys B w0 L w → R (.returned (.agg vs.toArray)) w) :
    XE N B w0 [] (bodyPost P fn R) .ret F L :=
  ⟨fun a w hf hw => ⟨hf.defers, _, by
    have hmem := List.mem_of_getElem? hL
    obtain ⟨e1, e2⟩ := sliceN_spec _ _ _ _ hs
    have hp := hf.eval hv
    simp only [Act.eval] at hp
    have := run_loadVar_agg (P := P) (tab_ok hT.agg h1) (w := w) (a := ⟨g, o, none⟩) e2 (fun j u hj => by
      rw [add_off, hw.cell hmem, ← hj, e1, List.getElem?_take]
      have : j < n := by have := (List.getElem?_eq_some_iff.1 hj).1; omega
      rw [if_pos this, List.getElem?_drop])
    simp only [results, h, List.size_toArray]
    rw [show (#[ResultVar.cell t tt] : Array ResultVar) = [ResultVar.cell t tt].toArray from rfl]
    rw [Array.getD_eq_getD_getElem?] at hp
    simp [hp, asAddr, this], hR w hw⟩⟩
end
end Go.Proofs.YtoiepgcjinccpaaDoor.X
