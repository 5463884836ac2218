/-
  A walk by lemmas (4): the operations, one lemma each.
-/
import Derived.Test.YtoiepgcjinccpaaDoorEng3
namespace Go.Proofs.YtoiepgcjinccpaaDoor.X
open Go Go.RowKit
set_option linter.unusedVariables false

/-! ### tables of the program's types, each a list that a closed fact holds against the program -/
def lkG {α : Type} : List (Nat × α) → Nat → Option α
  | [], _ => none
  | (d, v) :: l, t => match Nat.beq d t with
    | true => some v
    | false => lkG l t
theorem tab_ok {α : Type} {f : Nat → Option α} : ∀ {l : List (Nat × α)}, l.map (fun e => f e.1) = l.map (fun e => some e.2) → ∀ {t : Nat} {a : α}, lkG l t = some a → f t = some a := by
  intro l
  induction l with
  | nil => intro _ t a h; cases h
  | cons e l ih =>
    intro h t a ha
    obtain ⟨d, v⟩ := e
    simp only [List.map_cons, List.cons.injEq] at h
    unfold lkG at ha
    cases hb : Nat.beq d t with
    | true =>
      rw [hb] at ha
      have := Nat.eq_of_beq_eq_true hb
      subst this
      rw [h.1, ← Option.some.inj ha]
    | false => rw [hb] at ha; exact ih h.2 ha

def aggSize (P : Program) (t : Nat) : Option Nat :=
  match P.underlying t with
  | some (.struct _) | some (.array _ _) => (P.info? t).map (·.size)
  | _ => none
def oneCell (P : Program) (t : Nat) : Option Unit :=
  match P.underlying t with
  | some (.struct _) | some (.array _ _) => none
  | some _ => if (P.info? t).map (·.size) = some 1 then some () else none
  | none => none
/-- of each field: its offset, its number of cells, its type. -/
def fldOf (P : Program) (t : Nat) : Option (List (Nat × Nat × Nat)) :=
  match P.underlying t with
  | some (.struct fs) => some (fs.toList.map fun f => (f.offset, ((P.info? f.type).map (·.size)).getD 0, f.type))
  | _ => none
def slOf (P : Program) (t : Nat) : Option (Nat × Nat) :=
  match P.underlying t with
  | some (.slice e) => (P.info? e).map fun i => (e, i.size)
  | _ => none
def zeroOf (P : Program) (t : Nat) : Option Value := (P.info? t).bind (·.zero)

structure TT where
  agg : List (Nat × Nat)
  one : List (Nat × Unit)
  fld : List (Nat × List (Nat × Nat × Nat))
  sl : List (Nat × Nat × Nat)
  zero : List (Nat × Value)
structure TOK (P : Program) (T : TT) : Prop where
  agg : T.agg.map (fun e => aggSize P e.1) = T.agg.map (fun e => some e.2)
  one : T.one.map (fun e => oneCell P e.1) = T.one.map (fun e => some e.2)
  fld : T.fld.map (fun e => fldOf P e.1) = T.fld.map (fun e => some e.2)
  sl : T.sl.map (fun e => slOf P e.1) = T.sl.map (fun e => some e.2)
  zero : T.zero.map (fun e => zeroOf P e.1) = T.zero.map (fun e => some e.2)

/-! ### small lists, reckoned out by 'rfl' -/
def takeN : List Value → Nat → Option (List Value)
  | _, 0 => some []
  | [], _ + 1 => none
  | v :: r, n + 1 => match takeN r n with
    | some l => some (v :: l)
    | none => none
def sliceN : List Value → Nat → Nat → Option (List Value)
  | cs, 0, n => takeN cs n
  | [], _ + 1, _ => none
  | _ :: r, o + 1, n => sliceN r o n
def setN {α : Type} : List α → Nat → α → Option (List α)
  | [], _, _ => none
  | _ :: r, 0, x => some (x :: r)
  | a :: r, n + 1, x => match setN r n x with
    | some l => some (a :: l)
    | none => none
/-- the cells vs, from o on. -/
def putN : List Value → Nat → List Value → Option (List Value)
  | cs, _, [] => some cs
  | cs, o, v :: vs => match setN cs o v with
    | some cs' => putN cs' (o + 1) vs
    | none => none
def evos (F : Fr) : List Operand → Option (List Value)
  | [] => some []
  | x :: r => match evo F x with
    | some v => match evos F r with
      | some l => some (v :: l)
      | none => none
    | none => none
def one1 : Value → Bool
  | .agg _ => false
  | .tuple _ => false
  | _ => true
def cellsO : Value → Option (List Value)
  | .agg ⟨l⟩ => some l
  | v => some [v]

theorem takeN_spec : ∀ (cs : List Value) (n : Nat) (vs : List Value), takeN cs n = some vs → vs = cs.take n ∧ vs.length = n := by
  intro cs
  induction cs with
  | nil => intro n vs h; cases n with
    | zero => simp [takeN] at h; subst h; simp
    | succ n => simp [takeN] at h
  | cons v r ih =>
    intro n vs h
    cases n with
    | zero => simp [takeN] at h; subst h; simp
    | succ n =>
      simp only [takeN] at h
      cases hx : takeN r n with
      | none => rw [hx] at h; cases h
      | some l =>
        rw [hx] at h
        obtain ⟨h1, h2⟩ := ih n l hx
        have := Option.some.inj h
        subst this
        simp [h1] at h2 ⊢
        omega
theorem sliceN_spec : ∀ (o : Nat) (cs : List Value) (n : Nat) (vs : List Value), sliceN cs o n = some vs → vs = (cs.drop o).take n ∧ vs.length = n := by
  intro o
  induction o with
  | zero => intro cs n vs h; simpa using takeN_spec cs n vs (by cases cs <;> exact h)
  | succ o ih => intro cs n vs h; cases cs with
    | nil => simp [sliceN] at h
    | cons v r => simpa using ih r n vs h
theorem setN_spec {α : Type} : ∀ (cs : List α) (n : Nat) (x : α) (cs' : List α), setN cs n x = some cs' → cs' = cs.set n x ∧ n < cs.length := by
  intro cs
  induction cs with
  | nil => intro n x cs' h; cases h
  | cons v r ih =>
    intro n x cs' h
    cases n with
    | zero => simp [setN] at h; subst h; simp
    | succ n =>
      simp only [setN] at h
      cases hx : setN r n x with
      | none => rw [hx] at h; cases h
      | some l =>
        rw [hx] at h
        obtain ⟨h1, h2⟩ := ih n x l hx
        have := Option.some.inj h
        subst this
        simp [h1, h2]
theorem evos_spec {N : Nat} {ds : List Deferred} {F : Fr} {a : Act} (hf : Fits N ds F a) : ∀ (l : List Operand) (vs : List Value), evos F l = some vs → l.map a.eval = vs := by
  intro l
  induction l with
  | nil => intro vs h; simp [evos] at h; subst h; rfl
  | cons x r ih =>
    intro vs h
    simp only [evos] at h
    cases hx : evo F x with
    | none => rw [hx] at h; cases h
    | some v =>
      rw [hx] at h
      simp only at h
      cases hr : evos F r with
      | none => rw [hr] at h; cases h
      | some l =>
        rw [hr] at h
        have := Option.some.inj h
        subst this
        simp [hf.eval hx, ih l hr]
theorem cellsO_spec {v : Value} {l : List Value} (h : cellsO v = some l) : v.cells = l.toArray := by
  cases v <;> simp [cellsO, Value.cells] at h ⊢ <;> first | (rw [← h]; done) | (subst h; rfl)

/-! ### memory -/
section
variable {P : Program} {T : TT}

theorem underlying_run {t : Nat} {d : TypeDesc} (h : P.underlying t = some d) (w : World) : (underlying t).run P w = .ok d w := run_underlying h w
theorem sizeOf_run {t : Nat} {i : TypeInfo} (h : P.info? t = some i) (w : World) : (sizeOf t).run P w = .ok i.size w := by simp [sizeOf, typeInfo, h]

theorem isAgg_of_agg {t n : Nat} (h : aggSize P t = some n) (w : World) : (isAgg t).run P w = .ok true w ∧ (sizeOf t).run P w = .ok n w := by
  unfold aggSize at h
  cases hu : P.underlying t with
  | none => rw [hu] at h; cases h
  | some d =>
    rw [hu] at h
    have h' : (P.info? t).map (·.size) = some n ∧ (isAgg t).run P w = .ok true w := by
      cases d <;> simp at h <;> exact ⟨by simpa using h, by simp [isAgg, run_underlying hu]⟩
    obtain ⟨h1, h2⟩ := h'
    cases hi : P.info? t with
    | none => rw [hi] at h1; cases h1
    | some i => rw [hi] at h1; simp at h1; exact ⟨h2, by rw [sizeOf_run hi]; simp [h1]⟩
theorem isAgg_of_one {t : Nat} (h : oneCell P t = some ()) (w : World) : (isAgg t).run P w = .ok false w ∧ (sizeOf t).run P w = .ok 1 w := by
  unfold oneCell at h
  cases hu : P.underlying t with
  | none => rw [hu] at h; cases h
  | some d =>
    rw [hu] at h
    have h' : (P.info? t).map (·.size) = some 1 ∧ (isAgg t).run P w = .ok false w := by
      cases d <;> simp at h <;> exact ⟨by simpa using h, by simp [isAgg, run_underlying hu]⟩
    obtain ⟨h1, h2⟩ := h'
    cases hi : P.info? t with
    | none => rw [hi] at h1; cases h1
    | some i => rw [hi] at h1; simp at h1; exact ⟨h2, by rw [sizeOf_run hi]; simp [h1]⟩

theorem run_load_cell {w : World} {a : Addr} {v : Value} (h : w.cell? a = some v) : (load a).run P w = .ok v w := by simp [load, Sem.run, h]
theorem run_loadCellsFrom {w : World} {a : Addr} : ∀ (vs : List Value) (i : Nat) (acc : Array Value), (∀ j v, vs[j]? = some v → w.cell? (a.add (i + j)) = some v) →
    (loadCellsFrom a i vs.length acc).run P w = .ok (acc ++ vs.toArray) w := by
  intro vs
  induction vs with
  | nil => intro i acc _; simp [loadCellsFrom]
  | cons v r ih =>
    intro i acc h
    have h0 := h 0 v rfl
    simp only [Nat.add_zero] at h0
    simp only [List.length_cons, loadCellsFrom, Sem.run_bind, run_load_cell h0, Result.andThen_ok]
    rw [ih (i + 1) (acc.push v) (fun j u hj => by have := h (j + 1) u (by simpa using hj); rwa [show i + 1 + j = i + (j + 1) from by omega])]
    simp
theorem run_loadVar_agg {t n : Nat} (ht : aggSize P t = some n) {w : World} {a : Addr} {vs : List Value} (hl : vs.length = n) (h : ∀ j v, vs[j]? = some v → w.cell? (a.add j) = some v) :
    (loadVar t a).run P w = .ok (.agg vs.toArray) w := by
  obtain ⟨h1, h2⟩ := isAgg_of_agg ht w
  subst hl
  have := run_loadCellsFrom (P := P) vs 0 #[] (fun j v hj => by rw [Nat.zero_add]; exact h j v hj)
  simp [loadVar, h1, h2, loadCells, this]
theorem run_loadVar_one {t : Nat} (ht : oneCell P t = some ()) {w : World} {a : Addr} {v : Value} (h : w.cell? a = some v) : (loadVar t a).run P w = .ok v w := by
  have := run_load_cell (P := P) h
  simp only [loadVar, Sem.run_bind, (isAgg_of_one ht w).1, Result.andThen_ok, Bool.false_eq_true, if_false, this]
end

theorem Sys.cell {B : Nat} {w0 w : World} {L : Lo} (h : Sys B w0 L w) {g : Nat} {ty : TypeId} {cs : List Value} (he : (g, cel ty cs) ∈ L) (o : Nat) : w.cell? ⟨g, o, none⟩ = cs[o]? := by
  have := (h.own _ he).2
  simp only at this
  simp [World.cell?, this, cel]
theorem Sys.frozen {B : Nat} {w0 w : World} {L : Lo} (h : Sys B w0 L w) {g : Nat} {ty : TypeId} {cs : List Value} (he : (g, cel ty cs) ∈ L) (o : Nat) : w.frozen? ⟨g, o, none⟩ = false := by
  have := (h.own _ he).2
  simp only at this
  simp [World.frozen?, this, cel]
theorem add_off (g o j : Nat) : (⟨g, o, none⟩ : Addr).add j = ⟨g, o + j, none⟩ := by
  unfold Addr.add
  split
  · rename_i h; subst h; rfl
  · rfl
theorem add_block (a : Addr) (j : Nat) : (a.add j).block = a.block := by unfold Addr.add; split <;> rfl
theorem Sys.oldCell {B : Nat} {w0 w : World} {L : Lo} (h : Sys B w0 L w) {a : Addr} (hb : a.block < B) : w.cell? a = w0.cell? a :=
  World.cell?_of_block (h.old a.block (Nat.lt_of_lt_of_le hb h.base) fun e he e1 => by have := (h.own e he).1; omega)
theorem Sys.farCell {B : Nat} {w0 w : World} {L : Lo} (h : Sys B w0 L w) {a : Addr} (hb : a.block < w0.heap.size) (hn : ∀ e, e ∈ L → e.1 ≠ a.block) : w.cell? a = w0.cell? a :=
  World.cell?_of_block (h.old a.block hb hn)

/-! ### operations that leave the world -/
section
variable {P : Program} {T : TT} {N : Nat} {B : Nat} {w0 : World} {ds : List Deferred} {Q : Exit → Act → World → Prop} {F : Fr} {L : Lo} {pu : Prop}
variable {dst : Option Tmp} {ty : TypeId} {p : String} {af : Array Edge} {gd : Option (Nat × Bool)}

theorem Ev.of_run {o : Oper} {v : Value} (h : ∀ a w, Fits N ds F a → Sys B w0 L w → (execOp a.eval o).run P w = .ok (.value v) w) : Ev P N B w0 ds pu F L o v :=
  ⟨fun a w hf hs => by rw [h a w hf hs]; exact ⟨rfl, rfl⟩⟩

theorem Ev.move {x : Operand} {v : Value} (hx : evo F x = some v) : Ev P N B w0 ds pu F L ⟨dst, .move x, ty, p, af, gd⟩ v :=
  .of_run fun a w hf hs => by simp [execOp, hf.eval hx]
theorem Ev.assign {x : Operand} {v : Value} (hx : evo F x = some v) : Ev P N B w0 ds pu F L ⟨dst, .assign x, ty, p, af, gd⟩ v :=
  .of_run fun a w hf hs => by simp [execOp, hf.eval hx]
theorem Ev.pick_t {c x y : Operand} {v : Value} (hc : evo F c = some (.bool true)) (hx : evo F x = some v) : Ev P N B w0 ds pu F L ⟨dst, .pick c x y, ty, p, af, gd⟩ v :=
  .of_run fun a w hf hs => by simp [execOp, hf.eval hc, hf.eval hx, asBool]
theorem Ev.pick_f {c x y : Operand} {v : Value} (hc : evo F c = some (.bool false)) (hy : evo F y = some v) : Ev P N B w0 ds pu F L ⟨dst, .pick c x y, ty, p, af, gd⟩ v :=
  .of_run fun a w hf hs => by simp [execOp, hf.eval hc, hf.eval hy, asBool]

/-- a field's place, of a block of one's own, and elsewhere. -/
theorem fieldAt_run (hT : TOK P T) {s i k n : Nat} {l : List (Nat × Nat × Nat)} {b : Nat} (hs : lkG T.fld s = some l) (hi : l[i]? = some (k, n + 1, b)) (a : Addr) (w : World) :
    (Instr.fieldAt s (.pointer (some a)) i).run P w = .ok (.pointer (some (a.add k))) w := by
  have h := tab_ok hT.fld hs
  unfold fldOf at h
  cases hu : P.underlying s with
  | none => rw [hu] at h; cases h
  | some d =>
    rw [hu] at h
    cases d <;> simp at h
    rename_i fs
    subst h
    simp only [List.getElem?_map] at hi
    cases hf : fs.toList[i]? with
    | none => rw [hf] at hi; cases hi
    | some f =>
      rw [hf] at hi
      simp at hi
      obtain ⟨rfl, h2, _⟩ := hi
      have hf' : fs[i]? = some f := by simpa using hf
      cases hn : P.info? f.type with
      | none => rw [hn] at h2; simp at h2
      | some j =>
        rw [hn] at h2
        simp at h2
        have hz : (sizeOf f.type).run P w = .ok (n + 1) w := by rw [sizeOf_run hn, h2]
        simp [Instr.fieldAt, run_underlying hu, hf', Instr.sureAddr, fieldPlace, hz]
theorem Ev.fieldAddr_loc (hT : TOK P T) {s i k n : Nat} {l : List (Nat × Nat × Nat)} {b : Nat} {x : Operand} {g o : Nat} (hx : evo F x = some (.pointer (some ⟨g, o, none⟩))) (hs : lkG T.fld s = some l)
    (hi : l[i]? = some (k, n + 1, b)) : Ev P N B w0 ds pu F L ⟨dst, .fieldAddr s x i, ty, p, af, gd⟩ (.pointer (some ⟨g, o + k, none⟩)) :=
  .of_run fun a w hf hw => by simp [execOp, hf.eval hx, fieldAt_run hT hs hi, add_off]
theorem Ev.fieldAddr (hT : TOK P T) {s i k n : Nat} {l : List (Nat × Nat × Nat)} {b : Nat} {x : Operand} {ad : Addr} (hx : evo F x = some (.pointer (some ad))) (hs : lkG T.fld s = some l)
    (hi : l[i]? = some (k, n + 1, b)) : Ev P N B w0 ds pu F L ⟨dst, .fieldAddr s x i, ty, p, af, gd⟩ (.pointer (some (ad.add k))) :=
  .of_run fun a w hf hw => by simp [execOp, hf.eval hx, fieldAt_run hT hs hi]

/-- a part of a value. -/
theorem fld_at (hT : TOK P T) {s i k n ft : Nat} {l : List (Nat × Nat × Nat)} (hs : lkG T.fld s = some l) (hi : l[i]? = some (k, n, ft)) :
    ∃ (fs : Array Field) (f : Field), P.underlying s = some (.struct fs) ∧ fs[i]? = some f ∧ f.offset = k ∧ f.type = ft := by
  have h := tab_ok hT.fld hs
  unfold fldOf at h
  cases hu : P.underlying s with
  | none => rw [hu] at h; cases h
  | some d =>
    rw [hu] at h
    cases d <;> simp at h
    rename_i fs
    subst h
    simp only [List.getElem?_map] at hi
    cases hff : fs.toList[i]? with
    | none => rw [hff] at hi; cases hi
    | some f =>
      rw [hff] at hi
      simp at hi
      exact ⟨fs, f, rfl, by simpa using hff, hi.1, hi.2.2⟩
theorem Ev.field_one (hT : TOK P T) {s i k n ft : Nat} {l : List (Nat × Nat × Nat)} {x : Operand} {cs : List Value} {v : Value} (hx : evo F x = some (.agg cs.toArray)) (hs : lkG T.fld s = some l)
    (hi : l[i]? = some (k, n, ft)) (h1 : lkG T.one ft = some ()) (hv : cs[k]? = some v) : Ev P N B w0 ds pu F L ⟨dst, .field s x i, ty, p, af, gd⟩ v :=
  .of_run fun a w hf hw => by
    obtain ⟨fs, f, hu, hf', rfl, rfl⟩ := fld_at hT hs hi
    simp [execOp, Instr.field, hf.eval hx, run_underlying hu, hf', part, asAgg, (isAgg_of_one (tab_ok hT.one h1) w).1, hv]
theorem Ev.field_agg (hT : TOK P T) {s i k n ft m : Nat} {l : List (Nat × Nat × Nat)} {x : Operand} {cs vs : List Value} (hx : evo F x = some (.agg cs.toArray)) (hs : lkG T.fld s = some l)
    (hi : l[i]? = some (k, n, ft)) (h1 : lkG T.agg ft = some m) (hv : sliceN cs k m = some vs) : Ev P N B w0 ds pu F L ⟨dst, .field s x i, ty, p, af, gd⟩ (.agg vs.toArray) :=
  .of_run fun a w hf hw => by
    obtain ⟨fs, f, hu, hf', rfl, rfl⟩ := fld_at hT hs hi
    obtain ⟨h2, h3⟩ := isAgg_of_agg (tab_ok hT.agg h1) w
    obtain ⟨hvs, hlen⟩ := sliceN_spec _ _ _ _ hv
    have e : cs.toArray.extract f.offset (f.offset + m) = vs.toArray := by
      apply Array.ext'
      rw [Array.toList_extract, List.extract_eq_take_drop]
      simp [hvs]
    simp [execOp, Instr.field, hf.eval hx, run_underlying hu, hf', part, asAgg, h2, h3, e]
    exact hvs.symm

/-! ### loads -/
theorem Ev.load_loc (hT : TOK P T) (i : Nat) {t : TypeId} {x : Operand} {g o : Nat} {tg : TypeId} {cs : List Value} {v : Value} (hx : evo F x = some (.pointer (some ⟨g, o, none⟩))) (hL : L[i]? = some (g, cel tg cs))
    (h1 : lkG T.one t = some ()) (hv : cs[o]? = some v) : Ev P N B w0 ds pu F L ⟨dst, .load t x, ty, p, af, gd⟩ v :=
  .of_run fun a w hf hw => by
    have hc : w.cell? ⟨g, o, none⟩ = some v := (hw.cell (List.mem_of_getElem? hL) o).trans hv
    simp [execOp, Instr.loadAt, Instr.sureAddr, hf.eval hx, run_loadVar_one (tab_ok hT.one h1) hc]
theorem Ev.load_loc_agg (hT : TOK P T) (i : Nat) {t : TypeId} {x : Operand} {g o n : Nat} {tg : TypeId} {cs vs : List Value} (hx : evo F x = some (.pointer (some ⟨g, o, none⟩))) (hL : L[i]? = some (g, cel tg cs))
    (h1 : lkG T.agg t = some n) (hv : sliceN cs o n = some vs) : Ev P N B w0 ds pu F L ⟨dst, .load t x, ty, p, af, gd⟩ (.agg vs.toArray) :=
  .of_run fun a w hf hw => by
    obtain ⟨hvs, hlen⟩ := sliceN_spec _ _ _ _ hv
    have hc : ∀ j u, vs[j]? = some u → w.cell? ((⟨g, o, none⟩ : Addr).add j) = some u := fun j u hj => by
      rw [add_off, hw.cell (List.mem_of_getElem? hL) (o + j)]
      have hjl := (List.getElem?_eq_some_iff.1 hj).1
      rw [hvs, List.getElem?_take, if_pos (by omega), List.getElem?_drop] at hj
      exact hj
    simp [execOp, Instr.loadAt, Instr.sureAddr, hf.eval hx, run_loadVar_agg (tab_ok hT.agg h1) hlen hc]
/-- a cell of the arguments' memory. -/
theorem Ev.load_old (hT : TOK P T) {t : TypeId} {x : Operand} {ad : Addr} {v : Value} (hx : evo F x = some (.pointer (some ad))) (h1 : lkG T.one t = some ()) (hb : ad.block < B) (hv : w0.cell? ad = some v) :
    Ev P N B w0 ds pu F L ⟨dst, .load t x, ty, p, af, gd⟩ v :=
  .of_run fun a w hf hw => by
    have hc := (hw.oldCell hb).trans hv
    simp [execOp, Instr.loadAt, Instr.sureAddr, hf.eval hx, run_loadVar_one (tab_ok hT.one h1) hc]
theorem Ev.load_old_agg (hT : TOK P T) {t : TypeId} {x : Operand} {ad : Addr} {n : Nat} (vs : List Value) (hx : evo F x = some (.pointer (some ad))) (h1 : lkG T.agg t = some n) (hlen : vs.length = n) (hb : ad.block < B)
    (hv : ∀ j v, vs[j]? = some v → w0.cell? (ad.add j) = some v) : Ev P N B w0 ds pu F L ⟨dst, .load t x, ty, p, af, gd⟩ (.agg vs.toArray) :=
  .of_run fun a w hf hw => by
    have hc : ∀ j u, vs[j]? = some u → w.cell? (ad.add j) = some u := fun j u hj => (hw.oldCell (by rw [add_block]; exact hb)).trans (hv j u hj)
    simp [execOp, Instr.loadAt, Instr.sureAddr, hf.eval hx, run_loadVar_agg (tab_ok hT.agg h1) hlen hc]
/-- a cell of other memory that lay there at the base world. -/
theorem Ev.load_far (hT : TOK P T) {t : TypeId} {x : Operand} {ad : Addr} {v : Value} (hx : evo F x = some (.pointer (some ad))) (h1 : lkG T.one t = some ()) (hb : ad.block < w0.heap.size) (hn : ∀ e, e ∈ L → e.1 ≠ ad.block)
    (hv : w0.cell? ad = some v) : Ev P N B w0 ds pu F L ⟨dst, .load t x, ty, p, af, gd⟩ v :=
  .of_run fun a w hf hw => by
    have hc := (hw.farCell hb hn).trans hv
    simp [execOp, Instr.loadAt, Instr.sureAddr, hf.eval hx, run_loadVar_one (tab_ok hT.one h1) hc]
theorem Ev.load_far_agg (hT : TOK P T) {t : TypeId} {x : Operand} {ad : Addr} {n : Nat} (vs : List Value) (hx : evo F x = some (.pointer (some ad))) (h1 : lkG T.agg t = some n) (hlen : vs.length = n) (hb : ad.block < w0.heap.size)
    (hn : ∀ e, e ∈ L → e.1 ≠ ad.block) (hv : ∀ j v, vs[j]? = some v → w0.cell? (ad.add j) = some v) : Ev P N B w0 ds pu F L ⟨dst, .load t x, ty, p, af, gd⟩ (.agg vs.toArray) :=
  .of_run fun a w hf hw => by
    have hc : ∀ j u, vs[j]? = some u → w.cell? (ad.add j) = some u := fun j u hj => (hw.farCell (by rw [add_block]; exact hb) (by rw [add_block]; exact hn)).trans (hv j u hj)
    simp [execOp, Instr.loadAt, Instr.sureAddr, hf.eval hx, run_loadVar_agg (tab_ok hT.agg h1) hlen hc]

/-! ### an element's place; an array's element -/
theorem indexAt_run (hT : TOK P T) {t e es : Nat} (hs : lkG T.sl t = some (e, es)) (ad : Addr) (n c : Nat) (k : IntKind) (j : Int) (h0 : 0 ≤ j) (h1 : j < n) (w : World) :
    (Instr.indexAt t (.slice (some ad) n c) (.int k j)).run P w = .ok (.pointer (some (ad.add (j.toNat * es)))) w := by
  have h := tab_ok hT.sl hs
  unfold slOf at h
  cases hu : P.underlying t with
  | none => rw [hu] at h; cases h
  | some d =>
    rw [hu] at h
    cases d <;> simp at h
    rename_i e'
    obtain ⟨i, hi, rfl, rfl⟩ := h
    have hz := sizeOf_run hi w
    simp [Instr.indexAt, asIntOf, run_underlying hu, h0, h1, hz]
theorem Ev.indexAddr (hT : TOK P T) {t e es : Nat} {x i : Operand} {ad : Addr} {n c : Nat} {k : IntKind} {j : Nat} (hx : evo F x = some (.slice (some ad) n c)) (hi : evo F i = some (.int k (j : Int)))
    (hs : lkG T.sl t = some (e, es)) (h1 : j < n) : Ev P N B w0 ds pu F L ⟨dst, .indexAddr t x i, ty, p, af, gd⟩ (.pointer (some (ad.add (j * es)))) :=
  .of_run fun a w hf hw => by
    have := indexAt_run hT hs ad n c k (j : Int) (by omega) (by omega) w
    simp only [Int.toNat_natCast] at this
    simp [execOp, hf.eval hx, hf.eval hi, this]
theorem Ev.indexAddr_int (hT : TOK P T) {t e es : Nat} {x i : Operand} {ad : Addr} {n c : Nat} {k : IntKind} {q : Int} (j : Nat) (hx : evo F x = some (.slice (some ad) n c)) (hi : evo F i = some (.int k q)) (hq : q = (j : Int))
    (hs : lkG T.sl t = some (e, es)) (h1 : j < n) : Ev P N B w0 ds pu F L ⟨dst, .indexAddr t x i, ty, p, af, gd⟩ (.pointer (some (ad.add (j * es)))) := by
  subst hq
  exact Ev.indexAddr hT hx hi hs h1

/-! ### numbers -/
def i64in (x : Int) : Prop := -9223372036854775808 ≤ x ∧ x ≤ 9223372036854775807
theorem wrap_in {x : Int} (h : i64in x) : IntKind.i64.wrap x = x := by unfold i64in at h; rw [IntKind.wrap_i64]; omega
theorem eqGuard_run {op : BinOp} {t : TypeId} {x y : Operand} {k j : IntKind} {m n : Int} (w : World) : (eqGuard op t x y (.int k m) (.int j n)).run P w = .ok () w := by
  unfold eqGuard
  cases op <;> simp
theorem Ev.add {x y : Operand} {t u : TypeId} {m n : Int} (hx : evo F x = some (.int .i64 m)) (hy : evo F y = some (.int .i64 n)) (h : i64in (m + n)) :
    Ev P N B w0 ds pu F L ⟨dst, .binOp .add t x y u, ty, p, af, gd⟩ (.int .i64 (m + n)) :=
  .of_run fun a w hf hw => by simp [execOp, hf.eval hx, hf.eval hy, eqGuard_run, binOp, Op.intArith, wrap_in h]
theorem Ev.sub {x y : Operand} {t u : TypeId} {m n : Int} (hx : evo F x = some (.int .i64 m)) (hy : evo F y = some (.int .i64 n)) (h : i64in (m - n)) :
    Ev P N B w0 ds pu F L ⟨dst, .binOp .sub t x y u, ty, p, af, gd⟩ (.int .i64 (m - n)) :=
  .of_run fun a w hf hw => by simp [execOp, hf.eval hx, hf.eval hy, eqGuard_run, binOp, Op.intArith, wrap_in h]
theorem Ev.mul {x y : Operand} {t u : TypeId} {m n : Int} (hx : evo F x = some (.int .i64 m)) (hy : evo F y = some (.int .i64 n)) (h : i64in (m * n)) :
    Ev P N B w0 ds pu F L ⟨dst, .binOp .mul t x y u, ty, p, af, gd⟩ (.int .i64 (m * n)) :=
  .of_run fun a w hf hw => by simp [execOp, hf.eval hx, hf.eval hy, eqGuard_run, binOp, Op.intArith, wrap_in h]
/-- with the wrap, of whatever kind. -/
theorem Ev.add_w {x y : Operand} {t u : TypeId} {k : IntKind} {m n : Int} (hx : evo F x = some (.int k m)) (hy : evo F y = some (.int k n)) :
    Ev P N B w0 ds pu F L ⟨dst, .binOp .add t x y u, ty, p, af, gd⟩ (.int k (k.wrap (m + n))) :=
  .of_run fun a w hf hw => by simp [execOp, hf.eval hx, hf.eval hy, eqGuard_run, binOp, Op.intArith]
theorem Ev.sub_w {x y : Operand} {t u : TypeId} {k : IntKind} {m n : Int} (hx : evo F x = some (.int k m)) (hy : evo F y = some (.int k n)) :
    Ev P N B w0 ds pu F L ⟨dst, .binOp .sub t x y u, ty, p, af, gd⟩ (.int k (k.wrap (m - n))) :=
  .of_run fun a w hf hw => by simp [execOp, hf.eval hx, hf.eval hy, eqGuard_run, binOp, Op.intArith]
theorem Ev.mul_w {x y : Operand} {t u : TypeId} {k : IntKind} {m n : Int} (hx : evo F x = some (.int k m)) (hy : evo F y = some (.int k n)) :
    Ev P N B w0 ds pu F L ⟨dst, .binOp .mul t x y u, ty, p, af, gd⟩ (.int k (k.wrap (m * n))) :=
  .of_run fun a w hf hw => by simp [execOp, hf.eval hx, hf.eval hy, eqGuard_run, binOp, Op.intArith]
theorem tdiv_in {m n : Int} (hm : i64in m) (hn : 1 ≤ n) : i64in (m.tdiv n) := by
  unfold i64in at *
  rcases Int.lt_or_le m 0 with h | h
  · have e : m.tdiv n = -((-m).tdiv n) := by rw [Int.neg_tdiv]; omega
    have h1 : 0 ≤ (-m).tdiv n := Int.tdiv_nonneg (by omega) (by omega)
    have h2 : (-m).tdiv n ≤ -m := by rw [Int.tdiv_eq_ediv_of_nonneg (by omega)]; exact Int.ediv_le_self _ (by omega)
    omega
  · have h1 : 0 ≤ m.tdiv n := Int.tdiv_nonneg h (by omega)
    have h2 : m.tdiv n ≤ m := by rw [Int.tdiv_eq_ediv_of_nonneg h]; exact Int.ediv_le_self _ h
    omega
theorem Ev.quo {x y : Operand} {t u : TypeId} {m n : Int} (hx : evo F x = some (.int .i64 m)) (hy : evo F y = some (.int .i64 n)) (hn : 1 ≤ n) (hm : i64in m) :
    Ev P N B w0 ds pu F L ⟨dst, .binOp .quo t x y u, ty, p, af, gd⟩ (.int .i64 (m.tdiv n)) :=
  .of_run fun a w hf hw => by
    have h0 : n ≠ 0 := by omega
    simp [execOp, hf.eval hx, hf.eval hy, eqGuard_run, binOp, Op.intDiv, h0, wrap_in (tdiv_in hm hn)]
theorem Ev.rem {x y : Operand} {t u : TypeId} {k : IntKind} {m n : Int} (hx : evo F x = some (.int k m)) (hy : evo F y = some (.int k n)) (hn : n ≠ 0) :
    Ev P N B w0 ds pu F L ⟨dst, .binOp .rem t x y u, ty, p, af, gd⟩ (.int k (m.tmod n)) :=
  .of_run fun a w hf hw => by simp [execOp, hf.eval hx, hf.eval hy, eqGuard_run, binOp, Op.intDiv, hn]
theorem Ev.lss {x y : Operand} {t u : TypeId} {k : IntKind} {m n : Int} (hx : evo F x = some (.int k m)) (hy : evo F y = some (.int k n)) :
    Ev P N B w0 ds pu F L ⟨dst, .binOp .lss t x y u, ty, p, af, gd⟩ (.bool (decide (m < n))) :=
  .of_run fun a w hf hw => by simp [execOp, hf.eval hx, hf.eval hy, eqGuard_run, binOp, Op.intCmp]
theorem Ev.leq {x y : Operand} {t u : TypeId} {k : IntKind} {m n : Int} (hx : evo F x = some (.int k m)) (hy : evo F y = some (.int k n)) :
    Ev P N B w0 ds pu F L ⟨dst, .binOp .leq t x y u, ty, p, af, gd⟩ (.bool (decide (m ≤ n))) :=
  .of_run fun a w hf hw => by simp [execOp, hf.eval hx, hf.eval hy, eqGuard_run, binOp, Op.intCmp]
theorem Ev.gtr {x y : Operand} {t u : TypeId} {k : IntKind} {m n : Int} (hx : evo F x = some (.int k m)) (hy : evo F y = some (.int k n)) :
    Ev P N B w0 ds pu F L ⟨dst, .binOp .gtr t x y u, ty, p, af, gd⟩ (.bool (decide (n < m))) :=
  .of_run fun a w hf hw => by simp [execOp, hf.eval hx, hf.eval hy, eqGuard_run, binOp, Op.intCmp]
theorem Ev.geq {x y : Operand} {t u : TypeId} {k : IntKind} {m n : Int} (hx : evo F x = some (.int k m)) (hy : evo F y = some (.int k n)) :
    Ev P N B w0 ds pu F L ⟨dst, .binOp .geq t x y u, ty, p, af, gd⟩ (.bool (decide (n ≤ m))) :=
  .of_run fun a w hf hw => by simp [execOp, hf.eval hx, hf.eval hy, eqGuard_run, binOp, Op.intCmp]
theorem Ev.eql {x y : Operand} {t u : TypeId} {k : IntKind} {m n : Int} (hx : evo F x = some (.int k m)) (hy : evo F y = some (.int k n)) :
    Ev P N B w0 ds pu F L ⟨dst, .binOp .eql t x y u, ty, p, af, gd⟩ (.bool (decide (m = n))) :=
  .of_run fun a w hf hw => by
    have : (m == n) = decide (m = n) := rfl
    simp [execOp, hf.eval hx, hf.eval hy, eqGuard_run, binOp, Op.intCmp, this]
theorem Ev.neq {x y : Operand} {t u : TypeId} {k : IntKind} {m n : Int} (hx : evo F x = some (.int k m)) (hy : evo F y = some (.int k n)) :
    Ev P N B w0 ds pu F L ⟨dst, .binOp .neq t x y u, ty, p, af, gd⟩ (.bool (decide (m ≠ n))) :=
  .of_run fun a w hf hw => by
    have : (m != n) = decide (m ≠ n) := by by_cases h : m = n <;> simp [h]
    simp [execOp, hf.eval hx, hf.eval hy, eqGuard_run, binOp, Op.intCmp, this]
theorem Ev.neg {x : Operand} {t : TypeId} {m : Int} (hx : evo F x = some (.int .i64 m)) (h : i64in (-m)) : Ev P N B w0 ds pu F L ⟨dst, .unOp .neg t x, ty, p, af, gd⟩ (.int .i64 (-m)) :=
  .of_run fun a w hf hw => by
    have := wrap_in h
    simp [execOp, hf.eval hx, Op.unary, Op.intArith, this]
theorem Ev.not {x : Operand} {t : TypeId} {b : Bool} (hx : evo F x = some (.bool b)) : Ev P N B w0 ds pu F L ⟨dst, .unOp .not t x, ty, p, af, gd⟩ (.bool !b) :=
  .of_run fun a w hf hw => by simp [execOp, hf.eval hx, Op.unary]

/-! ### calls -/
theorem Ev.extract {x : Operand} {i : Nat} {vs : List Value} {v : Value} (hx : evo F x = some (.tuple vs.toArray)) (hv : vs[i]? = some v) : Ev P N B w0 ds pu F L ⟨dst, .extract x i, ty, p, af, gd⟩ v :=
  .of_run fun a w hf hw => by simp [execOp, Instr.extract, hf.eval hx, hv]
def callOk (P : Program) (f : FuncId) : Bool :=
  match P.funcs[f]? with
  | some fn => fn.body.isSome && !(fn.name == "runtime.NumGoroutine")
  | none => false
theorem callFunc_run {f : FuncId} (h : callOk P f = true) (args : Array Value) (w : World) : (callFunc f args).run P w = .ok (.enter f args) w := by
  unfold callOk at h
  cases hf : P.funcs[f]? with
  | none => rw [hf] at h; cases h
  | some fn =>
    rw [hf] at h
    simp only [Bool.and_eq_true, Bool.not_eq_true'] at h
    have hb : ¬ fn.body = none := by intro e; rw [e] at h; simp at h
    have hn : ¬ fn.name = "runtime.NumGoroutine" := by simpa using h.2
    simp [callFunc, hf, hn, hb]
theorem callExec_run {f : FuncId} (h : callOk P f = true) {args : Array Operand} {vs : List Value} {c : Operand} {fst cap : List Value} {ats : Array TypeId} {a : Act} (hf : Fits N ds F a)
    (hc : evo F c = some (.func (.func f) fst.toArray cap.toArray)) (ha : evos F args.toList = some vs) (w : World) :
    (execOp a.eval ⟨dst, .call { callee := .value c, args := args, argTypes := ats }, ty, p, af, gd⟩).run P w = .ok (.enter f (fst ++ vs ++ cap).toArray) w := by
  have h1 : args.map a.eval = vs.toArray := by
    apply Array.ext'
    rw [Array.toList_map]
    exact evos_spec hf _ _ ha
  simp [execOp, resolve, hf.eval hc, Deferred.ofValue, invoke, h1, callFunc_run h]
/-- a call of a function of the program whose result is known. -/
theorem Ev.call {f : FuncId} {args : Array Operand} {vs : List Value} {ats : Array TypeId} {v : Value} (h : callOk P f = true) (ha : evos F args.toList = some vs)
    (hc : ∀ w, Sys B w0 L w → Calls P f vs.toArray w fun e w' => e = .returned v ∧ Below w.heap.size w w') :
    Ev P N B w0 ds True F L ⟨dst, .call { callee := .value (.func f), args := args, argTypes := ats }, ty, p, af, gd⟩ v := .mk fun a w hf hs => by
  have := callExec_run (dst := dst) (ty := ty) (p := p) (af := af) (gd := gd) (ats := ats) h (c := .func f) (fst := []) (cap := []) hf rfl ha w
  simp only [List.nil_append, List.append_nil] at this
  rw [this]
  exact ⟨trivial, rfl, hc w hs⟩
/-- a call of a function value. -/
theorem Ev.callv {f : FuncId} {c : Operand} {fst cap : List Value} {args : Array Operand} {vs : List Value} {ats : Array TypeId} {v : Value} (h : callOk P f = true) (hcv : evo F c = some (.func (.func f) fst.toArray cap.toArray))
    (ha : evos F args.toList = some vs) (hc : ∀ w, Sys B w0 L w → Calls P f (fst ++ vs ++ cap).toArray w fun e w' => e = .returned v ∧ Below w.heap.size w w') :
    Ev P N B w0 ds True F L ⟨dst, .call { callee := .value c, args := args, argTypes := ats }, ty, p, af, gd⟩ v := .mk fun a w hf hs => by
  rw [callExec_run (dst := dst) (ty := ty) (p := p) (af := af) (gd := gd) (ats := ats) h hf hcv ha w]
  exact ⟨trivial, rfl, hc w hs⟩
/-- a call whose result is not known ahead; the world behind it is the new base. -/
theorem XL.call {f : FuncId} {d : Nat} {c : Operand} {fst cap : List Value} {args : Array Operand} {vs : List Value} {ats : Array TypeId} {ops : Array Oper} {rest : List Oper} {L' : Lo} (h : callOk P f = true)
    (hcv : evo F c = some (.func (.func f) fst.toArray cap.toArray)) (ha : evos F args.toList = some vs) (hd : Nat.blt d N = true) (hL : List.Sublist L' L) (R : World → Value → World → Prop)
    (hc : ∀ w, Sys B w0 L w → Calls P f (fst ++ vs ++ cap).toArray w fun e w' => ∃ v, e = .returned v ∧ R w v w' ∧ Below w.heap.size w w')
    (k : ∀ w v w', Sys B w0 L w → R w v w' → Below w.heap.size w w' → Sys B w0 L w' → XL P N B w' ds Q ops rest ((d, v) :: F) L') :
    XL P N B w0 ds Q ops ({ dst := some d, op := .call { callee := .value c, args := args, argTypes := ats }, type := ty, pos := p, after := af, guard := none } :: rest) F L := by
  refine ⟨fun a w hf hs => ?_⟩
  refine wpList_plain rfl fun K hK => ?_
  unfold Oper.wp
  rw [callExec_run h hf hcv ha w]
  refine (hc w hs).mono fun e w' he => ?_
  obtain ⟨v, rfl, hR, hb⟩ := he
  exact hK _ _ ((k w v w' hs hR hb (hs.below hb)).run _ _ (hf.put hd) ((hs.below hb).rebase hL))

/-! ### builtins -/
theorem Ev.len_slice (hT : TOK P T) {t e es : Nat} {x : Operand} {A : Option Addr} {n c : Nat} (hx : evo F x = some (.slice A n c)) (hs : lkG T.sl t = some (e, es)) :
    Ev P N B w0 ds pu F L ⟨dst, .call { callee := .builtin .len, args := #[x], argTypes := #[t] }, ty, p, af, gd⟩ (.int .i64 (n : Int)) :=
  .of_run fun a w hf hw => by
    have h := tab_ok hT.sl hs
    unfold slOf at h
    cases hu : P.underlying t with
    | none => rw [hu] at h; cases h
    | some d =>
      rw [hu] at h
      cases d <;> simp at h
      simp [execOp, resolve, invoke, builtin, Builtin.len_, hf.eval hx, run_underlying hu, goInt]
theorem Ev.min {x y : Operand} {ats : Array TypeId} {k : IntKind} {m n : Int} (hx : evo F x = some (.int k m)) (hy : evo F y = some (.int k n)) :
    Ev P N B w0 ds pu F L ⟨dst, .call { callee := .builtin .min, args := #[x, y], argTypes := ats }, ty, p, af, gd⟩ (.int k (Min.min m n)) :=
  .of_run fun a w hf hw => by
    have : (if n < m then n else m) = Min.min m n := by split <;> omega
    simp [execOp, resolve, invoke, builtin, Builtin.min_, Builtin.min2, hf.eval hx, hf.eval hy, this]
theorem Ev.max {x y : Operand} {ats : Array TypeId} {k : IntKind} {m n : Int} (hx : evo F x = some (.int k m)) (hy : evo F y = some (.int k n)) :
    Ev P N B w0 ds pu F L ⟨dst, .call { callee := .builtin .max, args := #[x, y], argTypes := ats }, ty, p, af, gd⟩ (.int k (Max.max m n)) :=
  .of_run fun a w hf hw => by
    have : (if m < n then n else m) = Max.max m n := by split <;> omega
    simp [execOp, resolve, invoke, builtin, Builtin.max_, Builtin.max2, hf.eval hx, hf.eval hy, this]

/-! ### blocks -/
theorem XL.box {ops : Array Oper} {rest : List Oper} {d : Nat} {x : Operand} {v : Value} {cs : List Value} {t : TypeId} (hx : evo F x = some v) (hcs : cellsO v = some cs) (hd : Nat.blt d N = true)
    (k : ∀ g, w0.heap.size ≤ g → XL P N B w0 ds Q ops rest ((1000000 + d, .slice none L.length 0) :: (d, .pointer (some ⟨g, 0, none⟩)) :: F) ((g, cel t cs) :: L)) :
    XL P N B w0 ds Q ops ({ dst := some d, op := .box t x, type := ty, pos := p, after := af, guard := none } :: rest) F L := by
  refine ⟨fun a w hf hs => ?_⟩
  refine wpList_plain rfl fun K hK => ?_
  unfold Oper.wp
  have : (execOp a.eval { dst := some d, op := .box t x, type := ty, pos := p, after := af, guard := none }).run P w = .ok (.value (.pointer (some ⟨w.heap.size, 0, none⟩))) (w.alloc (.cells cs.toArray t)) := by
    simp [execOp, Instr.box, newVar, newRow, hf.eval hx, cellsO_spec hcs]
  rw [this]
  exact hK _ _ ((k w.heap.size hs.size).run _ _ ((hf.put hd).hint d _) (hs.box (cel t cs)))
theorem storeCells_run {cs : List Value} : ∀ (vs : List Value) (i : Nat) (w : World) (g o : Nat) (ty : TypeId) (cs cs' : List Value), w.heap[g]? = some (.cells cs.toArray ty (0, 0)) → putN cs (o + i) vs = some cs' →
    (∀ v ∈ vs, one1 v = true) → ∃ w', (storeCells ⟨g, o, none⟩ vs i).run P w = .ok () w' ∧ w'.heap[g]? = some (.cells cs'.toArray ty (0, 0)) ∧ w'.os = w.os ∧ w'.tape = w.tape ∧ w'.output = w.output ∧
      w'.heap.size = w.heap.size ∧ ∀ k, k ≠ g → w'.heap[k]? = w.heap[k]? := by
  intro vs
  induction vs with
  | nil => intro i w g o ty cs cs' hg hp _; simp [putN] at hp; subst hp; exact ⟨w, rfl, hg, rfl, rfl, rfl, rfl, fun _ _ => rfl⟩
  | cons v r ih =>
    intro i w g o ty cs cs' hg hp h1
    simp only [putN] at hp
    cases hx : setN cs (o + i) v with
    | none => rw [hx] at hp; cases hp
    | some cs1 =>
      rw [hx] at hp
      obtain ⟨e1, hlt⟩ := setN_spec _ _ _ _ hx
      have hc : w.cell? ⟨g, o + i, none⟩ = some (cs[o + i]) := by simp [World.cell?, hg, hlt]
      have hfz : w.frozen? ⟨g, o + i, none⟩ = false := by simp [World.frozen?, hg]
      have hg1 : (w.setCell ⟨g, o + i, none⟩ v).heap[g]? = some (.cells cs1.toArray ty (0, 0)) := by
        simp [World.setCell, Array.getElem?_modify, hg, e1]
      obtain ⟨w', h2, h3, h4, h5, h6, h7, h8⟩ := ih (i + 1) (w.setCell ⟨g, o + i, none⟩ v) g o ty cs1 cs' hg1 (by rw [show o + (i + 1) = o + i + 1 from by omega]; exact hp) (fun u hu => h1 u (List.mem_cons_of_mem _ hu))
      refine ⟨w', ?_, h3, h4, h5, h6, h7.trans (by simp [World.setCell]), fun k hk => (h8 k hk).trans (Below.heap_setCell _ _ _ _ hk)⟩
      have hst : (store ⟨g, o + i, none⟩ v).run P w = .ok () (w.setCell ⟨g, o + i, none⟩ v) := by
        have hv := h1 v (by simp)
        cases v <;> simp [one1] at hv <;> simp [store, Sem.run, hc, hfz]
      simp only [storeCells, add_off, Sem.run_bind, hst, Result.andThen_ok]
      exact h2
theorem XL.store (hT : TOK P T) (i : Nat) {ops : Array Oper} {rest : List Oper} {t : TypeId} {x y : Operand} {g o : Nat} {tg : TypeId} {v : Value} {cs vs cs' : List Value} {L' : Lo}
    (hx : evo F x = some (.pointer (some ⟨g, o, none⟩))) (hy : evo F y = some v) (hL : L[i]? = some (g, cel tg cs)) (hv : cellsO v = some vs) (hsz : lkG T.one t = some () ∧ vs.length = 1 ∨ lkG T.agg t = some vs.length)
    (h1 : vs.all one1 = true) (hp : putN cs o vs = some cs') (hL' : setN L i (g, cel tg cs') = some L')
    (k : XL P N B w0 ds Q ops rest F L') :
    XL P N B w0 ds Q ops ({ dst := none, op := .store t x y, type := ty, pos := p, after := af, guard := none } :: rest) F L := by
  refine ⟨fun a w hf hs => ?_⟩
  refine wpList_plain rfl fun K hK => ?_
  unfold Oper.wp
  have hmem := List.mem_of_getElem? hL
  obtain ⟨w', h2, h3, h4, h5, h6, h7, h8⟩ := storeCells_run (P := P) (cs := cs) vs 0 w g o tg cs cs' (hs.own _ hmem).2 (by simpa using hp) (by simpa using h1)
  have hsize : (sizeOf t).run P w = .ok vs.length w := by
    rcases hsz with ⟨h, hl⟩ | h
    · rw [hl]; exact (isAgg_of_one (tab_ok hT.one h) w).2
    · exact (isAgg_of_agg (tab_ok hT.agg h) w).2
  have : (execOp a.eval { dst := none, op := .store t x y, type := ty, pos := p, after := af, guard := none }).run P w = .ok .skip w' := by
    simp [execOp, Instr.storeAt, Instr.sureAddr, hf.eval hx, hf.eval hy, storeVar, hsize, cellsO_spec hv, h2]
  rw [this]
  obtain ⟨e1, hlt⟩ := setN_spec _ _ _ _ hL'
  exact hK _ _ (k.run _ _ hf (hs.turn hL e1 h4 h5 h6 (by omega) h3 fun q _ hq => h8 q hq))
end
end Go.Proofs.YtoiepgcjinccpaaDoor.X
