/-
  A walk by lemmas (10): a cut; a function that is entered with blocks of its caller's; calls that leave new memory; methods behind an interface; append; slices that are built.
-/
import Derived.Test.YtoiepgcjinccpaaDoorEng9
import Derived.Laws.AppendOwn
namespace Go.Proofs.YtoiepgcjinccpaaDoor.X
open Go Go.RowKit
set_option linter.unusedVariables false

section
variable {P : Program} {T : TT} {N : Nat} {B : Nat} {wS w0 : World} {ds : List Deferred} {Q : Exit → Act → World → Prop} {F : Fr} {L Ls : Lo} {pu : Prop} {ops : Array Oper} {rem rem' : List (Nat × Oper)}
variable {dst : Option Tmp} {ty : TypeId} {p : String} {af : Array Edge} {gd : Option (Nat × Bool)}

theorem XR.id (h : XR P N B wS w0 ds Q Ls ops rem F L) : XR P N B wS w0 ds Q Ls ops rem F L := h
theorem AnyR.id {post : List (Nat × Oper)} {b : Bool} (h : AnyR P N B wS w0 ds Q Ls ops rem F L post b) : AnyR P N B wS w0 ds Q Ls ops rem F L post b := h

/-! ### own blocks in another order -/
theorem Sys.perm {L' : Lo} {w : World} (h : Sys B w0 L w) (hp : List.Perm L L') : Sys B w0 L' w :=
  h.pick (fun e he => hp.mem_iff.2 he) ((hp.map _).nodup_iff.1 h.nd) (fun e he => .inl (hp.mem_iff.1 he))
theorem perm1 {α : Type} {a b : α} {l l' : List α} (h : List.Perm l (b :: l')) : List.Perm (a :: l) (b :: a :: l') := (h.cons a).trans (List.Perm.swap b a l')
theorem perm2 {α : Type} {a b c : α} {l l' : List α} (h : List.Perm l (b :: c :: l')) : List.Perm (a :: l) (b :: c :: a :: l') := (h.cons a).trans ((List.Perm.swap b a _).trans ((List.Perm.swap c a _).cons b))
theorem perm3 {α : Type} {a b c d : α} {l l' : List α} (h : List.Perm l (b :: c :: d :: l')) : List.Perm (a :: l) (b :: c :: d :: a :: l') :=
  (h.cons a).trans ((List.Perm.swap b a _).trans (((List.Perm.swap c a _).trans ((List.Perm.swap d a _).cons c)).cons b))
/-- the second entry is let go. -/
theorem Sys.pop2 {e : Nat × Obj} {g : Nat} {o : Obj} {w : World} (h : Sys B w0 (e :: (g, o) :: L) w) (hg : w0.heap.size ≤ g) : Sys B w0 (e :: L) w :=
  (h.perm (List.Perm.swap _ _ _)).pop hg

/-- what was there when the call began, and some of the own blocks. -/
theorem Sys.anchor {w W w' : World} {L' : Lo} (hB : Below w.heap.size w W) (S : Sys w.heap.size W L w') (hs : ∀ e, e ∈ L' → e ∈ L) (hn : (L'.map (·.1)).Nodup) : Sys w.heap.size w L' w' :=
  ⟨S.os.trans hB.os, S.tape.trans hB.tape, S.output.trans hB.output, Nat.le_trans hB.size S.size, Nat.le_refl _,
   fun k hk _ => by rw [S.old k (Nat.lt_of_lt_of_le hk hB.size) (fun e he e1 => by have := (S.own e he).1; omega), hB.block k hk], fun e he => S.own e (hs e he), hn⟩
/-! ### a cut -/
variable (N B ds Q) in
def cutQ {σ : Type} (G0 : Fr) (G : σ → Fr) (M : σ → Lo) (W : σ → World) (pre : σ → Prop) : Exit → Act → World → Prop :=
  Exit.then (fun a w => ∃ s, pre s ∧ Fits N ds (G s ++ G0) a ∧ Sys B (W s) (M s) w) Q
theorem XC.cut {x y : Code} {σ : Type} (ts : List Nat) {G0 : Fr} (hk : keepO F ts = some G0) (G : σ → Fr) (M : σ → Lo) (W : σ → World) (pre : σ → Prop)
    (h : XC P N B w0 ds (cutQ N B ds Q G0 G M W pre) x F L) (k : ∀ s, pre s → XC P N B (W s) ds Q y (G s ++ G0) (M s)) : XC P N B w0 ds Q (.seq x y) F L :=
  XC.seq (h.mono fun e a w q => by
    cases e with
    | normal => obtain ⟨s, hp, hf, hs⟩ := q; exact (k s hp).run a w hf hs
    | exit id => exact q
    | goto l => exact q
    | ret => exact q
    | panic ch => exact q
    | outgrown => exact q)
theorem XC.cutn {x y : Code} {σ : Type} (ts : List Nat) {G0 : Fr} (hk : keepO F ts = some G0) (G : σ → Fr) (M : σ → Lo) (W : σ → World) (pre : σ → Prop)
    (h : XC P N B w0 ds (cutQ N B ds Q G0 G M W pre) x F L) (k : ∀ s, pre s → XC P N B (W s) ds Q y (G s ++ G0) (M s)) : XC P N B w0 ds (Exit.then (y.wp P Q) Q) x F L :=
  h.mono fun e a w q => by
    cases e with
    | normal => obtain ⟨s, hp, hf, hs⟩ := q; exact (k s hp).run a w hf hs
    | exit id => exact q
    | goto l => exact q
    | ret => exact q
    | panic ch => exact q
    | outgrown => exact q
/-- the same base world; new blocks alone. -/
theorem XC.cutl {x y : Code} {σ : Type} (ts : List Nat) {G0 : Fr} (hk : keepO F ts = some G0) (G : σ → Fr) (M : σ → Lo) (pre : σ → Prop)
    (h : XC P N B w0 ds (cutQ N B ds Q G0 G (fun s => M s ++ L) (fun _ => w0) pre) x F L) (k : ∀ s, pre s → XC P N B w0 ds Q y (G s ++ G0) (M s ++ L)) : XC P N B w0 ds Q (.seq x y) F L :=
  XC.cut ts hk G _ _ pre h k
theorem XC.cutln {x y : Code} {σ : Type} (ts : List Nat) {G0 : Fr} (hk : keepO F ts = some G0) (G : σ → Fr) (M : σ → Lo) (pre : σ → Prop)
    (h : XC P N B w0 ds (cutQ N B ds Q G0 G (fun s => M s ++ L) (fun _ => w0) pre) x F L) (k : ∀ s, pre s → XC P N B w0 ds Q y (G s ++ G0) (M s ++ L)) : XC P N B w0 ds (Exit.then (y.wp P Q) Q) x F L :=
  XC.cutn ts hk G _ _ pre h k
/-- a slot points into the block at this place of L, counted from L's end. -/
theorem XC.hint {c : Code} (t pos : Nat) (h : XC P N B w0 ds Q c ((1000000 + t, .slice none pos 0) :: F) L) : XC P N B w0 ds Q c F L := ⟨fun a w hf hs => h.run a w (hf.hint t _) hs⟩
theorem XE.hint {e : Exit} (t pos : Nat) (h : XE N B w0 ds Q e ((1000000 + t, .slice none pos 0) :: F) L) : XE N B w0 ds Q e F L := ⟨fun a w hf hs => h.run a w (hf.hint t _) hs⟩
theorem XE.leaf {σ : Type} {G0 : Fr} {G : σ → Fr} {M : σ → Lo} {W : σ → World} {pre : σ → Prop} (s : σ) (hG : Sub (G s ++ G0) F) (hM : ∀ w, Sys B w0 L w → Sys B (W s) (M s) w) (hp : pre s) :
    XE N B w0 ds (cutQ N B ds Q G0 G M W pre) .normal F L := ⟨fun a w hf hs => ⟨s, hp, hG.fits hf, hM w hs⟩⟩
theorem XE.cut_ret {σ : Type} {G0 : Fr} {G : σ → Fr} {M : σ → Lo} {W : σ → World} {pre : σ → Prop} (h : XE N B w0 ds Q .ret F L) : XE N B w0 ds (cutQ N B ds Q G0 G M W pre) .ret F L := ⟨h.run⟩
theorem XE.cut_exit {σ : Type} {G0 : Fr} {G : σ → Fr} {M : σ → Lo} {W : σ → World} {pre : σ → Prop} {id : Nat} (h : XE N B w0 ds Q (.exit id) F L) : XE N B w0 ds (cutQ N B ds Q G0 G M W pre) (.exit id) F L := ⟨h.run⟩

/-! ### a function is entered that is handed blocks of its caller's -/
theorem Sys.start {w : World} (hB : B ≤ w.heap.size) (hL : ∀ e, e ∈ L → B ≤ e.1 ∧ w.heap[e.1]? = some e.2) (hn : (L.map (·.1)).Nodup) : Sys B w L w :=
  ⟨rfl, rfl, rfl, Nat.le_refl _, hB, fun _ _ _ => rfl, hL, hn⟩
theorem Sys.start1 {w : World} {g : Nat} {o : Obj} (hB : B ≤ g) (h : w.heap[g]? = some o) : Sys B w [(g, o)] w :=
  Sys.start (by have := (Array.getElem?_eq_some_iff.1 h).1; omega) (fun e he => by simp only [List.mem_singleton] at he; subst he; exact ⟨hB, h⟩) (by simp)
theorem Sys.start2 {w : World} {g h : Nat} {o o' : Obj} (hB : B ≤ g) (hB' : B ≤ h) (hg : w.heap[g]? = some o) (hh : w.heap[h]? = some o') (hne : g ≠ h) : Sys B w [(g, o), (h, o')] w :=
  Sys.start (by have := (Array.getElem?_eq_some_iff.1 hg).1; omega) (fun e he => by
    simp only [List.mem_cons, List.not_mem_nil, or_false] at he
    rcases he with rfl | rfl
    · exact ⟨hB, hg⟩
    · exact ⟨hB', hh⟩) (by simp [hne])
theorem enterL {f : FuncId} {fn : Func} {c : Code} {vs : List Value} {w : World} {R : Ending → World → Prop} {n : Nat} (hf : P.funcs[f]? = some fn) (hb : fn.body = some c) (hN : fn.ntmps = n)
    (hn : Nat.ble vs.length n = true) (S : Sys B w L w) (h : XC P n B w [] (bodyPost P fn R) c (frame 0 vs) L) : Calls P f vs.toArray w R := by
  subst hN
  have hn' := Nat.le_of_ble_eq_true hn
  refine calls_of_wp hf hb (h.run _ w ⟨?_, rfl, fun t v _ hv => ?_⟩ S)
  · simp; omega
  · obtain ⟨_, h2⟩ := lk_frame vs 0 t v hv
    have hlt : t < vs.length := (List.getElem?_eq_some_iff.1 h2).1
    simp only [Array.getD_eq_getD_getElem?]
    rw [Array.getElem?_append_left (by simpa using hlt)]
    simp at h2 ⊢
    rw [h2]; rfl

/-! ### a call whose result is not known ahead, and which may have turned own blocks; what is own behind it is told anew -/
theorem XL.callr {f : FuncId} {d : Nat} {c : Operand} {fst cap : List Value} {args : Array Operand} {vs : List Value} {ats : Array TypeId} {rest : List Oper} (R : World → Value → World → Prop) (h : callOk P f = true)
    (hcv : evo F c = some (.func (.func f) fst.toArray cap.toArray)) (ha : evos F args.toList = some vs) (hd : Nat.blt d N = true)
    (hc : ∀ w, Sys B w0 L w → Calls P f (fst ++ vs ++ cap).toArray w fun e w' => ∃ v, e = .returned v ∧ R w v w')
    (k : ∀ w v w', Sys B w0 L w → R w v w' → ∃ L' w1, Sys B w1 L' w' ∧ XL P N B w1 ds Q ops rest ((d, v) :: F) L') :
    XL P N B w0 ds Q ops ({ dst := some d, op := .call { callee := .value c, args := args, argTypes := ats }, type := ty, pos := p, after := af, guard := none } :: rest) F L := by
  refine ⟨fun a w hf hs => ?_⟩
  refine wpList_plain rfl fun K hK => ?_
  unfold Oper.wp
  rw [callExec_run h hf hcv ha w]
  refine (hc w hs).mono fun e w' he => ?_
  obtain ⟨v, rfl, hR⟩ := he
  obtain ⟨L', w1, hS, hk⟩ := k w v w' hs hR
  exact hK _ _ (hk.run _ _ (hf.put hd) hS)
/-- one own block has been turned. -/
theorem Sys.turned {w w' : World} (h : Sys B w0 L w) (i : Nat) {g B' : Nat} {o o' : Obj} (hL : L[i]? = some (g, o)) {L' : Lo} (hL' : setN L i (g, o') = some L') (h' : Sys B' w [(g, o')] w') : Sys B w0 L' w' := by
  obtain ⟨e, _⟩ := setN_spec _ _ _ _ hL'
  have hm := h'.own (g, o') (by simp)
  exact h.turn hL e h'.os h'.tape h'.output h'.size hm.2 (fun k hk hne => h'.old k hk fun e he e2 => by simp only [List.mem_singleton] at he; subst he; exact hne e2.symm)

/-! ### methods behind an interface -/
def methO (P : Program) (t : Nat) (name : String) : Option Nat :=
  match P.info? t with
  | some i => match i.methods.find? (·.name == name) with
    | some m => match m.path.toList, m.func with
      | [], some (f, false) => match P.underlying t with
        | some (.pointer _) => none
        | some _ => some f
        | none => none
      | _, _ => none
    | none => none
  | none => none
theorem method_run {t f : Nat} {name : String} (h : methO P t name = some f) (v : Value) (n : Nat) (w : World) : (method (n + 1) t v name).run P w = .ok (f, v) w := by
  unfold methO at h
  split at h
  · rename_i i hi
    split at h
    · rename_i m hm
      split at h
      · rename_i f' hp hf
        split at h
        · cases h
        · rename_i d hne hu
          have := Option.some.inj h
          subst this
          have hpath : m.path = #[] := Array.ext' hp
          have hr : ∀ wr, (receiverAt t (.val v) false wr).run P w = .ok v w := fun wr => by
            unfold receiverAt
            simp only [Sem.run_bind, run_underlying hu, Result.andThen_ok]
            cases d <;> first | exact absurd rfl (hne _) | simp [Place.get]
          simp only [method, typeInfo, hi, Sem.run_bind]
          simp [hi, hm, hp, hf, follow]
          rw [hr]; rfl
        · cases h
      · cases h
    · cases h
  · cases h
theorem Ev.invoke {t f : Nat} {x : Operand} {name : String} {v r : Value} {args : Array Operand} {vs : List Value} {ats : Array TypeId} (hm : methO P t name = some f) (h : callOk P f = true) (hx : evo F x = some (.iface t v)) (ha : evos F args.toList = some vs)
    (hc : ∀ w, Sys B w0 L w → Calls P f (v :: vs).toArray w fun e w' => e = .returned r ∧ Below w.heap.size w w') :
    Ev P N B w0 ds True F L ⟨dst, .call { callee := .invoke x name, args := args, argTypes := ats }, ty, p, af, gd⟩ r := .mk fun a w hf hs => by
  have h1 : args.map a.eval = vs.toArray := by
    apply Array.ext'
    rw [Array.toList_map]
    exact evos_spec hf _ _ ha
  have h2 : (execOp a.eval ⟨dst, .call { callee := .invoke x name, args := args, argTypes := ats }, ty, p, af, gd⟩).run P w = .ok (.enter f (v :: vs).toArray) w := by
    have h3 := method_run (P := P) hm v (P.types.size + 99) w
    have h4 : P.types.size + Made.depth = P.types.size + 99 + 1 := by simp [Made.depth]
    have h5 : (#[v] ++ vs.toArray : Array Value) = (v :: vs).toArray := by simp
    simp [execOp, resolve, hf.eval hx, h1, Go.invoke, callMethod, h4, h3, h5, callFunc_run h]
  rw [h2]
  exact ⟨trivial, rfl, hc w hs⟩
theorem Ev.makeIface {t : Nat} {d : TypeDesc} {x : Operand} {v : Value} (hu : P.underlying t = some d) (hd : (match d with | .interface _ => false | _ => true) = true) (hx : evo F x = some v) :
    Ev P N B w0 ds pu F L ⟨dst, .makeInterface t x, ty, p, af, gd⟩ (.iface t v) := .of_run fun a w hf hw => by
  cases d <;> simp at hd <;> simp [execOp, Instr.makeInterface, hf.eval hx, run_underlying hu]
theorem Ev.makeFunc {fn : Fn} {fst cap : Array Operand} {vs us : List Value} (h1 : evos F fst.toList = some vs) (h2 : evos F cap.toList = some us) :
    Ev P N B w0 ds pu F L ⟨dst, .makeFunc fn fst cap, ty, p, af, gd⟩ (.func fn ⟨vs⟩ ⟨us⟩) := .of_run fun a w hf hw => by
  have e1 : fst.map a.eval = vs.toArray := by apply Array.ext'; rw [Array.toList_map]; exact evos_spec hf _ _ h1
  have e2 : cap.map a.eval = us.toArray := by apply Array.ext'; rw [Array.toList_map]; exact evos_spec hf _ _ h2
  simp [execOp, Instr.makeFunc, e1, e2]
theorem nilAhead_run {t f : Nat} {name : String} (h : methO P t name = some f) (v : Value) (n : Nat) (w : World) : (nilAhead (n + 1) t v name).run P w = .ok (some false) w := by
  unfold methO at h
  split at h
  · rename_i i hi
    split at h
    · rename_i m hm
      split at h
      · rename_i f' hp hf
        split at h
        · cases h
        · rename_i d hne hu
          simp only [nilAhead, typeInfo, hi, Sem.run_bind]
          simp [hi, hm, hp, hf, followBlind, run_underlying hu]
          try (cases d <;> first | exact absurd rfl (hne _) | simp)
        · cases h
      · cases h
    · cases h
  · cases h
/-- a method value's receiver is no nil pointer (a value method, no path). -/
theorem Ev.nilCheckM {t f : Nat} {name : String} {x : Operand} {v : Value} (hm : methO P t name = some f) (hx : evo F x = some (.func (.method name) ⟨[.iface t v]⟩ ⟨[]⟩)) :
    Ev P N B w0 ds pu F L ⟨dst, .nilCheck x, ty, p, af, gd⟩ (.func (.method name) ⟨[.iface t v]⟩ ⟨[]⟩) := .of_run fun a w hf hw => by
  have h4 : P.types.size + Made.depth = P.types.size + 99 + 1 := by simp [Made.depth]
  have h3 := nilAhead_run hm v (P.types.size + 99) w
  rw [← h4] at h3
  simp only [execOp, hf.eval hx]
  simp [h3]
theorem Ev.nilCheckF {x : Operand} {f : Nat} {vs us : List Value} (hx : evo F x = some (.func (.func f) ⟨vs⟩ ⟨us⟩)) : Ev P N B w0 ds pu F L ⟨dst, .nilCheck x, ty, p, af, gd⟩ (.func (.func f) ⟨vs⟩ ⟨us⟩) := .of_run fun a w hf hw => by
  simp [execOp, hf.eval hx]

/-! ### results, of slots and of cells -/
variable (T F L) in
def resO : List ResultVar → Option (List Value × Prop)
  | [] => some ([], True)
  | .tmp t :: r => match resO r with
    | some (vs, c) => match evo F (.tmp t) with
      | some v => some (v :: vs, c)
      | none => none
    | none => none
  | .cell t tt :: r => match resO r with
    | some (vs, c) => match hintOf F (.tmp t) with
      | some h => match fromEnd L h with
        | some (_, g', .cells ⟨cs⟩ _ (0, 0)) => match evo F (.tmp t) with
          | some (.pointer (some ⟨g, o, none⟩)) => match loadV T tt cs o with
            | some v => some (v :: vs, g' = g ∧ c)
            | none => none
          | _ => none
        | _ => none
      | none => none
    | none => none
def tupV : List Value → Value
  | [v] => v
  | vs => .tuple ⟨vs⟩
theorem loadV_run (hT : TOK P T) {tt o g : Nat} {cs : List Value} {v : Value} {tg : TypeId} {w : World} {i : Nat} (hw : Sys B w0 L w) (hL : L[i]? = some (g, cel tg cs)) (hv : loadV T tt cs o = some v) : (loadVar tt ⟨g, o, none⟩).run P w = .ok v w := by
  have hmem := List.mem_of_getElem? hL
  unfold loadV at hv
  split at hv
  · rename_i h1
    exact run_loadVar_one (tab_ok hT.one h1) ((hw.cell hmem o).trans hv)
  · split at hv
    · rename_i m h1
      split at hv
      · rename_i vs hs
        cases hv
        obtain ⟨e1, e2⟩ := sliceN_spec _ _ _ _ hs
        refine run_loadVar_agg (tab_ok hT.agg h1) e2 fun j u hj => ?_
        rw [add_off, hw.cell hmem, ← hj, e1, List.getElem?_take]
        have : j < m := by have := (List.getElem?_eq_some_iff.1 hj).1; omega
        rw [if_pos this, List.getElem?_drop]
      · cases hv
    · cases hv
theorem resO_run (hT : TOK P T) {a : Act} {w : World} (hf : Fits N ds F a) (hw : Sys B w0 L w) : ∀ {rs : List ResultVar} {vs : List Value} {c : Prop}, resO T F L rs = some (vs, c) → c →
    (rs.mapM (m := Sem) fun | .tmp t => pure (a.tmps.getD t undef) | .cell x t => do loadVar t (← asAddr (a.tmps.getD x undef))).run P w = .ok vs w := by
  intro rs
  induction rs with
  | nil => intro vs c h _; simp only [resO, Option.some.injEq, Prod.mk.injEq] at h; rw [← h.1]; simp
  | cons r rs ih =>
    intro vs c h hc
    cases r with
    | tmp t =>
      simp only [resO] at h
      split at h
      · rename_i us d hr
        split at h
        · rename_i v hv
          simp only [Option.some.injEq, Prod.mk.injEq] at h
          obtain ⟨rfl, rfl⟩ := h
          have e1 := hf.eval hv
          simp only [Act.eval] at e1
          have h2 := ih hr hc
          simp only [List.mapM_cons, Sem.run_bind, Sem.run_pure, Result.andThen_ok, h2, e1]
        · cases h
      · cases h
    | cell t tt =>
      simp only [resO] at h
      split at h
      · rename_i us d hr
        split at h
        · split at h
          · rename_i hfe
            split at h
            · rename_i hv
              split at h
              · rename_i u hl
                simp only [Option.some.injEq, Prod.mk.injEq] at h
                obtain ⟨rfl, rfl⟩ := h
                have hLi := fromEnd_some hfe
                have e1 := hf.eval hv
                simp only [Act.eval] at e1
                have e2 := hc.1
                subst e2
                have h2 := ih hr hc.2
                have h3 := loadV_run hT hw hLi hl
                simp only [List.mapM_cons, Sem.run_bind]
                rw [e1]
                have h4 : ∀ x, (asAddr (.pointer (some x))).run P w = .ok x w := fun x => by simp [asAddr]
                simp only [h4, Sem.run_bind, Sem.run_pure, Result.andThen_ok, h3, h2]
              · cases h
            · cases h
          · cases h
        · cases h
      · cases h
theorem XE.retg (hT : TOK P T) {fn : Func} {R : Ending → World → Prop} {rs : List ResultVar} {vs : List Value} {c : Prop} (h : fn.results = ⟨rs⟩) (hv : resO T F L rs = some (vs, c)) (hc : c)
    (hR : ∀ w, Sys B w0 L w → R (.returned (tupV vs)) w) : XE N B w0 [] (bodyPost P fn R) .ret F L :=
  ⟨fun a w hf hw => ⟨hf.defers, _, by
    have h1 := resO_run hT hf hw hv hc
    have h2 : (results fn a.tmps).run P w = .ok (tupV vs) w := by
      unfold results
      rw [h, Array.mapM_eq_mapM_toList]
      simp only [Sem.run_bind, Sem.run_map]
      refine (congrArg (fun r : Result (List Value) => (r.andThen fun a w' => Result.ok a.toArray w').andThen fun a w' => Sem.run P (pure (if h : a.size = 1 then a[0] else Value.tuple a)) w') h1).trans ?_
      simp only [Result.andThen_ok, Sem.run_pure]
      cases vs with
      | nil => rfl
      | cons v vs => cases vs with
        | nil => rfl
        | cons u vs => simp [tupV]
    exact h2, hR w hw⟩⟩
theorem XE.endg (hT : TOK P T) {fn : Func} {R : Ending → World → Prop} {rs : List ResultVar} {vs : List Value} {c : Prop} (h : fn.results = ⟨rs⟩) (hv : resO T F L rs = some (vs, c)) (hc : c)
    (hR : ∀ w, Sys B w0 L w → R (.returned (tupV vs)) w) : XE N B w0 [] (bodyPost P fn R) .normal F L :=
  ⟨(XE.retg hT h hv hc hR).run⟩
end
end Go.Proofs.YtoiepgcjinccpaaDoor.X
