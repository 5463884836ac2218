/-
  A walk by lemmas (2): the ways out of a piece of code; the operations of a region one after the other; a region that draws its order.
-/
import Derived.Test.YtoiepgcjinccpaaDoorEng1
namespace Go.Proofs.YtoiepgcjinccpaaDoor.X
open Go Go.RowKit
set_option linter.unusedVariables false

section
variable {P : Program} {N : Nat} {B : Nat} {w0 : World} {ds : List Deferred} {Q : Exit → Act → World → Prop} {F : Fr} {L : Lo}

/-! ### the ways out -/
theorem XE.next {y : Code} (h : XC P N B w0 ds Q y F L) : XE N B w0 ds (Exit.then (y.wp P Q) Q) .normal F L := ⟨h.run⟩
theorem XE.then_ret {K : Act → World → Prop} (h : XE N B w0 ds Q .ret F L) : XE N B w0 ds (Exit.then K Q) .ret F L := ⟨h.run⟩
theorem XE.then_exit {K : Act → World → Prop} {id : Nat} (h : XE N B w0 ds Q (.exit id) F L) : XE N B w0 ds (Exit.then K Q) (.exit id) F L := ⟨h.run⟩
theorem XE.block_normal {id : Nat} (h : XE N B w0 ds Q .normal F L) : XE N B w0 ds (Exit.inBlock id Q) .normal F L := ⟨h.run⟩
theorem XE.block_ret {id : Nat} (h : XE N B w0 ds Q .ret F L) : XE N B w0 ds (Exit.inBlock id Q) .ret F L := ⟨h.run⟩
theorem XE.block_here {id : Nat} (h : XE N B w0 ds Q .normal F L) : XE N B w0 ds (Exit.inBlock id Q) (.exit id) F L := ⟨fun a w hf hs => by
  simp only [Exit.inBlock, if_true]; exact h.run a w hf hs⟩
theorem XE.block_on {id id' : Nat} (hne : Nat.beq id' id = false) (h : XE N B w0 ds Q (.exit id') F L) : XE N B w0 ds (Exit.inBlock id Q) (.exit id') F L := ⟨fun a w hf hs => by
  simp only [Exit.inBlock, if_neg (Nat.ne_of_beq_eq_false hne)]; exact h.run a w hf hs⟩
/-- a round is over. -/
theorem XE.round {σ : Type} {G : σ → Fr} {M : σ → Lo} {W : σ → World} {pre : σ → Prop} {μ : σ → Nat} {s : σ} (s' : σ) (hp : pre s') (hlt : μ s' < μ s) (hG : Sub (G s') F)
    (hM : ∀ w, Sys B w0 L w → Sys B (W s') (M s') w) :
    XE N B w0 ds (Exit.then (fun a w => ∃ s', pre s' ∧ μ s' < μ s ∧ Fits N ds (G s') a ∧ Sys B (W s') (M s') w) Q) .normal F L :=
  ⟨fun a w hf hs => ⟨s', hp, hlt, hG.fits hf, hM w hs⟩⟩

/-- the newest entry is let go. -/
theorem _root_.Go.Proofs.YtoiepgcjinccpaaDoor.X.Sys.pop {g : Nat} {o : Obj} {w : World} (h : Sys B w0 ((g, o) :: L) w) (hg : w0.heap.size ≤ g) : Sys B w0 L w :=
  h.drop (List.sublist_cons_self _ _) fun e he => by
    rcases List.mem_cons.1 he with rfl | he
    · exact .inr hg
    · exact .inl he
/-! ### slots that are kept -/
theorem Sub.nil : Sub [] F := trivial
theorem Sub.cons {d : Nat} {v : Value} {G : Fr} (h : lk F d = some v) (r : Sub G F) : Sub ((d, v) :: G) F := ⟨h, r⟩
theorem Sub.append {G H : Fr} (h : Sub G F) (k : Sub H F) : Sub (G ++ H) F := by
  induction G with
  | nil => exact k
  | cons e G ih => exact ⟨h.1, ih h.2⟩
def keepO (F : Fr) : List Nat → Option Fr
  | [] => some []
  | t :: ts => match keepO F ts with
    | none => none
    | some G => match lk F t with
      | none => none
      | some v => match lk F (1000000 + t) with
        | none => some ((t, v) :: G)
        | some h => some ((1000000 + t, h) :: (t, v) :: G)
theorem keepO_sub : ∀ (ts : List Nat) (G : Fr), keepO F ts = some G → Sub G F := by
  intro ts
  induction ts with
  | nil => intro G h; cases h; trivial
  | cons t ts ih =>
    intro G h
    simp only [keepO] at h
    split at h
    · cases h
    · rename_i G' hG
      split at h
      · cases h
      · rename_i v hv
        split at h
        · cases h; exact ⟨hv, ih _ hG⟩
        · rename_i u hu; cases h; exact ⟨hu, hv, ih _ hG⟩
/-- a loop: of F the slots ts are kept as they are; G s: those that a round changes. -/
theorem XC.loopk {c : Code} {σ : Type} (ts : List Nat) {G0 : Fr} (hk : keepO F ts = some G0) (G : σ → Fr) (M : σ → Lo) (W : σ → World) (pre : σ → Prop) (μ : σ → Nat) (s0 : σ)
    (h0 : pre s0) (hG : Sub (G s0) F) (hM : ∀ w, Sys B w0 L w → Sys B (W s0) (M s0) w)
    (round : ∀ s, pre s → XC P N B (W s) ds (Exit.then (fun a w => ∃ s', pre s' ∧ μ s' < μ s ∧ Fits N ds (G s' ++ G0) a ∧ Sys B (W s') (M s') w) Q) c (G s ++ G0) (M s)) :
    XC P N B w0 ds Q (.loop c) F L :=
  XC.loop (fun s => G s ++ G0) M W pre μ s0 h0 (hG.append (keepO_sub _ _ hk)) hM round
/-- the same from here on, with fewer slots. -/
theorem XC.keep {c : Code} (ts : List Nat) {G0 : Fr} (hk : keepO F ts = some G0) (h : XC P N B w0 ds Q c G0 L) : XC P N B w0 ds Q c F L := XC.weak (keepO_sub _ _ hk) h

/-! ### the results -/
theorem results1 {fn : Func} {t : Nat} (h : fn.results = #[.tmp t]) (tmps : Array Value) (w : World) : (results fn tmps).run P w = .ok (tmps.getD t undef) w := results_tmp h tmps P w
theorem XE.ret0 {fn : Func} {R : Ending → World → Prop} (h : fn.results = #[]) (hR : ∀ w, Sys B w0 L w → R (.returned (.tuple #[])) w) : XE N B w0 [] (bodyPost P fn R) .ret F L :=
  ⟨fun a w hf hs => ⟨hf.defers, _, results_none h _ _ _, hR w hs⟩⟩
theorem XE.end0 {fn : Func} {R : Ending → World → Prop} (h : fn.results = #[]) (hR : ∀ w, Sys B w0 L w → R (.returned (.tuple #[])) w) : XE N B w0 [] (bodyPost P fn R) .normal F L :=
  ⟨fun a w hf hs => ⟨hf.defers, _, results_none h _ _ _, hR w hs⟩⟩
theorem XE.ret1 {fn : Func} {R : Ending → World → Prop} {t : Nat} {v : Value} (h : fn.results = #[.tmp t]) (hv : evo F (.tmp t) = some v) (hR : ∀ w, Sys B w0 L w → R (.returned v) w) :
    XE N B w0 [] (bodyPost P fn R) .ret F L :=
  ⟨fun a w hf hs => ⟨hf.defers, _, results_tmp h _ _ _, by have e1 := hf.eval hv; simp only [Act.eval] at e1; rw [e1]; exact hR w hs⟩⟩
theorem XE.ret2 {fn : Func} {R : Ending → World → Prop} {t u : Nat} {v x : Value} (h : fn.results = #[.tmp t, .tmp u]) (hv : evo F (.tmp t) = some v) (hx : evo F (.tmp u) = some x)
    (hR : ∀ w, Sys B w0 L w → R (.returned (.tuple #[v, x])) w) : XE N B w0 [] (bodyPost P fn R) .ret F L :=
  ⟨fun a w hf hs => ⟨hf.defers, _, results_tmp2 h _ _ _, by have e1 := hf.eval hv; have e2 := hf.eval hx; simp only [Act.eval] at e1 e2; rw [e1, e2]; exact hR w hs⟩⟩
theorem results_tmp3' {fn : Func} {t u x : Tmp} (h : fn.results = #[.tmp t, .tmp u, .tmp x]) (tmps : Array Value) (P : Program) (w : World) :
    (results fn tmps).run P w = .ok (.tuple #[tmps.getD t undef, tmps.getD u undef, tmps.getD x undef]) w := by simp [results, h]
theorem XE.ret3 {fn : Func} {R : Ending → World → Prop} {t u s : Nat} {v x y : Value} (h : fn.results = #[.tmp t, .tmp u, .tmp s]) (hv : evo F (.tmp t) = some v) (hx : evo F (.tmp u) = some x) (hy : evo F (.tmp s) = some y)
    (hR : ∀ w, Sys B w0 L w → R (.returned (.tuple #[v, x, y])) w) : XE N B w0 [] (bodyPost P fn R) .ret F L :=
  ⟨fun a w hf hs => ⟨hf.defers, _, results_tmp3' h _ _ _, by have e1 := hf.eval hv; have e2 := hf.eval hx; have e3 := hf.eval hy; simp only [Act.eval] at e1 e2 e3; rw [e1, e2, e3]; exact hR w hs⟩⟩

/-! ### a function is entered -/
def frame : Nat → List Value → Fr
  | _, [] => []
  | n, v :: vs => (n, v) :: frame (n + 1) vs
theorem lk_frame : ∀ (vs : List Value) (n t : Nat) (v : Value), lk (frame n vs) t = some v → n ≤ t ∧ vs[t - n]? = some v := by
  intro vs
  induction vs with
  | nil => intro n t v h; cases h
  | cons u vs ih =>
    intro n t v h
    rcases lk_cons_eq h with ⟨rfl, rfl⟩ | ⟨hne, h2⟩
    · exact ⟨Nat.le_refl _, by simp⟩
    · obtain ⟨h3, h4⟩ := ih (n + 1) t v h2
      refine ⟨by omega, ?_⟩
      rw [show t - n = (t - (n + 1)) + 1 from by omega]
      simpa using h4
theorem enter {f : FuncId} {fn : Func} {c : Code} {vs : List Value} {w : World} {R : Ending → World → Prop} {n : Nat} (hf : P.funcs[f]? = some fn) (hb : fn.body = some c) (hN : fn.ntmps = n)
    (hn : Nat.ble vs.length n = true) (h : XC P n w.heap.size w [] (bodyPost P fn R) c (frame 0 vs) []) : Calls P f vs.toArray w R := by
  subst hN
  have hn' := Nat.le_of_ble_eq_true hn
  refine calls_of_wp hf hb (h.run _ w ⟨?_, rfl, fun t v _ hv => ?_⟩ (Sys.enter w))
  · simp; omega
  · obtain ⟨_, h2⟩ := lk_frame vs 0 t v hv
    have hlt : t < vs.length := (List.getElem?_eq_some_iff.1 h2).1
    simp only [Array.getD_eq_getD_getElem?]
    rw [Array.getElem?_append_left (by simpa using hlt)]
    simp at h2 ⊢
    rw [h2]; rfl

/-! ### the operations, one after the other -/
theorem XL.done {ops : Array Oper} (h : XE N B w0 ds Q .normal F L) : XL P N B w0 ds Q ops [] F L := ⟨fun a w hf hs => wpList_nil (h.run a w hf hs)⟩
theorem XL.step {ops : Array Oper} {rest : List Oper} {d : Nat} {op : Op} {ty : TypeId} {p : String} {af : Array Edge} (v : Value)
    (he : Ev P N B w0 ds True F L { dst := some d, op := op, type := ty, pos := p, after := af, guard := none } v) (hd : Nat.blt d N = true)
    (k : XL P N B w0 ds Q ops rest ((d, v) :: F) L) : XL P N B w0 ds Q ops ({ dst := some d, op := op, type := ty, pos := p, after := af, guard := none } :: rest) F L :=
  ⟨fun a w hf hs => wpList_plain rfl fun K hK => (he.run a w hf hs).upon fun w' hb => hK _ _ (k.run _ _ (hf.put hd) (hs.below hb))⟩
/-- an operation without a result. -/
theorem XL.step_ {ops : Array Oper} {rest : List Oper} {op : Op} {ty : TypeId} {p : String} {af : Array Edge} (v : Value)
    (he : Ev P N B w0 ds True F L { dst := none, op := op, type := ty, pos := p, after := af, guard := none } v)
    (k : XL P N B w0 ds Q ops rest F L) : XL P N B w0 ds Q ops ({ dst := none, op := op, type := ty, pos := p, after := af, guard := none } :: rest) F L :=
  ⟨fun a w hf hs => wpList_plain rfl fun K hK => (he.run a w hf hs).upon fun w' hb => hK _ _ (k.run _ _ hf (hs.below hb))⟩
/-- what a guard asks: the bool in the slot of operation j. -/
def asked (ops : Array Oper) (F : Fr) (j : Nat) : Option Bool :=
  match (ops[j]?).bind (·.dst) with
  | some d => match evo F (.tmp d) with
    | some (.bool b) => some b
    | _ => none
  | none => none
theorem asked_spec {ops : Array Oper} {j : Nat} {b : Bool} (h : asked ops F j = some b) {a : Act} (hf : Fits N ds F a) : yielded ops a.tmps j = some b := by
  unfold asked at h
  split at h
  · rename_i d hd
    split at h
    · rename_i c hl
      have := hf.eval hl
      simp only [Act.eval] at this
      unfold yielded
      rw [hd]
      simp only [Option.bind_some]
      simp only [Array.getD_eq_getD_getElem?] at this
      cases hx : a.tmps[d]? with
      | none => rw [hx] at this; cases this
      | some u => rw [hx] at this; simp at this; subst this; simpa using h
    · cases h
  · cases h
theorem Fits.hint {a : Act} (h : Fits N ds F a) (t : Nat) (u : Value) : Fits N ds ((1000000 + t, u) :: F) a :=
  ⟨h.size, h.defers, fun t' v ht hv => by
    rcases lk_cons_eq hv with ⟨h1, _⟩ | ⟨_, h2⟩
    · omega
    · exact h.get t' v ht h2⟩
/-- the slot of operation j, and the bool in it. -/
def askedAt (ops : Array Oper) (F : Fr) (j : Nat) : Option (Nat × Bool) :=
  match (ops[j]?).bind (·.dst) with
  | some d => match evo F (.tmp d) with
    | some (.bool b) => some (d, b)
    | _ => none
  | none => none
theorem askedAt_spec {ops : Array Oper} {j s : Nat} {b : Bool} (h : askedAt ops F j = some (s, b)) : asked ops F j = some b ∧ evo F (.tmp s) = some (.bool b) := by
  unfold askedAt at h
  unfold asked
  split at h
  · rename_i d hd
    split at h
    · rename_i c hl
      have := Option.some.inj h
      simp only [Prod.mk.injEq] at this
      obtain ⟨rfl, rfl⟩ := this
      exact ⟨by simp [hl], hl⟩
    · cases h
  · cases h
theorem XL.guard_y {ops : Array Oper} {rest : List Oper} {d j : Nat} {wb : Bool} {op : Op} {ty : TypeId} {p : String} {af : Array Edge} (hj : asked ops F j = some wb)
    (h : XL P N B w0 ds Q ops ({ dst := some d, op := op, type := ty, pos := p, after := af, guard := none } :: rest) F L) :
    XL P N B w0 ds Q ops ({ dst := some d, op := op, type := ty, pos := p, after := af, guard := some (j, wb) } :: rest) F L := by
  refine ⟨fun a w hf hs => ?_⟩
  have hw : Region.wanted { dst := some d, op := op, type := ty, pos := p, after := af, guard := some (j, wb) } (yielded ops a.tmps) = true := by
    simp [Region.wanted, asked_spec hj hf]
  have h1 := h.run a w hf hs
  unfold wpList at h1 ⊢
  rw [if_pos (by simp [Region.wanted])] at h1
  rw [hw, if_pos rfl]
  exact h1
theorem XL.guard_n {ops : Array Oper} {rest : List Oper} {d j : Nat} {wb : Bool} {op : Op} {ty : TypeId} {p : String} {af : Array Edge} (hj : asked ops F j = some (!wb))
    (h : XL P N B w0 ds Q ops rest ((d, undef) :: F) L) (hd : Nat.blt d N = true) :
    XL P N B w0 ds Q ops ({ dst := some d, op := op, type := ty, pos := p, after := af, guard := some (j, wb) } :: rest) F L := by
  refine ⟨fun a w hf hs => ?_⟩
  have hw : Region.wanted { dst := some d, op := op, type := ty, pos := p, after := af, guard := some (j, wb) } (yielded ops a.tmps) = false := by
    simp [Region.wanted, asked_spec hj hf]
  unfold wpList
  rw [hw, if_neg (by simp)]
  exact h.run _ w (hf.put hd) hs
/-- the guard's operation was itself passed over. -/
def askedU (ops : Array Oper) (F : Fr) (j : Nat) : Bool :=
  match (ops[j]?).bind (·.dst) with
  | some d => match evo F (.tmp d) with
    | some (.tuple _) => true
    | _ => false
  | none => false
theorem askedU_spec {ops : Array Oper} {j : Nat} (h : askedU ops F j = true) {a : Act} (hf : Fits N ds F a) : yielded ops a.tmps j = none := by
  unfold askedU at h
  split at h
  · rename_i d hd
    split at h
    · rename_i vs hl
      have := hf.eval hl
      simp only [Act.eval] at this
      unfold yielded
      rw [hd]
      simp only [Option.bind_some]
      simp only [Array.getD_eq_getD_getElem?] at this
      cases hx : a.tmps[d]? with
      | none => rfl
      | some u => rw [hx] at this; simp at this; subst this; rfl
    · cases h
  · cases h
theorem XL.guard_u {ops : Array Oper} {rest : List Oper} {d j : Nat} {wb : Bool} {op : Op} {ty : TypeId} {p : String} {af : Array Edge} (hj : askedU ops F j = true)
    (h : XL P N B w0 ds Q ops rest ((d, undef) :: F) L) (hd : Nat.blt d N = true) :
    XL P N B w0 ds Q ops ({ dst := some d, op := op, type := ty, pos := p, after := af, guard := some (j, wb) } :: rest) F L := by
  refine ⟨fun a w hf hs => ?_⟩
  have hw : Region.wanted { dst := some d, op := op, type := ty, pos := p, after := af, guard := some (j, wb) } (yielded ops a.tmps) = false := by
    simp [Region.wanted, askedU_spec hj hf]
  unfold wpList
  rw [hw, if_neg (by simp)]
  exact h.run _ w (hf.put hd) hs
theorem XL.split {ops : Array Oper} {rest : List Oper} {j : Nat} {wb : Bool} {dst : Option Nat} {op : Op} {ty : TypeId} {p : String} {af : Array Edge} (s : Nat) (c : Bool) (hj : askedAt ops F j = some (s, c))
    (ht : c = true → XL P N B w0 ds Q ops ({ dst := dst, op := op, type := ty, pos := p, after := af, guard := some (j, wb) } :: rest) F L)
    (hf : c = false → XL P N B w0 ds Q ops ({ dst := dst, op := op, type := ty, pos := p, after := af, guard := some (j, wb) } :: rest) F L) :
    XL P N B w0 ds Q ops ({ dst := dst, op := op, type := ty, pos := p, after := af, guard := some (j, wb) } :: rest) F L := by
  cases c with
  | true => exact ht rfl
  | false => exact hf rfl
end
end Go.Proofs.YtoiepgcjinccpaaDoor.X
