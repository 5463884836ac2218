/-
  Calls that may panic; a drawn region whose last operation comes behind all the others and may do whatever it does, though the others turn memory.
-/
import Derived.Test.YtmpaiphakjogjaaPart4
import Derived.Test.YtmpaiphakjogjaaPart1
import Derived.Recover
import Derived.Test.YtmpaiphakjogjaaPart3
import Derived.Test.YtmpaiphakjogjaaPart2
set_option linter.unusedVariables false
set_option linter.unusedSimpArgs false
namespace Go.Proofs.Ytmpaiphakjogjaa.X
open Go Go.RowKit Go.Proofs.Ytmpaiphakjogjaa.Bs
set_option linter.unusedVariables false
def pan (v : Value) : List PanicEntry := [{ v := v, recovered := false }]
/-- how a call ends that panics unless something is so. -/
def mustE (b : Bool) (v : Value) : Ending := if b then .returned (.tuple #[]) else .panicked (pan v)
section
variable {P : Program} {T : TT} {N : Nat} {B : Nat} {w0 : World} {ds : List Deferred} {Q : Exit → Act → World → Prop} {F : Fr} {L : Lo}
variable {ops : Array Oper} {rest : List Oper} {ty : TypeId} {p : String} {af : Array Edge}
theorem XL.panic {x : Operand} {tt : TypeId} {u : Value} {dst : Option Tmp} (hx : evo F x = some (.iface tt u)) (k : XE N B w0 ds Q (.panic (pan (.iface tt u))) F L) :
    XL P N B w0 ds Q ops ({ dst := dst, op := .panic x, type := ty, pos := p, after := af, guard := none } :: rest) F L := by
  refine ⟨fun a w hf hs => wpList_plain rfl fun K hK => ?_⟩
  unfold Oper.wp
  have e := hf.eval hx
  have h1 : (execOp a.eval { dst := dst, op := .panic x, type := ty, pos := p, after := af, guard := none }).run P w = .halt (.panic (.iface tt u)) w := by
    simp [execOp, Instr.panic, e]
  rw [h1]
  exact k.run _ _ hf hs
/-- a call that returns or panics. -/
theorem XL.callP {f : FuncId} {d : Nat} {c : Operand} {fst cap : List Value} {args : Array Operand} {vs : List Value} {ats : Array TypeId} (R : World → Ending → World → Prop) (h : callOk P f = true)
    (hcv : evo F c = some (.func (.func f) fst.toArray cap.toArray)) (ha : evos F args.toList = some vs) (hd : Nat.blt d N = true)
    (hc : ∀ w, Sys B w0 L w → Calls P f (fst ++ vs ++ cap).toArray w fun e w' => e ≠ .outgrown ∧ R w e w')
    (k : ∀ w v w', Sys B w0 L w → R w (.returned v) w' → ∃ L' w1, Sys B w1 L' w' ∧ XL P N B w1 ds Q ops rest ((d, v) :: F) L')
    (kp : ∀ w ch w', Sys B w0 L w → R w (.panicked ch) w' → ∃ L' w1, Sys B w1 L' w' ∧ XE N B w1 ds Q (.panic ch) F L') :
    XL P N B w0 ds Q ops ({ dst := some d, op := .call { callee := .value c, args := args, argTypes := ats }, type := ty, pos := p, after := af, guard := none } :: rest) F L := by
  refine ⟨fun a w hf hs => ?_⟩
  refine wpList_plain rfl fun K hK => ?_
  unfold Oper.wp
  rw [callExec_run h hf hcv ha w]
  refine (hc w hs).mono fun e w' he => ?_
  obtain ⟨hne, hR⟩ := he
  cases e with
  | returned v =>
    obtain ⟨L', w1, hS, hk⟩ := k w v w' hs hR
    exact hK _ _ (hk.run _ _ (hf.put hd) hS)
  | panicked ch =>
    obtain ⟨L', w1, hS, hk⟩ := kp w ch w' hs hR
    exact hk.run _ _ hf hS
  | outgrown => exact absurd rfl hne
/-- a call that only makes new blocks, and panics unless something is so. -/
theorem XL.callM {f : FuncId} {d : Nat} {args : Array Operand} {vs : List Value} {ats : Array TypeId} (b : Bool) (v : Value) (h : callOk P f = true)
    (ha : evos F args.toList = some vs) (hd : Nat.blt d N = true)
    (hc : ∀ w, Sys B w0 L w → Calls P f vs.toArray w fun e w' => e = mustE b v ∧ Below w.heap.size w w')
    (k : b = true → XL P N B w0 ds Q ops rest ((d, .tuple #[]) :: F) L) (kp : b = false → XE N B w0 ds Q (.panic (pan v)) F L) :
    XL P N B w0 ds Q ops ({ dst := some d, op := .call { callee := .value (.func f), args := args, argTypes := ats }, type := ty, pos := p, after := af, guard := none } :: rest) F L := by
  refine XL.callP (fst := []) (cap := []) (fun w e w' => e = mustE b v ∧ Below w.heap.size w w') h rfl ha hd (fun w S => ?_) (fun w x w' S hR => ?_) (fun w ch w' S hR => ?_)
  · simp only [List.nil_append, List.append_nil]
    exact (hc w S).mono fun e w' he => ⟨by rw [he.1]; unfold mustE; split <;> (intro hh; cases hh), he⟩
  · obtain ⟨e1, hb⟩ := hR
    unfold mustE at e1
    cases b with
    | false => rw [if_neg (by simp)] at e1; cases e1
    | true => rw [if_pos rfl] at e1; cases e1; exact ⟨L, w0, S.below hb, k rfl⟩
  · obtain ⟨e1, hb⟩ := hR
    unfold mustE at e1
    cases b with
    | true => rw [if_pos rfl] at e1; cases e1
    | false => rw [if_neg (by simp)] at e1; cases e1; exact ⟨L, w0, S.below hb, kp rfl⟩
/-! ### a drawn region, but for its last operation -/
theorem ready_mk {l : List Oper} {D : Array Bool} {i : Nat} {o : Oper} (hsz : D.size = l.length) (ho : l[i]? = some o) (hn : on D i = false) (hb : ∀ j ∈ binds o, on D j = true) : i ∈ Region.ready .any l.toArray D := by
  have hi : i < D.size := by rw [hsz]; exact (List.getElem?_eq_some_iff.1 ho).1
  refine mem_ready.2 ⟨?_, o, by simpa using ho, fun e he hbe => ?_⟩
  · unfold on at hn
    rw [Array.getD_eq_getD_getElem?, Array.getElem?_eq_getElem hi] at hn ⊢
    exact hn
  · exact hb e.on (by unfold binds; exact List.mem_map.2 ⟨e, List.mem_filter.2 ⟨by simpa using he, hbe⟩, rfl⟩)
def guardLow (n : Nat) (o : Oper) : Bool := match o.guard with
  | none => true
  | some (j, _) => Nat.blt j n
theorem wpOp_swap {l l1 : List Oper} {z : Oper} (hl : l = l1 ++ [z]) {i : Nat} {o : Oper} {a : Act} {w : World} {K C C' : Act → World → Prop} (hi : l1[i]? = some o) (hg : guardLow l1.length o = true) (hC : ∀ a w, C a w → C' a w)
    (h : wpOp P l1.toArray (only K) i C a w) : wpOp P l.toArray Q i C' a w := by
  have hlt := (List.getElem?_eq_some_iff.1 hi).1
  have h1 : l1.toArray[i]? = some o := by simpa using hi
  have h2 : l.toArray[i]? = some o := by rw [hl]; simp [List.getElem?_append_left hlt, hi]
  have hw : Region.wanted o (yielded l.toArray a.tmps) = Region.wanted o (yielded l1.toArray a.tmps) := by
    unfold Region.wanted
    unfold guardLow at hg
    split
    · rfl
    · rename_i j want hgd
      rw [hgd] at hg
      have hj : j < l1.length := Nat.le_of_ble_eq_true hg
      unfold yielded
      rw [show l.toArray[j]? = l1.toArray[j]? by rw [hl]; simp [List.getElem?_append_left hj]]
  unfold wpOp at h ⊢
  rw [h1] at h
  rw [h2]
  simp only at h ⊢
  rw [hw]
  split
  · rename_i hw2
    rw [if_pos hw2] at h
    rcases h with h | ⟨_, _, _, h⟩
    · refine .inl ?_
      unfold Oper.wp at h ⊢
      generalize (execOp a.eval o).run P w = r at h ⊢
      cases r with
      | ok n w' =>
        cases n <;> simp only [Oper.upon] at h ⊢ <;> first
          | exact hC _ _ h
          | exact Calls.mono h (fun e w'' he => by
              cases e with
              | returned v => exact hC _ _ he
              | panicked c => exact he.elim
              | outgrown => exact he.elim fun _ h => h.elim fun _ h => h.elim)
          | exact Rows.mono h (fun _ _ he => hC _ _ he)
      | halt x w' => cases x <;> simp only [Oper.upon] at h ⊢ <;> exact h.elim
    · exact h.elim
  · rename_i hw2
    rw [if_neg hw2] at h
    exact hC _ _ h
theorem wpAny_snoc {l l1 : List Oper} {z : Oper} (hl : l = l1 ++ [z]) (hc : (edgesOk l && tailB l) = true) (hg : l1.all (guardLow l1.length) = true) {K : Act → World → Prop} (hK : ∀ a w, K a w → wpList P l.toArray Q [z] a w) :
    ∀ (fuel fuel1 : Nat) (D D1 : Array Bool) (a : Act) (w : World), D.size = l.length → D1.size = l1.length → (∀ i, i < l1.length → on D i = on D1 i) → on D l1.length = false → Closed l D → D.toList.count false ≤ fuel →
      wpAny P .any l1.toArray (only K) fuel1 D1 a w → wpAny P .any l.toArray Q fuel D a w := by
  simp only [Bool.and_eq_true] at hc
  obtain ⟨hc, htl⟩ := hc
  have hll : l.length = l1.length + 1 := by rw [hl]; simp
  have hzi : l[l1.length]? = some z := by rw [hl]; simp
  have hlow : ∀ (i : Nat) (o : Oper), i < l1.length → l[i]? = some o → l1[i]? = some o := fun i o hi ho => by rw [hl, List.getElem?_append_left hi] at ho; exact ho
  have hup : ∀ (i : Nat) (o : Oper), l1[i]? = some o → l[i]? = some o := fun i o ho => by rw [hl, List.getElem?_append_left (List.getElem?_eq_some_iff.1 ho).1]; exact ho
  have hbl : ∀ (i : Nat) (o : Oper), l[i]? = some o → ∀ j ∈ binds o, j < i := fun i o ho j hj => by have := (low_at l 0 i o (edgesOk_low hc) ho).1 j hj; omega
  intro fuel
  induction fuel with
  | zero =>
    intro fuel1 D D1 a w hsz hsz1 hsame hno hcl hcnt h
    have := count_set (D := D) (i := l1.length) (by omega) hno
    omega
  | succ fuel ih =>
    intro fuel1 D D1 a w hsz hsz1 hsame hno hcl hcnt h
    refine ⟨fun hr => (by have := all_done hsz (edgesOk_low hc) hr l1.length (by omega); rw [hno] at this; cases this), fun i hi => ?_⟩
    obtain ⟨o, ho, hn, hb⟩ := ready_spec hsz hi
    have hilt : i < l.length := (List.getElem?_eq_some_iff.1 ho).1
    by_cases hil : i = l1.length
    · subst hil
      rw [hzi] at ho
      obtain rfl := Option.some.inj ho
      have hall : ∀ i, i < l1.length → on D i = true := fun i hi => ahead_closed (edgesOk_low hc) hcl l1.length z hzi hb i (tailB_spec htl hll i hi)
      have hr1 : Region.ready .any l1.toArray D1 = [] := by
        apply List.eq_nil_iff_forall_not_mem.2
        intro j hj
        obtain ⟨o2, ho2, hn2, _⟩ := ready_spec hsz1 hj
        have hj2 := (List.getElem?_eq_some_iff.1 ho2).1
        rw [← hsame j hj2, hall j hj2] at hn2
        cases hn2
      have hKK : K a w := by
        cases fuel1 with
        | zero => exact h.2
        | succ m => exact h.1 hr1
      have hx := hK a w hKK
      have hoi : l.toArray[l1.length]? = some z := by simpa using hzi
      refine wpOp_mono (K := fun a w => Q .normal a w) (fun a'' w'' q => ?_) ?_
      · have hr : Region.ready .any l.toArray (D.setIfInBounds l1.length true) = [] := by
          apply List.eq_nil_iff_forall_not_mem.2
          intro j hj
          obtain ⟨o2, ho2, hn2, _⟩ := ready_spec (by simpa using hsz) hj
          have hj2 := (List.getElem?_eq_some_iff.1 ho2).1
          rw [on_set (by omega)] at hn2
          simp only [Bool.or_eq_false_iff, beq_eq_false_iff_ne] at hn2
          rw [hall j (by omega)] at hn2
          cases hn2.1
        exact wpAny_done hr q fuel
      · unfold wpOp
        rw [hoi]
        unfold wpList at hx
        simp only
        split
        · rename_i hw; rw [if_pos hw] at hx; exact hx
        · rename_i hw; rw [if_neg hw] at hx; exact hx
    · have hil2 : i < l1.length := by omega
      have ho1 := hlow i o hil2 ho
      have hr1 : i ∈ Region.ready .any l1.toArray D1 := ready_mk hsz1 ho1 (by rw [← hsame i hil2]; exact hn) fun j hj => by
        have := hbl i o ho j hj
        rw [← hsame j (by omega)]; exact hb j hj
      cases fuel1 with
      | zero => rw [h.1] at hr1; cases hr1
      | succ m =>
        refine wpOp_swap hl ho1 (List.all_eq_true.1 hg o (List.mem_of_getElem? ho1)) (fun a' w' h' => ?_) (h.2 i hr1)
        refine ih m _ _ a' w' (by simpa using hsz) (by simpa using hsz1) (fun j hj => ?_) ?_ ?_ ?_ h'
        · rw [on_set (by omega), on_set (by omega), hsame j hj]
        · rw [on_set (by omega), hno]
          simp only [Bool.false_or, beq_eq_false_iff_ne]
          omega
        · intro j hj o2 ho2 k hk
          rw [on_set (by omega)] at hj ⊢
          simp only [Bool.or_eq_true, beq_iff_eq] at hj ⊢
          rcases hj with hj | hj
          · exact .inl (hcl j hj o2 ho2 k hk)
          · subst hj
            rw [ho] at ho2
            obtain rfl := Option.some.inj ho2
            exact .inl (hb k hk)
        · have := count_set (D := D) (i := i) (by omega) hn
          omega
/-- a drawn region, what only reads first; its last operation behind all the others. -/
theorem XC.drawRT {id : Nat} {l l1 : List Oper} {z : Oper} {rem : List (Nat × Oper)} (wS : World) (Ls : Lo) (p q : List Nat) (hm : P.follows .mixedOrders = true) (hL : ∀ w, Sys B w0 L w → Sys B wS Ls w) (hcut : cutLast l = some (l1, z))
    (hc : (edgesOk l && tailB l) = true) (hg : l1.all (guardLow l1.length) = true) (hr : pickR l1 q = some rem)
    (hp : (pureOk l1.toArray (Array.replicate l1.length false) p && partB l1.length p q) = true)
    (h : Fw P N B wS ds False (fun F' => XR P N B wS w0 ds (fun e a w => match e with | .normal => wpList P l.toArray Q [z] a w | _ => False) Ls l1.toArray rem F' L) l1.toArray Ls (pickO l1.toArray p) F) : XC P N B w0 ds Q (.region id l.toArray true) F L := by
  have hl := cutLast_eq hcut
  refine ⟨fun a w hf hs => ?_⟩
  have h1 := (XH.ofRS (Q := fun e a w => match e with | .normal => wpList P l.toArray Q [z] a w | _ => False) wS Ls p q hr hp h).run l1.toArray.size a { w with drawn := w.drawn + 1 } (by simp) hf hs.drew (hL _ hs.drew)
  refine wp_region_any hm (wpAny_snoc hl hc hg (K := fun a w => wpList P l.toArray Q [z] a w) (fun _ _ h => h) _ _ _ _ a _ (by simp) ?_ (fun i hi => ?_) ?_ ?_ (by simp) (wpAny_of_held _ _ _ _ h1))
  · simp
  · unfold on; simp [hi, hl, Nat.lt_succ_of_lt hi]
  · unfold on; simp [hl]
  · intro i hi
    unfold on at hi
    simp only [Array.getD_eq_getD_getElem?, Array.getElem?_replicate] at hi
    split at hi <;> simp at hi
theorem XE.lastZ {l : Array Oper} {z : Oper} {Q' : Exit → Act → World → Prop} (hq : ∀ a w, wpList P l Q [z] a w → Q' .normal a w) (h : XL P N B w0 ds Q l [z] F L) : XE N B w0 ds Q' .normal F L := ⟨fun a w hf hs => hq a w (h.run a w hf hs)⟩
end
section
variable {P : Program} {N : Nat} {w0 : World} {ds : List Deferred} {Q : Exit → Act → World → Prop} {F : Fr} {L : Lo}
variable {ops : Array Oper} {rest : List Oper} {ty : TypeId} {p : String} {af : Array Edge}
variable {t : CTk} {v : CTV} {b0 g gm : Nat} {ks : List Nat} {rs : List RowX} {hs : List Held} {w w' : World}
/-- what a call that may do runs leaves, if it ends so. -/
def GamE (t : CTk) (b0 gm : Nat) (ks : List Nat) (e0 : Ending) (w : World) (e : Ending) (w' : World) : Prop := e = e0 ∧ Since w gm w' ∧ Mem5 t gm w' (Free w' b0 (gm :: ks) [])
theorem GamE.of {e0 : Ending} {x : Value} {R : Value → List Held → Prop} (h : GamR t b0 gm ks R w (.returned x) w') : GamE t b0 gm ks e0 w e0 w' := by
  obtain ⟨_, _, _, _, a, b, _⟩ := h
  exact ⟨rfl, a, b⟩
/-- a call of a function value that may do runs, and may panic. -/
theorem XL.callE {f : FuncId} {d : Nat} {c : Operand} {fst cap : List Value} {args : Array Operand} {vs : List Value} {ats : Array TypeId} (e0 : Ending) (hne : e0 ≠ .outgrown) (h : callOk P f = true)
    (hcv : evo F c = some (.func (.func f) fst.toArray cap.toArray)) (ha : evos F args.toList = some vs) (hd : Nat.blt d N = true) (hG : Gam t v b0 g gm ks rs hs w0) (hg : (g, gamO v t gm) ∈ L)
    (hc : ∀ w ks2, Sys b0 w0 L w → (∀ e, e ∈ L → e.1 ∈ ks2) → Gam t v b0 g gm ks2 [] [] w → Calls P f (fst ++ vs ++ cap).toArray w (GamE t b0 gm ks2 e0 w))
    (k : ∀ w' x, e0 = .returned x → Gam t v b0 g gm (L.map (·.1) ++ ks) rs hs w' → Below b0 w0 w' → XL P N b0 w' ds Q ops rest ((d, x) :: F) L)
    (kp : ∀ w' ch, e0 = .panicked ch → Gam t v b0 g gm (L.map (·.1) ++ ks) rs hs w' → Below b0 w0 w' → XE N b0 w' ds Q (.panic ch) F L)
    (hL : ∀ e, e ∈ L → e.1 ∈ ks ∨ w0.heap.size ≤ e.1 := by exact ZZHM) :
    XL P N b0 w0 ds Q ops ({ dst := some d, op := .call { callee := .value c, args := args, argTypes := ats }, type := ty, pos := p, after := af, guard := none } :: rest) F L := by
  have hend : ∀ w w', Sys b0 w0 L w → Gam t v b0 g gm (L.map (·.1) ++ ks) rs hs w' → Since w gm w' → Sys b0 w' L w' ∧ Below b0 w0 w' := fun w w' S hG' e3 => by
    have hne : ∀ e, e ∈ L → e.1 ≠ gm := fun e he e1 => by
      rcases hL e he with h1 | h1
      · exact hG.nin (e1 ▸ h1)
      · have := hG.lt gm (.head _); omega
    exact ⟨Sys.start hG'.fam.base (fun e he => ⟨(S.own e he).1, by rw [e3.old e.1 (S.lt he) (hne e he)]; exact (S.own e he).2⟩) S.nd, S.toBelow.trans (e3.below hG.bm (Nat.le_trans S.base S.size))⟩
  refine XL.callP (fst := fst) (cap := cap) (fun w e w' => e = e0 ∧ Gam t v b0 g gm (L.map (·.1) ++ ks) rs hs w' ∧ Since w gm w') h hcv ha hd (fun w S => ?_) (fun w x w' S hR => ?_) (fun w ch w' S hR => ?_)
  · have hA := hG.add S hg hL
    have := hc w _ S (fun e he => List.mem_append_right _ (List.mem_append_left _ (List.mem_map.2 ⟨e, he, rfl⟩))) hA.down
    exact this.mono fun e w' ⟨e1, e3, e4⟩ => ⟨by rw [e1]; exact hne, e1, by
      have := hA.after (new := []) rfl e3 e4 (fun y hy => by cases hy)
      exact this, e3⟩
  · obtain ⟨e1, hG', e3⟩ := hR
    obtain ⟨S', hb⟩ := hend w w' S hG' e3
    exact ⟨L, w', S', k w' x e1.symm hG' hb⟩
  · obtain ⟨e1, hG', e3⟩ := hR
    obtain ⟨S', hb⟩ := hend w w' S hG' e3
    exact ⟨L, w', S', kp w' ch e1.symm hG' hb⟩
end
end Go.Proofs.Ytmpaiphakjogjaa.X
/-
  Frames whose deferred function recovers.
-/
namespace Go.Proofs.Ytmpaiphakjogjaa.X
open Go Go.RowKit
set_option linter.unusedVariables false
section
variable {P : Program} {T : TT} {N : Nat} {B : Nat} {w0 : World} {ds : List Deferred} {Q : Exit → Act → World → Prop} {F : Fr} {L : Lo}
variable {ops : Array Oper} {rest : List Oper} {ty : TypeId} {p : String} {af : Array Edge}
theorem fits_enter {fn : Func} {vs : List Value} (hn : vs.length ≤ fn.ntmps) : Fits fn.ntmps [] (frame 0 vs) { tmps := vs.toArray ++ Array.replicate (fn.ntmps - vs.toArray.size) undef, defers := [] } := by
  refine ⟨?_, rfl, fun t v _ hv => ?_⟩
  · simp; omega
  · obtain ⟨_, h2⟩ := lk_frame vs 0 t v hv
    have hlt : t < vs.length := (List.getElem?_eq_some_iff.1 h2).1
    simp only [Array.getD_eq_getD_getElem?]
    rw [Array.getElem?_append_left (by simpa using hlt)]
    simp at h2 ⊢
    rw [h2]; rfl
/-- a deferred function whose first statement recovers. -/
theorem enterRec {f : FuncId} {fn : Func} {id d n : Nat} {ats : Array TypeId} {c : Code} {vs : List Value} {w : World} {u u' : FrameMode} {vr : Value} {R : Ending → FrameMode → World → Prop} (hf : P.funcs[f]? = some fn)
    (hb : fn.body = some (.seq (.region id #[{ dst := some d, op := .call { callee := .builtin .recover, args := #[], argTypes := ats }, type := ty, pos := p, after := af, guard := none }] false) c))
    (hN : fn.ntmps = n) (hn : Nat.ble vs.length n = true) (hd : Nat.blt d n = true) (S : Sys B w L w)
    (hrec : ∀ (c₀ : Frame) (cs : List Frame), c₀.mode = u → recoverD (c₀ :: cs) = some (vr, { c₀ with mode := u' } :: cs) ∨ (recoverD (c₀ :: cs) = none ∧ vr = .nilIface ∧ u' = u))
    (h : XC P n B w [] (bodyPost P fn fun e w' => R e u' w') c ((d, vr) :: frame 0 vs) L) : CallsD P f vs.toArray u w R := by
  subst hN
  have hn' := Nat.le_of_ble_eq_true hn
  refine callsD_of_wpS hf hb fun c₀ cs hu => ?_
  refine wpS_seq (wpS_region ?_)
  have hF := (fits_enter (fn := fn) (vs := vs) hn').put (v := vr) hd
  obtain ⟨a, ha⟩ : ∃ a : Act, a = { tmps := vs.toArray ++ Array.replicate (fn.ntmps - vs.toArray.size) undef, defers := [] } := ⟨_, rfl⟩
  rw [← ha] at hF ⊢
  have hgo : ∀ cs', cs' = { c₀ with mode := u' } :: cs → c.wpS P (bodyPostS P fn c₀ cs R) (a.put (some d) vr) cs' w := fun cs' e => by
    subst e
    refine wpS_of_wp (wp_mono (h.run _ w hF S) fun e a' w' q => ?_)
    cases e with
    | normal => exact ⟨q.1, u', rfl, q.2⟩
    | ret => exact ⟨q.1, u', rfl, q.2⟩
    | panic ch => exact ⟨q.1, u', rfl, q.2⟩
    | outgrown => exact ⟨u', q⟩
    | exit id => exact q
    | goto l => exact q
  have hx : ∀ ev : Operand → Value, (execOp ev { dst := some d, op := .call { callee := .builtin .recover, args := #[], argTypes := ats }, type := ty, pos := p, after := af, guard := none }).run P w = .ok .recover w := fun ev => by
    simp [execOp, resolve, invoke, builtin]
  show wpOpsS P _ _ [0] a (c₀ :: cs) w
  unfold wpOpsS
  simp only [List.getElem?_toArray, List.getElem?_cons_zero]
  rw [if_pos (by simp [Region.wanted]), hx]
  rcases hrec c₀ cs hu with e | ⟨e, rfl, rfl⟩
  · rw [e]
    exact hgo _ rfl
  · rw [e]
    refine hgo _ ?_
    rw [← hu]
theorem recP {v : Value} (c₀ : Frame) (cs : List Frame) (h : c₀.mode = .panicking (pan v)) : recoverD (c₀ :: cs) = some (v, { c₀ with mode := .panicking [{ v := v, recovered := true }] } :: cs) ∨ (recoverD (c₀ :: cs) = none ∧ v = .nilIface ∧ FrameMode.panicking [{ v := v, recovered := true }] = .panicking (pan v)) := by
  left
  cases c₀
  simp only at h
  subst h
  rfl
theorem recR (c₀ : Frame) (cs : List Frame) (h : c₀.mode = .returning) : recoverD (c₀ :: cs) = some (.nilIface, { c₀ with mode := .returning } :: cs) ∨ (recoverD (c₀ :: cs) = none ∧ Value.nilIface = .nilIface ∧ FrameMode.returning = .returning) := by
  right
  refine ⟨?_, rfl, rfl⟩
  cases c₀
  simp only at h
  subst h
  rfl
theorem enterD {f : FuncId} {fn : Func} {c : Code} {vs : List Value} {w : World} {R : Ending → World → Prop} {n : Nat} (hf : P.funcs[f]? = some fn) (hb : fn.body = some c) (hN : fn.ntmps = n)
    (hn : Nat.ble vs.length n = true) (h : XC P n w.heap.size w [] (bodyPostD P fn R) c (frame 0 vs) []) : Calls P f vs.toArray w R := by
  subst hN
  exact calls_of_wp_defers hf hb (h.run _ w (fits_enter (Nat.le_of_ble_eq_true hn)) (Sys.enter w))
theorem XL.defer {x : Operand} {f : FuncId} {cap : List Value} {ats : Array TypeId} (hx : evo F x = some (.func (.func f) #[] ⟨cap⟩)) (k : XL P N B w0 ({ target := .fn (.func f) ⟨cap⟩, args := #[] } :: ds) Q ops rest F L) :
    XL P N B w0 ds Q ops ({ dst := none, op := .defer { callee := .value x, args := #[], argTypes := ats }, type := ty, pos := p, after := af, guard := none } :: rest) F L := by
  refine ⟨fun a w hf hs => wpList_plain rfl fun K hK => ?_⟩
  unfold Oper.wp
  have e := hf.eval hx
  have h1 : (execOp a.eval { dst := none, op := .defer { callee := .value x, args := #[], argTypes := ats }, type := ty, pos := p, after := af, guard := none }).run P w = .ok (.defer { target := .fn (.func f) ⟨cap⟩, args := #[] }) w := by
    simp [execOp, resolve, e, Deferred.ofValue]
  rw [h1]
  exact hK _ _ (k.run _ _ ⟨hf.size, by simp [hf.defers, Act.put], hf.get⟩ hs)
theorem XE.retD0 (hT : TOK P T) {fn : Func} {R : Ending → World → Prop} {rs : List ResultVar} {vs : List Value} {c : Prop} (h : fn.results = ⟨rs⟩) (hv : resO T F L rs = some (vs, c)) (hc : c)
    (hR : ∀ w, Sys B w0 L w → R (.returned (tupV vs)) w) : XE N B w0 [] (bodyPostD P fn R) .ret F L :=
  ⟨fun a w hf hw => by
    have hm := (XE.retM0 (P := P) (N := N) (B := B) (w0 := w0) hT (fn := fn) (R := R) h hv hc hR).run a w hf hw
    show Leaves P fn a.tmps R a.defers .returning w
    have hm' : LeavesInM Fence.wide 0 P fn a.tmps R a.defers .returning w := hm
    rw [hf.defers] at hm' ⊢
    exact hm'⟩
/-- behind the deferred call it returns what its results' variables hold then. -/
theorem leaveD (hT : TOK P T) {fn : Func} {R : Ending → World → Prop} {rs : List ResultVar} {vs : List Value} {c : Prop} {f : FuncId} {cap : List Value} {u : FrameMode} {L' : Lo} {a : Act} {w : World} (hu : u ≠ .run) (hf : Fits N [{ target := .fn (.func f) ⟨cap⟩, args := #[] }] F a)
    (h : fn.results = ⟨rs⟩) (hk : callOk P f = true) (hv : resO T F L' rs = some (vs, c)) (hc : c)
    (hcall : CallsD P f cap.toArray u w fun en u' w' => (∃ x, en = .returned x) ∧ settle u' = .returning ∧ (∃ B' w1, Sys B' w1 L' w') ∧ R (.returned (tupV vs)) w') : Leaves P fn a.tmps R a.defers u w := by
  rw [hf.defers]
  have hi : (invoke (.fn (.func f) ⟨cap⟩) #[]).run P w = .ok (.enter f cap.toArray) w := by
    have : (#[] ++ (⟨cap⟩ : Array Value)) = cap.toArray := by simp
    simp only [invoke, this]
    exact callFunc_run hk _ _
  have hgo : ∀ (en : Ending) u' w', ((∃ x, en = .returned x) ∧ settle u' = .returning ∧ (∃ B' w1, Sys B' w1 L' w') ∧ R (.returned (tupV vs)) w') → (match en with
      | .returned _ => Leaves P fn a.tmps R [] (settle u') w'
      | .panicked chain => Leaves P fn a.tmps R [] (raised u' chain) w'
      | .outgrown => R .outgrown w') := by
    rintro en u' w' ⟨⟨x, rfl⟩, hs, ⟨B', w1, S⟩, hR⟩
    simp only
    rw [hs]
    have hf' : Fits N [] F { a with defers := [] } := ⟨hf.size, rfl, hf.get⟩
    have hm := (XE.retD0 (P := P) (N := N) (B := B') (w0 := w1) hT (fn := fn) (R := fun e w2 => w2 = w' → R e w2) h hv hc (fun w2 S2 e => by subst e; exact hR)).run _ w' hf' S
    obtain ⟨v, h1, h2⟩ := (show Leaves P fn a.tmps (fun e w2 => w2 = w' → R e w2) [] .returning w' from hm)
    exact ⟨v, h1, h2 rfl⟩
  refine ⟨hu, .func f, ⟨cap⟩, f, cap.toArray, rfl, hi, ?_⟩
  intro c0 cs hm
  obtain ⟨e, u', w', fr, q, rest⟩ := hcall c0 cs hm
  refine ⟨e, u', w', fr, ?_, rest⟩
  have := hgo e u' w' q
  cases e <;> exact this
end
end Go.Proofs.Ytmpaiphakjogjaa.X
/-
  The walk of Best (closure). DRAFT: stands where the range over begins starts.
-/
namespace Go.Proofs.Ytmpaiphakjogjaa.Bs
open Go Go.Proofs.Ytmpaiphakjogjaa.X
theorem bst_ru {t : CTk} {r : CRu} (h : ruE t r ≠ 0) : t.bstE r = ruE t r ∧ t.bstP r = ⟨0, 0⟩ ∧ t.bstN r = [] := by
  unfold CTk.bstE CTk.bstP CTk.bstN
  rw [if_pos h, if_pos h, if_pos h]
  exact ⟨rfl, rfl, rfl⟩
theorem bst_0 {t : CTk} {r : CRu} (h : ruE t r = 0) (hc : t.called r = false) : t.bstE r = 0 ∧ t.bstP r = nev ∧ t.bstN r = t.fld.map fun k => ((k : Nat) : Int) := by
  unfold CTk.bstE CTk.bstP CTk.bstN
  rw [if_neg (by simp [h]), if_pos hc, if_neg (by simp [h]), if_pos hc, if_neg (by simp [h]), if_pos hc]
  exact ⟨rfl, rfl, rfl⟩
/-- those of the first k histories for which the plan from i does not hold. -/
noncomputable def CTk.notTo (t : CTk) (i k : Nat) : List Int := ((List.range k).filter fun k => (t.fails k (t.plan (i : Nat))).isSome).map fun k => ((k : Nat) : Int)
theorem notTo_keep {t : CTk} {i k : Nat} (h : t.fails k (t.plan (i : Nat)) = none) : t.notTo i (k + 1) = t.notTo i k := by
  unfold CTk.notTo
  rw [List.range_succ, List.filter_append]
  simp [h]
theorem notTo_push {t : CTk} {i k a : Nat} (h : t.fails k (t.plan (i : Nat)) = some a) : t.notTo i (k + 1) = t.notTo i k ++ [((k : Nat) : Int)] := by
  unfold CTk.notTo
  rw [List.range_succ, List.filter_append]
  simp [h]
theorem notTo_len (t : CTk) (i k : Nat) : (t.notTo i k).length ≤ k := by
  unfold CTk.notTo
  rw [List.length_map]
  exact Nat.le_trans (List.length_filter_le _ _) (by simp)
theorem notTo_all (t : CTk) (i : Nat) : t.notTo i t.m = (t.notL (i : Nat)).map fun k => ((k : Nat) : Int) := rfl
end Go.Proofs.Ytmpaiphakjogjaa.Bs
namespace Go.Proofs.Ytmpaiphakjogjaa.X
open Go Go.RowKit Go.Proofs.Ytmpaiphakjogjaa.Bs
set_option linter.unusedVariables false
theorem XE.blk_exit {N B : Nat} {w0 : World} {ds : List Deferred} {Q : Exit → Act → World → Prop} {F : Fr} {L : Lo} {id : Nat} (h : XE N B w0 ds Q .normal F L) : XE N B w0 ds (Exit.inBlock id Q) (.exit id) F L := ⟨fun a w hf hs => by unfold Exit.inBlock; simp only [if_true]; exact h.run a w hf hs⟩
noncomputable def bstHs (t : CTk) (b : Option (Nat × SV)) : List Held := match b with | none => [] | some x => [hList intK5 x.2 ((t.notL (x.1 : Nat)).map fun k => ((k : Nat) : Int))]
def bstQ (b : Option (Nat × SV)) : Value := match b with | none => .slice none 0 0 | some x => svV x.2
def bstC (t : CTk) (b : Option (Nat × SV)) : List Value := match b with | none => [.int .i64 0, .int .i64 0] | some x => [.int .i64 (t.plan (x.1 : Nat)).close, .int .i64 (t.plan (x.1 : Nat)).open_]
def BstR (t : CTk) (r : CRu) (x : Value) (new : List Held) : Prop := ∃ q : SV, x = .tuple ⟨[plnV (t.bstP r), svV q, .int .i64 (t.bstE r)]⟩ ∧ new = [hList intK5 q (t.bstN r)]
theorem bstZ {t : CTk} {r : CRu} {e : Int} (h1 : t.bstE r = e) (h2 : t.bstP r = ⟨0, 0⟩) (h3 : t.bstN r = []) {w w' : World} (hB : Below w.heap.size w w') :
    Made w (BstR t r) (.returned (.tuple ⟨[.agg ⟨[.int .i64 0, .int .i64 0]⟩, .slice none 0 0, .int .i64 e]⟩)) w' := by
  refine ⟨_, _, rfl, ⟨⟨none, 0, 0⟩, by rw [h1, h2]; rfl, rfl⟩, fun x hx => ?_, hB⟩
  rw [h3, List.mem_singleton] at hx
  subst hx
  exact ListAt.nil
set_option maxHeartbeats 16000000 in
theorem Best_made {v : CTV} {t : CTk} {r : CRu} {w : World} (h : CtAt w w.heap.size v t) :
    Calls Try.prog 27 #[ctkV v t, ruV r] w (Made w (BstR t r)) := by
  simp only [ctkV, ctkC, ruV]
  refine enterM Try.func27 rfl Try.ntmps27 rfl ?_; simp only [frame, Nat.zero_add, Nat.reduceAdd]
  repeat (first | (refine M0 ?_; first | refine SL ?_ | refine SB fun _ _ => ?_) | (refine M1 ?_; refine SC ?_) | (refine M2 ?_; refine SE ?_))
  rename_i g2 hg2 g3 hg3 g4 hg4 g5 hg5
  refine XL.with5 (v := v) (t := t) (r := r) h rfl rfl (fun hc w1 hB1 => ?_) (fun hc ho hq w1 gr g gm hG1 hB1 hgl hgrl => ?_)
  · obtain ⟨d1, d2, d3⟩ := bst_ru hc
    repeat (first | (refine M0 ?_; first | refine SL ?_ | refine SB fun _ _ => ?_) | (refine M1 ?_; refine SC ?_) | (refine M2 ?_; refine SE ?_))
    rw [show decide (ruE t r ≠ 0) = true from decide_eq_true hc]
    repeat (first | (refine M0 ?_; first | refine SL ?_ | refine SB fun _ _ => ?_) | (refine M1 ?_; refine SC ?_) | (refine M2 ?_; refine SE ?_))
    refine XE.retM0 tok Try.results27 rfl (by simp only [and_self, and_true]) (fun w' S => ?_)
    exact bstZ d1 d2 d3 (hB1.trans S.toBelow)
  have hal := fun {L : Lo} {W : World} (hGW : CtAt W w.heap.size v t) (w5 : World) (S5 : Sys w.heap.size W L w5) (m1 : (gr, rulO g r) ∈ L) (m2 : (g, gamO v t gm) ∈ L) => allowed_any (r := r) ((hGW.below S5.toBelow).more (Nat.le_trans S5.base S5.size)) ho hq (S5.own _ m1).2 (S5.own _ m2).2
  have hgs1 : g ∈ gr :: g :: [(g5, cel 26 [.slice none 0 0]), (g4, cel 36 [.int .i64 0, .int .i64 0]), (g3, cel 42 [.int .i64 r.count, .int .i64 r.early]), (g2, cel 29 (ctkC v t))].map (·.1) := .tail _ (.head _)
  have h60 := ho.n60
  have hdl := ho.dly
  have hfr := ho.frm
  have hm8 := ho.m8
  simp only [gamO, gamC, rulO, rulC]
  repeat (first | (refine M0 ?_; first | refine SL ?_ | refine SB fun _ _ => ?_) | (refine M1 ?_; refine SC ?_) | (refine M2 ?_; refine SE ?_))
  rename_i g7 hg7
  have hle : w.heap.size ≤ w.heap.size := Nat.le_refl _
  have hz1 := hB1.size
  repeat (first | (refine M0 ?_; first | refine SL ?_ | refine SB fun _ _ => ?_ | refine Y4 (Ev.call (f := 54) (ck rfl) rfl (fun w5 S5 => hal hG1.task w5 S5 (.tail _ (.head _)) (.tail _ (.tail _ (.head _))))) ?_) | (refine M1 ?_; refine SC ?_) | (refine M2 ?_; refine SE ?_))
  cases hcl : t.called r with
  | false =>
    obtain ⟨d1, d2, d3⟩ := bst_0 hc hcl
    repeat (first | (refine M0 ?_; first | refine SL ?_ | refine SB fun _ _ => ?_) | (refine M1 ?_; refine SC ?_) | (refine M2 ?_; refine SE ?_))
    refine XL.callF (wE := w) (fun x new => ∃ q : SV, x = .tuple ⟨[svV q, .int .i64 (t.lst : Nat)]⟩ ∧ new = [hList intK5 q (t.fld.map fun k => ((k : Nat) : Int))]) (ck rfl) rfl rfl hG1.fam hG1.lt hB1 (fun w5 S5 hF5 hB5 => highs_any (v := v) (r := r) (h.sys (Sys.ofBelow hB5)) ho (S5.own (gr, rulO g r) (by repeat (first | exact List.mem_cons_self | apply List.mem_cons_of_mem))).2 (S5.own (g, gamO v t gm) (by repeat (first | exact List.mem_cons_self | apply List.mem_cons_of_mem))).2) (fun w5 x new hR hF5 hB5 hk5 => ?_) ZZMK
    obtain ⟨⟨qA, qn, qc⟩, rfl, rfl⟩ := hR
    simp only [svV]
    repeat (first | (refine M0 ?_; first | refine SL ?_ | refine SB fun _ _ => ?_ | refine Y4 (Ev.call (f := 55) (ck rfl) rfl (fun w S => nev_any w)) ?_) | (refine M1 ?_; refine SC ?_) | (refine M2 ?_; refine SE ?_))
    refine XE.retM0 tok Try.results27 rfl (by simp only [and_self, and_true]) (fun w' S => ?_)
    refine ⟨_, _, rfl, ⟨⟨qA, qn, qc⟩, by rw [d1, d2]; rfl, rfl⟩, fun x hx => ?_, hB5.trans S.toBelow⟩
    rw [d3, List.mem_singleton] at hx
    subst hx
    exact (hF5.sys S ZZMK).get (.head _)
  | true =>
  repeat (first | (refine M0 ?_; first | refine SL ?_ | refine SB fun _ _ => ?_ | refine Y4 (Ev.load_loc tok 2 (g := gr) (o := 0) rfl rfl rfl rfl) ?_) | (refine M1 ?_; refine SC ?_) | (refine M2 ?_; refine SE ?_))
  rename_i g12 hg12
  refine XL.callr (fst := []) (cap := []) (fun w1 x w2 => ∃ gp, x = .func (.func 86) #[] #[.pointer (some ⟨gp, 0, none⟩)] ∧ Sys w1.heap.size w1 [(gp, cel 102 [.pointer (some ⟨g, 0, none⟩)])] w2) (ck rfl) rfl rfl rfl (fun w1 S1 => begs0_any) (fun wX x w2 S1 hR => ?_)
  obtain ⟨gp, rfl, S2⟩ := hR
  refine ⟨_, w2, (S1.join S2 (List.Sublist.refl _)).rebase (List.sublist_cons_self _ _), ?_⟩
  have hB2 : Below w.heap.size w w2 := hB1.trans (S1.toBelow.trans (S2.toBelow.mono (Nat.le_trans S1.base S1.size)))
  have hgpL : ∀ x, x ∈ [g12, g7, gr, g, g5, g4, g3, g2] → x < gp := fun x hx => Nat.lt_of_lt_of_le (S1.keyLt x hx) (S2.own _ (.head _)).1
  have hgpc : w2.cell? ⟨gp, 0, none⟩ = some (.pointer (some ⟨g, 0, none⟩)) := by
    have := (S2.own _ (.head _)).2
    simp [World.cell?, this]
  have hgpl : gp < w2.heap.size := S2.lt (.head _)
  have hG2 : Gam t v w.heap.size g gm [g12, g7, gr, g, g5, g4, g3, g2] [] [] w2 := by
    have h1 := (hG1.add S1 (by repeat (first | exact List.mem_cons_self | apply List.mem_cons_of_mem)) ZZMK).made (new := []) S2.toBelow (fun x hx => by cases hx)
    exact h1.less (fun x hx => List.mem_append_left _ hx) (by simp)
  clear S1 S2
  repeat (first | (refine M0 ?_; first | refine SL ?_ | refine SB fun _ _ => ?_) | (refine M1 ?_; refine SC ?_) | (refine M2 ?_; refine SE ?_))
  refine XC.rangeFuncD (cap := [.pointer (some ⟨gp, 0, none⟩)]) rfl (ck rfl) (fun fn a D w3 hD hf S3 => ?_)
  have hfS : Fits 101 [] [(12, .pointer (some ⟨g12, 0, none⟩)), (7, .pointer (some ⟨g7, 0, none⟩)), (5, .pointer (some ⟨g5, 0, none⟩)), (4, .pointer (some ⟨g4, 0, none⟩))] { tmps := a.tmps, defers := [] } := by
    have h4 := Sub.fits (G := [(12, .pointer (some ⟨g12, 0, none⟩)), (7, .pointer (some ⟨g7, 0, none⟩)), (5, .pointer (some ⟨g5, 0, none⟩)), (4, .pointer (some ⟨g4, 0, none⟩))]) ZZSUB hf
    exact ⟨h4.size, rfl, h4.get⟩
  have hG3 : Gam t v w.heap.size g gm [D + 1, D, g12, g7, gr, g, g5, g4, g3, g2] [] [] w3 := by
    have h1 := hG2.add S3 (by repeat (first | exact List.mem_cons_self | apply List.mem_cons_of_mem)) (fun e he => by
      have h5 : e.1 ∈ [D + 1, D, g12, g7, gr, g, g5, g4, g3, g2] := List.mem_map.2 ⟨e, he, rfl⟩
      rcases List.mem_cons.1 h5 with h5 | h5
      · right; omega
      rcases List.mem_cons.1 h5 with h5 | h5
      · right; omega
      · left; exact h5)
    exact h1.less (fun x hx => List.mem_append_left _ hx) (by simp)
  have hB3 : Below w.heap.size w w3 := hB2.trans S3.toBelow
  have hbg := begs_any (B := w.heap.size) (l := D + 1) (gp := gp) (g := g) (gm := gm) (v := v) (t := t) (σ := World × Option (Nat × SV) × Bool)
    (fun s => [(D + 1, .loop (recO fn a.tmps #[45] _ _ D (match s.2.2 with | false => .ready | true => .done) (match s.2.2 with | false => none | true => some (.exit 0)))), (D, .deferred (some [])), (g12, cel 4 [.bool s.2.1.isSome]), (g7, cel 113 [.pointer (some ⟨gr, 0, none⟩)]), (gr, rulO g r), (g, gamO v t gm), (g5, cel 26 [bstQ s.2.1]), (g4, cel 36 (bstC t s.2.1)), (g3, cel 42 [.int .i64 r.count, .int .i64 r.early]), (g2, cel 29 (ctkC v t))])
    (fun s => s.1)
    (fun i s => s.2.2 = false ∧ Gam t v w.heap.size g gm [D + 1, D, g12, g7, gr, g, g5, g4, g3, g2] [] (bstHs t s.2.1) s.1 ∧ Below w.heap.size w s.1 ∧ BInv t r i (s.2.1.map (·.1)))
    (fun s => s.2.2 = true ∧ Below w.heap.size w s.1 ∧ t.bst r = s.2.1.map (·.1) ∧ Fam s.1 w.heap.size [D + 1, D, g12, g7, gr, g, g5, g4, g3, g2] [] (bstHs t s.2.1))
    (w3, none, false) ho (S3.rebase (List.Sublist.refl _)) ⟨rfl, hG3, hB3, BInv.start t r⟩ ?_ ?_ ?_ ?_ ?_
  rotate_left
  · have h := S3.farCell (a := ⟨gp, 0, none⟩) hgpl (fun e he => by
      have h5 : e.1 ∈ [D + 1, D, g12, g7, gr, g, g5, g4, g3, g2] := List.mem_map.2 ⟨e, he, rfl⟩
      show e.1 ≠ gp
      rcases List.mem_cons.1 h5 with h5 | h5
      · omega
      rcases List.mem_cons.1 h5 with h5 | h5
      · omega
      · have := hgpL e.1 h5; omega)
    exact h.trans hgpc
  · exact Nat.lt_of_lt_of_le hgpl S3.size
  · intro e he
    have h5 : e.1 ∈ [D + 1, D, g12, g7, gr, g, g5, g4, g3, g2] := List.mem_map.2 ⟨e, he, rfl⟩
    rcases List.mem_cons.1 h5 with h5 | h5
    · omega
    rcases List.mem_cons.1 h5 with h5 | h5
    · omega
    · have := hgpL e.1 h5; omega
  · repeat (first | exact List.mem_cons_self | apply List.mem_cons_of_mem)
  · rintro i ⟨W, b, s⟩ hi ⟨rfl, hGW, hBW, hJ⟩ w1' S1
    simp only at hGW hBW hJ S1
    have hloop := (S1.own _ (.head _)).2
    refine ⟨_, _, _, _, run_yield (args := #[.int .i64 (i : Nat)]) hloop rfl, ?_⟩
    refine round_of (hfS.one5 rfl) S1 ?_
    clear hloop
    have hil : (i : Int) ≤ t.last := by unfold CTk.beg at hi; omega
    have hl1 : -31 ≤ t.last ∧ t.last ≤ 60 := by unfold CTk.last; omega
    simp only [gamO, gamC, ctkC, rulO, rulC, svV]
    repeat (first | (refine M0 ?_; first | refine SL ?_ | refine SB fun _ _ => ?_) | (refine XI.id ?_; first | refine XI.done ?_ | refine XI.one1 rfl ?_) | (refine XR'.id ?_; first | refine XR'.seq ?_ | refine XR'.region ?_ | refine XR'.block ?_ | refine XR'.skip ?_ | refine XR'.ret ?_ | refine XR'.cond_t rfl ?_ | refine XR'.cond_f rfl ?_ | refine XR'.exit ?_) | (refine M1 ?_; first | refine SC ?_ | refine SD ?_) | (refine M2 ?_; first | refine XE.nextI ?_ | refine XE.nextR ?_ | refine SE ?_))
    refine XE.begin (i := 0) rfl rfl rfl ?_
    repeat (first | (refine M0 ?_; first | refine SL ?_ | refine SB fun _ _ => ?_) | (refine XI.id ?_; first | refine XI.done ?_ | refine XI.one1 rfl ?_) | (refine XR'.id ?_; first | refine XR'.seq ?_ | refine XR'.region ?_ | refine XR'.block ?_ | refine XR'.skip ?_ | refine XR'.ret ?_ | refine XR'.cond_t rfl ?_ | refine XR'.cond_f rfl ?_ | refine XR'.exit ?_) | (refine M1 ?_; first | refine SC ?_ | refine SD ?_) | (refine M2 ?_; first | refine XE.nextI ?_ | refine XE.nextR ?_ | refine SE ?_))
    have hml := fun {L : Lo} (w9 : World) (S9 : Sys w.heap.size W L w9) (m1 : (gr, rulO g r) ∈ L) (m2 : (g, gamO v t gm) ∈ L) => may_any (r := r) (i := (i : Nat)) ((hGW.task.below S9.toBelow).more (Nat.le_trans S9.base S9.size)) ho hq (S9.own _ m1).2 (S9.own _ m2).2
    repeat (first | (refine M0 ?_; first | refine SL ?_ | refine SB fun _ _ => ?_ | refine Y4 (Ev.load_loc tok 3 (g := g7) (o := 0) rfl rfl rfl rfl) ?_ | refine Y4 (Ev.call (f := 59) (ck rfl) rfl (fun w9 S9 => hml w9 S9 (by repeat (first | exact List.mem_cons_self | apply List.mem_cons_of_mem)) (by repeat (first | exact List.mem_cons_self | apply List.mem_cons_of_mem)))) ?_) | (refine XI.id ?_; first | refine XI.done ?_ | refine XI.one1 rfl ?_) | (refine XR'.id ?_; first | refine XR'.seq ?_ | refine XR'.region ?_ | refine XR'.block ?_ | refine XR'.skip ?_ | refine XR'.ret ?_ | refine XR'.cond_t rfl ?_ | refine XR'.cond_f rfl ?_ | refine XR'.exit ?_) | (refine M1 ?_; first | refine SC ?_ | refine SD ?_) | (refine M2 ?_; first | refine XE.nextI ?_ | refine XE.nextR ?_ | refine SE ?_))
    cases hmy : t.may r (i : Nat) with
    | false =>
      repeat (first | (refine M0 ?_; first | refine SL ?_ | refine SB fun _ _ => ?_) | (refine XI.id ?_; first | refine XI.done ?_ | refine XI.one1 rfl ?_) | (refine XR'.id ?_; first | refine XR'.seq ?_ | refine XR'.region ?_ | refine XR'.block ?_ | refine XR'.skip ?_ | refine XR'.ret ?_ | refine XR'.cond_t rfl ?_ | refine XR'.cond_f rfl ?_ | refine XR'.exit ?_) | (refine M1 ?_; first | refine SC ?_ | refine SD ?_) | (refine M2 ?_; first | refine XE.nextI ?_ | refine XE.nextR ?_ | refine SE ?_))
      refine XE.endExit (i := 0) rfl rfl (fun w' S => ?_)
      refine ⟨_, rfl, .inr ⟨rfl, (w', b, true), ⟨rfl, hBW.trans S.toBelow, hJ.bst hdl.1 (may_down hcl hi hmy), ?_⟩, S.rebase ZZSM⟩⟩
      exact Fam.add (ks' := [D + 1, D, g12, g7, gr, g, g5, g4, g3, g2]) (hGW.on (ks := [D + 1, D, g12, g7, gr, g, g5, g4, g3, g2]) S (by repeat (first | exact List.mem_cons_self | apply List.mem_cons_of_mem)) ZZMK ZZSB (by simp) (fun x hx => hx)).fam (fun x hx => .inl (.tail _ hx))
    | true =>
      repeat (first | (refine M0 ?_; first | refine SL ?_ | refine SB fun _ _ => ?_ | refine Y4 (Ev.load_loc tok 3 (g := g7) (o := 0) rfl rfl rfl rfl) ?_ | refine Y4 (Ev.load_loc tok 4 (g := gr) (o := 0) rfl rfl rfl rfl) ?_ | refine Y4 (Ev.load_loc tok 5 (g := g) (o := 6) rfl rfl rfl rfl) ?_) | (refine XI.id ?_; first | refine XI.done ?_ | refine XI.one1 rfl ?_) | (refine XR'.id ?_; first | refine XR'.seq ?_ | refine XR'.region ?_ | refine XR'.block ?_ | refine XR'.skip ?_ | refine XR'.ret ?_ | refine XR'.cond_t rfl ?_ | refine XR'.cond_f rfl ?_ | refine XR'.exit ?_) | (refine M1 ?_; first | refine SC ?_ | refine SD ?_) | (refine M2 ?_; first | refine XE.nextI ?_ | refine XE.nextR ?_ | refine SE ?_))
      have hNil : Gam t v w.heap.size g gm [D + 1, D, g12, g7, gr, g, g5, g4, g3, g2] [⟨Int, intK5, .slice none 0 0, t.notTo i 0⟩] (bstHs t b) W := by
        rw [show t.notTo i 0 = [] from rfl]
        exact hGW.nil intK5
      refine XR'.loopk [4, 5, 7, 12, 13, 58] rfl (fun z : Nat × World × SV => [(14, svV z.2.2), (59, .int .i64 (z.1 : Nat))]) (fun z => [(D + 1, .loop { (recO fn a.tmps #[45] _ _ D .ready none) with state := .busy }), (D, .deferred (some [])), (g12, cel 4 [.bool b.isSome]), (g7, cel 113 [.pointer (some ⟨gr, 0, none⟩)]), (gr, rulO g r), (g, gamO v t gm), (g5, cel 26 [bstQ b]), (g4, cel 36 (bstC t b)), (g3, cel 42 [.int .i64 r.count, .int .i64 r.early]), (g2, cel 29 (ctkC v t))]) (fun z => z.2.1) (fun z => z.1 ≤ t.m ∧ Below w.heap.size w z.2.1 ∧ Gam t v w.heap.size g gm [D + 1, D, g12, g7, gr, g, g5, g4, g3, g2] [⟨Int, intK5, svV z.2.2, t.notTo i z.1⟩] (bstHs t b) z.2.1) (fun z => t.m - z.1) (0, W, ⟨none, 0, 0⟩) ⟨Nat.zero_le _, hBW, hNil⟩ ZZSUB (fun _ h => h) ?_
      rintro ⟨k, W2, q⟩ ⟨hk, hB2', hG2'⟩
      simp only at hk hB2' hG2'
      simp only [gamO, gamC, ctkC, rulO, rulC, svV]
      dsimp only [List.cons_append, List.nil_append]
      repeat (first | (refine M0 ?_; first | refine SL ?_ | refine SB fun _ _ => ?_) | (refine XI.id ?_; first | refine XI.done ?_ | refine XI.one1 rfl ?_) | (refine XR'.id ?_; first | refine XR'.seq ?_ | refine XR'.region ?_ | refine XR'.block ?_ | refine XR'.skip ?_ | refine XR'.ret ?_ | refine XR'.cond_t rfl ?_ | refine XR'.cond_f rfl ?_ | refine XR'.exit ?_) | (refine M1 ?_; first | refine SC ?_ | refine SD ?_) | (refine M2 ?_; first | refine XE.nextI ?_ | refine XE.nextR ?_ | refine SE ?_))
      have hpl := fun {L : Lo} {B : Nat} {W1 : World} (w9 : World) (S9 : Sys B W1 L w9) (hm : (g, gamO v t gm) ∈ L) => plan_any (v := v) (t := t) (gm := gm) (i := (i : Nat)) (S9.own _ hm).2 ho ⟨by omega, by omega⟩
      by_cases hkm : k < t.m
      rotate_left
      · rw [show decide ((k : Int) < (v.h.n : Int)) = false from decide_eq_false (by have := h.hn; omega)]
        obtain rfl : k = t.m := by omega
        have hGF := hG2'.freeze
        have hql : q.n = (t.notTo i t.m).length := (hGF.fam.held _ (.head _)).len (by decide)
        repeat (first | (refine M0 ?_; first | refine SL ?_ | refine SB fun _ _ => ?_) | (refine XI.id ?_; first | refine XI.done ?_ | refine XI.one1 rfl ?_) | (refine XR'.id ?_; first | refine XR'.seq ?_ | refine XR'.region ?_ | refine XR'.block ?_ | refine XR'.skip ?_ | refine XR'.ret ?_ | refine XR'.cond_t rfl ?_ | refine XR'.cond_f rfl ?_ | refine XR'.exit ?_) | (refine M1 ?_; first | refine SC ?_ | refine SD ?_) | (refine M2 ?_; first | refine XE.nextI ?_ | refine XE.nextR ?_ | refine SE ?_))
        rcases b with _ | ⟨i0, q0⟩
        · simp only [bstQ, bstC]
          repeat (first | (refine M0 ?_; first | refine SL ?_ | refine SB fun _ _ => ?_ | refine Y4 (Ev.load_loc tok 2 (g := g12) (o := 0) rfl rfl rfl rfl) ?_) | (refine XI.id ?_; first | refine XI.done ?_ | refine XI.one1 rfl ?_) | (refine XR'.id ?_; first | refine XR'.seq ?_ | refine XR'.region ?_ | refine XR'.block ?_ | refine XR'.skip ?_ | refine XR'.ret ?_ | refine XR'.cond_t rfl ?_ | refine XR'.cond_f rfl ?_ | refine XR'.exit ?_) | (refine M1 ?_; first | refine SC ?_ | refine SD ?_) | (refine M2 ?_; first | refine XE.nextI ?_ | refine XE.nextR ?_ | refine SE ?_))
          repeat (first | (refine M0 ?_; first | refine SL ?_ | refine SB fun _ _ => ?_ | refine Y4 (Ev.load_loc tok 3 (g := g7) (o := 0) rfl rfl rfl rfl) ?_ | refine Y4 (Ev.load_loc tok 4 (g := gr) (o := 0) rfl rfl rfl rfl) ?_) | (refine XI.id ?_; first | refine XI.done ?_ | refine XI.one1 rfl ?_) | (refine XR'.id ?_; first | refine XR'.seq ?_ | refine XR'.region ?_ | refine XR'.block ?_ | refine XR'.skip ?_ | refine XR'.ret ?_ | refine XR'.cond_t rfl ?_ | refine XR'.cond_f rfl ?_ | refine XR'.exit ?_) | (refine M1 ?_; first | refine SC ?_ | refine SD ?_) | (refine M2 ?_; first | refine XE.nextI ?_ | refine XE.nextR ?_ | refine SE ?_))
          repeat (first | (refine M0 ?_; first | refine SL ?_ | refine SB fun _ _ => ?_ | refine Y4 (Ev.call (f := 50) (ck rfl) rfl (fun w9 S9 => hpl w9 S9 (.tail _ (.tail _ (.tail _ (.tail _ (.tail _ (.head _)))))))) ?_) | (refine XI.id ?_; first | refine XI.done ?_ | refine XI.one1 rfl ?_) | (refine XR'.id ?_; first | refine XR'.seq ?_ | refine XR'.region ?_ | refine XR'.block ?_ | refine XR'.skip ?_ | refine XR'.ret ?_ | refine XR'.cond_t rfl ?_ | refine XR'.cond_f rfl ?_ | refine XR'.exit ?_) | (refine M1 ?_; first | refine SC ?_ | refine SD ?_) | (refine M2 ?_; first | refine XE.nextI ?_ | refine XE.nextR ?_ | refine SE ?_))
          repeat (first | (refine M0 ?_; first | refine SL ?_ | refine SB fun _ _ => ?_ | refine XL.store tok 7 (g := g4) (o := 0) (cs := [.int .i64 0, .int .i64 0]) rfl rfl rfl rfl (.inr rfl) rfl rfl rfl ?_ | refine XL.store_at tok 6 (g := g5) (o := 0) (j := 0) (cs := [.slice none 0 0]) rfl rfl rfl rfl rfl (Nat.le_of_ble_eq_true rfl) rfl ?_ | refine XL.store_at tok 2 (g := g12) (o := 0) (j := 0) (cs := [.bool false]) rfl rfl rfl rfl rfl (Nat.le_of_ble_eq_true rfl) rfl ?_) | (refine XI.id ?_; first | refine XI.done ?_ | refine XI.one1 rfl ?_) | (refine XR'.id ?_; first | refine XR'.seq ?_ | refine XR'.region ?_ | refine XR'.block ?_ | refine XR'.skip ?_ | refine XR'.ret ?_ | refine XR'.cond_t rfl ?_ | refine XR'.cond_f rfl ?_ | refine XR'.exit ?_) | (refine M1 ?_; first | refine SC ?_ | refine SD ?_) | (refine M2 ?_; first | refine XE.nextI ?_ | refine XE.nextR ?_ | refine SE ?_))
          refine XE.endR (i := 0) rfl rfl (fun w' S => ?_)
          refine ⟨_, rfl, .inl ⟨rfl, (w', some (i, q), false), ⟨rfl, ?_, hB2'.trans S.toBelow, ?_⟩, S.rebase ZZSM⟩⟩
          · exact hGF.on (ks := [D + 1, D, g12, g7, gr, g, g5, g4, g3, g2]) S (by repeat (first | exact List.mem_cons_self | apply List.mem_cons_of_mem)) ZZMK ZZSB (by simp) (fun x hx => by
              unfold bstHs at hx
              rw [List.mem_singleton] at hx
              subst hx
              exact .head _)
          · exact hJ.step hi hmy
        · have hq0 : q0.n = (t.notL (i0 : Nat)).length := by
            have := (hGF.fam.held (hList intK5 q0 ((t.notL (i0 : Nat)).map fun k => ((k : Nat) : Int))) (.tail _ (.head _))).len (by decide)
            rw [this, List.length_map]
          have hq1 : q.n = (t.notL (i : Nat)).length := by rw [hql, notTo_all, List.length_map]
          have hst2 := hJ.step hi hmy
          simp only [bstQ, bstC, svV]
          repeat (first | (refine M0 ?_; first | refine SL ?_ | refine SB fun _ _ => ?_ | refine Y4 (Ev.load_loc tok 2 (g := g12) (o := 0) rfl rfl rfl rfl) ?_ | refine Y4 (Ev.load_loc tok 6 (g := g5) (o := 0) rfl rfl rfl rfl) ?_) | (refine XI.id ?_; first | refine XI.done ?_ | refine XI.one1 rfl ?_) | (refine XR'.id ?_; first | refine XR'.seq ?_ | refine XR'.region ?_ | refine XR'.block ?_ | refine XR'.skip ?_ | refine XR'.ret ?_ | refine XR'.cond_t rfl ?_ | refine XR'.cond_f rfl ?_ | refine XR'.exit ?_) | (refine M1 ?_; first | refine SC ?_ | refine SD ?_) | (refine M2 ?_; first | refine XE.nextI ?_ | refine XE.nextR ?_ | refine SE ?_))
          by_cases hlt : q.n < q0.n
          · rw [show decide ((q.n : Int) < (q0.n : Int)) = true from decide_eq_true (by omega)]
            repeat (first | (refine M0 ?_; first | refine SL ?_ | refine SB fun _ _ => ?_ | refine Y4 (Ev.load_loc tok 3 (g := g7) (o := 0) rfl rfl rfl rfl) ?_ | refine Y4 (Ev.load_loc tok 4 (g := gr) (o := 0) rfl rfl rfl rfl) ?_ | refine Y4 (Ev.call (f := 50) (ck rfl) rfl (fun w9 S9 => hpl w9 S9 (.tail _ (.tail _ (.tail _ (.tail _ (.tail _ (.head _)))))))) ?_) | (refine XI.id ?_; first | refine XI.done ?_ | refine XI.one1 rfl ?_) | (refine XR'.id ?_; first | refine XR'.seq ?_ | refine XR'.region ?_ | refine XR'.block ?_ | refine XR'.skip ?_ | refine XR'.ret ?_ | refine XR'.cond_t rfl ?_ | refine XR'.cond_f rfl ?_ | refine XR'.exit ?_) | (refine M1 ?_; first | refine SC ?_ | refine SD ?_) | (refine M2 ?_; first | refine XE.nextI ?_ | refine XE.nextR ?_ | refine SE ?_))
            repeat (first | (refine M0 ?_; first | refine SL ?_ | refine SB fun _ _ => ?_ | refine XL.store tok 7 (g := g4) (o := 0) (cs := [.int .i64 (t.plan (i0 : Nat)).close, .int .i64 (t.plan (i0 : Nat)).open_]) rfl rfl rfl rfl (.inr rfl) rfl rfl rfl ?_ | refine XL.store_at tok 6 (g := g5) (o := 0) (j := 0) (cs := [.slice q0.A q0.n q0.c]) rfl rfl rfl rfl rfl (Nat.le_of_ble_eq_true rfl) rfl ?_ | refine XL.store_at tok 2 (g := g12) (o := 0) (j := 0) (cs := [.bool true]) rfl rfl rfl rfl rfl (Nat.le_of_ble_eq_true rfl) rfl ?_) | (refine XI.id ?_; first | refine XI.done ?_ | refine XI.one1 rfl ?_) | (refine XR'.id ?_; first | refine XR'.seq ?_ | refine XR'.region ?_ | refine XR'.block ?_ | refine XR'.skip ?_ | refine XR'.ret ?_ | refine XR'.cond_t rfl ?_ | refine XR'.cond_f rfl ?_ | refine XR'.exit ?_) | (refine M1 ?_; first | refine SC ?_ | refine SD ?_) | (refine M2 ?_; first | refine XE.nextI ?_ | refine XE.nextR ?_ | refine SE ?_))
            refine XE.endR (i := 0) rfl rfl (fun w' S => ?_)
            refine ⟨_, rfl, .inl ⟨rfl, (w', some (i, q), false), ⟨rfl, ?_, hB2'.trans S.toBelow, ?_⟩, S.rebase ZZSM⟩⟩
            · exact hGF.on (ks := [D + 1, D, g12, g7, gr, g, g5, g4, g3, g2]) S (by repeat (first | exact List.mem_cons_self | apply List.mem_cons_of_mem)) ZZMK ZZSB (by simp) (fun x hx => by
                unfold bstHs at hx
                rw [List.mem_singleton] at hx
                subst hx
                exact .head _)
            · have e : t.bStep (some i0) i = some i := by
                unfold CTk.bStep
                simp only
                rw [if_pos (by omega)]
              have h9 : t.bStep (Option.map (·.1) (some (i0, q0))) i = some i := e
              rw [h9] at hst2
              exact hst2
          · rw [show decide ((q.n : Int) < (q0.n : Int)) = false from decide_eq_false (by omega)]
            repeat (first | (refine M0 ?_; first | refine SL ?_ | refine SB fun _ _ => ?_) | (refine XI.id ?_; first | refine XI.done ?_ | refine XI.one1 rfl ?_) | (refine XR'.id ?_; first | refine XR'.seq ?_ | refine XR'.region ?_ | refine XR'.block ?_ | refine XR'.skip ?_ | refine XR'.ret ?_ | refine XR'.cond_t rfl ?_ | refine XR'.cond_f rfl ?_ | refine XR'.exit ?_) | (refine M1 ?_; first | refine SC ?_ | refine SD ?_) | (refine M2 ?_; first | refine XE.nextI ?_ | refine XE.nextR ?_ | refine SE ?_))
            refine XE.endR (i := 0) rfl rfl (fun w' S => ?_)
            refine ⟨_, rfl, .inl ⟨rfl, (w', some (i0, q0), false), ⟨rfl, ?_, hB2'.trans S.toBelow, ?_⟩, S.rebase ZZSM⟩⟩
            · exact hGF.on (ks := [D + 1, D, g12, g7, gr, g, g5, g4, g3, g2]) S (by repeat (first | exact List.mem_cons_self | apply List.mem_cons_of_mem)) ZZMK ZZSB (by simp) (fun x hx => .tail _ hx)
            · have e : t.bStep (some i0) i = some i0 := by
                unfold CTk.bStep
                simp only
                rw [if_neg (by omega)]
              have h9 : t.bStep (Option.map (·.1) (some (i0, q0))) i = some i0 := e
              rw [h9] at hst2
              exact hst2
      rw [show decide ((k : Int) < (v.h.n : Int)) = true from decide_eq_true (by have := h.hn; omega)]
      repeat (first | (refine M0 ?_; first | refine SL ?_ | refine SB fun _ _ => ?_ | refine Y4 (Ev.load_loc tok 3 (g := g7) (o := 0) rfl rfl rfl rfl) ?_ | refine Y4 (Ev.load_loc tok 4 (g := gr) (o := 0) rfl rfl rfl rfl) ?_) | (refine XI.id ?_; first | refine XI.done ?_ | refine XI.one1 rfl ?_) | (refine XR'.id ?_; first | refine XR'.seq ?_ | refine XR'.region ?_ | refine XR'.block ?_ | refine XR'.skip ?_ | refine XR'.ret ?_ | refine XR'.cond_t rfl ?_ | refine XR'.cond_f rfl ?_ | refine XR'.exit ?_) | (refine M1 ?_; first | refine SC ?_ | refine SD ?_) | (refine M2 ?_; first | refine XE.nextI ?_ | refine XE.nextR ?_ | refine SE ?_))
      have lgr : gr < w1.heap.size := hG1.lt gr (by simp)
      have hst : t.strange (t.plan (i : Nat)) = false := (plan_ok ho (Int.natCast_nonneg i) hil).1
      have hfl := fun (w5 : World) (ks2 : List Nat) (hG5 : Gam t v w.heap.size g gm ks2 [] [] w5) => fails_any (p := t.plan (i : Nat)) hG5 ho hkm hst
      simp only [plnV] at hfl
      refine XR'.drawRS (trunc w w.heap.size) [(g7, cel 113 [.pointer (some ⟨gr, 0, none⟩)]), (gr, rulO g r)] [0, 1, 2, 3, 4, 5, 6, 7, 8, 9] [10, 11, 12] mixed (fun _ h => Sys.anchorT hB2' h (by intro e he; repeat (first | (cases he; done) | (rcases List.mem_cons.1 he with rfl | he; · repeat (first | exact List.mem_cons_self | apply List.mem_cons_of_mem)))) (by simp; omega) hle) rfl rfl (by kernel_rfl) ?_
      repeat (first | (refine M0 ?_; first | refine SL ?_ | refine SB fun _ _ => ?_ | refine Y4 (Ev.load_loc tok 0 (g := g7) (o := 0) rfl rfl rfl rfl) ?_ | refine Y4 (Ev.load_loc tok 1 (g := gr) (o := 0) rfl rfl rfl rfl) ?_) | (refine M2 ?_; refine SE ?_) | (refine M3 ?_; first | refine SG ?_ | refine SF ?_ | refine YF (Ev.load_loc tok 0 (g := g7) (o := 0) rfl rfl rfl rfl) ?_ | refine YF (Ev.load_loc tok 1 (g := gr) (o := 0) rfl rfl rfl rfl) ?_) | (refine M4 ?_; refine SR ?_) | (refine M5 ?_; first | exact M7 | refine YM ?_ | refine YN ?_ ?_))
      repeat (first | (refine M0 ?_; first | refine SL ?_ | refine SB fun _ _ => ?_ | refine Y4 (Ev.call (f := 50) (ck rfl) rfl (fun w9 S9 => hpl w9 S9 (by repeat (first | exact List.mem_cons_self | apply List.mem_cons_of_mem)))) ?_) | (refine M2 ?_; refine SE ?_) | (refine M3 ?_; first | refine SG ?_ | refine SF ?_ | refine YF (Ev.call (f := 50) (ck rfl) rfl (fun w9 S9 => hpl w9 S9 (by repeat (first | exact List.mem_cons_self | apply List.mem_cons_of_mem)))) ?_) | (refine M4 ?_; refine SR ?_) | (refine M5 ?_; first | exact M7 | refine YM ?_ | refine YN ?_ ?_))
      refine z7 ?_
      repeat (first | (refine M0 ?_; first | refine SL ?_ | refine SB fun _ _ => ?_) | (refine M2 ?_; refine SE ?_) | (refine M3 ?_; first | refine SG ?_ | refine SF ?_) | (refine M4 ?_; refine SR ?_) | (refine M5 ?_; first | exact M7 | refine YM ?_ | refine YN ?_ ?_))
      refine XL.callJ (IntR (idxB (t.above k (t.plan (i : Nat))) t.n)) (ck rfl) rfl rfl hG2' (by repeat (first | exact List.mem_cons_self | apply List.mem_cons_of_mem)) (fun w9 ks2 _ _ hG9 => hfl w9 ks2 hG9) (fun w9 x new hR hG9 hB9 => ?_) ZZMK
      obtain ⟨rfl, rfl⟩ := hR
      have hBW9 : Below w.heap.size w w9 := hB2'.trans hB9
      repeat (first | (refine M0 ?_; first | refine SL ?_ | refine SB fun _ _ => ?_) | (refine M2 ?_; refine SE ?_) | (refine M3 ?_; first | refine SG ?_ | refine SF ?_) | (refine M4 ?_; refine SR ?_) | (refine M5 ?_; first | exact M7 | refine YM ?_ | refine YN ?_ ?_))
      refine z7 ?_
      repeat (first | (refine M0 ?_; first | refine SL ?_ | refine SB fun _ _ => ?_) | (refine M2 ?_; refine SE ?_) | (refine M3 ?_; first | refine SG ?_ | refine SF ?_) | (refine M4 ?_; refine SR ?_) | (refine M5 ?_; first | exact M7 | refine YM ?_ | refine YN ?_ ?_))
      refine z7 ?_
      repeat (first | (refine M0 ?_; first | refine SL ?_ | refine SB fun _ _ => ?_) | (refine M2 ?_; refine SE ?_) | (refine M3 ?_; first | refine SG ?_ | refine SF ?_) | (refine M4 ?_; refine SR ?_) | (refine M5 ?_; first | exact M7 | refine YM ?_ | refine YN ?_ ?_))
      refine XE.onlyN ?_
      have eI : idxB (t.above k (t.plan (i : Nat))) t.n = match t.fails k (t.plan (i : Nat)) with | none => -1 | some a => (a : Int) := by
        unfold idxB CTk.fails
        cases firstB (t.above k (t.plan (i : Nat))) t.n <;> rfl
      rw [eI]
      cases hf : t.fails k (t.plan (i : Nat)) with
      | none =>
        simp only
        repeat (first | (refine M0 ?_; first | refine SL ?_ | refine SB fun _ _ => ?_) | (refine XI.id ?_; first | refine XI.done ?_ | refine XI.one1 rfl ?_) | (refine XR'.id ?_; first | refine XR'.seq ?_ | refine XR'.region ?_ | refine XR'.block ?_ | refine XR'.skip ?_ | refine XR'.ret ?_ | refine XR'.cond_t rfl ?_ | refine XR'.cond_f rfl ?_ | refine XR'.exit ?_) | (refine M1 ?_; first | refine SC ?_ | refine SD ?_) | (refine M2 ?_; first | refine XE.nextI ?_ | refine XE.nextR ?_ | refine SE ?_))
        refine XE.roundW (s := (k, W2, q)) (fun w' S => ⟨(k + 1, w', q), ⟨hkm, hBW9.trans S.toBelow, ?_⟩, by simp only; omega, ZZSUB, S.rebase ZZSM⟩)
        rw [notTo_keep hf]
        exact hG9.on (ks := [D + 1, D, g12, g7, gr, g, g5, g4, g3, g2]) S (by repeat (first | exact List.mem_cons_self | apply List.mem_cons_of_mem)) ZZMK ZZSB (by simp) (fun x hx => hx)
      | some a =>
        simp only
        repeat (first | (refine M0 ?_; first | refine SL ?_ | refine SB fun _ _ => ?_ | refine XL.buildSlice tok rfl rfl rfl rfl rfl rfl rfl rfl rfl (fun _ _ => ?_)) | (refine XI.id ?_; first | refine XI.done ?_ | refine XI.one1 rfl ?_) | (refine XR'.id ?_; first | refine XR'.seq ?_ | refine XR'.region ?_ | refine XR'.block ?_ | refine XR'.skip ?_ | refine XR'.ret ?_ | refine XR'.cond_t rfl ?_ | refine XR'.cond_f rfl ?_ | refine XR'.exit ?_) | (refine M1 ?_; first | refine SC ?_ | refine SD ?_) | (refine M2 ?_; first | refine XE.nextI ?_ | refine XE.nextR ?_ | refine SE ?_))
        rename_i g53 hg53
        refine XL.pushG (K := intK5) (a := ((k : Nat) : Int)) 0 int5_el (by decide) rfl rfl rfl hG9 (by repeat (first | exact List.mem_cons_self | apply List.mem_cons_of_mem)) rfl (.head _) rfl (fun _ => rfl) (by have := notTo_len t i k; omega) (by decide) (fun w6 r6 hG6 hB6 => ?_) ZZMK
        rw [← notTo_push hf] at hG6
        simp only [svV]
        repeat (first | (refine M0 ?_; first | refine SL ?_ | refine SB fun _ _ => ?_) | (refine XI.id ?_; first | refine XI.done ?_ | refine XI.one1 rfl ?_) | (refine XR'.id ?_; first | refine XR'.seq ?_ | refine XR'.region ?_ | refine XR'.block ?_ | refine XR'.skip ?_ | refine XR'.ret ?_ | refine XR'.cond_t rfl ?_ | refine XR'.cond_f rfl ?_ | refine XR'.exit ?_) | (refine M1 ?_; first | refine SC ?_ | refine SD ?_) | (refine M2 ?_; first | refine XE.nextI ?_ | refine XE.nextR ?_ | refine SE ?_))
        refine XE.roundW (s := (k, W2, q)) (fun w' S => ⟨(k + 1, w', r6), ⟨hkm, (hBW9.trans hB6).trans S.toBelow, ?_⟩, by simp only; omega, ZZSUB, S.rebase ZZSM⟩)
        exact hG6.on (ks := [D + 1, D, g12, g7, gr, g, g5, g4, g3, g2]) S (by repeat (first | exact List.mem_cons_self | apply List.mem_cons_of_mem)) ZZMK ZZSB (by simp) (fun x hx => hx)
      any_goals (repeat (first | exact AnyR.nil | refine AnyR.skip rfl ?_))
  refine hbg.mono fun e w4 ⟨v4, e4, hz⟩ => ⟨v4, e4, ?_⟩
  rcases hz with ⟨⟨W, b, s⟩, ⟨rfl, hGW, hBW, hJ⟩, S4⟩ | ⟨⟨W, b, s⟩, ⟨rfl, hBW, hbst, hF⟩, S4⟩
  · refine ⟨.ready, none, _, W, by decide, S4, ?_⟩
    dsimp only [RFEnd]
    have hbst := hJ.bst hdl.1 (fun j hj => absurd hj (by simp))
    have hF := Fam.add (ks' := [D + 1, D, g12, g7, gr, g, g5, g4, g3, g2]) hGW.fam (fun x hx => .inl (.tail _ hx))
    rcases b with _ | ⟨i0, q0⟩
    · simp only [bstQ, bstC, gamO, gamC, rulO, rulC]
      repeat (first | (refine M0 ?_; first | refine SL ?_ | refine SB fun _ _ => ?_ | refine Y4 (Ev.load_loc tok 2 (g := g12) (o := 0) rfl rfl rfl rfl) ?_ | refine XL.store tok 7 (g := g4) (o := 0) (cs := [.int .i64 0, .int .i64 0]) rfl rfl rfl rfl (.inr rfl) rfl rfl rfl ?_ | refine XL.store_at tok 6 (g := g5) (o := 0) (j := 0) (cs := [.slice none 0 0]) rfl rfl rfl rfl rfl (Nat.le_of_ble_eq_true rfl) rfl ?_) | (refine M1 ?_; refine SC ?_) | (refine M2 ?_; refine SE ?_))
      refine XE.retM (i := 1) tok Try.results27 rfl rfl rfl (by simp only [and_self, and_true]) (fun w' S => ?_)
      obtain ⟨d1, d2, d3⟩ := bst_none hc hcl hbst
      exact bstZ d1 d2 d3 (hBW.trans S.toBelow)
    · obtain ⟨d1, d2, d3⟩ := bst_some hc hcl hbst
      simp only [bstQ, bstC, gamO, gamC, rulO, rulC, svV]
      repeat (first | (refine M0 ?_; first | refine SL ?_ | refine SB fun _ _ => ?_ | refine Y4 (Ev.load_loc tok 2 (g := g12) (o := 0) rfl rfl rfl rfl) ?_) | (refine M1 ?_; refine SC ?_) | (refine M2 ?_; refine SE ?_))
      refine XC.drawRS (trunc w w.heap.size) [] [] [0, 1, 2, 3, 4] mixed (fun _ h => Sys.anchorT hBW h (fun e he => by cases he) (by simp) hle) rfl (by kernel_rfl) ?_
      repeat (any_goals (first | (refine M0 ?_; first | refine SL ?_ | refine SB fun _ _ => ?_ | refine Y4 (Ev.load_loc_agg tok 7 (g := g4) (o := 0) rfl rfl rfl rfl) ?_ | refine Y4 (Ev.load_loc tok 6 (g := g5) (o := 0) rfl rfl rfl rfl) ?_ | refine XL.store tok 7 (g := g4) (o := 0) (cs := [.int .i64 (t.plan (i0 : Nat)).close, .int .i64 (t.plan (i0 : Nat)).open_]) rfl rfl rfl rfl (.inr rfl) rfl rfl rfl ?_ | refine XL.store_at tok 6 (g := g5) (o := 0) (j := 0) (cs := [.slice q0.A q0.n q0.c]) rfl rfl rfl rfl rfl (Nat.le_of_ble_eq_true rfl) rfl ?_) | (refine M1 ?_; refine SC ?_) | (refine M2 ?_; first | refine SE ?_ | ((with_reducible refine atHeld ?_); refine z7 ?_)) | (refine M3 ?_; first | refine SG ?_ | refine SF ?_ | refine YF (Ev.load_loc_agg tok 7 (g := g4) (o := 0) rfl rfl rfl rfl) ?_ | refine YF (Ev.load_loc tok 6 (g := g5) (o := 0) rfl rfl rfl rfl) ?_) | (refine M4 ?_; refine SR ?_) | (refine M5 ?_; first | exact M7 | refine YM ?_ | refine YN ?_ ?_)))
      any_goals (repeat (first | exact AnyR.nil | refine AnyR.skip rfl ?_))
      all_goals
        repeat (first | (refine M0 ?_; first | refine SL ?_ | refine SB fun _ _ => ?_) | (refine M1 ?_; refine SC ?_) | (refine M2 ?_; refine SE ?_))
        refine XE.retM (i := 1) tok Try.results27 rfl rfl rfl (by simp only [and_self, and_true]) (fun w' S => ?_)
        refine ⟨_, _, rfl, ⟨q0, by rw [d1, d2]; rfl, rfl⟩, fun x hx => ?_, hBW.trans S.toBelow⟩
        rw [d3, List.mem_singleton] at hx
        subst hx
        exact (hF.sys S ZZMK).get (.head _)
  · refine ⟨.done, some (.exit 0), _, W, by decide, S4, ?_⟩
    dsimp only [RFEnd]
    refine XE.blk_exit ?_
    rcases b with _ | ⟨i0, q0⟩
    · simp only [bstQ, bstC, gamO, gamC, rulO, rulC]
      repeat (first | (refine M0 ?_; first | refine SL ?_ | refine SB fun _ _ => ?_ | refine Y4 (Ev.load_loc tok 2 (g := g12) (o := 0) rfl rfl rfl rfl) ?_ | refine XL.store tok 7 (g := g4) (o := 0) (cs := [.int .i64 0, .int .i64 0]) rfl rfl rfl rfl (.inr rfl) rfl rfl rfl ?_ | refine XL.store_at tok 6 (g := g5) (o := 0) (j := 0) (cs := [.slice none 0 0]) rfl rfl rfl rfl rfl (Nat.le_of_ble_eq_true rfl) rfl ?_) | (refine M1 ?_; refine SC ?_) | (refine M2 ?_; refine SE ?_))
      refine XE.retM (i := 1) tok Try.results27 rfl rfl rfl (by simp only [and_self, and_true]) (fun w' S => ?_)
      obtain ⟨d1, d2, d3⟩ := bst_none hc hcl hbst
      exact bstZ d1 d2 d3 (hBW.trans S.toBelow)
    · obtain ⟨d1, d2, d3⟩ := bst_some hc hcl hbst
      simp only [bstQ, bstC, gamO, gamC, rulO, rulC, svV]
      repeat (first | (refine M0 ?_; first | refine SL ?_ | refine SB fun _ _ => ?_ | refine Y4 (Ev.load_loc tok 2 (g := g12) (o := 0) rfl rfl rfl rfl) ?_) | (refine M1 ?_; refine SC ?_) | (refine M2 ?_; refine SE ?_))
      refine XC.drawRS (trunc w w.heap.size) [] [] [0, 1, 2, 3, 4] mixed (fun _ h => Sys.anchorT hBW h (fun e he => by cases he) (by simp) hle) rfl (by kernel_rfl) ?_
      repeat (any_goals (first | (refine M0 ?_; first | refine SL ?_ | refine SB fun _ _ => ?_ | refine Y4 (Ev.load_loc_agg tok 7 (g := g4) (o := 0) rfl rfl rfl rfl) ?_ | refine Y4 (Ev.load_loc tok 6 (g := g5) (o := 0) rfl rfl rfl rfl) ?_ | refine XL.store tok 7 (g := g4) (o := 0) (cs := [.int .i64 (t.plan (i0 : Nat)).close, .int .i64 (t.plan (i0 : Nat)).open_]) rfl rfl rfl rfl (.inr rfl) rfl rfl rfl ?_ | refine XL.store_at tok 6 (g := g5) (o := 0) (j := 0) (cs := [.slice q0.A q0.n q0.c]) rfl rfl rfl rfl rfl (Nat.le_of_ble_eq_true rfl) rfl ?_) | (refine M1 ?_; refine SC ?_) | (refine M2 ?_; first | refine SE ?_ | ((with_reducible refine atHeld ?_); refine z7 ?_)) | (refine M3 ?_; first | refine SG ?_ | refine SF ?_ | refine YF (Ev.load_loc_agg tok 7 (g := g4) (o := 0) rfl rfl rfl rfl) ?_ | refine YF (Ev.load_loc tok 6 (g := g5) (o := 0) rfl rfl rfl rfl) ?_) | (refine M4 ?_; refine SR ?_) | (refine M5 ?_; first | exact M7 | refine YM ?_ | refine YN ?_ ?_)))
      any_goals (repeat (first | exact AnyR.nil | refine AnyR.skip rfl ?_))
      all_goals
        repeat (first | (refine M0 ?_; first | refine SL ?_ | refine SB fun _ _ => ?_) | (refine M1 ?_; refine SC ?_) | (refine M2 ?_; refine SE ?_))
        refine XE.retM (i := 1) tok Try.results27 rfl rfl rfl (by simp only [and_self, and_true]) (fun w' S => ?_)
        refine ⟨_, _, rfl, ⟨q0, by rw [d1, d2]; rfl, rfl⟩, fun x hx => ?_, hBW.trans S.toBelow⟩
        rw [d3, List.mem_singleton] at hx
        subst hx
        exact (hF.sys S ZZMK).get (.head _)
end Go.Proofs.Ytmpaiphakjogjaa.X
/-
  The walks of must, shut, index, form and early (closure).
-/
namespace Go.Proofs.Ytmpaiphakjogjaa.X
open Go Go.RowKit Go.Proofs.Ytmpaiphakjogjaa.Bs
set_option linter.unusedVariables false
theorem Sys.start3 {B : Nat} {w : World} {g h k : Nat} {o o' o'' : Obj} (hB : B ≤ w.heap.size) (b1 : B ≤ g) (b2 : B ≤ h) (b3 : B ≤ k) (hg : w.heap[g]? = some o) (hh : w.heap[h]? = some o') (hk : w.heap[k]? = some o'') (n1 : g ≠ h) (n2 : g ≠ k) (n3 : h ≠ k) : Sys B w [(g, o), (h, o'), (k, o'')] w :=
  Sys.start hB (fun e he => by
    simp only [List.mem_cons, List.not_mem_nil, or_false] at he
    rcases he with rfl | rfl | rfl
    · exact ⟨b1, hg⟩
    · exact ⟨b2, hh⟩
    · exact ⟨b3, hk⟩) (by simp [n1, n2, n3])
theorem own3 {w W : World} {g gr gc : Nat} {o o' o'' : Obj} {L : Lo} (hg : W.heap[g]? = some o) (hr : W.heap[gr]? = some o') (hc : W.heap[gc]? = some o'') (hL : ∀ e, e ∈ L → e = (g, o) ∨ e = (gr, o') ∨ e = (gc, o'') ∨ w.heap.size ≤ e.1) : ∀ e, e ∈ L → e.1 < w.heap.size → W.heap[e.1]? = some e.2 := fun e he hlt => by
  rcases hL e he with rfl | rfl | rfl | h
  · exact hg
  · exact hr
  · exact hc
  · omega
theorem ZZO4 {p : Prop} (h : p := by (intro e he; repeat (first | (cases he; done) | (rcases List.mem_cons.1 he with rfl | he; · first | (left; rfl) | (right; left; rfl) | (right; right; left; rfl) | (right; right; right; assumption) | (right; right; right; simp only; omega)))) <;> fail) : p := h
theorem XE.panic0 {P : Program} {N B : Nat} {w0 : World} {F : Fr} {L : Lo} {fn : Func} {R : Ending → World → Prop} {ch : List PanicEntry} (hR : ∀ w, Sys B w0 L w → R (.panicked ch) w) : XE N B w0 [] (bodyPost P fn R) (.panic ch) F L :=
  ⟨fun a w hf hw => ⟨hf.defers, hR w hw⟩⟩
/-- a refusal. -/
def refV (at_ e : Int) : Value := .iface 134 (.agg ⟨[.int .i64 at_, .int .i64 e]⟩)
def chkC (gr : Nat) (q1 q2 : SV) (d : CDe) : List Value := .pointer (some ⟨gr, 0, none⟩) :: decC q1 q2 d
abbrev chkO (gr : Nat) (q1 q2 : SV) (d : CDe) : Obj := cel 137 (chkC gr q1 q2 d)
theorem ref_con : conB (Try.prog.underlying 134) = true := by kernel_rfl
theorem must_any (b : Bool) (i e : Int) (w : World) :
    Calls Try.prog 90 #[.bool b, .int .i64 i, .int .i64 e] w fun x w' => x = mustE b (refV i e) ∧ Below w.heap.size w w' := by
  refine enter Try.func90 rfl Try.ntmps90 rfl ?_; simp only [frame, Nat.zero_add, Nat.reduceAdd]
  cases b with
  | true =>
    repeat (first | (refine M0 ?_; first | refine SL ?_ | refine SB fun _ _ => ?_) | (refine M1 ?_; refine SC ?_) | (refine M2 ?_; refine SE ?_))
    exact XE.end0 Try.results90 fun w' S => ⟨rfl, S.toBelow⟩
  | false =>
    repeat (first | (refine M0 ?_; first | refine SL ?_ | refine SB fun _ _ => ?_ | refine Y4 (Ev.makeI ref_con rfl) ?_) | (refine M1 ?_; refine SC ?_) | (refine M2 ?_; refine SE ?_))
    refine XL.panic rfl ?_
    exact XE.panic0 fun w' S => ⟨rfl, S.toBelow⟩
section
variable {t : CTk} {v : CTV} {r : CRu} {g gr gc gm : Nat} {w : World} {q1 q2 : SV} {d : CDe}
theorem shut_any (hc : w.heap[gc]? = some (chkO gr q1 q2 d)) :
    Calls Try.prog 91 #[.pointer (some ⟨gc, 0, none⟩)] w fun e w' => e = .returned (.bool (decide (d.plan ≠ nev))) ∧ Below w.heap.size w w' := by
  have S0 := Sys.start1 (B := 0) (Nat.zero_le gc) hc
  obtain ⟨⟨c, o⟩, l1, l2⟩ := d
  rw [plan_n]
  simp only [chkO, chkC, decC, svV] at S0
  refine enterL Try.func91 rfl Try.ntmps91 rfl (S0) ?_; simp only [frame, Nat.zero_add, Nat.reduceAdd]
  refine XC.hint 0 0 ?_
  repeat (first | (refine M0 ?_; first | refine SL ?_ | refine SB fun _ _ => ?_ | refine Y4 (Ev.call (f := 55) (ck rfl) rfl (fun w S => nev_any w)) ?_ | refine Y4 (Ev.plnNeq rfl rfl) ?_) | (refine M1 ?_; first | refine SC ?_ | refine SD ?_) | (refine M2 ?_; refine SE ?_) | (refine M3 ?_; first | refine SG ?_ | refine SF ?_ | refine YF (Ev.call (f := 55) (ck rfl) rfl (fun w S => nev_any w)) ?_ | refine YF (Ev.plnNeq rfl rfl) ?_) | (refine M4 ?_; refine SR ?_) | (refine M5 ?_; first | exact M7 | refine YM ?_ | refine YN ?_ ?_))
  refine XE.retg tok Try.results91 rfl (by simp only [and_self, and_true]) (fun w' S => ?_)
  exact ⟨rfl, S.toBelowG (own1 hc ZZO1)⟩
theorem cindex_any (hc : w.heap[gc]? = some (chkO gr q1 q2 d)) (hr : w.heap[gr]? = some (rulO g r)) (hg : w.heap[g]? = some (gamO v t gm)) (hi : i64in (d.plan.close - t.from_)) :
    Calls Try.prog 92 #[.pointer (some ⟨gc, 0, none⟩)] w fun e w' => e = .returned (.int .i64 (d.plan.close - t.from_)) ∧ Below w.heap.size w w' := by
  have n1 : gc ≠ gr := fun e => by subst e; rw [hr] at hc; simp [chkO, rulO, chkC, rulC] at hc
  have n2 : gc ≠ g := fun e => by subst e; rw [hg] at hc; simp [chkO, gamO, chkC, gamC] at hc
  have n3 : gr ≠ g := fun e => by subst e; rw [hg] at hr; simp [rulO, gamO, rulC, gamC] at hr
  have S0 := Sys.start3 (B := 0) (Nat.zero_le _) (Nat.zero_le gc) (Nat.zero_le gr) (Nat.zero_le g) hc hr hg n1 n2 n3
  obtain ⟨⟨c, o⟩, l1, l2⟩ := d
  simp only at hi
  simp only [chkO, chkC, decC, svV, rulO, rulC, gamO, gamC] at S0
  refine enterL Try.func92 rfl Try.ntmps92 rfl (S0) ?_; simp only [frame, Nat.zero_add, Nat.reduceAdd]
  refine XC.hint 0 2 ?_
  repeat (first | (refine M0 ?_; first | refine SL ?_ | refine SB fun _ _ => ?_ | refine Y4 (Ev.load_loc tok 1 (g := gr) (o := 0) rfl rfl rfl rfl) ?_ | refine Y4 (Ev.load_loc tok 2 (g := g) (o := 11) rfl rfl rfl rfl) ?_) | (refine M1 ?_; first | refine SC ?_ | refine SD ?_) | (refine M2 ?_; refine SE ?_) | (refine M3 ?_; first | refine SG ?_ | refine SF ?_ | refine YF (Ev.load_loc tok 1 (g := gr) (o := 0) rfl rfl rfl rfl) ?_ | refine YF (Ev.load_loc tok 2 (g := g) (o := 11) rfl rfl rfl rfl) ?_) | (refine M4 ?_; refine SR ?_) | (refine M5 ?_; first | exact M7 | refine YM ?_ | refine YN ?_ ?_))
  refine XE.retg tok Try.results92 rfl (by simp only [and_self, and_true]) (fun w' S => ?_)
  exact ⟨rfl, S.toBelowG (own3 hc hr hg ZZO4)⟩
set_option maxHeartbeats 8000000 in
theorem form_any (hc : w.heap[gc]? = some (chkO gr q1 q2 d)) (hr : w.heap[gr]? = some (rulO g r)) (hg : w.heap[g]? = some (gamO v t gm)) (ho : CtOk t) (hhn : v.h.n = t.m) (hq : q1.n = d.peaks.length) :
    Calls Try.prog 66 #[.pointer (some ⟨gc, 0, none⟩)] w fun e w' => e = mustE (!t.strange d.plan && decide (d.peaks.length = t.m)) (refV 0 2) ∧ Below w.heap.size w w' := by
  have n1 : gc ≠ gr := fun e => by subst e; rw [hr] at hc; simp [chkO, rulO, chkC, rulC] at hc
  have n2 : gc ≠ g := fun e => by subst e; rw [hg] at hc; simp [chkO, gamO, chkC, gamC] at hc
  have n3 : gr ≠ g := fun e => by subst e; rw [hg] at hr; simp [rulO, gamO, rulC, gamC] at hr
  have S0 := Sys.start3 (B := 0) (Nat.zero_le _) (Nat.zero_le gc) (Nat.zero_le gr) (Nat.zero_le g) hc hr hg n1 n2 n3
  have hstr := fun {L : Lo} (w5 : World) (S5 : Sys 0 w L w5) (hm : (g, gamO v t gm) ∈ L) => stranger_any (p := d.plan) (S5.own _ hm).2 ho
  have hq' : decide ((q1.n : Int) = (v.h.n : Int)) = decide (d.peaks.length = t.m) := by rw [decide_eq_decide]; omega
  obtain ⟨⟨c, o⟩, l1, l2⟩ := d
  simp only [plnV] at hstr
  simp only at hq'
  simp only [chkO, chkC, decC, svV, rulO, rulC, gamO, gamC] at S0
  refine enterL Try.func66 rfl Try.ntmps66 rfl (S0) ?_; simp only [frame, Nat.zero_add, Nat.reduceAdd]
  refine XC.hint 0 2 ?_
  cases hst : t.strange ⟨c, o⟩ with
  | true =>
    rw [hst] at hstr
    refine XC.drawT mixed rfl rfl (by kernel_rfl) ?_
    repeat (first | (refine M0 ?_; first | refine SL ?_ | refine SB fun _ _ => ?_ | refine Y4 (Ev.load_loc tok 1 (g := gr) (o := 0) rfl rfl rfl rfl) ?_ | refine Y4 (Ev.load_loc tok 2 (g := g) (o := 6) rfl rfl rfl rfl) ?_ | refine Y4 (Ev.call (f := 61) (ck rfl) rfl (fun w5 S5 => hstr w5 S5 (.tail _ (.tail _ (.head _))))) ?_) | (refine M2 ?_; refine SE ?_) | (refine M3 ?_; first | refine SG ?_ | refine SF ?_ | refine YF (Ev.load_loc tok 1 (g := gr) (o := 0) rfl rfl rfl rfl) ?_ | refine YF (Ev.load_loc tok 2 (g := g) (o := 6) rfl rfl rfl rfl) ?_ | refine YF (Ev.call (f := 61) (ck rfl) rfl (fun w5 S5 => hstr w5 S5 (.tail _ (.tail _ (.head _))))) ?_) | (refine M4 ?_; refine SR ?_) | (refine M5 ?_; first | exact M7 | refine YM ?_ | refine YN ?_ ?_))
    refine XL.callM false (refV 0 2) (ck rfl) rfl rfl (fun w _ => must_any _ _ _ w) (fun h => by cases h) (fun _ => ?_)
    exact XE.panic0 fun w' S => ⟨rfl, S.toBelowG (own3 hc hr hg ZZO4)⟩
  | false =>
    rw [hst] at hstr
    refine XC.drawT mixed rfl rfl (by kernel_rfl) ?_
    repeat (first | (refine M0 ?_; first | refine SL ?_ | refine SB fun _ _ => ?_ | refine Y4 (Ev.load_loc tok 1 (g := gr) (o := 0) rfl rfl rfl rfl) ?_ | refine Y4 (Ev.load_loc tok 2 (g := g) (o := 6) rfl rfl rfl rfl) ?_ | refine Y4 (Ev.call (f := 61) (ck rfl) rfl (fun w5 S5 => hstr w5 S5 (.tail _ (.tail _ (.head _))))) ?_) | (refine M2 ?_; refine SE ?_) | (refine M3 ?_; first | refine SG ?_ | refine SF ?_ | refine YF (Ev.load_loc tok 1 (g := gr) (o := 0) rfl rfl rfl rfl) ?_ | refine YF (Ev.load_loc tok 2 (g := g) (o := 6) rfl rfl rfl rfl) ?_ | refine YF (Ev.call (f := 61) (ck rfl) rfl (fun w5 S5 => hstr w5 S5 (.tail _ (.tail _ (.head _))))) ?_) | (refine M4 ?_; refine SR ?_) | (refine M5 ?_; first | exact M7 | refine YM ?_ | refine YN ?_ ?_))
    rw [hq']
    cases decide (l1.length = t.m) with
    | true =>
      refine XL.callM true (refV 0 2) (ck rfl) rfl rfl (fun w _ => must_any _ _ _ w) (fun _ => ?_) (fun h => by cases h)
      repeat (first | (refine M0 ?_; first | refine SL ?_ | refine SB fun _ _ => ?_) | (refine M1 ?_; refine SC ?_) | (refine M2 ?_; refine SE ?_))
      exact XE.end0 Try.results66 fun w' S => ⟨rfl, S.toBelowG (own3 hc hr hg ZZO4)⟩
    | false =>
      refine XL.callM false (refV 0 2) (ck rfl) rfl rfl (fun w _ => must_any _ _ _ w) (fun h => by cases h) (fun _ => ?_)
      exact XE.panic0 fun w' S => ⟨rfl, S.toBelowG (own3 hc hr hg ZZO4)⟩
def _root_.Go.Proofs.Ytmpaiphakjogjaa.Bs.CTk.earB (t : CTk) (r : CRu) (d : CDe) : Bool := if d.plan = nev then !t.called r else t.may r (d.plan.close - t.from_)
set_option maxHeartbeats 8000000 in
theorem early_any (hc : w.heap[gc]? = some (chkO gr q1 q2 d)) (hr : w.heap[gr]? = some (rulO g r)) (hg : w.heap[g]? = some (gamO v t gm)) (hT : CtAt w w.heap.size v t) (ho : CtOk t) (hq : RuOk r) (hst : t.strange d.plan = false) :
    Calls Try.prog 67 #[.pointer (some ⟨gc, 0, none⟩)] w fun e w' => e = mustE (t.earB r d) (refV 0 150) ∧ Below w.heap.size w w' := by
  have n1 : gc ≠ gr := fun e => by subst e; rw [hr] at hc; simp [chkO, rulO, chkC, rulC] at hc
  have n2 : gc ≠ g := fun e => by subst e; rw [hg] at hc; simp [chkO, gamO, chkC, gamC] at hc
  have n3 : gr ≠ g := fun e => by subst e; rw [hg] at hr; simp [rulO, gamO, rulC, gamC] at hr
  have S0 := Sys.start3 (B := 0) (Nat.zero_le _) (Nat.zero_le gc) (Nat.zero_le gr) (Nat.zero_le g) hc hr hg n1 n2 n3
  have lr := (Array.getElem?_eq_some_iff.1 hr).1
  have lg := (Array.getElem?_eq_some_iff.1 hg).1
  have lc := (Array.getElem?_eq_some_iff.1 hc).1
  have h60 := ho.n60
  have hfr := ho.frm
  have hdl := ho.dly
  have hB5 := fun (w5 : World) (S5 : Sys 0 w [(gc, chkO gr q1 q2 d), (gr, rulO g r), (g, gamO v t gm)] w5) => S5.toBelowG (own3 hc hr hg ZZO4)
  have hal := fun (w5 : World) (S5 : Sys 0 w [(gc, chkO gr q1 q2 d), (gr, rulO g r), (g, gamO v t gm)] w5) => allowed_any (r := r) ((hT.below (hB5 w5 S5)).more (hB5 w5 S5).size) ho hq (S5.own _ (.tail _ (.head _))).2 (S5.own _ (.tail _ (.tail _ (.head _)))).2
  have hsh := fun (w5 : World) (S5 : Sys 0 w [(gc, chkO gr q1 q2 d), (gr, rulO g r), (g, gamO v t gm)] w5) => shut_any (S5.own _ (.head _)).2
  have hml := fun (w5 : World) (S5 : Sys 0 w [(gc, chkO gr q1 q2 d), (gr, rulO g r), (g, gamO v t gm)] w5) => may_any (r := r) (i := d.plan.close - t.from_) ((hT.below (hB5 w5 S5)).more (hB5 w5 S5).size) ho hq (S5.own _ (.tail _ (.head _))).2 (S5.own _ (.tail _ (.tail _ (.head _)))).2
  have hix := fun (hi : i64in (d.plan.close - t.from_)) (w5 : World) (S5 : Sys 0 w [(gc, chkO gr q1 q2 d), (gr, rulO g r), (g, gamO v t gm)] w5) => cindex_any (t := t) (S5.own _ (.head _)).2 (S5.own _ (.tail _ (.head _))).2 (S5.own _ (.tail _ (.tail _ (.head _)))).2 hi
  obtain ⟨⟨c, o⟩, l1, l2⟩ := d
  simp only [chkO, chkC, decC, svV, rulO, rulC, gamO, gamC] at S0
  refine enterL Try.func67 rfl Try.ntmps67 rfl (S0) ?_; simp only [frame, Nat.zero_add, Nat.reduceAdd]
  refine XC.hint 0 2 ?_
  repeat (first | (refine M0 ?_; first | refine SL ?_ | refine SB fun _ _ => ?_ | refine Y4 (Ev.call (f := 54) (ck rfl) rfl (fun w5 S5 => hal w5 S5)) ?_) | (refine M1 ?_; refine SC ?_) | (refine M2 ?_; refine SE ?_))
  by_cases hn : (⟨c, o⟩ : CPl) = nev
  · obtain ⟨rfl, rfl⟩ : c = -1 ∧ o = -1 := ⟨congrArg CPl.close hn, congrArg CPl.open_ hn⟩
    have e0 : decide ((⟨-1, -1⟩ : CPl) ≠ nev) = false := decide_eq_false fun h => h rfl
    simp only [e0] at hsh
    have e1 : t.earB r ⟨⟨-1, -1⟩, l1, l2⟩ = !t.called r := by unfold CTk.earB; rw [if_pos hn]
    rw [e1]
    refine XC.drawT mixed rfl rfl (by kernel_rfl) ?_
    repeat (first | (refine M0 ?_; first | refine SL ?_ | refine SB fun _ _ => ?_ | refine Y4 (Ev.call (f := 91) (ck rfl) rfl (fun w5 S5 => hsh w5 S5)) ?_) | (refine M2 ?_; refine SE ?_) | (refine M3 ?_; first | refine SG ?_ | refine SF ?_ | refine YF (Ev.call (f := 91) (ck rfl) rfl (fun w5 S5 => hsh w5 S5)) ?_) | (refine M4 ?_; refine SR ?_) | (refine M5 ?_; first | exact M7 | refine YM ?_ | refine YN ?_ ?_))
    cases t.called r with
    | false =>
      refine XL.callM true (refV 0 150) (ck rfl) rfl rfl (fun w _ => must_any _ _ _ w) (fun _ => ?_) (fun h => by cases h)
      repeat (first | (refine M0 ?_; first | refine SL ?_ | refine SB fun _ _ => ?_) | (refine M1 ?_; refine SC ?_) | (refine M2 ?_; refine SE ?_))
      exact XE.end0 Try.results67 fun w' S => ⟨rfl, S.toBelowG (own3 hc hr hg ZZO4)⟩
    | true =>
      refine XL.callM false (refV 0 150) (ck rfl) rfl rfl (fun w _ => must_any _ _ _ w) (fun h => by cases h) (fun _ => ?_)
      exact XE.panic0 fun w' S => ⟨rfl, S.toBelowG (own3 hc hr hg ZZO4)⟩
  · obtain ⟨b1, b2⟩ := strange_f hst hn
    simp only at b1 b2
    have hix := @hix (by unfold i64in; simp only; unfold CTk.last at b1; omega)
    have e0 : decide ((⟨c, o⟩ : CPl) ≠ nev) = true := decide_eq_true hn
    simp only [e0] at hsh
    have e1 : t.earB r ⟨⟨c, o⟩, l1, l2⟩ = t.may r (c - t.from_) := by unfold CTk.earB; rw [if_neg hn]
    rw [e1]
    refine XC.drawT mixed rfl rfl (by kernel_rfl) ?_
    cases hm : t.may r (c - t.from_) with
    | true =>
      simp only [hm] at hml
      repeat (first | (refine M0 ?_; first | refine SL ?_ | refine SB fun _ _ => ?_ | refine Y4 (Ev.call (f := 91) (ck rfl) rfl (fun w5 S5 => hsh w5 S5)) ?_ | refine Y4 (Ev.call (f := 92) (ck rfl) rfl (fun w5 S5 => hix w5 S5)) ?_ | refine Y4 (Ev.call (f := 59) (ck rfl) rfl (fun w5 S5 => hml w5 S5)) ?_) | (refine M2 ?_; refine SE ?_) | (refine M3 ?_; first | refine SG ?_ | refine SF ?_ | refine YF (Ev.call (f := 91) (ck rfl) rfl (fun w5 S5 => hsh w5 S5)) ?_ | refine YF (Ev.call (f := 92) (ck rfl) rfl (fun w5 S5 => hix w5 S5)) ?_ | refine YF (Ev.call (f := 59) (ck rfl) rfl (fun w5 S5 => hml w5 S5)) ?_) | (refine M4 ?_; refine SR ?_) | (refine M5 ?_; first | exact M7 | refine YM ?_ | refine YN ?_ ?_))
      refine XL.callM true (refV 0 150) (ck rfl) rfl rfl (fun w _ => must_any _ _ _ w) (fun _ => ?_) (fun h => by cases h)
      repeat (first | (refine M0 ?_; first | refine SL ?_ | refine SB fun _ _ => ?_) | (refine M1 ?_; refine SC ?_) | (refine M2 ?_; refine SE ?_))
      exact XE.end0 Try.results67 fun w' S => ⟨rfl, S.toBelowG (own3 hc hr hg ZZO4)⟩
    | false =>
      simp only [hm] at hml
      repeat (first | (refine M0 ?_; first | refine SL ?_ | refine SB fun _ _ => ?_ | refine Y4 (Ev.call (f := 91) (ck rfl) rfl (fun w5 S5 => hsh w5 S5)) ?_ | refine Y4 (Ev.call (f := 92) (ck rfl) rfl (fun w5 S5 => hix w5 S5)) ?_ | refine Y4 (Ev.call (f := 59) (ck rfl) rfl (fun w5 S5 => hml w5 S5)) ?_) | (refine M2 ?_; refine SE ?_) | (refine M3 ?_; first | refine SG ?_ | refine SF ?_ | refine YF (Ev.call (f := 91) (ck rfl) rfl (fun w5 S5 => hsh w5 S5)) ?_ | refine YF (Ev.call (f := 92) (ck rfl) rfl (fun w5 S5 => hix w5 S5)) ?_ | refine YF (Ev.call (f := 59) (ck rfl) rfl (fun w5 S5 => hml w5 S5)) ?_) | (refine M4 ?_; refine SR ?_) | (refine M5 ?_; first | exact M7 | refine YM ?_ | refine YN ?_ ?_))
      refine XL.callM false (refV 0 150) (ck rfl) rfl rfl (fun w _ => must_any _ _ _ w) (fun h => by cases h) (fun _ => ?_)
      exact XE.panic0 fun w' S => ⟨rfl, S.toBelowG (own3 hc hr hg ZZO4)⟩
end
end Go.Proofs.Ytmpaiphakjogjaa.X
/-
  The walk of holds (closure's check).
-/
namespace Go.Proofs.Ytmpaiphakjogjaa.X
open Go Go.RowKit Go.Proofs.Ytmpaiphakjogjaa.Bs
set_option linter.unusedVariables false
noncomputable def _root_.Go.Proofs.Ytmpaiphakjogjaa.Bs.CTk.hldsB (t : CTk) (d : CDe) : Bool := decide (d.plan = nev) || (decide (d.plan = t.plan (d.plan.close - t.from_)) && !(t.wit (d.plan.close - t.from_)).isSome)
theorem mustE_t (v : Value) : mustE true v = .returned (.tuple #[]) := rfl
section
variable {t : CTk} {v : CTV} {r : CRu} {b0 g gr gc gm : Nat} {ks : List Nat} {w : World} {q1 q2 : SV} {d : CDe}
set_option maxHeartbeats 16000000 in
theorem holdsC_any (hG : Gam t v b0 g gm ks [] [] w) (ho : CtOk t) (hc : w.heap[gc]? = some (chkO gr q1 q2 d)) (hr : w.heap[gr]? = some (rulO g r)) (hgc : gc ∈ ks) (hgr : gr ∈ ks) (hbc : b0 ≤ gc) (hbr : b0 ≤ gr) (hst : t.strange d.plan = false)
    (hm : d.plan ≠ nev → t.may r (d.plan.close - t.from_) = true) :
    Calls Try.prog 68 #[.pointer (some ⟨gc, 0, none⟩)] w (GamE t b0 gm ks (mustE (t.hldsB d) (refV 0 151)) w) := by
  have hg : w.heap[g]? = some (gamO v t gm) := hG.game
  have n1 : gc ≠ gr := fun e => by subst e; rw [hr] at hc; simp [chkO, rulO, chkC, rulC] at hc
  have n2 : gc ≠ g := fun e => by subst e; rw [hg] at hc; simp [chkO, gamO, chkC, gamC] at hc
  have n3 : gr ≠ g := fun e => by subst e; rw [hg] at hr; simp [rulO, gamO, rulC, gamC] at hr
  have hb0 : b0 ≤ w.heap.size := hG.fam.base
  have S0 := Sys.start3 (B := b0) hb0 hbc hbr hG.bg hc hr hg n1 n2 n3
  have hrm : gr ≠ gm := fun e => hG.nin (e ▸ hgr)
  have hcm : gc ≠ gm := fun e => hG.nin (e ▸ hgc)
  have hgs := hG.gin
  have h60 := ho.n60
  have hfr := ho.frm
  have hdl := ho.dly
  have hsh := fun {L : Lo} {W : World} (w5 : World) (S5 : Sys b0 W L w5) (m1 : (gc, chkO gr q1 q2 d) ∈ L) => shut_any (S5.own _ m1).2
  have hix := fun (hi : i64in (d.plan.close - t.from_)) {L : Lo} {W : World} (w5 : World) (S5 : Sys b0 W L w5) (m0 : (gc, chkO gr q1 q2 d) ∈ L) (m1 : (gr, rulO g r) ∈ L) (m2 : (g, gamO v t gm) ∈ L) => cindex_any (t := t) (S5.own _ m0).2 (S5.own _ m1).2 (S5.own _ m2).2 hi
  obtain ⟨⟨c, o⟩, l1, l2⟩ := d
  by_cases hn : (⟨c, o⟩ : CPl) = nev
  · obtain ⟨rfl, rfl⟩ : c = -1 ∧ o = -1 := ⟨congrArg CPl.close hn, congrArg CPl.open_ hn⟩
    have e0 : decide ((⟨-1, -1⟩ : CPl) ≠ nev) = false := decide_eq_false fun h => h rfl
    simp only [e0] at hsh
    have e1 : t.hldsB ⟨⟨-1, -1⟩, l1, l2⟩ = true := by unfold CTk.hldsB; rw [decide_eq_true hn]; rfl
    rw [e1, mustE_t]
    simp only [chkO, chkC, decC, svV, rulO, rulC, gamO, gamC] at S0
    refine enterL Try.func68 rfl Try.ntmps68 rfl (S0) ?_; simp only [frame, Nat.zero_add, Nat.reduceAdd]
    refine XC.hint 0 2 ?_
    repeat (first | (refine M0 ?_; first | refine SL ?_ | refine SB fun _ _ => ?_ | refine Y4 (Ev.call (f := 91) (ck rfl) rfl (fun w5 S5 => hsh w5 S5 (.head _))) ?_) | (refine M1 ?_; refine SC ?_) | (refine M2 ?_; refine SE ?_))
    refine XE.retg tok Try.results68 rfl (by simp only [and_self, and_true]) (fun w' S => ?_)
    exact GamE.of (GamR.end2 (kk := []) (R := fun _ _ => True) (x := .nilFunc) hG Since.refl S (.tail _ (.tail _ (.head _))) trivial ZZHM (own3 hg hr hc ZZO4))
  · obtain ⟨b1, b2⟩ := strange_f hst hn
    obtain ⟨c1, c2, c3, c4⟩ := may_in (hm hn)
    simp only at b1 b2 c2 c3 c4
    have hix := @hix (by unfold i64in; simp only; unfold CTk.last at b1; omega)
    have e0 : decide ((⟨c, o⟩ : CPl) ≠ nev) = true := decide_eq_true hn
    simp only [e0] at hsh
    obtain ⟨i, hi⟩ : ∃ i : Nat, c - t.from_ = (i : Nat) := ⟨(c - t.from_).toNat, by omega⟩
    simp only [hi] at hix
    rw [hi] at c3
    have e1 : t.hldsB ⟨⟨c, o⟩, l1, l2⟩ = (decide (c = (t.plan (i : Nat)).close) && decide (o = (t.plan (i : Nat)).open_) && !(t.wit (i : Nat)).isSome) := by
      unfold CTk.hldsB
      simp only
      rw [decide_eq_false hn, hi, Bool.false_or]
      congr 1
      obtain ⟨a, b⟩ := t.plan (i : Nat)
      by_cases x1 : c = a <;> by_cases x2 : o = b <;> simp [x1, x2]
    rw [e1]
    have hl1 : -31 ≤ t.last ∧ t.last ≤ 60 := by unfold CTk.last; omega
    have hpl := fun {L : Lo} {B : Nat} {W1 : World} (w9 : World) (S9 : Sys B W1 L w9) (hm : (g, gamO v t gm) ∈ L) => plan_any (v := v) (t := t) (gm := gm) (i := (i : Nat)) (S9.own _ hm).2 ho ⟨by omega, by omega⟩
    simp only [plnV] at hpl
    simp only [chkO, chkC, decC, svV, rulO, rulC, gamO, gamC] at S0
    refine enterL Try.func68 rfl Try.ntmps68 rfl (S0) ?_; simp only [frame, Nat.zero_add, Nat.reduceAdd]
    refine XC.hint 0 2 ?_
    repeat (first | (refine M0 ?_; first | refine SL ?_ | refine SB fun _ _ => ?_ | refine Y4 (Ev.call (f := 91) (ck rfl) rfl (fun w5 S5 => hsh w5 S5 (.head _))) ?_) | (refine M1 ?_; refine SC ?_) | (refine M2 ?_; refine SE ?_))
    refine XC.cutn [0] rfl (fun z : World => [(3, .bool (t.wit (i : Nat)).isSome)]) (fun _ => [(gc, cel 137 (chkC gr q1 q2 ⟨⟨c, o⟩, l1, l2⟩)), (gr, rulO g r), (g, gamO v t gm)]) (fun z => z) (fun z => Gam t v b0 g gm ks [] [] z ∧ Since w gm z) ?_ ?_
    · have hB : Below b0 w w := Below.refl b0 w
      simp only [rulO, rulC, gamO, gamC]
      refine XC.drawRS (trunc w b0) [(gc, cel 137 [.pointer (some ⟨gr, 0, none⟩), .int .i64 c, .int .i64 o, .slice q1.A q1.n q1.c, .slice q2.A q2.n q2.c])] [0, 1, 2, 3, 4] [5, 6, 7, 8, 9, 10, 11, 12] mixed (fun _ h => Sys.anchorT hB h (fun e he => by rw [List.mem_singleton.1 he]; exact .head _) (by simp) hb0) rfl (by kernel_rfl) ?_
      repeat (any_goals (first | (refine M0 ?_; first | refine SL ?_ | refine SB fun _ _ => ?_ | refine Y4 (Ev.load_loc tok 0 (g := gc) (o := 0) rfl rfl rfl rfl) ?_ | refine Y4 (Ev.call (f := 92) (ck rfl) rfl (fun w5 S5 => hix w5 S5 (by first | exact .head _ | exact .tail _ (.head _)) (by first | exact .tail _ (.head _) | exact .tail _ (.tail _ (.head _))) (by first | exact .tail _ (.tail _ (.head _)) | exact .tail _ (.tail _ (.tail _ (.head _)))))) ?_ | (refine XL.at_call 58 ?_; refine XL.callI (WitX t (i : Nat)) (ck rfl) rfl rfl hG Since.refl (by first | exact .tail _ (.tail _ (.head _)) | exact .tail _ (.tail _ (.tail _ (.head _)))) (fun w5 ks2 S5 hL5 hG5 => witness_any hG5 ho (S5.own (gr, rulO g r) (by first | exact .tail _ (.head _) | exact .tail _ (.tail _ (.head _)))).2 (hL5 (gr, rulO g r) (by first | exact .tail _ (.head _) | exact .tail _ (.tail _ (.head _)))) hbr c3) (fun w5 x new hR hG5 hS5 => ?_) ZZHM (own3 hg hr hc ZZO4); obtain ⟨rfl, rfl⟩ := hR; have hB5 : Below b0 w w5 := hS5.below hG.bm hb0; have hz5 := hS5.size)) | (refine M1 ?_; refine SC ?_) | (refine M2 ?_; first | refine SE ?_ | ((with_reducible refine atHeld ?_); refine z7 ?_)) | (refine M3 ?_; first | refine SG ?_ | refine SF ?_ | refine YF (Ev.load_loc tok 0 (g := gc) (o := 0) rfl rfl rfl rfl) ?_ | refine YF (Ev.call (f := 92) (ck rfl) rfl (fun w5 S5 => hix w5 S5 (by first | exact .head _ | exact .tail _ (.head _)) (by first | exact .tail _ (.head _) | exact .tail _ (.tail _ (.head _))) (by first | exact .tail _ (.tail _ (.head _)) | exact .tail _ (.tail _ (.tail _ (.head _)))))) ?_) | (refine M4 ?_; refine SR ?_) | (refine M5 ?_; first | exact M7 | refine YM ?_ | refine YN ?_ ?_)))
      any_goals (repeat (first | exact AnyR.nil | refine AnyR.skip rfl ?_))
      all_goals
        exact XE.leafW (fun z9 S9 => ⟨z9, ⟨hG5.on (ks := ks) S9 (by repeat (first | exact List.mem_cons_self | apply List.mem_cons_of_mem)) ZZMK (fun x hx => List.mem_append_right _ (List.mem_append_right _ hx)) hgs (fun x hx => hx), Since.end2 hG5 hS5 S9 ZZMK (own3 (hS5.keep hg hG.ne) (hS5.keep hr hrm) (hS5.keep hc hcm) ZZO4)⟩, ZZSUB, S9.rebase ZZSM⟩)
    rintro z ⟨hGz, hSz⟩
    simp only [chkO, chkC, decC, svV, rulO, rulC, gamO, gamC]
    dsimp only [List.cons_append, List.nil_append]
    cases hb : (decide (c = (t.plan (i : Nat)).close) && decide (o = (t.plan (i : Nat)).open_)) with
    | false =>
      refine XC.drawT mixed rfl rfl (by kernel_rfl) ?_
      repeat (first | (refine M0 ?_; first | refine SL ?_ | refine SB fun _ _ => ?_ | refine Y4 (Ev.load_loc_agg tok 0 (g := gc) (o := 1) rfl rfl rfl rfl) ?_ | refine Y4 (Ev.load_loc tok 1 (g := gr) (o := 0) rfl rfl rfl rfl) ?_ | refine Y4 (Ev.call (f := 92) (ck rfl) rfl (fun w5 S5 => hix w5 S5 (.head _) (.tail _ (.head _)) (.tail _ (.tail _ (.head _))))) ?_ | refine Y4 (Ev.call (f := 50) (ck rfl) rfl (fun w5 S5 => hpl w5 S5 (.tail _ (.tail _ (.head _))))) ?_ | refine Y4 (Ev.plnEql rfl rfl) ?_) | (refine M2 ?_; refine SE ?_) | (refine M3 ?_; first | refine SG ?_ | refine SF ?_ | refine YF (Ev.load_loc_agg tok 0 (g := gc) (o := 1) rfl rfl rfl rfl) ?_ | refine YF (Ev.load_loc tok 1 (g := gr) (o := 0) rfl rfl rfl rfl) ?_ | refine YF (Ev.call (f := 92) (ck rfl) rfl (fun w5 S5 => hix w5 S5 (.head _) (.tail _ (.head _)) (.tail _ (.tail _ (.head _))))) ?_ | refine YF (Ev.call (f := 50) (ck rfl) rfl (fun w5 S5 => hpl w5 S5 (.tail _ (.tail _ (.head _))))) ?_ | refine YF (Ev.plnEql rfl rfl) ?_) | (refine M4 ?_; refine SR ?_) | (refine M5 ?_; first | exact M7 | refine YM ?_ | refine YN ?_ ?_))
      rw [hb]
      repeat (first | (refine M0 ?_; first | refine SL ?_ | refine SB fun _ _ => ?_) | (refine M2 ?_; refine SE ?_) | (refine M3 ?_; first | refine SG ?_ | refine SF ?_) | (refine M4 ?_; refine SR ?_) | (refine M5 ?_; first | exact M7 | refine YM ?_ | refine YN ?_ ?_))
      refine XL.callM false (refV 0 151) (ck rfl) rfl rfl (fun w _ => must_any _ _ _ w) (fun h => by cases h) (fun _ => ?_)
      exact XE.panic0 fun w' S => GamE.of (GamR.end2 (kk := []) (R := fun _ _ => True) (x := .nilFunc) hGz hSz S (.tail _ (.tail _ (.head _))) trivial ZZHM (own3 hGz.game (hSz.keep hr hrm) (hSz.keep hc hcm) ZZO4))
    | true =>
      cases hw : (t.wit (i : Nat)).isSome with
      | false =>
        refine XC.drawT mixed rfl rfl (by kernel_rfl) ?_
        repeat (first | (refine M0 ?_; first | refine SL ?_ | refine SB fun _ _ => ?_ | refine Y4 (Ev.load_loc_agg tok 0 (g := gc) (o := 1) rfl rfl rfl rfl) ?_ | refine Y4 (Ev.load_loc tok 1 (g := gr) (o := 0) rfl rfl rfl rfl) ?_ | refine Y4 (Ev.call (f := 92) (ck rfl) rfl (fun w5 S5 => hix w5 S5 (.head _) (.tail _ (.head _)) (.tail _ (.tail _ (.head _))))) ?_ | refine Y4 (Ev.call (f := 50) (ck rfl) rfl (fun w5 S5 => hpl w5 S5 (.tail _ (.tail _ (.head _))))) ?_ | refine Y4 (Ev.plnEql rfl rfl) ?_) | (refine M2 ?_; refine SE ?_) | (refine M3 ?_; first | refine SG ?_ | refine SF ?_ | refine YF (Ev.load_loc_agg tok 0 (g := gc) (o := 1) rfl rfl rfl rfl) ?_ | refine YF (Ev.load_loc tok 1 (g := gr) (o := 0) rfl rfl rfl rfl) ?_ | refine YF (Ev.call (f := 92) (ck rfl) rfl (fun w5 S5 => hix w5 S5 (.head _) (.tail _ (.head _)) (.tail _ (.tail _ (.head _))))) ?_ | refine YF (Ev.call (f := 50) (ck rfl) rfl (fun w5 S5 => hpl w5 S5 (.tail _ (.tail _ (.head _))))) ?_ | refine YF (Ev.plnEql rfl rfl) ?_) | (refine M4 ?_; refine SR ?_) | (refine M5 ?_; first | exact M7 | refine YM ?_ | refine YN ?_ ?_))
        rw [hb]
        repeat (first | (refine M0 ?_; first | refine SL ?_ | refine SB fun _ _ => ?_) | (refine M2 ?_; refine SE ?_) | (refine M3 ?_; first | refine SG ?_ | refine SF ?_) | (refine M4 ?_; refine SR ?_) | (refine M5 ?_; first | exact M7 | refine YM ?_ | refine YN ?_ ?_))
        refine XL.callM true (refV 0 151) (ck rfl) rfl rfl (fun w _ => must_any _ _ _ w) (fun _ => ?_) (fun h => by cases h)
        repeat (first | (refine M0 ?_; first | refine SL ?_ | refine SB fun _ _ => ?_) | (refine M1 ?_; refine SC ?_) | (refine M2 ?_; refine SE ?_))
        exact XE.end0 Try.results68 fun w' S => GamE.of (GamR.end2 (kk := []) (R := fun _ _ => True) (x := .nilFunc) hGz hSz S (.tail _ (.tail _ (.head _))) trivial ZZHM (own3 hGz.game (hSz.keep hr hrm) (hSz.keep hc hcm) ZZO4))
      | true =>
        refine XC.drawT mixed rfl rfl (by kernel_rfl) ?_
        repeat (first | (refine M0 ?_; first | refine SL ?_ | refine SB fun _ _ => ?_ | refine Y4 (Ev.load_loc_agg tok 0 (g := gc) (o := 1) rfl rfl rfl rfl) ?_ | refine Y4 (Ev.load_loc tok 1 (g := gr) (o := 0) rfl rfl rfl rfl) ?_ | refine Y4 (Ev.call (f := 92) (ck rfl) rfl (fun w5 S5 => hix w5 S5 (.head _) (.tail _ (.head _)) (.tail _ (.tail _ (.head _))))) ?_ | refine Y4 (Ev.call (f := 50) (ck rfl) rfl (fun w5 S5 => hpl w5 S5 (.tail _ (.tail _ (.head _))))) ?_ | refine Y4 (Ev.plnEql rfl rfl) ?_) | (refine M2 ?_; refine SE ?_) | (refine M3 ?_; first | refine SG ?_ | refine SF ?_ | refine YF (Ev.load_loc_agg tok 0 (g := gc) (o := 1) rfl rfl rfl rfl) ?_ | refine YF (Ev.load_loc tok 1 (g := gr) (o := 0) rfl rfl rfl rfl) ?_ | refine YF (Ev.call (f := 92) (ck rfl) rfl (fun w5 S5 => hix w5 S5 (.head _) (.tail _ (.head _)) (.tail _ (.tail _ (.head _))))) ?_ | refine YF (Ev.call (f := 50) (ck rfl) rfl (fun w5 S5 => hpl w5 S5 (.tail _ (.tail _ (.head _))))) ?_ | refine YF (Ev.plnEql rfl rfl) ?_) | (refine M4 ?_; refine SR ?_) | (refine M5 ?_; first | exact M7 | refine YM ?_ | refine YN ?_ ?_))
        rw [hb]
        repeat (first | (refine M0 ?_; first | refine SL ?_ | refine SB fun _ _ => ?_) | (refine M2 ?_; refine SE ?_) | (refine M3 ?_; first | refine SG ?_ | refine SF ?_) | (refine M4 ?_; refine SR ?_) | (refine M5 ?_; first | exact M7 | refine YM ?_ | refine YN ?_ ?_))
        refine XL.callM false (refV 0 151) (ck rfl) rfl rfl (fun w _ => must_any _ _ _ w) (fun h => by cases h) (fun _ => ?_)
        exact XE.panic0 fun w' S => GamE.of (GamR.end2 (kk := []) (R := fun _ _ => True) (x := .nilFunc) hGz hSz S (.tail _ (.tail _ (.head _))) trivial ZZHM (own3 hGz.game (hSz.keep hr hrm) (hSz.keep hc hcm) ZZO4))
end
end Go.Proofs.Ytmpaiphakjogjaa.X
/-
  The walk of heights (closure's check).
-/
namespace Go.Proofs.Ytmpaiphakjogjaa.X
open Go Go.RowKit Go.Proofs.Ytmpaiphakjogjaa.Bs
set_option linter.unusedVariables false
/-- how heights ends. -/
noncomputable def _root_.Go.Proofs.Ytmpaiphakjogjaa.Bs.CTk.hgtE (t : CTk) (d : CDe) : Ending := match firstB (fun k => decide (d.peaks[k]?.getD (0, 0) ≠ t.peak d.plan k)) t.m with
  | none => .returned (.tuple #[])
  | some k => .panicked (pan (refV (k : Nat) 152))
section
variable {t : CTk} {v : CTV} {r : CRu} {b0 g gr gc gm : Nat} {ks : List Nat} {w : World} {q1 q2 : SV} {d : CDe}
set_option maxHeartbeats 16000000 in
theorem heights_any (hG : Gam t v b0 g gm ks [] [] w) (ho : CtOk t) (hc : w.heap[gc]? = some (chkO gr q1 q2 d)) (hr : w.heap[gr]? = some (rulO g r)) (hgc : gc ∈ ks) (hgr : gr ∈ ks) (hbc : b0 ≤ gc) (hbr : b0 ≤ gr) (hst : t.strange d.plan = false)
    (hall : ∀ k i, k < t.m → i < t.n → (t.ins k d.plan i).isSome = true) (hL1 : ListAt pekK5 w (Lt b0) q1 d.peaks) (hlen : d.peaks.length = t.m) :
    Calls Try.prog 69 #[.pointer (some ⟨gc, 0, none⟩)] w (GamE t b0 gm ks (t.hgtE d) w) := by
  have hg : w.heap[g]? = some (gamO v t gm) := hG.game
  have n1 : gc ≠ gr := fun e => by subst e; rw [hr] at hc; simp [chkO, rulO, chkC, rulC] at hc
  have n2 : gc ≠ g := fun e => by subst e; rw [hg] at hc; simp [chkO, gamO, chkC, gamC] at hc
  have n3 : gr ≠ g := fun e => by subst e; rw [hg] at hr; simp [rulO, gamO, rulC, gamC] at hr
  have hb0 : b0 ≤ w.heap.size := hG.fam.base
  have S0 := Sys.start3 (B := b0) hb0 hbc hbr hG.bg hc hr hg n1 n2 n3
  have hrm : gr ≠ gm := fun e => hG.nin (e ▸ hgr)
  have hcm : gc ≠ gm := fun e => hG.nin (e ▸ hgc)
  have hgs := hG.gin
  have hm8 := ho.m8
  have lgc := hG.lt gc (.tail _ hgc)
  have lgr := hG.lt gr (.tail _ hgr)
  have lg := hG.lt g (.tail _ hgs)
  have hpk := fun (k : Nat) (hk : k < t.m) (w5 : World) (ks2 : List Nat) (hG5 : Gam t v b0 g gm ks2 [] [] w5) (hr5 : w5.heap[gr]? = some (rulO g r)) (h5 : gr ∈ ks2) => peak_any hG5 ho hr5 h5 hbr hk hst (hall k · hk)
  have hn1 := hL1.len (by decide)
  obtain ⟨q1A, q1n, q1c⟩ := q1
  simp only at hn1
  rw [hlen] at hn1
  subst hn1
  obtain ⟨⟨c, o⟩, l1, l2⟩ := d
  simp only at hlen hL1
  simp only [plnV] at hpk
  simp only [chkO, chkC, decC, svV, rulO, rulC, gamO, gamC] at S0
  refine enterL Try.func69 rfl Try.ntmps69 rfl (S0) ?_; simp only [frame, Nat.zero_add, Nat.reduceAdd]
  refine XC.hint 0 2 ?_
  repeat (first | (refine M0 ?_; first | refine SL ?_ | refine SB fun _ _ => ?_) | (refine M1 ?_; refine SC ?_) | (refine M2 ?_; refine SE ?_))
  refine XC.loopk [0, 8, 9] rfl (fun z : Nat × World => [(10, .int .i64 (z.1 : Nat))]) (fun _ => [(gc, cel 137 (chkC gr ⟨q1A, t.m, q1c⟩ q2 ⟨⟨c, o⟩, l1, l2⟩)), (gr, rulO g r), (g, gamO v t gm)]) (fun z => z.2)
    (fun z => z.1 ≤ t.m ∧ Gam t v b0 g gm ks [] [] z.2 ∧ Since w gm z.2 ∧ ∀ j, j < z.1 → l1[j]?.getD (0, 0) = t.peak ⟨c, o⟩ j) (fun z => t.m - z.1) (0, w) ⟨Nat.zero_le _, hG, Since.refl, fun j hj => absurd hj (by simp)⟩ ZZSUB (fun _ h => h) ?_
  rintro ⟨k, W⟩ ⟨hk, hGW, hSW, hno⟩
  simp only at hk hGW hSW hno
  have hgW := hGW.game
  have hrW := hSW.keep hr hrm
  have hcW := hSW.keep hc hcm
  have hzW := hSW.size
  have hBW : Below b0 w W := hSW.below hG.bm hb0
  simp only [chkO, chkC, decC, svV, rulO, rulC, gamO, gamC]
  dsimp only [List.cons_append, List.nil_append]
  repeat (first | (refine M0 ?_; first | refine SL ?_ | refine SB fun _ _ => ?_) | (refine M1 ?_; refine SC ?_) | (refine M2 ?_; refine SE ?_))
  refine XC.cond _ rfl (fun h1 => ?_) (fun h1 => ?_)
  rotate_left
  · have hkm : k = t.m := by have := of_decide_eq_false h1; omega
    subst hkm
    repeat (first | (refine M0 ?_; first | refine SL ?_ | refine SB fun _ _ => ?_) | (refine M1 ?_; refine SC ?_) | (refine M2 ?_; refine SE ?_))
    refine XE.end0 Try.results69 fun w' S => ?_
    have e1 : t.hgtE ⟨⟨c, o⟩, l1, l2⟩ = .returned (.tuple #[]) := by
      unfold CTk.hgtE
      rw [firstB_none.2 fun j hj => by simp only [decide_eq_false_iff_not]; exact fun h => h (hno j hj)]
    rw [e1]
    exact GamE.of (GamR.end2 (kk := []) (R := fun _ _ => True) (x := .nilFunc) hGW hSW S (.tail _ (.tail _ (.head _))) trivial ZZHM (own3 hgW hrW hcW ZZO4))
  have hkm : k < t.m := by have := of_decide_eq_true h1; omega
  have hL1W := hL1.below hBW
  obtain ⟨ad, rfl, hlt⟩ := hL1.addr (by decide) (by omega)
  have hkl : k < l1.length := by omega
  obtain ⟨⟨pa, pb⟩, hpe⟩ : ∃ x, l1[k]? = some x := ⟨_, List.getElem?_eq_getElem hkl⟩
  have hel := hL1W.elem hpe
  repeat (first | (refine M0 ?_; first | refine SL ?_ | refine SB fun _ _ => ?_ | refine Y4 (Ev.load_old_agg tok [.int .i64 pa, .int .i64 pb] rfl rfl rfl (add_lt hlt) hel) ?_) | (refine M1 ?_; refine SC ?_) | (refine M2 ?_; refine SE ?_))
  rename_i g3 hg3
  refine XC.drawRT (trunc w b0) [(g3, cel 76 [.int .i64 pa, .int .i64 pb]), (gc, cel 137 [.pointer (some ⟨gr, 0, none⟩), .int .i64 c, .int .i64 o, .slice (some ad) t.m q1c, .slice q2.A q2.n q2.c]), (gr, rulO g r), (g, gamO v t gm)] [0, 1, 2, 3, 4, 5, 6, 7, 8, 9, 10, 13] [11, 12] mixed (fun _ h => Sys.anchorT hBW h (by intro e he; repeat (first | (cases he; done) | (rcases List.mem_cons.1 he with rfl | he; · repeat (first | exact List.mem_cons_self | apply List.mem_cons_of_mem)))) (by simp [n1, n2, n3]; omega) hb0) rfl rfl (by kernel_rfl) rfl (by kernel_rfl) ?_
  repeat (first | (refine M0 ?_; first | refine SL ?_ | refine SB fun _ _ => ?_ | refine Y4 (Ev.load_loc_agg tok 0 (g := g3) (o := 0) rfl rfl rfl rfl) ?_ | refine Y4 (Ev.load_loc tok 1 (g := gc) (o := 0) rfl rfl rfl rfl) ?_ | refine Y4 (Ev.load_loc_agg tok 1 (g := gc) (o := 1) rfl rfl rfl rfl) ?_) | (refine M2 ?_; refine SE ?_) | (refine M3 ?_; first | refine SG ?_ | refine SF ?_ | refine YF (Ev.load_loc_agg tok 0 (g := g3) (o := 0) rfl rfl rfl rfl) ?_ | refine YF (Ev.load_loc tok 1 (g := gc) (o := 0) rfl rfl rfl rfl) ?_ | refine YF (Ev.load_loc_agg tok 1 (g := gc) (o := 1) rfl rfl rfl rfl) ?_) | (refine M4 ?_; refine SR ?_) | (refine M5 ?_; first | exact M7 | refine YM ?_ | refine YN ?_ ?_))
  refine XL.callI (PekX t k ⟨c, o⟩) (ck rfl) rfl rfl hGW hSW (.tail _ (.tail _ (.tail _ (.head _)))) (fun w5 ks2 S5 hL5 hG5 => hpk k hkm w5 ks2 hG5 (S5.own (gr, rulO g r) (.tail _ (.tail _ (.head _)))).2 (hL5 (gr, rulO g r) (.tail _ (.tail _ (.head _))))) (fun w5 x new hR hG5 hS5 => ?_) ZZMK (own3 hgW hrW hcW ZZO4)
  obtain ⟨rfl, rfl⟩ := hR
  have hz5 := hS5.size
  have hB5 : Below b0 w w5 := hS5.below hG.bm hb0
  have hg5 := hG5.game
  have hr5 := hS5.keep hr hrm
  have hc5 := hS5.keep hc hcm
  simp only [iiV]
  repeat (first | (refine M0 ?_; first | refine SL ?_ | refine SB fun _ _ => ?_ | refine Y4 (Ev.pekEql rfl rfl) ?_) | (refine M2 ?_; refine SE ?_) | (refine M3 ?_; first | refine SG ?_ | refine SF ?_ | refine YF (Ev.pekEql rfl rfl) ?_) | (refine M4 ?_; refine SR ?_) | (refine M5 ?_; first | exact M7 | refine YM ?_ | refine YN ?_ ?_))
  refine z7 ?_
  repeat (first | (refine M0 ?_; first | refine SL ?_ | refine SB fun _ _ => ?_ | refine Y4 (Ev.pekEql rfl rfl) ?_) | (refine M2 ?_; refine SE ?_) | (refine M3 ?_; first | refine SG ?_ | refine SF ?_ | refine YF (Ev.pekEql rfl rfl) ?_) | (refine M4 ?_; refine SR ?_) | (refine M5 ?_; first | exact M7 | refine YM ?_ | refine YN ?_ ?_))
  refine z7 ?_
  repeat (first | (refine M0 ?_; first | refine SL ?_ | refine SB fun _ _ => ?_) | (refine M2 ?_; refine SE ?_) | (refine M3 ?_; first | refine SG ?_ | refine SF ?_) | (refine M4 ?_; refine SR ?_) | (refine M5 ?_; first | exact M7 | refine YM ?_ | refine YN ?_ ?_))
  refine XE.lastZ (fun _ _ h => h) ?_
  cases hb : (decide (pa = (t.peak ⟨c, o⟩ k).1) && decide (pb = (t.peak ⟨c, o⟩ k).2)) with
  | true =>
    have hpq : l1[k]?.getD (0, 0) = t.peak ⟨c, o⟩ k := by
      rw [hpe]
      simp only [Bool.and_eq_true, decide_eq_true_eq] at hb
      exact Prod.ext hb.1 hb.2
    refine XL.callM true (refV (k : Nat) 152) (ck rfl) rfl rfl (fun w _ => must_any _ _ _ w) (fun _ => ?_) (fun h => by cases h)
    repeat (first | (refine M0 ?_; first | refine SL ?_ | refine SB fun _ _ => ?_) | (refine M1 ?_; refine SC ?_) | (refine M2 ?_; refine SE ?_))
    refine XE.roundW (s := (k, W)) (fun w9 S9 => ⟨(k + 1, w9), ⟨hkm, hG5.on (ks := ks) S9 (by repeat (first | exact List.mem_cons_self | apply List.mem_cons_of_mem)) ZZMK (fun x hx => List.mem_append_right _ (List.mem_append_right _ hx)) hgs (fun x hx => hx), Since.end2 hG5 hS5 S9 ZZMK (own3 hg5 hr5 hc5 ZZO4), fun j hj => ?_⟩, by simp only; omega, ZZSUB, S9.rebase ZZSM⟩)
    rcases Nat.lt_or_ge j k with h2 | h2
    · exact hno j h2
    · have : j = k := by omega
      subst this
      exact hpq
  | false =>
    refine XL.callM false (refV (k : Nat) 152) (ck rfl) rfl rfl (fun w _ => must_any _ _ _ w) (fun h => by cases h) (fun _ => ?_)
    refine ⟨fun a w' hf S => And.intro hf.defers ?_⟩
    have e1 : t.hgtE ⟨⟨c, o⟩, l1, l2⟩ = .panicked (pan (refV (k : Nat) 152)) := by
      unfold CTk.hgtE
      rw [firstB_some.2 ⟨hkm, ?_, fun j hj => by simp only [decide_eq_false_iff_not]; exact fun h => h (hno j hj)⟩]
      simp only [decide_eq_true_eq]
      rw [hpe]
      intro h
      simp only [Option.getD_some] at h
      rw [← h] at hb
      simp at hb
    rw [e1]
    exact GamE.of (GamR.end2 (kk := _) (R := fun _ _ => True) (x := .nilFunc) hG5 hS5 S (.tail _ (.tail _ (.tail _ (.head _)))) trivial ZZMK (own3 hg5 hr5 hc5 ZZO4))
  any_goals (repeat (first | exact AnyR.nil | refine AnyR.skip rfl ?_))
end
end Go.Proofs.Ytmpaiphakjogjaa.X
/-
  The walk of later (closure's check).
-/
namespace Go.Proofs.Ytmpaiphakjogjaa.X
open Go Go.RowKit Go.Proofs.Ytmpaiphakjogjaa.Bs
set_option linter.unusedVariables false
noncomputable def _root_.Go.Proofs.Ytmpaiphakjogjaa.Bs.CTk.manyI (t : CTk) (d : CDe) : Int := if d.plan = nev then 0 else t.last - (d.plan.close - t.from_)
/-- how later ends. -/
noncomputable def _root_.Go.Proofs.Ytmpaiphakjogjaa.Bs.CTk.latE (t : CTk) (d : CDe) : Ending := if (d.later.length : Int) ≠ t.manyI d then .panicked (pan (refV 0 2)) else
  match firstB (fun k => !t.rules (d.plan.close - t.from_ + 1 + (k : Nat)) (d.later[k]?.getD (0, 0))) d.later.length with
  | none => .returned (.tuple #[])
  | some k => .panicked (pan (refV (k : Nat) 153))
section
variable {t : CTk} {v : CTV} {r : CRu} {b0 g gr gc gm : Nat} {ks : List Nat} {w : World} {q1 q2 : SV} {d : CDe}
set_option maxHeartbeats 16000000 in
theorem later_any (hG : Gam t v b0 g gm ks [] [] w) (ho : CtOk t) (hc : w.heap[gc]? = some (chkO gr q1 q2 d)) (hr : w.heap[gr]? = some (rulO g r)) (hgc : gc ∈ ks) (hgr : gr ∈ ks) (hbc : b0 ≤ gc) (hbr : b0 ≤ gr) (hst : t.strange d.plan = false)
    (hm : d.plan ≠ nev → t.may r (d.plan.close - t.from_) = true) (hL2 : ListAt wtnK5 w (Lt b0) q2 d.later) :
    Calls Try.prog 70 #[.pointer (some ⟨gc, 0, none⟩)] w (GamE t b0 gm ks (t.latE d) w) := by
  have hg : w.heap[g]? = some (gamO v t gm) := hG.game
  have n1 : gc ≠ gr := fun e => by subst e; rw [hr] at hc; simp [chkO, rulO, chkC, rulC] at hc
  have n2 : gc ≠ g := fun e => by subst e; rw [hg] at hc; simp [chkO, gamO, chkC, gamC] at hc
  have n3 : gr ≠ g := fun e => by subst e; rw [hg] at hr; simp [rulO, gamO, rulC, gamC] at hr
  have hb0 : b0 ≤ w.heap.size := hG.fam.base
  have S0 := Sys.start3 (B := b0) hb0 hbc hbr hG.bg hc hr hg n1 n2 n3
  have hrm : gr ≠ gm := fun e => hG.nin (e ▸ hgr)
  have hcm : gc ≠ gm := fun e => hG.nin (e ▸ hgc)
  have hgs := hG.gin
  have hm8 := ho.m8
  have h60 := ho.n60
  have hfr := ho.frm
  have hdl := ho.dly
  have hl1 : -31 ≤ t.last ∧ t.last ≤ 60 := by unfold CTk.last; omega
  have lgc := hG.lt gc (.tail _ hgc)
  have lgr := hG.lt gr (.tail _ hgr)
  have lg := hG.lt g (.tail _ hgs)
  have hhn := hG.task.hn
  have hn2 := hL2.len (by decide)
  have hx2 := hL2.max
  have hsh := fun {L : Lo} {W : World} (w5 : World) (S5 : Sys b0 W L w5) (m1 : (gc, chkO gr q1 q2 d) ∈ L) => shut_any (S5.own _ m1).2
  have hix := fun (hi : i64in (d.plan.close - t.from_)) {L : Lo} {W : World} (w5 : World) (S5 : Sys b0 W L w5) (m0 : (gc, chkO gr q1 q2 d) ∈ L) (m1 : (gr, rulO g r) ∈ L) (m2 : (g, gamO v t gm) ∈ L) => cindex_any (t := t) (S5.own _ m0).2 (S5.own _ m1).2 (S5.own _ m2).2 hi
  have hla := fun {L : Lo} {W : World} (w5 : World) (S5 : Sys b0 W L w5) (m2 : (g, gamO v t gm) ∈ L) => last_any (v := v) (t := t) (gm := gm) (S5.own _ m2).2 ho
  have hidx : d.plan ≠ nev → ∃ i : Nat, d.plan.close - t.from_ = (i : Nat) ∧ (i : Int) ≤ t.last := fun hn => by
    obtain ⟨c1, c2, c3, c4⟩ := may_in (hm hn)
    exact ⟨(d.plan.close - t.from_).toNat, by omega, by omega⟩
  obtain ⟨vp, vf, ⟨Ah, nh, ch'⟩, vr⟩ := v
  simp only at hhn
  subst hhn
  obtain ⟨q2A, q2n, q2c⟩ := q2
  simp only at hn2 hx2
  subst hn2
  obtain ⟨⟨c, o⟩, l1, l2⟩ := d
  simp only at hL2 hidx hx2
  simp only [chkO, chkC, decC, svV, rulO, rulC, gamO, gamC] at S0
  refine enterL Try.func70 rfl Try.ntmps70 rfl (S0) ?_; simp only [frame, Nat.zero_add, Nat.reduceAdd]
  refine XC.hint 0 2 ?_
  repeat (first | (refine M0 ?_; first | refine SL ?_ | refine SB fun _ _ => ?_ | refine Y4 (Ev.call (f := 91) (ck rfl) rfl (fun w5 S5 => hsh w5 S5 (.head _))) ?_) | (refine M1 ?_; refine SC ?_) | (refine M2 ?_; refine SE ?_))
  refine XC.cutn [0] rfl (fun _ : World => [(2, .int .i64 (t.manyI ⟨⟨c, o⟩, l1, l2⟩))]) (fun _ => [(gc, cel 137 (chkC gr q1 ⟨q2A, l2.length, q2c⟩ ⟨⟨c, o⟩, l1, l2⟩)), (gr, rulO g r), (g, gamO ⟨vp, vf, ⟨Ah, t.m, ch'⟩, vr⟩ t gm)]) (fun z => z) (fun z => Gam t ⟨vp, vf, ⟨Ah, t.m, ch'⟩, vr⟩ b0 g gm ks [] [] z ∧ Since w gm z) ?_ ?_
  · by_cases hn : (⟨c, o⟩ : CPl) = nev
    · rw [show decide ((⟨c, o⟩ : CPl) ≠ nev) = false from decide_eq_false fun h => h hn]
      have e1 : t.manyI ⟨⟨c, o⟩, l1, l2⟩ = 0 := by unfold CTk.manyI; rw [if_pos hn]
      rw [e1]
      repeat (first | (refine M0 ?_; first | refine SL ?_ | refine SB fun _ _ => ?_) | (refine M1 ?_; refine SC ?_) | (refine M2 ?_; refine SE ?_))
      exact XE.leafW (fun z9 S9 => ⟨z9, ⟨hG.on (ks := ks) S9 (.tail _ (.tail _ (.head _))) ZZMK (fun x hx => List.mem_append_right _ hx) hgs (fun x hx => hx), Since.end2 hG Since.refl S9 ZZMK (own3 hg hr hc ZZO4)⟩, ZZSUB, S9.rebase ZZSM⟩)
    · rw [show decide ((⟨c, o⟩ : CPl) ≠ nev) = true from decide_eq_true hn]
      obtain ⟨i, hi, hil⟩ := hidx hn
      have hix := @hix (by unfold i64in; simp only; omega)
      simp only [hi] at hix
      have e1 : t.manyI ⟨⟨c, o⟩, l1, l2⟩ = t.last - (i : Nat) := by unfold CTk.manyI; rw [if_neg hn]; simp only; rw [hi]
      rw [e1]
      repeat (first | (refine M0 ?_; first | refine SL ?_ | refine SB fun _ _ => ?_ | refine Y4 (Ev.load_loc tok 1 (g := gr) (o := 0) rfl rfl rfl rfl) ?_ | refine Y4 (Ev.call (f := 49) (ck rfl) rfl (fun w5 S5 => hla w5 S5 (.tail _ (.tail _ (.head _))))) ?_ | refine Y4 (Ev.call (f := 92) (ck rfl) rfl (fun w5 S5 => hix w5 S5 (.head _) (.tail _ (.head _)) (.tail _ (.tail _ (.head _))))) ?_) | (refine M1 ?_; refine SC ?_) | (refine M2 ?_; refine SE ?_))
      exact XE.leafW (fun z9 S9 => ⟨z9, ⟨hG.on (ks := ks) S9 (.tail _ (.tail _ (.head _))) ZZMK (fun x hx => List.mem_append_right _ hx) hgs (fun x hx => hx), Since.end2 hG Since.refl S9 ZZMK (own3 hg hr hc ZZO4)⟩, ZZSUB, S9.rebase ZZSM⟩)
  rintro z ⟨hGz, hSz⟩
  simp only [chkC, decC, svV, rulO, rulC, gamO, gamC]
  dsimp only [List.cons_append, List.nil_append]
  repeat (first | (refine M0 ?_; first | refine SL ?_ | refine SB fun _ _ => ?_) | (refine M1 ?_; refine SC ?_) | (refine M2 ?_; refine SE ?_))
  have hgz := hGz.game
  have hrz := hSz.keep hr hrm
  have hcz := hSz.keep hc hcm
  by_cases hmn : (l2.length : Int) = t.manyI ⟨⟨c, o⟩, l1, l2⟩
  rotate_left
  · rw [show decide ((l2.length : Int) = t.manyI ⟨⟨c, o⟩, l1, l2⟩) = false from decide_eq_false hmn]
    refine XL.callM false (refV 0 2) (ck rfl) rfl rfl (fun w _ => must_any _ _ _ w) (fun h => by cases h) (fun _ => ?_)
    refine ⟨fun a w' hf S => And.intro hf.defers ?_⟩
    have e1 : t.latE ⟨⟨c, o⟩, l1, l2⟩ = .panicked (pan (refV 0 2)) := by unfold CTk.latE; rw [if_pos hmn]
    rw [e1]
    exact GamE.of (GamR.end2 (kk := []) (R := fun _ _ => True) (x := .nilFunc) hGz hSz S (.tail _ (.tail _ (.head _))) trivial ZZHM (own3 hgz hrz hcz ZZO4))
  rw [show decide ((l2.length : Int) = t.manyI ⟨⟨c, o⟩, l1, l2⟩) = true from decide_eq_true hmn]
  refine XL.callM true (refV 0 2) (ck rfl) rfl rfl (fun w _ => must_any _ _ _ w) (fun _ => ?_) (fun h => by cases h)
  repeat (first | (refine M0 ?_; first | refine SL ?_ | refine SB fun _ _ => ?_) | (refine M1 ?_; refine SC ?_) | (refine M2 ?_; refine SE ?_))
  refine XC.loopk [0, 32, 33] rfl (fun z : Nat × World => [(34, .int .i64 (z.1 : Nat))]) (fun _ => [(gc, cel 137 (chkC gr q1 ⟨q2A, l2.length, q2c⟩ ⟨⟨c, o⟩, l1, l2⟩)), (gr, rulO g r), (g, gamO ⟨vp, vf, ⟨Ah, t.m, ch'⟩, vr⟩ t gm)]) (fun z => z.2)
    (fun z => z.1 ≤ l2.length ∧ Gam t ⟨vp, vf, ⟨Ah, t.m, ch'⟩, vr⟩ b0 g gm ks [] [] z.2 ∧ Since w gm z.2 ∧ ∀ j, j < z.1 → t.rules (c - t.from_ + 1 + (j : Nat)) (l2[j]?.getD (0, 0)) = true) (fun z => l2.length - z.1) (0, z) ⟨Nat.zero_le _, hGz, hSz, fun j hj => absurd hj (by simp)⟩ ZZSUB (fun _ h => h) ?_
  rintro ⟨k, W⟩ ⟨hk, hGW, hSW, hno⟩
  simp only at hk hGW hSW hno
  have hgW := hGW.game
  have hrW := hSW.keep hr hrm
  have hcW := hSW.keep hc hcm
  have hzW := hSW.size
  have hBW : Below b0 w W := hSW.below hG.bm hb0
  simp only [chkC, decC, svV, rulO, rulC, gamO, gamC]
  dsimp only [List.cons_append, List.nil_append]
  repeat (first | (refine M0 ?_; first | refine SL ?_ | refine SB fun _ _ => ?_) | (refine M1 ?_; refine SC ?_) | (refine M2 ?_; refine SE ?_))
  refine XC.cond _ rfl (fun h1 => ?_) (fun h1 => ?_)
  rotate_left
  · have hkm : k = l2.length := by have := of_decide_eq_false h1; omega
    subst hkm
    repeat (first | (refine M0 ?_; first | refine SL ?_ | refine SB fun _ _ => ?_) | (refine M1 ?_; refine SC ?_) | (refine M2 ?_; refine SE ?_))
    refine XE.end0 Try.results70 fun w' S => ?_
    have e1 : t.latE ⟨⟨c, o⟩, l1, l2⟩ = .returned (.tuple #[]) := by
      unfold CTk.latE
      rw [if_neg (fun h => h hmn)]
      simp only
      rw [firstB_none.2 fun j hj => by rw [hno j hj]; rfl]
    rw [e1]
    exact GamE.of (GamR.end2 (kk := []) (R := fun _ _ => True) (x := .nilFunc) hGW hSW S (.tail _ (.tail _ (.head _))) trivial ZZHM (own3 hgW hrW hcW ZZO4))
  have hkl : k < l2.length := by have := of_decide_eq_true h1; omega
  have hn : ¬ (⟨c, o⟩ : CPl) = nev := fun h => by
    unfold CTk.manyI at hmn
    rw [if_pos h] at hmn
    omega
  obtain ⟨i, hi, hil⟩ := hidx hn
  have hik : (i : Int) + 1 + (k : Nat) ≤ t.last := by
    unfold CTk.manyI at hmn
    rw [if_neg hn] at hmn
    simp only at hmn
    omega
  have hix := @hix (by unfold i64in; simp only; omega)
  simp only [hi] at hix
  have hL2W := hL2.below hBW
  obtain ⟨ad, rfl, hlt⟩ := hL2.addr (by decide) (by omega)
  obtain ⟨⟨pa, pb⟩, hpe⟩ : ∃ x, l2[k]? = some x := ⟨_, List.getElem?_eq_getElem hkl⟩
  have hel := hL2W.elem hpe
  have hbad : t.rules (c - t.from_ + 1 + (k : Nat)) (pa, pb) = false → t.latE ⟨⟨c, o⟩, l1, l2⟩ = .panicked (pan (refV (k : Nat) 153)) := fun h => by
    unfold CTk.latE
    rw [if_neg (fun h => h hmn)]
    simp only
    rw [firstB_some.2 ⟨hkl, by rw [hpe]; simp only [Option.getD_some]; rw [h]; rfl, fun j hj => by rw [hno j hj]; rfl⟩]
  have hrul : t.rules (c - t.from_ + 1 + (k : Nat)) (pa, pb) = (!outB pa 0 ((t.m : Int) - 1) && (!outB pb t.from_ (t.from_ + t.n - 1) && t.above pa.toNat (t.plan ((i : Int) + 1 + (k : Nat))) (pb - t.from_).toNat)) := by
    unfold CTk.rules
    rw [hi]
  repeat (first | (refine M0 ?_; first | refine SL ?_ | refine SB fun _ _ => ?_ | refine Y4 (Ev.load_old_agg tok [.int .i64 pa, .int .i64 pb] rfl rfl rfl (add_lt hlt) hel) ?_) | (refine M1 ?_; refine SC ?_) | (refine M2 ?_; refine SE ?_))
  rename_i g4 hg4
  refine XC.drawT mixed rfl rfl (by kernel_rfl) ?_
  cases hb1 : outB pa 0 ((t.m : Int) - 1) with
  | true =>
    rw [hb1] at hrul
    repeat (first | (refine M0 ?_; first | refine SL ?_ | refine SB fun _ _ => ?_ | refine Y4 (Ev.load_loc tok 1 (g := gc) (o := 0) rfl rfl rfl rfl) ?_ | refine Y4 (Ev.load_loc tok 2 (g := gr) (o := 0) rfl rfl rfl rfl) ?_ | refine Y4 (Ev.load_loc tok 3 (g := g) (o := 6) rfl rfl rfl rfl) ?_ | refine Y4 (Ev.call (f := 37) (ck rfl) rfl (fun w S => cout_any _ _ _ w)) ?_) | (refine M2 ?_; refine SE ?_) | (refine M3 ?_; first | refine SG ?_ | refine SF ?_ | refine YF (Ev.load_loc tok 1 (g := gc) (o := 0) rfl rfl rfl rfl) ?_ | refine YF (Ev.load_loc tok 2 (g := gr) (o := 0) rfl rfl rfl rfl) ?_ | refine YF (Ev.load_loc tok 3 (g := g) (o := 6) rfl rfl rfl rfl) ?_ | refine YF (Ev.call (f := 37) (ck rfl) rfl (fun w S => cout_any _ _ _ w)) ?_) | (refine M4 ?_; refine SR ?_) | (refine M5 ?_; first | exact M7 | refine YM ?_ | refine YN ?_ ?_))
    rw [hb1]
    repeat (first | (refine M0 ?_; first | refine SL ?_ | refine SB fun _ _ => ?_) | (refine M2 ?_; refine SE ?_) | (refine M3 ?_; first | refine SG ?_ | refine SF ?_) | (refine M4 ?_; refine SR ?_) | (refine M5 ?_; first | exact M7 | refine YM ?_ | refine YN ?_ ?_))
    repeat (first | (refine M0 ?_; first | refine SL ?_ | refine SB fun _ _ => ?_) | (refine M1 ?_; refine SC ?_) | (refine M2 ?_; refine SE ?_))
    refine XC.drawT mixed rfl rfl (by kernel_rfl) ?_
    repeat (first | (refine M0 ?_; first | refine SL ?_ | refine SB fun _ _ => ?_) | (refine M2 ?_; refine SE ?_) | (refine M3 ?_; first | refine SG ?_ | refine SF ?_) | (refine M4 ?_; refine SR ?_) | (refine M5 ?_; first | exact M7 | refine YM ?_ | refine YN ?_ ?_))
    refine XL.callM false (refV (k : Nat) 153) (ck rfl) rfl rfl (fun w _ => must_any _ _ _ w) (fun h => by cases h) (fun _ => ?_)
    refine ⟨fun a w' hf S => And.intro hf.defers ?_⟩
    rw [hbad hrul]
    exact GamE.of (GamR.end2 (kk := []) (R := fun _ _ => True) (x := .nilFunc) hGW hSW S (.tail _ (.tail _ (.tail _ (.head _)))) trivial ZZMK (own3 hgW hrW hcW ZZO4))
  | false =>
    cases hb2 : outB pb t.from_ (t.from_ + t.n - 1) with
    | true =>
      rw [hb1, hb2] at hrul
      repeat (first | (refine M0 ?_; first | refine SL ?_ | refine SB fun _ _ => ?_ | refine Y4 (Ev.load_loc tok 1 (g := gc) (o := 0) rfl rfl rfl rfl) ?_ | refine Y4 (Ev.load_loc tok 2 (g := gr) (o := 0) rfl rfl rfl rfl) ?_ | refine Y4 (Ev.load_loc tok 3 (g := g) (o := 6) rfl rfl rfl rfl) ?_ | refine Y4 (Ev.call (f := 37) (ck rfl) rfl (fun w S => cout_any _ _ _ w)) ?_) | (refine M2 ?_; refine SE ?_) | (refine M3 ?_; first | refine SG ?_ | refine SF ?_ | refine YF (Ev.load_loc tok 1 (g := gc) (o := 0) rfl rfl rfl rfl) ?_ | refine YF (Ev.load_loc tok 2 (g := gr) (o := 0) rfl rfl rfl rfl) ?_ | refine YF (Ev.load_loc tok 3 (g := g) (o := 6) rfl rfl rfl rfl) ?_ | refine YF (Ev.call (f := 37) (ck rfl) rfl (fun w S => cout_any _ _ _ w)) ?_) | (refine M4 ?_; refine SR ?_) | (refine M5 ?_; first | exact M7 | refine YM ?_ | refine YN ?_ ?_))
      rw [hb1]
      repeat (first | (refine M0 ?_; first | refine SL ?_ | refine SB fun _ _ => ?_ | refine Y4 (Ev.load_loc tok 0 (g := g4) (o := 1) rfl rfl rfl rfl) ?_ | refine Y4 (Ev.load_loc tok 1 (g := gc) (o := 0) rfl rfl rfl rfl) ?_ | refine Y4 (Ev.load_loc tok 2 (g := gr) (o := 0) rfl rfl rfl rfl) ?_ | refine Y4 (Ev.load_loc tok 3 (g := g) (o := 11) rfl rfl rfl rfl) ?_ | refine Y4 (Ev.load_loc tok 3 (g := g) (o := 12) rfl rfl rfl rfl) ?_ | refine Y4 (Ev.call (f := 37) (ck rfl) rfl (fun w S => cout_any _ _ _ w)) ?_) | (refine M2 ?_; refine SE ?_) | (refine M3 ?_; first | refine SG ?_ | refine SF ?_ | refine YF (Ev.load_loc tok 0 (g := g4) (o := 1) rfl rfl rfl rfl) ?_ | refine YF (Ev.load_loc tok 1 (g := gc) (o := 0) rfl rfl rfl rfl) ?_ | refine YF (Ev.load_loc tok 2 (g := gr) (o := 0) rfl rfl rfl rfl) ?_ | refine YF (Ev.load_loc tok 3 (g := g) (o := 11) rfl rfl rfl rfl) ?_ | refine YF (Ev.load_loc tok 3 (g := g) (o := 12) rfl rfl rfl rfl) ?_ | refine YF (Ev.call (f := 37) (ck rfl) rfl (fun w S => cout_any _ _ _ w)) ?_) | (refine M4 ?_; refine SR ?_) | (refine M5 ?_; first | exact M7 | refine YM ?_ | refine YN ?_ ?_))
      rw [hb2]
      repeat (first | (refine M0 ?_; first | refine SL ?_ | refine SB fun _ _ => ?_) | (refine M2 ?_; refine SE ?_) | (refine M3 ?_; first | refine SG ?_ | refine SF ?_) | (refine M4 ?_; refine SR ?_) | (refine M5 ?_; first | exact M7 | refine YM ?_ | refine YN ?_ ?_))
      repeat (first | (refine M0 ?_; first | refine SL ?_ | refine SB fun _ _ => ?_) | (refine M1 ?_; refine SC ?_) | (refine M2 ?_; refine SE ?_))
      refine XC.drawT mixed rfl rfl (by kernel_rfl) ?_
      repeat (first | (refine M0 ?_; first | refine SL ?_ | refine SB fun _ _ => ?_) | (refine M2 ?_; refine SE ?_) | (refine M3 ?_; first | refine SG ?_ | refine SF ?_) | (refine M4 ?_; refine SR ?_) | (refine M5 ?_; first | exact M7 | refine YM ?_ | refine YN ?_ ?_))
      refine XL.callM false (refV (k : Nat) 153) (ck rfl) rfl rfl (fun w _ => must_any _ _ _ w) (fun h => by cases h) (fun _ => ?_)
      refine ⟨fun a w' hf S => And.intro hf.defers ?_⟩
      rw [hbad hrul]
      exact GamE.of (GamR.end2 (kk := []) (R := fun _ _ => True) (x := .nilFunc) hGW hSW S (.tail _ (.tail _ (.tail _ (.head _)))) trivial ZZMK (own3 hgW hrW hcW ZZO4))
    | false =>
      have hr1 := outB_f.1 hb1
      have hr2 := outB_f.1 hb2
      obtain ⟨hh, rfl⟩ : ∃ hh : Nat, pa = (hh : Nat) := ⟨pa.toNat, by omega⟩
      obtain ⟨aa, haa⟩ : ∃ aa : Nat, pb - t.from_ = (aa : Nat) := ⟨(pb - t.from_).toNat, by omega⟩
      rw [hb1, hb2, haa, Int.toNat_natCast, Int.toNat_natCast] at hrul
      have hhm : hh < t.m := by omega
      have han : aa < t.n := by omega
      have hstk : t.strange (t.plan ((i : Int) + 1 + (k : Nat))) = false := (plan_ok ho (by omega) hik).1
      have hpl := fun {L : Lo} {B : Nat} {W1 : World} (w9 : World) (S9 : Sys B W1 L w9) (hm : (g, gamO ⟨vp, vf, ⟨Ah, t.m, ch'⟩, vr⟩ t gm) ∈ L) => plan_any (v := ⟨vp, vf, ⟨Ah, t.m, ch'⟩, vr⟩) (t := t) (gm := gm) (i := (i : Int) + 1 + (k : Nat)) (S9.own _ hm).2 ho ⟨by omega, by omega⟩
      have hab := fun (w5 : World) (ks2 : List Nat) (hG5 : Gam t ⟨vp, vf, ⟨Ah, t.m, ch'⟩, vr⟩ b0 g gm ks2 [] [] w5) => cabove_any (p := t.plan ((i : Int) + 1 + (k : Nat))) hG5 ho hhm han hstk
      simp only [plnV] at hpl hab
      repeat (first | (refine M0 ?_; first | refine SL ?_ | refine SB fun _ _ => ?_ | refine Y4 (Ev.load_loc tok 1 (g := gc) (o := 0) rfl rfl rfl rfl) ?_ | refine Y4 (Ev.load_loc tok 2 (g := gr) (o := 0) rfl rfl rfl rfl) ?_ | refine Y4 (Ev.load_loc tok 3 (g := g) (o := 6) rfl rfl rfl rfl) ?_ | refine Y4 (Ev.call (f := 37) (ck rfl) rfl (fun w S => cout_any _ _ _ w)) ?_) | (refine M2 ?_; refine SE ?_) | (refine M3 ?_; first | refine SG ?_ | refine SF ?_ | refine YF (Ev.load_loc tok 1 (g := gc) (o := 0) rfl rfl rfl rfl) ?_ | refine YF (Ev.load_loc tok 2 (g := gr) (o := 0) rfl rfl rfl rfl) ?_ | refine YF (Ev.load_loc tok 3 (g := g) (o := 6) rfl rfl rfl rfl) ?_ | refine YF (Ev.call (f := 37) (ck rfl) rfl (fun w S => cout_any _ _ _ w)) ?_) | (refine M4 ?_; refine SR ?_) | (refine M5 ?_; first | exact M7 | refine YM ?_ | refine YN ?_ ?_))
      rw [hb1]
      repeat (first | (refine M0 ?_; first | refine SL ?_ | refine SB fun _ _ => ?_ | refine Y4 (Ev.load_loc tok 0 (g := g4) (o := 1) rfl rfl rfl rfl) ?_ | refine Y4 (Ev.load_loc tok 1 (g := gc) (o := 0) rfl rfl rfl rfl) ?_ | refine Y4 (Ev.load_loc tok 2 (g := gr) (o := 0) rfl rfl rfl rfl) ?_ | refine Y4 (Ev.load_loc tok 3 (g := g) (o := 11) rfl rfl rfl rfl) ?_ | refine Y4 (Ev.load_loc tok 3 (g := g) (o := 12) rfl rfl rfl rfl) ?_ | refine Y4 (Ev.call (f := 37) (ck rfl) rfl (fun w S => cout_any _ _ _ w)) ?_) | (refine M2 ?_; refine SE ?_) | (refine M3 ?_; first | refine SG ?_ | refine SF ?_ | refine YF (Ev.load_loc tok 0 (g := g4) (o := 1) rfl rfl rfl rfl) ?_ | refine YF (Ev.load_loc tok 1 (g := gc) (o := 0) rfl rfl rfl rfl) ?_ | refine YF (Ev.load_loc tok 2 (g := gr) (o := 0) rfl rfl rfl rfl) ?_ | refine YF (Ev.load_loc tok 3 (g := g) (o := 11) rfl rfl rfl rfl) ?_ | refine YF (Ev.load_loc tok 3 (g := g) (o := 12) rfl rfl rfl rfl) ?_ | refine YF (Ev.call (f := 37) (ck rfl) rfl (fun w S => cout_any _ _ _ w)) ?_) | (refine M4 ?_; refine SR ?_) | (refine M5 ?_; first | exact M7 | refine YM ?_ | refine YN ?_ ?_))
      rw [hb2]
      repeat (first | (refine M0 ?_; first | refine SL ?_ | refine SB fun _ _ => ?_) | (refine M2 ?_; refine SE ?_) | (refine M3 ?_; first | refine SG ?_ | refine SF ?_) | (refine M4 ?_; refine SR ?_) | (refine M5 ?_; first | exact M7 | refine YM ?_ | refine YN ?_ ?_))
      repeat (first | (refine M0 ?_; first | refine SL ?_ | refine SB fun _ _ => ?_) | (refine M1 ?_; refine SC ?_) | (refine M2 ?_; refine SE ?_))
      refine XC.drawRT (trunc w b0) [(g4, cel 88 [.int .i64 (hh : Nat), .int .i64 pb]), (gc, cel 137 [.pointer (some ⟨gr, 0, none⟩), .int .i64 c, .int .i64 o, .slice q1.A q1.n q1.c, .slice (some ad) l2.length q2c]), (gr, rulO g r), (g, gamO ⟨vp, vf, ⟨Ah, t.m, ch'⟩, vr⟩ t gm)] [0, 1, 2, 3, 4, 5, 6, 7, 8, 9, 10, 11, 12, 13, 14, 15, 16, 17, 18, 21, 24, 25, 26, 27, 28, 29, 30, 31, 32, 33, 34, 35, 36, 39] [19, 20, 22, 23, 37, 38] mixed (fun _ h => Sys.anchorT hBW h (by intro e he; repeat (first | (cases he; done) | (rcases List.mem_cons.1 he with rfl | he; · repeat (first | exact List.mem_cons_self | apply List.mem_cons_of_mem)))) (by simp [n1, n2, n3]; omega) hb0) rfl rfl (by kernel_rfl) rfl (by kernel_rfl) ?_
      repeat (first | (refine M0 ?_; first | refine SL ?_ | refine SB fun _ _ => ?_ | refine Y4 (Ev.load_loc tok 0 (g := g4) (o := 0) rfl rfl rfl rfl) ?_ | refine Y4 (Ev.load_loc tok 0 (g := g4) (o := 1) rfl rfl rfl rfl) ?_ | refine Y4 (Ev.load_loc tok 1 (g := gc) (o := 0) rfl rfl rfl rfl) ?_ | refine Y4 (Ev.load_loc tok 2 (g := gr) (o := 0) rfl rfl rfl rfl) ?_ | refine Y4 (Ev.load_loc tok 3 (g := g) (o := 11) rfl rfl rfl rfl) ?_ | refine Y4 (Ev.call (f := 92) (ck rfl) rfl (fun w5 S5 => hix w5 S5 (.tail _ (.head _)) (.tail _ (.tail _ (.head _))) (.tail _ (.tail _ (.tail _ (.head _)))))) ?_) | (refine M2 ?_; refine SE ?_) | (refine M3 ?_; first | refine SG ?_ | refine SF ?_ | refine YF (Ev.load_loc tok 0 (g := g4) (o := 0) rfl rfl rfl rfl) ?_ | refine YF (Ev.load_loc tok 0 (g := g4) (o := 1) rfl rfl rfl rfl) ?_ | refine YF (Ev.load_loc tok 1 (g := gc) (o := 0) rfl rfl rfl rfl) ?_ | refine YF (Ev.load_loc tok 2 (g := gr) (o := 0) rfl rfl rfl rfl) ?_ | refine YF (Ev.load_loc tok 3 (g := g) (o := 11) rfl rfl rfl rfl) ?_ | refine YF (Ev.call (f := 92) (ck rfl) rfl (fun w5 S5 => hix w5 S5 (.tail _ (.head _)) (.tail _ (.tail _ (.head _))) (.tail _ (.tail _ (.tail _ (.head _)))))) ?_) | (refine M4 ?_; refine SR ?_) | (refine M5 ?_; first | exact M7 | refine YM ?_ | refine YN ?_ ?_))
      rw [haa]
      refine z7 ?_
      repeat (first | (refine M0 ?_; first | refine SL ?_ | refine SB fun _ _ => ?_) | (refine M2 ?_; refine SE ?_) | (refine M3 ?_; first | refine SG ?_ | refine SF ?_) | (refine M4 ?_; refine SR ?_) | (refine M5 ?_; first | exact M7 | refine YM ?_ | refine YN ?_ ?_))
      refine z7 ?_
      repeat (first | (refine M0 ?_; first | refine SL ?_ | refine SB fun _ _ => ?_) | (refine M2 ?_; refine SE ?_) | (refine M3 ?_; first | refine SG ?_ | refine SF ?_) | (refine M4 ?_; refine SR ?_) | (refine M5 ?_; first | exact M7 | refine YM ?_ | refine YN ?_ ?_))
      refine z7 ?_
      repeat (first | (refine M0 ?_; first | refine SL ?_ | refine SB fun _ _ => ?_ | refine Y4 (Ev.call (f := 50) (ck rfl) rfl (fun w5 S5 => hpl w5 S5 (.tail _ (.tail _ (.tail _ (.head _)))))) ?_) | (refine M2 ?_; refine SE ?_) | (refine M3 ?_; first | refine SG ?_ | refine SF ?_ | refine YF (Ev.call (f := 50) (ck rfl) rfl (fun w5 S5 => hpl w5 S5 (.tail _ (.tail _ (.tail _ (.head _)))))) ?_) | (refine M4 ?_; refine SR ?_) | (refine M5 ?_; first | exact M7 | refine YM ?_ | refine YN ?_ ?_))
      refine z7 ?_
      repeat (first | (refine M0 ?_; first | refine SL ?_ | refine SB fun _ _ => ?_) | (refine M2 ?_; refine SE ?_) | (refine M3 ?_; first | refine SG ?_ | refine SF ?_) | (refine M4 ?_; refine SR ?_) | (refine M5 ?_; first | exact M7 | refine YM ?_ | refine YN ?_ ?_))
      refine XL.callI (BoolR (t.above hh (t.plan ((i : Int) + 1 + (k : Nat))) aa)) (ck rfl) rfl rfl hGW hSW (.tail _ (.tail _ (.tail _ (.head _)))) (fun w5 ks2 _ _ hG5 => hab w5 ks2 hG5) (fun w5 x new hR hG5 hS5 => ?_) ZZMK (own3 hgW hrW hcW ZZO4)
      obtain ⟨rfl, rfl⟩ := hR
      have hz5 := hS5.size
      have hB5 : Below b0 w w5 := hS5.below hG.bm hb0
      have hg5 := hG5.game
      have hr5 := hS5.keep hr hrm
      have hc5 := hS5.keep hc hcm
      repeat (first | (refine M0 ?_; first | refine SL ?_ | refine SB fun _ _ => ?_) | (refine M2 ?_; refine SE ?_) | (refine M3 ?_; first | refine SG ?_ | refine SF ?_) | (refine M4 ?_; refine SR ?_) | (refine M5 ?_; first | exact M7 | refine YM ?_ | refine YN ?_ ?_))
      refine z7 ?_
      repeat (first | (refine M0 ?_; first | refine SL ?_ | refine SB fun _ _ => ?_) | (refine M2 ?_; refine SE ?_) | (refine M3 ?_; first | refine SG ?_ | refine SF ?_) | (refine M4 ?_; refine SR ?_) | (refine M5 ?_; first | exact M7 | refine YM ?_ | refine YN ?_ ?_))
      refine z7 ?_
      repeat (first | (refine M0 ?_; first | refine SL ?_ | refine SB fun _ _ => ?_) | (refine M2 ?_; refine SE ?_) | (refine M3 ?_; first | refine SG ?_ | refine SF ?_) | (refine M4 ?_; refine SR ?_) | (refine M5 ?_; first | exact M7 | refine YM ?_ | refine YN ?_ ?_))
      refine XE.lastZ (fun _ _ h => h) ?_
      cases hbv : t.above hh (t.plan ((i : Int) + 1 + (k : Nat))) aa with
      | true =>
        rw [hbv] at hrul
        refine XL.callM true (refV (k : Nat) 153) (ck rfl) rfl rfl (fun w _ => must_any _ _ _ w) (fun _ => ?_) (fun h => by cases h)
        repeat (first | (refine M0 ?_; first | refine SL ?_ | refine SB fun _ _ => ?_) | (refine M1 ?_; refine SC ?_) | (refine M2 ?_; refine SE ?_))
        refine XE.roundW (s := (k, W)) (fun w9 S9 => ⟨(k + 1, w9), ⟨hkl, hG5.on (ks := ks) S9 (by repeat (first | exact List.mem_cons_self | apply List.mem_cons_of_mem)) ZZMK (fun x hx => List.mem_append_right _ (List.mem_append_right _ hx)) hgs (fun x hx => hx), Since.end2 hG5 hS5 S9 ZZMK (own3 hg5 hr5 hc5 ZZO4), fun j hj => ?_⟩, by simp only; omega, ZZSUB, S9.rebase ZZSM⟩)
        rcases Nat.lt_or_ge j k with h2 | h2
        · exact hno j h2
        · have : j = k := by omega
          subst this
          rw [hpe]
          exact hrul
      | false =>
        rw [hbv] at hrul
        refine XL.callM false (refV (k : Nat) 153) (ck rfl) rfl rfl (fun w _ => must_any _ _ _ w) (fun h => by cases h) (fun _ => ?_)
        refine ⟨fun a w' hf S => And.intro hf.defers ?_⟩
        rw [hbad hrul]
        exact GamE.of (GamR.end2 (kk := _) (R := fun _ _ => True) (x := .nilFunc) hG5 hS5 S (.tail _ (.tail _ (.tail _ (.head _)))) trivial ZZMK (own3 hg5 hr5 hc5 ZZO4))
      any_goals (repeat (first | exact AnyR.nil | refine AnyR.skip rfl ?_))
end
end Go.Proofs.Ytmpaiphakjogjaa.X
/-
  The walk of Accept's deferred function (closure).
-/
namespace Go.Proofs.Ytmpaiphakjogjaa.X
open Go Go.RowKit Go.Proofs.Ytmpaiphakjogjaa.Bs
set_option linter.unusedVariables false
theorem any_if5 : isIf (Try.prog.underlying 20) = true := by kernel_rfl
section
variable {w : World} {b g6 g7 : Nat} {x y : Int}
/-- a frame that returns: nothing is recovered. -/
theorem catch_ret (hb : b ≤ w.heap.size) (h6 : w.heap[g6]? = some (cel 3 [.int .i64 x])) (h7 : w.heap[g7]? = some (cel 30 [.int .i64 y])) (b6 : b ≤ g6) (b7 : b ≤ g7) (hne : g6 ≠ g7) :
    CallsD Try.prog 65 #[.pointer (some ⟨g6, 0, none⟩), .pointer (some ⟨g7, 0, none⟩)] .returning w fun en u' w' => (∃ v, en = .returned v) ∧ u' = .returning ∧ Sys b w [(g6, cel 3 [.int .i64 x]), (g7, cel 30 [.int .i64 y])] w' := by
  have S0 := Sys.start2 b6 b7 h6 h7 hne
  refine enterRec Try.func65 rfl Try.ntmps65 rfl rfl S0 recR ?_
  simp only [frame, Nat.zero_add, Nat.reduceAdd]
  repeat (first | (refine M0 ?_; first | refine SL ?_ | refine SB fun _ _ => ?_ | refine Y4 (Ev.ifEql rfl rfl any_if5) ?_) | (refine M1 ?_; refine SC ?_) | (refine M2 ?_; refine SE ?_))
  exact XE.end0 Try.results65 fun w' S => ⟨⟨_, rfl⟩, trivial, S⟩
theorem catch_ref {i e : Int} (hb : b ≤ w.heap.size) (h6 : w.heap[g6]? = some (cel 3 [.int .i64 x])) (h7 : w.heap[g7]? = some (cel 30 [.int .i64 y])) (b6 : b ≤ g6) (b7 : b ≤ g7) (hne : g6 ≠ g7) :
    CallsD Try.prog 65 #[.pointer (some ⟨g6, 0, none⟩), .pointer (some ⟨g7, 0, none⟩)] (.panicking (pan (refV i e))) w fun en u' w' => (∃ v, en = .returned v) ∧ settle u' = .returning ∧ Sys b w [(g6, cel 3 [.int .i64 i]), (g7, cel 30 [.int .i64 e])] w' := by
  have S0 := Sys.start2 b6 b7 h6 h7 hne
  have l6 := (Array.getElem?_eq_some_iff.1 h6).1
  have l7 := (Array.getElem?_eq_some_iff.1 h7).1
  refine enterRec Try.func65 rfl Try.ntmps65 rfl rfl S0 recP ?_
  simp only [frame, Nat.zero_add, Nat.reduceAdd, refV]
  refine XC.hint 0 1 (XC.hint 1 0 ?_)
  repeat (first | (refine M0 ?_; first | refine SL ?_ | refine SB fun _ _ => ?_ | refine Y4 (Ev.ifEql rfl rfl any_if5) ?_ | refine Y4 (Ev.assertOk rfl ref_con tok rfl (.tuple ⟨[.agg ⟨[.int .i64 i, .int .i64 e]⟩, .bool true]⟩) rfl) ?_) | (refine M1 ?_; refine SC ?_) | (refine M2 ?_; refine SE ?_))
  rename_i g3 hg3
  have hBw : Below b w w := Below.refl b w
  refine XC.drawRS (trunc w b) [(g3, cel 134 [.int .i64 i, .int .i64 e])] [0, 1, 2, 3] [4, 5] mixed (fun _ h => Sys.anchorT hBw h (fun e he => by rw [List.mem_singleton.1 he]; exact .head _) (by simp) hb) rfl (by kernel_rfl) ?_
  repeat (first | (refine M0 ?_; first | refine SL ?_ | refine SB fun _ _ => ?_ | refine Y4 (Ev.load_loc tok 0 (g := g3) (o := 0) rfl rfl rfl rfl) ?_ | refine Y4 (Ev.load_loc tok 0 (g := g3) (o := 1) rfl rfl rfl rfl) ?_) | (refine M2 ?_; refine SE ?_) | (refine M3 ?_; first | refine SG ?_ | refine SF ?_ | refine YF (Ev.load_loc tok 0 (g := g3) (o := 0) rfl rfl rfl rfl) ?_ | refine YF (Ev.load_loc tok 0 (g := g3) (o := 1) rfl rfl rfl rfl) ?_) | (refine M4 ?_; refine SR ?_) | (refine M5 ?_; first | exact M7 | refine YM ?_ | refine YN ?_ ?_))
  repeat (any_goals (first | (refine M0 ?_; first | refine SL ?_ | refine SB fun _ _ => ?_) | (refine M1 ?_; refine SC ?_) | (refine M2 ?_; first | refine SE ?_ | ((with_reducible refine atHeld ?_); refine z7 ?_)) | (refine M3 ?_; first | refine SG ?_ | refine SF ?_) | (refine M4 ?_; refine SR ?_) | (refine M5 ?_; first | exact M7 | refine YM ?_ | refine YN ?_ ?_)))
  any_goals (repeat (first | exact AnyR.nil | refine AnyR.skip rfl ?_))
  all_goals
    exact XE.end0 Try.results65 fun w' S => ⟨⟨_, rfl⟩, rfl, S.pick (fun e he => by simp only [List.mem_cons, List.not_mem_nil, or_false] at he; rcases he with rfl | rfl <;> simp) (by simp [hne]) (fun e he => by simp only [List.mem_cons, List.not_mem_nil, or_false] at he; rcases he with rfl | rfl | rfl <;> simp [hg3])⟩
end
end Go.Proofs.Ytmpaiphakjogjaa.X
/-
  The walk of Accept (closure).
-/
namespace Go.Proofs.Ytmpaiphakjogjaa.X
open Go Go.RowKit Go.Proofs.Ytmpaiphakjogjaa.Bs
set_option linter.unusedVariables false
section
variable {t : CTk} {v : CTV} {r : CRu} {b0 g gm : Nat} {ks : List Nat} {w w' : World} {d : CDe}
theorem GamE.ofBelow {e e0 : Ending} (hG : Gam t v b0 g gm ks [] [] w) (h : e = e0 ∧ Below w.heap.size w w') : GamE t b0 gm ks e0 w e w' :=
  ⟨h.1, Since.refl.made h.2, (hG.made (new := []) h.2 (fun x hx => by cases hx)).memo⟩
theorem acc_form (h : ruE t r = 0) (hb : (!t.strange d.plan && decide (d.peaks.length = t.m)) = false) : t.acc r d = (0, 2) := by
  unfold CTk.acc
  rw [if_neg (by simp [h]), if_pos]
  cases hs : t.strange d.plan with
  | true => exact .inl rfl
  | false =>
    rw [hs] at hb
    right
    simpa using hb
theorem acc_early (h : ruE t r = 0) (hs : t.strange d.plan = false) (hl : d.peaks.length = t.m) (hb : t.earB r d = false) : t.acc r d = (0, 150) := by
  unfold CTk.acc
  rw [if_neg (by simp [h]), if_neg (by simp [hs, hl]), if_pos]
  unfold CTk.earB at hb
  by_cases hn : d.plan = nev
  · rw [if_pos hn] at hb ⊢; simpa using hb
  · rw [if_neg hn] at hb ⊢; simpa using hb
theorem acc_3 (h : ruE t r = 0) (hs : t.strange d.plan = false) (hl : d.peaks.length = t.m) (hb : t.earB r d = true) : t.acc r d = (if d.plan ≠ nev ∧ (d.plan ≠ t.plan (d.plan.close - t.from_) ∨ t.wit (d.plan.close - t.from_) ≠ none) then (0, 151) else
  match firstB (fun k => decide (d.peaks[k]?.getD (0, 0) ≠ t.peak d.plan k)) t.m with
  | some k => (((k : Nat) : Int), (152 : Int))
  | none =>
    if (d.later.length : Int) ≠ (if d.plan = nev then 0 else t.last - (d.plan.close - t.from_)) then (0, 2) else
    match firstB (fun k => !t.rules (d.plan.close - t.from_ + 1 + (k : Nat)) (d.later[k]?.getD (0, 0))) d.later.length with
    | some k => (((k : Nat) : Int), 153)
    | none => (0, 0)) := by
  unfold CTk.acc
  rw [if_neg (by simp [h]), if_neg (by simp [hs, hl]), if_neg]
  · rfl
  unfold CTk.earB at hb
  by_cases hn : d.plan = nev
  · rw [if_pos hn] at hb ⊢; simpa using hb
  · rw [if_neg hn] at hb ⊢; simpa using hb
theorem hlds_t (hb : t.hldsB d = true) : ¬ (d.plan ≠ nev ∧ (d.plan ≠ t.plan (d.plan.close - t.from_) ∨ t.wit (d.plan.close - t.from_) ≠ none)) := by
  unfold CTk.hldsB at hb
  simp only [Bool.or_eq_true, Bool.and_eq_true, decide_eq_true_eq, Bool.not_eq_true', Option.isSome_eq_false_iff, Option.isNone_iff_eq_none] at hb
  rintro ⟨h1, h2⟩
  rcases hb with hb | hb
  · exact h1 hb
  · rcases h2 with h2 | h2
    · exact h2 hb.1
    · exact h2 hb.2
theorem hlds_f (hb : t.hldsB d = false) : d.plan ≠ nev ∧ (d.plan ≠ t.plan (d.plan.close - t.from_) ∨ t.wit (d.plan.close - t.from_) ≠ none) := by
  refine Classical.byContradiction fun h => ?_
  have : t.hldsB d = true := by
    unfold CTk.hldsB
    by_cases hn : d.plan = nev
    · simp [hn]
    · have h1 : d.plan = t.plan (d.plan.close - t.from_) := Decidable.byContradiction fun h2 => h ⟨hn, .inl h2⟩
      have h2 : t.wit (d.plan.close - t.from_) = none := Classical.byContradiction fun h2 => h ⟨hn, .inr h2⟩
      simp only [Bool.or_eq_true, Bool.and_eq_true, decide_eq_true_eq]
      exact .inr ⟨h1, by rw [h2]; rfl⟩
  rw [hb] at this; cases this
theorem acc_holds (h : ruE t r = 0) (hs : t.strange d.plan = false) (hl : d.peaks.length = t.m) (hb : t.earB r d = true) (hh : t.hldsB d = false) : t.acc r d = (0, 151) := by
  rw [acc_3 h hs hl hb, if_pos (hlds_f hh)]
theorem acc_heights (h : ruE t r = 0) (hs : t.strange d.plan = false) (hl : d.peaks.length = t.m) (hb : t.earB r d = true) (hh : t.hldsB d = true) {k : Nat} (hk : firstB (fun k => decide (d.peaks[k]?.getD (0, 0) ≠ t.peak d.plan k)) t.m = some k) : t.acc r d = (((k : Nat) : Int), 152) := by
  rw [acc_3 h hs hl hb, if_neg (hlds_t hh), hk]
theorem acc_many (h : ruE t r = 0) (hs : t.strange d.plan = false) (hl : d.peaks.length = t.m) (hb : t.earB r d = true) (hh : t.hldsB d = true) (hk : firstB (fun k => decide (d.peaks[k]?.getD (0, 0) ≠ t.peak d.plan k)) t.m = none) (hm : (d.later.length : Int) ≠ t.manyI d) : t.acc r d = (0, 2) := by
  rw [acc_3 h hs hl hb, if_neg (hlds_t hh), hk]
  simp only
  unfold CTk.manyI at hm
  rw [if_pos hm]
theorem acc_later (h : ruE t r = 0) (hs : t.strange d.plan = false) (hl : d.peaks.length = t.m) (hb : t.earB r d = true) (hh : t.hldsB d = true) (hk : firstB (fun k => decide (d.peaks[k]?.getD (0, 0) ≠ t.peak d.plan k)) t.m = none) (hm : ¬ (d.later.length : Int) ≠ t.manyI d) {k : Nat}
    (hf : firstB (fun k => !t.rules (d.plan.close - t.from_ + 1 + (k : Nat)) (d.later[k]?.getD (0, 0))) d.later.length = some k) : t.acc r d = (((k : Nat) : Int), 153) := by
  rw [acc_3 h hs hl hb, if_neg (hlds_t hh), hk]
  simp only
  unfold CTk.manyI at hm
  rw [if_neg hm, hf]
theorem acc_ok (h : ruE t r = 0) (hs : t.strange d.plan = false) (hl : d.peaks.length = t.m) (hb : t.earB r d = true) (hh : t.hldsB d = true) (hk : firstB (fun k => decide (d.peaks[k]?.getD (0, 0) ≠ t.peak d.plan k)) t.m = none) (hm : ¬ (d.later.length : Int) ≠ t.manyI d)
    (hf : firstB (fun k => !t.rules (d.plan.close - t.from_ + 1 + (k : Nat)) (d.later[k]?.getD (0, 0))) d.later.length = none) : t.acc r d = (0, 0) := by
  rw [acc_3 h hs hl hb, if_neg (hlds_t hh), hk]
  simp only
  unfold CTk.manyI at hm
  rw [if_neg hm, hf]
theorem form_t {a : Bool} {n m : Nat} (h : (!a && decide (n = m)) = true) : a = false ∧ n = m := by
  simp only [Bool.and_eq_true, Bool.not_eq_true', decide_eq_true_eq] at h
  exact h
theorem ear_may (h : t.earB r d = true) : d.plan ≠ nev → t.may r (d.plan.close - t.from_) = true := fun hn => by
  unfold CTk.earB at h
  rw [if_neg hn] at h
  exact h
theorem mustE_ret {b : Bool} {v x : Value} (h : mustE b v = .returned x) : b = true := by
  cases b with
  | true => rfl
  | false => cases h
theorem mustE_pan {b : Bool} {v : Value} {ch : List PanicEntry} (h : mustE b v = .panicked ch) : b = false ∧ ch = pan v := by
  cases b with
  | true => cases h
  | false => exact ⟨rfl, (Ending.panicked.inj h).symm⟩
theorem hgt_p {ch : List PanicEntry} (h : t.hgtE d = .panicked ch) : ∃ k : Nat, firstB (fun k => decide (d.peaks[k]?.getD (0, 0) ≠ t.peak d.plan k)) t.m = some k ∧ ch = pan (refV (k : Nat) 152) := by
  unfold CTk.hgtE at h
  split at h
  · cases h
  · rename_i k hk
    exact ⟨k, hk, (Ending.panicked.inj h).symm⟩
theorem lat_r {x : Value} (h : t.latE d = .returned x) : ¬ (d.later.length : Int) ≠ t.manyI d ∧ firstB (fun k => !t.rules (d.plan.close - t.from_ + 1 + (k : Nat)) (d.later[k]?.getD (0, 0))) d.later.length = none := by
  unfold CTk.latE at h
  split at h
  · cases h
  · rename_i hm
    split at h
    · rename_i hf; exact ⟨hm, hf⟩
    · cases h
theorem lat_p {ch : List PanicEntry} (h : t.latE d = .panicked ch) : ((d.later.length : Int) ≠ t.manyI d ∧ ch = pan (refV 0 2)) ∨ (¬ (d.later.length : Int) ≠ t.manyI d ∧ ∃ k : Nat, firstB (fun k => !t.rules (d.plan.close - t.from_ + 1 + (k : Nat)) (d.later[k]?.getD (0, 0))) d.later.length = some k ∧ ch = pan (refV (k : Nat) 153)) := by
  unfold CTk.latE at h
  split at h
  · rename_i hm; exact .inl ⟨hm, (Ending.panicked.inj h).symm⟩
  · rename_i hm
    split at h
    · cases h
    · rename_i k hk; exact .inr ⟨hm, k, hk, (Ending.panicked.inj h).symm⟩
theorem hgt_r {x : Value} (h : t.hgtE d = .returned x) : firstB (fun k => decide (d.peaks[k]?.getD (0, 0) ≠ t.peak d.plan k)) t.m = none := by
  unfold CTk.hgtE at h
  split at h
  · assumption
  · cases h
theorem hlds_ins (ho : CtOk t) (hb : t.hldsB d = true) : ∀ k i, k < t.m → i < t.n → (t.ins k d.plan i).isSome = true := by
  by_cases hn : d.plan = nev
  · rw [hn]; exact nev_ins t
  · have h1 := hlds_t hb
    have h2 : d.plan = t.plan (d.plan.close - t.from_) := Decidable.byContradiction fun h2 => h1 ⟨hn, .inl h2⟩
    have h3 : t.wit (d.plan.close - t.from_) = none := Classical.byContradiction fun h2 => h1 ⟨hn, .inr h2⟩
    have h4 := wit_none.1 h3
    rw [← h2] at h4
    exact all_ins h4
end
/-- two own blocks have been turned. -/
theorem Sys.turned2 {B : Nat} {w0 w5 w6 : World} {L L1 L2 : Lo} {B' g f : Nat} {o o' q q' : Obj} (S : Sys B w0 L w5) (i j : Nat) (hi : L[i]? = some (g, o)) (s1 : setN L i (g, o') = some L1) (hj : L1[j]? = some (f, q)) (s2 : setN L1 j (f, q') = some L2) (h' : Sys B' w5 [(g, o'), (f, q')] w6) : Sys B w6 L2 w6 := by
  obtain ⟨e1, _⟩ := setN_spec _ _ _ _ s1
  obtain ⟨e2, _⟩ := setN_spec _ _ _ _ s2
  subst e1
  subst e2
  obtain ⟨k1, k2⟩ := set_cases (o' := o') S.nd hi
  obtain ⟨k3, k4⟩ := set_cases (o' := q') (by rw [k1]; exact S.nd) hj
  have bg : B ≤ g := (S.own _ (List.mem_of_getElem? hi)).1
  have bf : B ≤ f := by
    rcases k2 _ (List.mem_of_getElem? hj) with h | ⟨h, _⟩
    · have : f = g := congrArg Prod.fst h
      omega
    · exact (S.own _ h).1
  refine Sys.start (Nat.le_trans S.base (Nat.le_trans S.size h'.size)) (fun x hx => ?_) (by rw [k3, k1]; exact S.nd)
  rcases k4 x hx with rfl | ⟨hx, hne⟩
  · exact ⟨bf, (h'.own _ (.tail _ (.head _))).2⟩
  · rcases k2 x hx with rfl | ⟨hm, hne2⟩
    · exact ⟨bg, (h'.own _ (.head _)).2⟩
    · refine ⟨(S.own x hm).1, ?_⟩
      rw [h'.old x.1 (S.lt hm) (fun y hy e => ?_)]
      · exact (S.own x hm).2
      · simp only [List.mem_cons, List.not_mem_nil, or_false] at hy
        rcases hy with rfl | rfl
        · exact hne2 e.symm
        · exact hne e.symm
/-- where a check panics the deferred function takes up what it says. -/
theorem accept_pan {N : Nat} {F : Fr} {L L1 L2 : Lo} {W w : World} {Q : Exit → Act → World → Prop} {rs : List ResultVar} {g6 g7 : Nat} {i e x y : Int} {c : Prop} {r0 : Int × Int} (hB : Below w.heap.size w W) (h : Try.f28.results = ⟨rs⟩) (hr : r0 = (i, e)) (i6 i7 : Nat)
    (m6 : L[i6]? = some (g6, cel 3 [.int .i64 x])) (s6 : setN L i6 (g6, cel 3 [.int .i64 i]) = some L1) (m7 : L1[i7]? = some (g7, cel 30 [.int .i64 y])) (s7 : setN L1 i7 (g7, cel 30 [.int .i64 e]) = some L2) (m8 : (g7, cel 30 [.int .i64 y]) ∈ L) (hne : g6 ≠ g7)
    (hv : resO TB F L2 rs = some ([.int .i64 i, .int .i64 e], c)) (hc : c)
    (hQ : ∀ a w', bodyPostD Try.prog Try.f28 (fun e w' => e = .returned (.tuple ⟨[.int .i64 r0.1, .int .i64 r0.2]⟩) ∧ Below w.heap.size w w') (.panic (pan (refV i e))) a w' → Q (.panic (pan (refV i e))) a w') :
    XE N w.heap.size W [{ target := .fn (.func 65) ⟨[.pointer (some ⟨g6, 0, none⟩), .pointer (some ⟨g7, 0, none⟩)]⟩, args := #[] }] Q (.panic (pan (refV i e))) F L := by
  subst hr
  refine ⟨fun a w' hf S => hQ a w' (leaveD (P := Try.prog) (T := TB) (L' := L2) tok (by intro h; cases h) hf h (ck rfl) hv hc ?_)⟩
  have o6 := S.own _ (List.mem_of_getElem? m6)
  have o7 := S.own _ m8
  refine (catch_ref (b := w.heap.size) (Nat.le_trans hB.size S.size) o6.2 o7.2 o6.1 o7.1 hne).mono fun en u' w2 hx => ?_
  obtain ⟨h1, h2, S2⟩ := hx
  exact ⟨h1, h2, ⟨_, _, S.turned2 i6 i7 m6 s6 m7 s7 S2⟩, rfl, (hB.trans S.toBelow).trans S2.toBelow⟩
theorem accept_ret {N : Nat} {F : Fr} {L L1 L2 : Lo} {W w : World} {Q : Exit → Act → World → Prop} {rs : List ResultVar} {g6 g7 : Nat} {i e : Int} {c : Prop} {r0 : Int × Int} (hB : Below w.heap.size w W) (h : Try.f28.results = ⟨rs⟩) (hr : r0 = (i, e)) (i6 i7 : Nat)
    (m6 : L[i6]? = some (g6, cel 3 [.int .i64 i])) (s6 : setN L i6 (g6, cel 3 [.int .i64 i]) = some L1) (m7 : L1[i7]? = some (g7, cel 30 [.int .i64 e])) (s7 : setN L1 i7 (g7, cel 30 [.int .i64 e]) = some L2) (m8 : (g7, cel 30 [.int .i64 e]) ∈ L) (hne : g6 ≠ g7)
    (hv : resO TB F L2 rs = some ([.int .i64 i, .int .i64 e], c)) (hc : c)
    (hQ : ∀ a w', bodyPostD Try.prog Try.f28 (fun e w' => e = .returned (.tuple ⟨[.int .i64 r0.1, .int .i64 r0.2]⟩) ∧ Below w.heap.size w w') .ret a w' → Q .ret a w') :
    XE N w.heap.size W [{ target := .fn (.func 65) ⟨[.pointer (some ⟨g6, 0, none⟩), .pointer (some ⟨g7, 0, none⟩)]⟩, args := #[] }] Q .ret F L := by
  subst hr
  refine ⟨fun a w' hf S => hQ a w' (leaveD (P := Try.prog) (T := TB) (L' := L2) tok (by intro h; cases h) hf h (ck rfl) hv hc ?_)⟩
  have o6 := S.own _ (List.mem_of_getElem? m6)
  have o7 := S.own _ m8
  refine (catch_ret (b := w.heap.size) (Nat.le_trans hB.size S.size) o6.2 o7.2 o6.1 o7.1 hne).mono fun en u' w2 hx => ?_
  obtain ⟨h1, rfl, S2⟩ := hx
  exact ⟨h1, rfl, ⟨_, _, S.turned2 i6 i7 m6 s6 m7 s7 S2⟩, rfl, (hB.trans S.toBelow).trans S2.toBelow⟩
theorem fn5_size : (Try.prog.info? 1).map (·.size) = some 1 := by kernel_rfl
theorem fn5_one : lkG TB.one 1 = some () := by kernel_rfl
set_option maxHeartbeats 16000000 in
theorem Accept_any {v : CTV} {t : CTk} {r : CRu} {q1 q2 : SV} {d : CDe} {w : World} (h : CtAt w w.heap.size v t) (hL1 : ListAt pekK5 w (Lt w.heap.size) q1 d.peaks) (hL2 : ListAt wtnK5 w (Lt w.heap.size) q2 d.later) :
    Calls Try.prog 28 #[ctkV v t, ruV r, decV q1 q2 d] w fun e w' => e = .returned (.tuple ⟨[.int .i64 (t.acc r d).1, .int .i64 (t.acc r d).2]⟩) ∧ Below w.heap.size w w' := by
  simp only [ctkV, ctkC, ruV, decV, decC, svV]
  refine enterD Try.func28 rfl Try.ntmps28 rfl ?_; simp only [frame, Nat.zero_add, Nat.reduceAdd]
  repeat (first | (refine M0 ?_; first | refine SL ?_ | refine SB fun _ _ => ?_) | (refine M1 ?_; refine SC ?_) | (refine M2 ?_; refine SE ?_))
  rename_i g3 hg3 g4 hg4 g5 hg5 g6 hg6 g7 hg7
  have hle : w.heap.size ≤ w.heap.size := Nat.le_refl _
  refine XL.with5 (v := v) (t := t) (r := r) h rfl rfl (fun hc w1 hB1 => ?_) (fun hc ho hq w1 gr g gm hG1 hB1 hgl hgrl => ?_)
  · have e1 : t.acc r d = (0, ruE t r) := by unfold CTk.acc; rw [if_pos hc]
    rw [e1]
    repeat (first | (refine M0 ?_; first | refine SL ?_ | refine SB fun _ _ => ?_ | refine XL.store_at tok 0 (g := g7) (o := 0) (j := 0) (cs := [.int .i64 0]) rfl rfl rfl rfl rfl (Nat.le_of_ble_eq_true rfl) rfl ?_) | (refine M1 ?_; refine SC ?_) | (refine M2 ?_; refine SE ?_))
    rw [show decide (ruE t r ≠ 0) = true from decide_eq_true hc]
    repeat (first | (refine M0 ?_; first | refine SL ?_ | refine SB fun _ _ => ?_) | (refine M1 ?_; refine SC ?_) | (refine M2 ?_; refine SE ?_))
    refine XC.drawRS (trunc w w.heap.size) [] [] [0, 1, 2] mixed (fun _ h => Sys.anchorT hB1 h (fun e he => by cases he) (by simp) hle) rfl (by kernel_rfl) ?_
    repeat (any_goals (first | (refine M0 ?_; first | refine SL ?_ | refine SB fun _ _ => ?_) | (refine M1 ?_; refine SC ?_) | (refine M2 ?_; first | refine SE ?_ | ((with_reducible refine atHeld ?_); refine z7 ?_)) | (refine M3 ?_; first | refine SG ?_ | refine SF ?_) | (refine M4 ?_; refine SR ?_) | (refine M5 ?_; first | exact M7 | refine YM ?_ | refine YN ?_ ?_)))
    any_goals (repeat (first | exact AnyR.nil | refine AnyR.skip rfl ?_))
    all_goals
      refine XE.retD0 tok Try.results28 rfl (by simp only [and_self, and_true]) (fun w' S => ?_)
      exact ⟨rfl, hB1.trans S.toBelow⟩
  repeat (first | (refine M0 ?_; first | refine SL ?_ | refine SB fun _ _ => ?_ | refine Y4 (Ev.makeFunc rfl rfl) ?_) | (refine M1 ?_; refine SC ?_) | (refine M2 ?_; refine SE ?_))
  refine XL.defer rfl ?_
  repeat (first | (refine M0 ?_; first | refine SL ?_ | refine SB fun _ _ => ?_ | refine Y4 (Ev.makeFunc rfl rfl) ?_) | (refine M1 ?_; refine SC ?_) | (refine M2 ?_; refine SE ?_))
  rename_i gc hgc
  refine XL.step _ (Ev.buildArr tok Try.underlying138 fn5_size rfl rfl rfl) rfl ?_
  repeat (first | (refine M0 ?_; first | refine SL ?_ | refine SB fun _ _ => ?_) | (refine M1 ?_; refine SC ?_) | (refine M2 ?_; refine SE ?_))
  refine XC.rebase (List.Sublist.refl _) (fun W0 S0 => ?_)
  have hG0 : Gam t v w.heap.size g gm [gc, gr, g, g7, g6, g5, g4, g3] [] [] W0 := hG1.on (ks := [gc, gr, g, g7, g6, g5, g4, g3]) S0 (.tail _ (.tail _ (.head _))) ZZMK ZZSB (by simp) (fun x hx => hx)
  have hB0 : Below w.heap.size w W0 := hB1.trans S0.toBelow
  have hn67 : g6 ≠ g7 := by
    have := S0.nd
    simp only [List.map_cons, List.map_nil, List.nodup_cons, List.mem_cons, not_or] at this
    exact fun e => this.2.2.2.1.1 e.symm
  have hbc : w.heap.size ≤ gc := (S0.own _ (.head _)).1
  have hlen1 := hL1.len (by decide)
  refine XC.loopk [6, 7, 36] rfl (fun z : Nat × World => [(37, .int .i64 (z.1 : Nat))]) (fun _ => [(gc, chkO gr q1 q2 d), (gr, rulO g r), (g, gamO v t gm), (g7, cel 30 [.int .i64 0]), (g6, cel 3 [.int .i64 0]), (g5, cel 49 (decC q1 q2 d)), (g4, cel 42 [.int .i64 r.count, .int .i64 r.early]), (g3, cel 29 (ctkC v t))]) (fun z => z.2)
    (fun z => z.1 ≤ 5 ∧ Gam t v w.heap.size g gm [gc, gr, g, g7, g6, g5, g4, g3] [] [] z.2 ∧ Below w.heap.size w z.2 ∧ (1 ≤ z.1 → t.strange d.plan = false ∧ d.peaks.length = t.m) ∧ (2 ≤ z.1 → t.earB r d = true) ∧ (3 ≤ z.1 → t.hldsB d = true) ∧ (4 ≤ z.1 → firstB (fun k => decide (d.peaks[k]?.getD (0, 0) ≠ t.peak d.plan k)) t.m = none) ∧
      (5 ≤ z.1 → ¬ (d.later.length : Int) ≠ t.manyI d ∧ firstB (fun k => !t.rules (d.plan.close - t.from_ + 1 + (k : Nat)) (d.later[k]?.getD (0, 0))) d.later.length = none)) (fun z => 5 - z.1) (0, W0)
    ⟨Nat.zero_le _, hG0, hB0, fun h => absurd h (by simp), fun h => absurd h (by simp), fun h => absurd h (by simp), fun h => absurd h (by simp), fun h => absurd h (by simp)⟩ ZZSUB (fun _ h => h) ?_
  rintro ⟨k, W⟩ ⟨hk, hGW, hBW, a1, a2, a3, a4, a5⟩
  simp only at hk hGW hBW a1 a2 a3 a4 a5
  dsimp only [List.cons_append, List.nil_append]
  repeat (first | (refine M0 ?_; first | refine SL ?_ | refine SB fun _ _ => ?_) | (refine M1 ?_; refine SC ?_) | (refine M2 ?_; refine SE ?_))
  refine XC.cond _ rfl (fun h5 => ?_) (fun h5 => ?_)
  · have hk4 : k ≤ 4 := by simp only [decide_eq_true_eq] at h5; omega
    rcases k with _ | _ | _ | _ | _ | k
    · repeat (first | (refine M0 ?_; first | refine SL ?_ | refine SB fun _ _ => ?_) | (refine M1 ?_; refine SC ?_) | (refine M2 ?_; refine SE ?_))
      refine XL.step _ (Ev.indexArr tok Try.underlying138 fn5_one rfl (j := 0) rfl (by decide) rfl) rfl ?_
      repeat (first | (refine M0 ?_; first | refine SL ?_ | refine SB fun _ _ => ?_) | (refine M1 ?_; refine SC ?_) | (refine M2 ?_; refine SE ?_))
      refine XL.callE (fst := [.pointer (some ⟨gc, 0, none⟩)]) (cap := []) (vs := []) (mustE (!t.strange d.plan && decide (d.peaks.length = t.m)) (refV 0 2)) (by unfold mustE; split <;> (intro hh; cases hh)) (ck rfl) rfl rfl rfl hGW (.tail _ (.tail _ (.head _))) (fun w5 ks2 S5 hk5 hG5 => (form_any (S5.own (gc, chkO gr q1 q2 d) (.head _)).2 (S5.own (gr, rulO g r) (.tail _ (.head _))).2 hG5.game ho hG5.task.hn hlen1).mono fun e w' hx => GamE.ofBelow hG5 hx) (fun w6 x he hG6 hB6 => ?_) (fun w6 ch he hG6 hB6 => ?_) ZZMK
      · have hfact := form_t (mustE_ret he)
        repeat (first | (refine M0 ?_; first | refine SL ?_ | refine SB fun _ _ => ?_) | (refine M1 ?_; refine SC ?_) | (refine M2 ?_; refine SE ?_))
        refine XE.roundW (s := (0, W)) (fun w9 S9 => ⟨(0 + 1, w9), ⟨by omega, hG6.on (ks := [gc, gr, g, g7, g6, g5, g4, g3]) S9 (.tail _ (.tail _ (.head _))) ZZMK ZZSB (by simp) (fun x hx => hx), (hBW.trans hB6).trans S9.toBelow, fun _ => hfact, fun hh => absurd hh (by omega), fun hh => absurd hh (by omega), fun hh => absurd hh (by omega), fun hh => absurd hh (by omega)⟩, by simp only; omega, ZZSUB, S9.rebase ZZSM⟩)
      · obtain ⟨hb, rfl⟩ := mustE_pan he
        exact accept_pan (i := 0) (e := 2) (hBW.trans hB6) Try.results28 (acc_form hc hb) 4 3 rfl rfl rfl rfl (.tail _ (.tail _ (.tail _ (.head _)))) hn67 rfl (by simp only [and_self, and_true]) (fun _ _ h => h)
    · repeat (first | (refine M0 ?_; first | refine SL ?_ | refine SB fun _ _ => ?_) | (refine M1 ?_; refine SC ?_) | (refine M2 ?_; refine SE ?_))
      refine XL.step _ (Ev.indexArr tok Try.underlying138 fn5_one rfl (j := 1) rfl (by decide) rfl) rfl ?_
      repeat (first | (refine M0 ?_; first | refine SL ?_ | refine SB fun _ _ => ?_) | (refine M1 ?_; refine SC ?_) | (refine M2 ?_; refine SE ?_))
      refine XL.callE (fst := [.pointer (some ⟨gc, 0, none⟩)]) (cap := []) (vs := []) (mustE (t.earB r d) (refV 0 150)) (by unfold mustE; split <;> (intro hh; cases hh)) (ck rfl) rfl rfl rfl hGW (.tail _ (.tail _ (.head _))) (fun w5 ks2 S5 hk5 hG5 => (early_any (S5.own (gc, chkO gr q1 q2 d) (.head _)).2 (S5.own (gr, rulO g r) (.tail _ (.head _))).2 hG5.game (hG5.task.more hG5.fam.base) ho hq (a1 (by omega)).1).mono fun e w' hx => GamE.ofBelow hG5 hx) (fun w6 x he hG6 hB6 => ?_) (fun w6 ch he hG6 hB6 => ?_) ZZMK
      · have hfact := mustE_ret he
        repeat (first | (refine M0 ?_; first | refine SL ?_ | refine SB fun _ _ => ?_) | (refine M1 ?_; refine SC ?_) | (refine M2 ?_; refine SE ?_))
        refine XE.roundW (s := (1, W)) (fun w9 S9 => ⟨(1 + 1, w9), ⟨by omega, hG6.on (ks := [gc, gr, g, g7, g6, g5, g4, g3]) S9 (.tail _ (.tail _ (.head _))) ZZMK ZZSB (by simp) (fun x hx => hx), (hBW.trans hB6).trans S9.toBelow, fun _ => a1 (by omega), fun _ => hfact, fun hh => absurd hh (by omega), fun hh => absurd hh (by omega), fun hh => absurd hh (by omega)⟩, by simp only; omega, ZZSUB, S9.rebase ZZSM⟩)
      · obtain ⟨hb, rfl⟩ := mustE_pan he
        exact accept_pan (i := 0) (e := 150) (hBW.trans hB6) Try.results28 (acc_early hc (a1 (by omega)).1 (a1 (by omega)).2 hb) 4 3 rfl rfl rfl rfl (.tail _ (.tail _ (.tail _ (.head _)))) hn67 rfl (by simp only [and_self, and_true]) (fun _ _ h => h)
    · repeat (first | (refine M0 ?_; first | refine SL ?_ | refine SB fun _ _ => ?_) | (refine M1 ?_; refine SC ?_) | (refine M2 ?_; refine SE ?_))
      refine XL.step _ (Ev.indexArr tok Try.underlying138 fn5_one rfl (j := 2) rfl (by decide) rfl) rfl ?_
      repeat (first | (refine M0 ?_; first | refine SL ?_ | refine SB fun _ _ => ?_) | (refine M1 ?_; refine SC ?_) | (refine M2 ?_; refine SE ?_))
      refine XL.callE (fst := [.pointer (some ⟨gc, 0, none⟩)]) (cap := []) (vs := []) (mustE (t.hldsB d) (refV 0 151)) (by unfold mustE; split <;> (intro hh; cases hh)) (ck rfl) rfl rfl rfl hGW (.tail _ (.tail _ (.head _))) (fun w5 ks2 S5 hk5 hG5 => holdsC_any hG5 ho (S5.own (gc, chkO gr q1 q2 d) (.head _)).2 (S5.own (gr, rulO g r) (.tail _ (.head _))).2 (hk5 (gc, chkO gr q1 q2 d) (.head _)) (hk5 (gr, rulO g r) (.tail _ (.head _))) hbc hgrl (a1 (by omega)).1 (ear_may (a2 (by omega)))) (fun w6 x he hG6 hB6 => ?_) (fun w6 ch he hG6 hB6 => ?_) ZZMK
      · have hfact := mustE_ret he
        repeat (first | (refine M0 ?_; first | refine SL ?_ | refine SB fun _ _ => ?_) | (refine M1 ?_; refine SC ?_) | (refine M2 ?_; refine SE ?_))
        refine XE.roundW (s := (2, W)) (fun w9 S9 => ⟨(2 + 1, w9), ⟨by omega, hG6.on (ks := [gc, gr, g, g7, g6, g5, g4, g3]) S9 (.tail _ (.tail _ (.head _))) ZZMK ZZSB (by simp) (fun x hx => hx), (hBW.trans hB6).trans S9.toBelow, fun _ => a1 (by omega), fun _ => a2 (by omega), fun _ => hfact, fun hh => absurd hh (by omega), fun hh => absurd hh (by omega)⟩, by simp only; omega, ZZSUB, S9.rebase ZZSM⟩)
      · obtain ⟨hb, rfl⟩ := mustE_pan he
        exact accept_pan (i := 0) (e := 151) (hBW.trans hB6) Try.results28 (acc_holds hc (a1 (by omega)).1 (a1 (by omega)).2 (a2 (by omega)) hb) 4 3 rfl rfl rfl rfl (.tail _ (.tail _ (.tail _ (.head _)))) hn67 rfl (by simp only [and_self, and_true]) (fun _ _ h => h)
    · repeat (first | (refine M0 ?_; first | refine SL ?_ | refine SB fun _ _ => ?_) | (refine M1 ?_; refine SC ?_) | (refine M2 ?_; refine SE ?_))
      refine XL.step _ (Ev.indexArr tok Try.underlying138 fn5_one rfl (j := 3) rfl (by decide) rfl) rfl ?_
      repeat (first | (refine M0 ?_; first | refine SL ?_ | refine SB fun _ _ => ?_) | (refine M1 ?_; refine SC ?_) | (refine M2 ?_; refine SE ?_))
      refine XL.callE (fst := [.pointer (some ⟨gc, 0, none⟩)]) (cap := []) (vs := []) (t.hgtE d) (by unfold CTk.hgtE; split <;> (intro hh; cases hh)) (ck rfl) rfl rfl rfl hGW (.tail _ (.tail _ (.head _))) (fun w5 ks2 S5 hk5 hG5 => heights_any hG5 ho (S5.own (gc, chkO gr q1 q2 d) (.head _)).2 (S5.own (gr, rulO g r) (.tail _ (.head _))).2 (hk5 (gc, chkO gr q1 q2 d) (.head _)) (hk5 (gr, rulO g r) (.tail _ (.head _))) hbc hgrl (a1 (by omega)).1 (hlds_ins ho (a3 (by omega))) (hL1.below (hBW.trans S5.toBelow)) (a1 (by omega)).2) (fun w6 x he hG6 hB6 => ?_) (fun w6 ch he hG6 hB6 => ?_) ZZMK
      · have hfact := hgt_r he
        repeat (first | (refine M0 ?_; first | refine SL ?_ | refine SB fun _ _ => ?_) | (refine M1 ?_; refine SC ?_) | (refine M2 ?_; refine SE ?_))
        refine XE.roundW (s := (3, W)) (fun w9 S9 => ⟨(3 + 1, w9), ⟨by omega, hG6.on (ks := [gc, gr, g, g7, g6, g5, g4, g3]) S9 (.tail _ (.tail _ (.head _))) ZZMK ZZSB (by simp) (fun x hx => hx), (hBW.trans hB6).trans S9.toBelow, fun _ => a1 (by omega), fun _ => a2 (by omega), fun _ => a3 (by omega), fun _ => hfact, fun hh => absurd hh (by omega)⟩, by simp only; omega, ZZSUB, S9.rebase ZZSM⟩)
      · obtain ⟨n, hn, rfl⟩ := hgt_p he
        exact accept_pan (i := ((n : Nat) : Int)) (e := 152) (hBW.trans hB6) Try.results28 (acc_heights hc (a1 (by omega)).1 (a1 (by omega)).2 (a2 (by omega)) (a3 (by omega)) hn) 4 3 rfl rfl rfl rfl (.tail _ (.tail _ (.tail _ (.head _)))) hn67 rfl (by simp only [and_self, and_true]) (fun _ _ h => h)
    · repeat (first | (refine M0 ?_; first | refine SL ?_ | refine SB fun _ _ => ?_) | (refine M1 ?_; refine SC ?_) | (refine M2 ?_; refine SE ?_))
      refine XL.step _ (Ev.indexArr tok Try.underlying138 fn5_one rfl (j := 4) rfl (by decide) rfl) rfl ?_
      repeat (first | (refine M0 ?_; first | refine SL ?_ | refine SB fun _ _ => ?_) | (refine M1 ?_; refine SC ?_) | (refine M2 ?_; refine SE ?_))
      refine XL.callE (fst := [.pointer (some ⟨gc, 0, none⟩)]) (cap := []) (vs := []) (t.latE d) (by unfold CTk.latE; split <;> (first | (intro hh; cases hh; done) | (split <;> (intro hh; cases hh)))) (ck rfl) rfl rfl rfl hGW (.tail _ (.tail _ (.head _))) (fun w5 ks2 S5 hk5 hG5 => later_any hG5 ho (S5.own (gc, chkO gr q1 q2 d) (.head _)).2 (S5.own (gr, rulO g r) (.tail _ (.head _))).2 (hk5 (gc, chkO gr q1 q2 d) (.head _)) (hk5 (gr, rulO g r) (.tail _ (.head _))) hbc hgrl (a1 (by omega)).1 (ear_may (a2 (by omega))) (hL2.below (hBW.trans S5.toBelow))) (fun w6 x he hG6 hB6 => ?_) (fun w6 ch he hG6 hB6 => ?_) ZZMK
      · have hfact := lat_r he
        repeat (first | (refine M0 ?_; first | refine SL ?_ | refine SB fun _ _ => ?_) | (refine M1 ?_; refine SC ?_) | (refine M2 ?_; refine SE ?_))
        refine XE.roundW (s := (4, W)) (fun w9 S9 => ⟨(4 + 1, w9), ⟨by omega, hG6.on (ks := [gc, gr, g, g7, g6, g5, g4, g3]) S9 (.tail _ (.tail _ (.head _))) ZZMK ZZSB (by simp) (fun x hx => hx), (hBW.trans hB6).trans S9.toBelow, fun _ => a1 (by omega), fun _ => a2 (by omega), fun _ => a3 (by omega), fun _ => a4 (by omega), fun _ => hfact⟩, by simp only; omega, ZZSUB, S9.rebase ZZSM⟩)
      · rcases lat_p he with ⟨hm, rfl⟩ | ⟨hm, n, hn, rfl⟩
        · exact accept_pan (i := 0) (e := 2) (hBW.trans hB6) Try.results28 (acc_many hc (a1 (by omega)).1 (a1 (by omega)).2 (a2 (by omega)) (a3 (by omega)) (a4 (by omega)) hm) 4 3 rfl rfl rfl rfl (.tail _ (.tail _ (.tail _ (.head _)))) hn67 rfl (by simp only [and_self, and_true]) (fun _ _ h => h)
        · exact accept_pan (i := ((n : Nat) : Int)) (e := 153) (hBW.trans hB6) Try.results28 (acc_later hc (a1 (by omega)).1 (a1 (by omega)).2 (a2 (by omega)) (a3 (by omega)) (a4 (by omega)) hm hn) 4 3 rfl rfl rfl rfl (.tail _ (.tail _ (.tail _ (.head _)))) hn67 rfl (by simp only [and_self, and_true]) (fun _ _ h => h)
    · omega
  · have hk5 : k = 5 := by simp only [decide_eq_false_iff_not] at h5; omega
    subst hk5
    repeat (first | (refine M0 ?_; first | refine SL ?_ | refine SB fun _ _ => ?_) | (refine M1 ?_; refine SC ?_) | (refine M2 ?_; refine SE ?_))
    exact accept_ret (i := 0) (e := 0) hBW Try.results28 (acc_ok hc (a1 (by omega)).1 (a1 (by omega)).2 (a2 (by omega)) (a3 (by omega)) (a4 (by omega)) (a5 (by omega)).1 (a5 (by omega)).2) 4 3 rfl rfl rfl rfl (.tail _ (.tail _ (.tail _ (.head _)))) hn67 rfl (by simp only [and_self, and_true]) (fun _ _ h => h)
end Go.Proofs.Ytmpaiphakjogjaa.X
/-
  The law ClosureOpens.
-/
namespace Go.Proofs.Ytmpaiphakjogjaa.Bs
open Go Go.Proofs.Ytmpaiphakjogjaa.X
set_option linter.unusedVariables false
end Go.Proofs.Ytmpaiphakjogjaa.Bs
namespace Go.Proofs.Ytmpaiphakjogjaa.X
open Go Go.RowKit Go.Proofs.Ytmpaiphakjogjaa.Bs
set_option linter.unusedVariables false
end Go.Proofs.Ytmpaiphakjogjaa.X
/-
  The walks of whole, Long and levels of the statements (closure).
-/
namespace Go.Proofs.Ytmpaiphakjogjaa.Bs
open Go Go.Proofs.Ytmpaiphakjogjaa.X
set_option linter.unusedVariables false
def CTk.wholeB (t : CTk) : Bool := decide (0 < t.m) && (List.range t.m).all fun k => decide ((t.h k).vals.length = t.river.length) && decide ((t.h k).from_ = t.from_)
def CTk.longB (t : CTk) : Bool := (decide (12 < t.river.length) && decide (t.river.length ≤ 60)) || (decide (4 < t.m) && decide (t.m ≤ 8))
end Go.Proofs.Ytmpaiphakjogjaa.Bs
namespace Go.Proofs.Ytmpaiphakjogjaa.X
open Go Go.RowKit Go.Proofs.Ytmpaiphakjogjaa.Bs
set_option linter.unusedVariables false
end Go.Proofs.Ytmpaiphakjogjaa.X
/-
  The walk of the document's Same (closure).
-/
namespace Go.Proofs.Ytmpaiphakjogjaa.X
open Go Go.RowKit Go.Proofs.Ytmpaiphakjogjaa.Bs
set_option linter.unusedVariables false
section
variable {w : World}
set_option maxHeartbeats 8000000 in
theorem Same5_any {q1 q2 q3 q4 : SV} {d : CDe} (hL1 : ListAt pekK5 w (Lt w.heap.size) q1 d.peaks) (hL2 : ListAt wtnK5 w (Lt w.heap.size) q2 d.later) (hL3 : ListAt pekK5 w (Lt w.heap.size) q3 d.peaks) (hL4 : ListAt wtnK5 w (Lt w.heap.size) q4 d.later) :
    Calls Try.prog 34 #[decV q1 q2 d, decV q3 q4 d] w fun e w' => e = .returned (.bool true) ∧ Below w.heap.size w w' := by
  have hn1 := hL1.len (by decide)
  have hn2 := hL2.len (by decide)
  have hn3 := hL3.len (by decide)
  have hn4 := hL4.len (by decide)
  have hx1 := hL1.max
  have hx2 := hL2.max
  obtain ⟨q1A, q1n, q1c⟩ := q1
  obtain ⟨q2A, q2n, q2c⟩ := q2
  obtain ⟨q3A, q3n, q3c⟩ := q3
  obtain ⟨q4A, q4n, q4c⟩ := q4
  simp only at hn1 hn2 hn3 hn4 hx1 hx2
  subst hn1 hn2 hn3 hn4
  obtain ⟨⟨c, o⟩, l1, l2⟩ := d
  simp only at hL1 hL2 hL3 hL4 hx1 hx2
  simp only [decV, decC, svV]
  refine enter Try.func34 rfl Try.ntmps34 rfl ?_; simp only [frame, Nat.zero_add, Nat.reduceAdd]
  repeat (first | (refine M0 ?_; first | refine SL ?_ | refine SB fun _ _ => ?_ | refine Y4 (Ev.plnNeq rfl rfl) ?_) | (refine M1 ?_; refine SC ?_) | (refine M2 ?_; refine SE ?_))
  rename_i g2 hg2 g3 hg3
  rw [show (!(decide (c = c) && decide (o = o))) = false from by simp]
  repeat (first | (refine M0 ?_; first | refine SL ?_ | refine SB fun _ _ => ?_) | (refine M1 ?_; refine SC ?_) | (refine M2 ?_; refine SE ?_))
  rw [show decide ((l1.length : Int) ≠ (l1.length : Int)) = false from decide_eq_false (fun h => h rfl)]
  repeat (first | (refine M0 ?_; first | refine SL ?_ | refine SB fun _ _ => ?_) | (refine M1 ?_; refine SC ?_) | (refine M2 ?_; refine SE ?_))
  rw [show decide ((l2.length : Int) ≠ (l2.length : Int)) = false from decide_eq_false (fun h => h rfl)]
  repeat (first | (refine M0 ?_; first | refine SL ?_ | refine SB fun _ _ => ?_) | (refine M1 ?_; refine SC ?_) | (refine M2 ?_; refine SE ?_))
  refine XC.loopk [2, 3] rfl (fun i : Nat => [(5, .int .i64 (i : Nat))]) (fun _ => [(g3, cel 49 [.int .i64 c, .int .i64 o, .slice q3A l1.length q3c, .slice q4A l2.length q4c]), (g2, cel 49 [.int .i64 c, .int .i64 o, .slice q1A l1.length q1c, .slice q2A l2.length q2c])]) (fun _ => w) (fun i => i ≤ l1.length) (fun i => l1.length - i) 0 (Nat.zero_le _) ZZSUB (fun _ h => h) ?_
  intro i hi
  dsimp only [List.cons_append, List.nil_append]
  repeat (first | (refine M0 ?_; first | refine SL ?_ | refine SB fun _ _ => ?_) | (refine M1 ?_; refine SC ?_) | (refine M2 ?_; refine SE ?_))
  refine XC.cond _ rfl (fun h1 => ?_) (fun h1 => ?_)
  · have hil : i < l1.length := by have := of_decide_eq_true h1; omega
    obtain ⟨a1, rfl, hlt1⟩ := hL1.addr (by decide) (by omega)
    obtain ⟨a3, rfl, hlt3⟩ := hL3.addr (by decide) (by omega)
    obtain ⟨⟨pa, pb⟩, hpe⟩ : ∃ x, l1[i]? = some x := ⟨_, List.getElem?_eq_getElem hil⟩
    have he1 := hL1.elem hpe
    have he3 := hL3.elem hpe
    repeat (first | (refine M0 ?_; first | refine SL ?_ | refine SB fun _ _ => ?_) | (refine M1 ?_; refine SC ?_) | (refine M2 ?_; refine SE ?_))
    refine XC.drawT mixed rfl rfl (by kernel_rfl) ?_
    repeat (first | (refine M0 ?_; first | refine SL ?_ | refine SB fun _ _ => ?_ | refine Y4 (Ev.load_old_agg tok [.int .i64 pa, .int .i64 pb] rfl rfl rfl (add_lt hlt1) he1) ?_ | refine Y4 (Ev.load_old_agg tok [.int .i64 pa, .int .i64 pb] rfl rfl rfl (add_lt hlt3) he3) ?_ | refine Y4 (Ev.pekNeq rfl rfl) ?_) | (refine M2 ?_; refine SE ?_) | (refine M3 ?_; first | refine SG ?_ | refine SF ?_ | refine YF (Ev.load_old_agg tok [.int .i64 pa, .int .i64 pb] rfl rfl rfl (add_lt hlt1) he1) ?_ | refine YF (Ev.load_old_agg tok [.int .i64 pa, .int .i64 pb] rfl rfl rfl (add_lt hlt3) he3) ?_ | refine YF (Ev.pekNeq rfl rfl) ?_) | (refine M4 ?_; refine SR ?_) | (refine M5 ?_; first | exact M7 | refine YM ?_ | refine YN ?_ ?_))
    rw [show (!(decide (pa = pa) && decide (pb = pb))) = false from by simp]
    repeat (first | (refine M0 ?_; first | refine SL ?_ | refine SB fun _ _ => ?_) | (refine M1 ?_; refine SC ?_) | (refine M2 ?_; refine SE ?_))
    exact XE.round (s := i) (i + 1) hil (by omega) ZZSUB (fun _ h => h)
  repeat (first | (refine M0 ?_; first | refine SL ?_ | refine SB fun _ _ => ?_) | (refine M1 ?_; refine SC ?_) | (refine M2 ?_; refine SE ?_))
  refine XC.loopk [2, 3] rfl (fun i : Nat => [(6, .int .i64 (i : Nat))]) (fun _ => [(g3, cel 49 [.int .i64 c, .int .i64 o, .slice q3A l1.length q3c, .slice q4A l2.length q4c]), (g2, cel 49 [.int .i64 c, .int .i64 o, .slice q1A l1.length q1c, .slice q2A l2.length q2c])]) (fun _ => w) (fun i => i ≤ l2.length) (fun i => l2.length - i) 0 (Nat.zero_le _) ZZSUB (fun _ h => h) ?_
  intro k hk
  dsimp only [List.cons_append, List.nil_append]
  repeat (first | (refine M0 ?_; first | refine SL ?_ | refine SB fun _ _ => ?_) | (refine M1 ?_; refine SC ?_) | (refine M2 ?_; refine SE ?_))
  refine XC.cond _ rfl (fun h2 => ?_) (fun h2 => ?_)
  · have hkl : k < l2.length := by have := of_decide_eq_true h2; omega
    obtain ⟨a2, rfl, hlt2⟩ := hL2.addr (by decide) (by omega)
    obtain ⟨a4, rfl, hlt4⟩ := hL4.addr (by decide) (by omega)
    obtain ⟨⟨pa, pb⟩, hpe⟩ : ∃ x, l2[k]? = some x := ⟨_, List.getElem?_eq_getElem hkl⟩
    have he2 := hL2.elem hpe
    have he4 := hL4.elem hpe
    repeat (first | (refine M0 ?_; first | refine SL ?_ | refine SB fun _ _ => ?_) | (refine M1 ?_; refine SC ?_) | (refine M2 ?_; refine SE ?_))
    refine XC.drawT mixed rfl rfl (by kernel_rfl) ?_
    repeat (first | (refine M0 ?_; first | refine SL ?_ | refine SB fun _ _ => ?_ | refine Y4 (Ev.load_old_agg tok [.int .i64 pa, .int .i64 pb] rfl rfl rfl (add_lt hlt2) he2) ?_ | refine Y4 (Ev.load_old_agg tok [.int .i64 pa, .int .i64 pb] rfl rfl rfl (add_lt hlt4) he4) ?_ | refine Y4 (Ev.wtnNeq rfl rfl) ?_) | (refine M2 ?_; refine SE ?_) | (refine M3 ?_; first | refine SG ?_ | refine SF ?_ | refine YF (Ev.load_old_agg tok [.int .i64 pa, .int .i64 pb] rfl rfl rfl (add_lt hlt2) he2) ?_ | refine YF (Ev.load_old_agg tok [.int .i64 pa, .int .i64 pb] rfl rfl rfl (add_lt hlt4) he4) ?_ | refine YF (Ev.wtnNeq rfl rfl) ?_) | (refine M4 ?_; refine SR ?_) | (refine M5 ?_; first | exact M7 | refine YM ?_ | refine YN ?_ ?_))
    rw [show (!(decide (pa = pa) && decide (pb = pb))) = false from by simp]
    repeat (first | (refine M0 ?_; first | refine SL ?_ | refine SB fun _ _ => ?_) | (refine M1 ?_; refine SC ?_) | (refine M2 ?_; refine SE ?_))
    exact XE.round (s := k) (k + 1) hkl (by omega) ZZSUB (fun _ h => h)
  repeat (first | (refine M0 ?_; first | refine SL ?_ | refine SB fun _ _ => ?_) | (refine M1 ?_; refine SC ?_) | (refine M2 ?_; refine SE ?_))
  refine XE.retg tok Try.results34 rfl (by simp only [and_self, and_true]) (fun w' S => ?_)
  exact ⟨rfl, S.toBelow⟩
end
end Go.Proofs.Ytmpaiphakjogjaa.X
/-
  The walk of lower of the statements (closure).
-/
namespace Go.Proofs.Ytmpaiphakjogjaa.Bs
open Go Go.Proofs.Ytmpaiphakjogjaa.X
set_option linter.unusedVariables false
def lowV (bs : List Int) (v : Int) (i : Nat) : Int := if 0 < bs.length then max (-20000) (v - at0 bs (i % bs.length)) else v
def lowTo (l bs : List Int) (n : Nat) : List Int := (List.range n).map fun i => lowV bs (at0 l i) i
end Go.Proofs.Ytmpaiphakjogjaa.Bs
namespace Go.Proofs.Ytmpaiphakjogjaa.X
open Go Go.RowKit Go.Proofs.Ytmpaiphakjogjaa.Bs
set_option linter.unusedVariables false
def u16K5 : Kind Int := ⟨43, 1, fun k => [.int .u16 k], fun _ => [], fun _ => rfl⟩
def LowR (h : His) (bs : List Int) (x : Value) (new : List Held) : Prop := ∃ q : SV, x = .agg ⟨[.int .i64 h.from_, svV q]⟩ ∧ new = [hInts q (lowTo h.vals bs h.vals.length)]
end Go.Proofs.Ytmpaiphakjogjaa.X
/-
  The law ClosureSafe.
-/
namespace Go.Proofs.Ytmpaiphakjogjaa.X
open Go Go.RowKit Go.Proofs.Ytmpaiphakjogjaa.Bs
set_option linter.unusedVariables false
def hisK0 : Kind (SV × His) := ⟨65, 2, fun e => hisC e.1 e.2, fun _ => [], fun _ => rfl⟩
end Go.Proofs.Ytmpaiphakjogjaa.X
/-
  Rows of pairs of which one number is changed (closure).
-/
namespace Go.Proofs.Ytmpaiphakjogjaa.X
open Go Go.RowKit Go.Proofs.Ytmpaiphakjogjaa.Bs
set_option linter.unusedVariables false
theorem flat_ln {K : Kind II} (hc : ∀ a : II, K.c a = [.int .i64 a.1, .int .i64 a.2]) (l : List II) : (l.flatMap K.c).length = l.length * 2 := by
  induction l with
  | nil => rfl
  | cons b l ih => rw [List.flatMap_cons, hc, List.length_append, ih, List.length_cons]; simp only [List.length_cons, List.length_nil]; omega
/-- a list that fills the beginning of a block. -/
theorem ListAt.blk {K : Kind II} (hm : K.m = 2) (hs : ∀ a, K.sl a = []) (hc : ∀ a : II, K.c a = [.int .i64 a.1, .int .i64 a.2]) {w : World} {g c : Nat} {tg : TypeId} {l : List II} {sp : List Value} (hg : w.heap[g]? = some (cel tg (l.flatMap K.c ++ sp))) (h0 : l.length ≤ 1000) : ListAt K w (fun j => j = g) ⟨some ⟨g, 0, none⟩, l.length, c⟩ l := by
  refine ⟨⟨?_, fun _ => ⟨_, rfl, rfl, fun j u hj => ?_⟩⟩, by simp only; omega, fun a ha x hx => by rw [hs] at hx; cases hx⟩
  · show (l.flatMap K.c).length = l.length * K.m
    rw [flat_ln hc, hm]
  · rw [add_off, Nat.zero_add]
    have : (l.flatMap K.c ++ sp)[j]? = some u := by
      rw [List.getElem?_append_left (List.getElem?_eq_some_iff.1 hj).1]; exact hj
    simpa [World.cell?, hg] using this
section
variable {P : Program} {T : TT} {N : Nat} {B : Nat} {w0 : World} {ds : List Deferred} {Q : Exit → Act → World → Prop} {F : Fr} {L : Lo} {pu : Prop} {ops : Array Oper} {rest : List Oper}
variable {dst : Option Tmp} {ty : TypeId} {p : String} {af : Array Edge} {gd : Option (Nat × Bool)}
theorem XL.store_at2 (hT : TOK P T) (i : Nat) {t : TypeId} {x y : Operand} {g j : Nat} {tg : TypeId} {v : Value} {cs : List Value} {L' : Lo}
    (hx : evo F x = some (.pointer (some (((⟨g, 0, none⟩ : Addr).add (j * 2)).add 1)))) (hy : evo F y = some v) (hL : L[i]? = some (g, cel tg cs)) (ht : lkG T.one t = some ()) (h1 : one1 v = true) (hj : 0 + j * 2 + 1 < cs.length)
    (hL' : setN L i (g, cel tg (cs.set (0 + j * 2 + 1) v)) = some L') (k : XL P N B w0 ds Q ops rest F L') :
    XL P N B w0 ds Q ops ({ dst := none, op := .store t x y, type := ty, pos := p, after := af, guard := none } :: rest) F L := by
  rw [add_off] at hx
  exact XL.store_at hT i hx hy hL ht h1 hj hL' k
end
end Go.Proofs.Ytmpaiphakjogjaa.X
/-
  The walks of Spans and bools, for lists that are equal (closure).
-/
namespace Go.Proofs.Ytmpaiphakjogjaa.X
open Go Go.RowKit Go.Proofs.Ytmpaiphakjogjaa.Bs
set_option linter.unusedVariables false
set_option maxHeartbeats 4000000 in
theorem Spans5x_any {q q2 : SV} {l : List (Int × Int)} {w : World} (hq : ListAt spnK5 w (Lt w.heap.size) q l) (hr : ListAt spnK5 w (Lt w.heap.size) q2 l) :
    Calls Try.prog 32 #[svV q, svV q2] w fun e w' => e = .returned (.bool true) ∧ Below w.heap.size w w' := by
  obtain ⟨A, m, c⟩ := q
  obtain ⟨A2, m2, c2⟩ := q2
  have lq := hq.len (by decide)
  have mq := hq.max
  have lr := hr.len (by decide)
  simp only at lq mq lr
  subst lq lr
  simp only [svV]
  refine enter Try.func32 rfl Try.ntmps32 rfl ?_; simp only [frame, Nat.zero_add, Nat.reduceAdd]
  repeat (first | (refine M0 ?_; first | refine SL ?_ | refine SB fun _ _ => ?_) | (refine M1 ?_; refine SC ?_) | (refine M2 ?_; refine SE ?_))
  rw [show decide ((l.length : Int) ≠ (l.length : Int)) = false from decide_eq_false (fun h => h rfl)]
  repeat (first | (refine M0 ?_; first | refine SL ?_ | refine SB fun _ _ => ?_) | (refine M1 ?_; refine SC ?_) | (refine M2 ?_; refine SE ?_))
  refine XC.loopk [0, 1] rfl (fun k : Nat => [(5, .int .i64 (k : Nat))]) (fun _ => []) (fun _ => w) (fun k => k ≤ l.length) (fun k => l.length - k) 0 (Nat.zero_le _) ZZSUB (fun _ h => h) ?_
  intro k hk
  dsimp only [List.cons_append, List.nil_append]
  repeat (first | (refine M0 ?_; first | refine SL ?_ | refine SB fun _ _ => ?_) | (refine M1 ?_; refine SC ?_) | (refine M2 ?_; refine SE ?_))
  refine XC.cond _ rfl (fun h2 => ?_) (fun h2 => ?_)
  rotate_left
  · repeat (first | (refine M0 ?_; first | refine SL ?_ | refine SB fun _ _ => ?_) | (refine M1 ?_; refine SC ?_) | (refine M2 ?_; refine SE ?_))
    refine XE.retg tok Try.results32 rfl (by simp only [and_self, and_true]) (fun w' S => ?_)
    exact ⟨rfl, S.toBelow⟩
  have hkn : k < l.length := by have := of_decide_eq_true h2; omega
  obtain ⟨ad, rfl, hlt⟩ := hq.addr (by decide) (by omega)
  obtain ⟨ad2, rfl, hlt2⟩ := hr.addr (by decide) (by omega)
  have ca := hq.elem (List.getElem?_eq_getElem hkn)
  have cb := hr.elem (List.getElem?_eq_getElem hkn)
  repeat (first | (refine M0 ?_; first | refine SL ?_ | refine SB fun _ _ => ?_) | (refine M1 ?_; refine SC ?_) | (refine M2 ?_; refine SE ?_))
  refine XC.drawT mixed rfl rfl (by kernel_rfl) ?_
  repeat (first | (refine M0 ?_; first | refine SL ?_ | refine SB fun _ _ => ?_ | refine Y4 (Ev.load_old_agg tok (spnK5.c l[k]) rfl rfl rfl (add_lt hlt) ca) ?_ | refine Y4 (Ev.load_old_agg tok (spnK5.c l[k]) rfl rfl rfl (add_lt hlt2) cb) ?_ | refine Y4 (Ev.spanNeq rfl rfl) ?_) | (refine M2 ?_; refine SE ?_) | (refine M3 ?_; first | refine SG ?_ | refine SF ?_ | refine YF (Ev.load_old_agg tok (spnK5.c l[k]) rfl rfl rfl (add_lt hlt) ca) ?_ | refine YF (Ev.load_old_agg tok (spnK5.c l[k]) rfl rfl rfl (add_lt hlt2) cb) ?_ | refine YF (Ev.spanNeq rfl rfl) ?_) | (refine M4 ?_; refine SR ?_) | (refine M5 ?_; first | exact M7 | refine YM ?_ | refine YN ?_ ?_))
  rw [show (!(decide (l[k].1 = l[k].1) && decide (l[k].2 = l[k].2))) = false from by simp]
  repeat (first | (refine M0 ?_; first | refine SL ?_ | refine SB fun _ _ => ?_) | (refine M1 ?_; refine SC ?_) | (refine M2 ?_; refine SE ?_))
  exact XE.round (s := k) (k + 1) (by omega) (by omega) ZZSUB (fun _ h => h)
set_option maxHeartbeats 4000000 in
theorem bools5x_any {q q2 : SV} {l : List Bool} {w : World} (hq : ListAt boolK5 w (Lt w.heap.size) q l) (hr : ListAt boolK5 w (Lt w.heap.size) q2 l) :
    Calls Try.prog 33 #[svV q, svV q2] w fun e w' => e = .returned (.bool true) ∧ Below w.heap.size w w' := by
  obtain ⟨A, m, c⟩ := q
  obtain ⟨A2, m2, c2⟩ := q2
  have lq := hq.len (by decide)
  have mq := hq.max
  have lr := hr.len (by decide)
  simp only at lq mq lr
  subst lq lr
  simp only [svV]
  refine enter Try.func33 rfl Try.ntmps33 rfl ?_; simp only [frame, Nat.zero_add, Nat.reduceAdd]
  repeat (first | (refine M0 ?_; first | refine SL ?_ | refine SB fun _ _ => ?_) | (refine M1 ?_; refine SC ?_) | (refine M2 ?_; refine SE ?_))
  rw [show decide ((l.length : Int) ≠ (l.length : Int)) = false from decide_eq_false (fun h => h rfl)]
  repeat (first | (refine M0 ?_; first | refine SL ?_ | refine SB fun _ _ => ?_) | (refine M1 ?_; refine SC ?_) | (refine M2 ?_; refine SE ?_))
  refine XC.loopk [0, 1] rfl (fun k : Nat => [(5, .int .i64 (k : Nat))]) (fun _ => []) (fun _ => w) (fun k => k ≤ l.length) (fun k => l.length - k) 0 (Nat.zero_le _) ZZSUB (fun _ h => h) ?_
  intro k hk
  dsimp only [List.cons_append, List.nil_append]
  repeat (first | (refine M0 ?_; first | refine SL ?_ | refine SB fun _ _ => ?_) | (refine M1 ?_; refine SC ?_) | (refine M2 ?_; refine SE ?_))
  refine XC.cond _ rfl (fun h2 => ?_) (fun h2 => ?_)
  rotate_left
  · repeat (first | (refine M0 ?_; first | refine SL ?_ | refine SB fun _ _ => ?_) | (refine M1 ?_; refine SC ?_) | (refine M2 ?_; refine SE ?_))
    refine XE.retg tok Try.results33 rfl (by simp only [and_self, and_true]) (fun w' S => ?_)
    exact ⟨rfl, S.toBelow⟩
  have hkn : k < l.length := by have := of_decide_eq_true h2; omega
  obtain ⟨ad, rfl, hlt⟩ := hq.addr (by decide) (by omega)
  obtain ⟨ad2, rfl, hlt2⟩ := hr.addr (by decide) (by omega)
  have ca := hq.elem (List.getElem?_eq_getElem hkn) 0 (.bool l[k]) rfl
  have cb := hr.elem (List.getElem?_eq_getElem hkn) 0 (.bool l[k]) rfl
  rw [add_add, Nat.add_zero] at ca cb
  have ca : w.cell? (ad.add (k * 1)) = some (.bool l[k]) := ca
  have cb : w.cell? (ad2.add (k * 1)) = some (.bool l[k]) := cb
  repeat (first | (refine M0 ?_; first | refine SL ?_ | refine SB fun _ _ => ?_) | (refine M1 ?_; refine SC ?_) | (refine M2 ?_; refine SE ?_))
  refine XC.drawT mixed rfl rfl (by kernel_rfl) ?_
  repeat (first | (refine M0 ?_; first | refine SL ?_ | refine SB fun _ _ => ?_ | refine Y4 (Ev.load_old tok rfl rfl (add_lt hlt) ca) ?_ | refine Y4 (Ev.load_old tok rfl rfl (add_lt hlt2) cb) ?_ | refine Y4 (Ev.neqB Try.underlying4 rfl rfl) ?_) | (refine M2 ?_; refine SE ?_) | (refine M3 ?_; first | refine SG ?_ | refine SF ?_ | refine YF (Ev.load_old tok rfl rfl (add_lt hlt) ca) ?_ | refine YF (Ev.load_old tok rfl rfl (add_lt hlt2) cb) ?_ | refine YF (Ev.neqB Try.underlying4 rfl rfl) ?_) | (refine M4 ?_; refine SR ?_) | (refine M5 ?_; first | exact M7 | refine YM ?_ | refine YN ?_ ?_))
  rw [show (l[k] != l[k]) = false from by simp]
  repeat (first | (refine M0 ?_; first | refine SL ?_ | refine SB fun _ _ => ?_) | (refine M1 ?_; refine SC ?_) | (refine M2 ?_; refine SE ?_))
  exact XE.round (s := k) (k + 1) (by omega) (by omega) ZZSUB (fun _ h => h)
end Go.Proofs.Ytmpaiphakjogjaa.X
/-
  The values of the document's examples in plain words (closure).
-/
namespace Go.Proofs.Ytmpaiphakjogjaa.Bs
open Go Go.Proofs.Ytmpaiphakjogjaa.X
set_option linter.unusedVariables false
def CTk.spansC (t : CTk) (k : Nat) (p : CPl) : List (Int × Int) := (List.range t.n).map fun i => (t.loC (lvD (t.ins k p i)), t.hiC (lvD (t.ins k p i)))
theorem some_of {o : Option Lv} (h : o.isNone = false) : ∃ x, o = some x := by
  cases o with
  | none => cases h
  | some x => exact ⟨x, rfl⟩
theorem spans_c {t : CTk} (ht : CtOk t) {k : Nat} (hk : k < t.m) {p : CPl} (hp : t.strange p = false) (hall : ∀ i, i < t.n → (t.ins k p i).isNone = false) : t.spans k p t.n = t.spansC k p := by
  unfold CTk.spans CTk.spansC
  refine List.map_congr_left fun i hi => ?_
  have hi := List.mem_range.1 hi
  obtain ⟨x, hx⟩ := some_of (hall i hi)
  obtain ⟨h1, h2⟩ := hi_c ht hk hp hi hx
  rw [hx]
  show (t.lo x, t.hi x) = (t.loC x, t.hiC x)
  rw [h1, h2]
def CTk.holdC (t : CTk) (p : CPl) : List Bool := (List.range t.m).map fun k => (t.failsC k p).isNone
theorem holdL_c {t : CTk} (ht : CtOk t) {p : CPl} (hp : t.strange p = false) : t.holdL p = t.holdC p := List.map_congr_left fun k hk => holds_c ht (List.mem_range.1 hk) hp
def CTk.gtC (t : CTk) (x y : Lv) : Bool := if x.shut = y.shut then decide (y.n < x.n) else if x.shut = true then decide (y.n < t.hiC x) else decide (t.loC y < x.n)
def CTk.pkToC (t : CTk) (k : Nat) (p : CPl) : Nat → Nat
  | 0 => 0
  | i + 1 => if 0 < i ∧ t.gtC (lvD (t.ins k p i)) (lvD (t.ins k p (t.pkToC k p i))) = true then i else t.pkToC k p i
theorem pkTo_c {t : CTk} (ht : CtOk t) {k : Nat} (hk : k < t.m) {p : CPl} (hp : t.strange p = false) (hall : ∀ i, i < t.n → (t.ins k p i).isNone = false) : ∀ i, i ≤ t.n → t.pkTo k p i = t.pkToC k p i := by
  intro i
  induction i with
  | zero => intro _; rfl
  | succ i ih =>
    intro hi
    have h1 := ih (by omega)
    have hj : t.pkToC k p i < t.n := by
      rcases Nat.eq_zero_or_pos i with rfl | h0
      · show 0 < t.n; omega
      · have := pkTo_lt t k p i h0; omega
    obtain ⟨x, hx⟩ := some_of (hall i (by omega))
    obtain ⟨y, hy⟩ := some_of (hall _ hj)
    obtain ⟨a1, a2⟩ := hi_c ht hk hp (by omega : i < t.n) hx
    obtain ⟨b1, b2⟩ := hi_c ht hk hp hj hy
    have e : t.gt (lvD (t.ins k p i)) (lvD (t.ins k p (t.pkToC k p i))) = t.gtC (lvD (t.ins k p i)) (lvD (t.ins k p (t.pkToC k p i))) := by
      rw [hx, hy]
      show t.gt x y = t.gtC x y
      unfold CTk.gt CTk.gtC
      rw [a1, b2]
    rw [CTk.pkTo, CTk.pkToC, h1, e]
def CTk.peakC (t : CTk) (p : CPl) (k : Nat) : II := (t.from_ + (t.pkToC k p t.n : Nat), t.hiC (lvD (t.ins k p (t.pkToC k p t.n))))
theorem peaks_c {t : CTk} (ht : CtOk t) {p : CPl} (hp : t.strange p = false) (hall : ∀ k, k < t.m → ∀ i, i < t.n → (t.ins k p i).isNone = false) : t.peaks p = (List.range t.m).map (t.peakC p) := by
  refine List.map_congr_left fun k hk => ?_
  have hk := List.mem_range.1 hk
  have h1 := pkTo_c ht hk hp (hall k hk) t.n (Nat.le_refl _)
  have hj : t.pkToC k p t.n < t.n := by have := pkTo_lt t k p t.n (by have := ht.n1; omega); omega
  obtain ⟨y, hy⟩ := some_of (hall k hk _ hj)
  have b1 := (hi_c ht hk hp hj hy).1
  unfold CTk.peak CTk.pkAt CTk.pkLv CTk.peakC
  rw [h1, hy]
  show (_, t.hi y) = (_, t.hiC y)
  rw [b1]
def CTk.witD (t : CTk) (i : Int) : II := match firstB (fun k => (t.failsC k (t.plan i)).isSome) t.m with
  | none => (0, 0)
  | some k => match t.failsC k (t.plan i) with
    | none => (0, 0)
    | some a => (((k : Nat) : Int), t.from_ + ((a : Nat) : Int))
theorem wit_c {t : CTk} (ht : CtOk t) {i : Int} (h0 : 0 ≤ i) (h1 : i ≤ t.last) : t.witC i = t.witD i ∧ (t.wit i).isNone = (firstB (fun k => (t.failsC k (t.plan i)).isSome) t.m).isNone := by
  have hst := (plan_ok ht h0 h1).1
  have e : firstB (fun k => (t.fails k (t.plan i)).isSome) t.m = firstB (fun k => (t.failsC k (t.plan i)).isSome) t.m := firstB_congr fun k hk => by rw [fails_c ht hk hst]
  unfold CTk.witC CTk.wit CTk.witD
  rw [e]
  cases h : firstB (fun k => (t.failsC k (t.plan i)).isSome) t.m with
  | none => exact ⟨rfl, rfl⟩
  | some k =>
    obtain ⟨hk, h2, _⟩ := firstB_some.1 h
    simp only
    rw [fails_c ht hk hst]
    cases hf : t.failsC k (t.plan i) with
    | none => rw [hf] at h2; cases h2
    | some a => exact ⟨rfl, rfl⟩
theorem notL_c {t : CTk} (ht : CtOk t) {i : Int} (h0 : 0 ≤ i) (h1 : i ≤ t.last) : t.notL i = (List.range t.m).filter fun k => (t.failsC k (t.plan i)).isSome := by
  have hst := (plan_ok ht h0 h1).1
  unfold CTk.notL
  exact List.filter_congr fun k hk => by rw [fails_c ht (List.mem_range.1 hk) hst]
/-! ### the example -/
def kxP : CPl := ⟨10, 15⟩
theorem kx_q : cxT.quiN = 15 := by
  unfold CTk.quiN
  rw [if_neg (by simp [cx_e])]
  exact (by kernel_rfl : cxT.from_ + (cxT.q : Int) = 15)
theorem kx_pe {i : Int} (h : outB i cxT.from_ (cxT.from_ + cxT.last) = false) : cxT.plnE i = 0 ∧ cxT.plnP i = cxT.plan (i - cxT.from_) := by
  have e : cxT.plnE i = 0 := by unfold CTk.plnE; rw [if_neg (by simp [cx_e]), if_neg (by simp [h])]
  exact ⟨e, by unfold CTk.plnP; rw [if_neg (by simp [e])]⟩
theorem kx_10 : cxT.plnE 10 = 0 ∧ cxT.plnP 10 = kxP := by
  obtain ⟨h1, h2⟩ := kx_pe (i := 10) (by kernel_rfl)
  exact ⟨h1, h2.trans (by kernel_rfl : cxT.plan (10 - cxT.from_) = kxP)⟩
theorem kx_11 : cxT.plnE 11 = 0 ∧ cxT.plnP 11 = ⟨11, 15⟩ := by
  obtain ⟨h1, h2⟩ := kx_pe (i := 11) (by kernel_rfl)
  exact ⟨h1, h2.trans (by kernel_rfl : cxT.plan (11 - cxT.from_) = ⟨11, 15⟩)⟩
theorem kx_14 : cxT.plnE 14 = 0 ∧ cxT.plnP 14 = ⟨14, 16⟩ := by
  obtain ⟨h1, h2⟩ := kx_pe (i := 14) (by kernel_rfl)
  exact ⟨h1, h2.trans (by kernel_rfl : cxT.plan (14 - cxT.from_) = ⟨14, 16⟩)⟩
theorem kx_st : cxT.strange kxP = false := by kernel_rfl
theorem kx_st2 : cxT.strange ⟨11, 15⟩ = false := by kernel_rfl
theorem kx_f0 : firstB (fun i => (cxT.ins 0 kxP i).isNone) cxT.n = none := by kernel_rfl
theorem kx_f1 : firstB (fun i => (cxT.ins 1 kxP i).isNone) cxT.n = none := by kernel_rfl
theorem kx_all : ∀ k, k < cxT.m → ∀ i, i < cxT.n → (cxT.ins k kxP i).isNone = false := cx_all2 (firstB_none.1 kx_f0) (firstB_none.1 kx_f1)
theorem kx_s0 : cxT.spansC 0 kxP = [(0, 0), (500, 500), (528, 529), (605, 606), (728, 729), (500, 500)] := by kernel_rfl
theorem kx_s1 : cxT.spansC 1 kxP = [(0, 0), (0, 0), (28, 29), (55, 56), (81, 82), (0, 0)] := by kernel_rfl
theorem kx_i0 : cxT.innE 0 kxP = 0 ∧ cxT.innL 0 kxP = [(0, 0), (500, 500), (528, 529), (605, 606), (728, 729), (500, 500)] := by
  have e : cxT.innE ((0 : Nat) : Int) kxP = 0 := by rw [inn_e cx_ok (by decide) kx_st, kx_f0]; rfl
  exact ⟨e, by unfold CTk.innL; rw [if_neg (fun h => h e)]; exact (spans_c cx_ok (by decide) kx_st (kx_all 0 (by decide))).trans kx_s0⟩
theorem kx_i1 : cxT.innE 1 kxP = 0 ∧ cxT.innL 1 kxP = [(0, 0), (0, 0), (28, 29), (55, 56), (81, 82), (0, 0)] := by
  have e : cxT.innE ((1 : Nat) : Int) kxP = 0 := by rw [inn_e cx_ok (by decide) kx_st, kx_f1]; rfl
  exact ⟨e, by unfold CTk.innL; rw [if_neg (fun h => h e)]; exact (spans_c cx_ok (by decide) kx_st (kx_all 1 (by decide))).trans kx_s1⟩
theorem kx_h0 : cxT.hldE kxP = 0 ∧ cxT.hldL kxP = [true, true] := by
  have e := hld_of cx_ok kx_st
  exact ⟨e, (hld_0 e).2.2.2.trans ((holdL_c cx_ok kx_st).trans (by kernel_rfl : cxT.holdC kxP = [true, true]))⟩
theorem kx_h1 : cxT.hldE ⟨11, 15⟩ = 0 ∧ cxT.hldL ⟨11, 15⟩ = [false, true] := by
  have e := hld_of cx_ok kx_st2
  exact ⟨e, (hld_0 e).2.2.2.trans ((holdL_c cx_ok kx_st2).trans (by kernel_rfl : cxT.holdC ⟨11, 15⟩ = [false, true]))⟩
theorem kx_al : CtOk (cxT.alone 1) := alone_ok cx_ok (by decide)
theorem kx_las : cxT.lasN 1 = 14 ∧ cxT.lasE 1 = 0 := by
  have hb : outB 1 0 ((cxT.m : Int) - 1) = false := by kernel_rfl
  have h : cxT.lasI (1 : Int).toNat = some 4 := by
    unfold CTk.lasI
    refine lastB_some.2 ⟨by rw [cx_beg]; omega, ?_, fun j h1 h2 => ?_⟩
    · show (cxT.alone 1).holds 0 ((cxT.alone 1).plan ((4 : Nat) : Int)) = true
      rw [holds_c kx_al (by decide) (plan_ok kx_al (by omega) (by rw [show (cxT.alone 1).last = 4 from by kernel_rfl]; omega)).1]; kernel_rfl
    · rw [cx_beg] at h2; omega
  refine ⟨?_, ?_⟩
  · unfold CTk.lasN
    rw [if_neg (by simp [cx_e]), if_neg (by simp [hb]), h]; kernel_rfl
  · unfold CTk.lasE
    rw [if_neg (by simp [cx_e]), if_neg (by simp [hb]), h]
theorem kx_ru {r : CRu} (h : (outB r.count 1 8 || outB r.early 0 60) = false) : ruE cxT r = 0 := by
  unfold ruE
  rw [if_neg (by simp [cx_e]), if_neg (by rw [h]; decide)]
theorem kx_ru1 : ruE cxT ⟨1, 1⟩ = 0 := kx_ru (by kernel_rfl)
theorem kx_ru2 : ruE cxT ⟨2, 3⟩ = 0 := kx_ru (by kernel_rfl)
theorem kx_al1 : cxT.alwB cxR 10 = true := by unfold CTk.alwB; rw [if_neg (by simp [cx_ru])]; kernel_rfl
theorem kx_al2 : cxT.alwB cxR 15 = false := by unfold CTk.alwB; rw [if_neg (by simp [cx_ru])]; kernel_rfl
theorem kx_al3 : cxT.alwB ⟨1, 1⟩ 10 = false := by unfold CTk.alwB; rw [if_neg (by simp [kx_ru1])]; kernel_rfl
theorem kx_pks : cxT.peaks kxP = [(14, 729), (14, 82)] := (peaks_c cx_ok kx_st kx_all).trans (by kernel_rfl)
theorem kx_nev : cxT.peaks nev = [(13, 2500), (10, 0)] := (peaks_c cx_ok (nev_ok cxT) (fun k hk i hi => by
  have := nev_ins cxT k i hk hi
  cases h : cxT.ins k nev i with
  | none => rw [h] at this; cases this
  | some x => rfl)).trans (by kernel_rfl)
theorem kx_lat : cxT.laterL 0 = [(0, 12), (0, 12), (0, 12), (0, 12)] := by
  have e : cxT.laterL 0 = (List.range 4).map fun j => cxT.witD ((0 + 1 + j : Nat) : Int) := by
    unfold CTk.laterL
    rw [cx_beg]
    refine List.map_congr_left fun j hj => ?_
    have hj := List.mem_range.1 hj
    exact (wit_c cx_ok (by omega) (by rw [cx_last]; omega)).1
  exact e.trans (by kernel_rfl)
theorem kx_dec : cxT.decE cxR = 0 ∧ cxT.decD cxR = ⟨kxP, [(14, 729), (14, 82)], [(0, 12), (0, 12), (0, 12), (0, 12)]⟩ := by
  obtain ⟨h1, h2⟩ := dec_some cx_ru cx_called cx_lastOk
  rw [if_pos cx_may] at h1 h2
  refine ⟨h1, h2.trans ?_⟩
  have e : cxT.plan ((0 : Nat) : Int) = kxP := by kernel_rfl
  rw [e, kx_pks, kx_lat]
theorem kx_dec2 : cxT.decE ⟨2, 3⟩ = 0 ∧ cxT.decD ⟨2, 3⟩ = ⟨nev, [(13, 2500), (10, 0)], []⟩ := by
  obtain ⟨h1, h2⟩ := dec_0 kx_ru2 (by kernel_rfl)
  exact ⟨h1, by rw [h2, kx_nev]⟩
def kxD : CDe := ⟨kxP, [(14, 728), (14, 82)], [(0, 12), (0, 12), (0, 12), (0, 12)]⟩
theorem kx_wit : cxT.wit (kxP.close - cxT.from_) = none := by
  have h := (lastOk_some.1 cx_lastOk).2.1
  exact h
theorem kx_acc : cxT.acc cxR kxD = (0, 152) := by
  have hE : cxT.earB cxR kxD = true := by unfold CTk.earB; rw [if_neg (by decide)]; exact cx_may
  have hH : cxT.hldsB kxD = true := by
    unfold CTk.hldsB
    rw [show kxD.plan = kxP from rfl, kx_wit]
    rw [decide_eq_true (by kernel_rfl : kxP = cxT.plan (kxP.close - cxT.from_))]
    simp
  have hp : cxT.peak kxP 0 = (14, 729) := by
    have h : ((List.range cxT.m).map (cxT.peak kxP))[0]? = some (14, 729) := congrArg (fun l => l[0]?) kx_pks
    rw [List.getElem?_map, List.getElem?_range (by decide)] at h
    exact Option.some.inj h
  exact acc_heights (k := 0) cx_ru kx_st rfl hE hH (firstB_some.2 ⟨by decide, by
    show decide (((14 : Int), (728 : Int)) ≠ cxT.peak kxP 0) = true
    rw [hp]; decide, fun j hj => by omega⟩)
/-! ### the example with a lesser limit -/
def kxU : CTk := { cxT with limit := 700 }
theorem ku_e : ctE kxU = 0 := by
  unfold ctE chkC
  rw [if_neg (by rw [show chkE kxU.b = 0 from cx_chk]; decide), if_neg (by rw [show (outB (kxU.m : Int) 1 8 || outB (kxU.n : Int) 1 60) = false from by kernel_rfl]; decide)]
  rw [show firstN (hisErr kxU) kxU.m = none from firstN_none (cx_all2 (by kernel_rfl) (by kernel_rfl))]
  simp only
  rw [if_neg (by decide), if_neg (by rw [show (kxU.river.any fun v => outB v 0 10000000) = false from by kernel_rfl]; decide), if_neg (by decide), if_neg (by rw [show (outB kxU.out 0 10000000 || (outB kxU.limit (kxU.b.row 0).level 20000 || outB kxU.delay 0 30)) = false from by kernel_rfl]; decide), if_neg (by rw [show filBad kxU = false from by kernel_rfl]; decide)]
theorem ku_ok : CtOk kxU := ctOk_of ku_e
theorem ku_ru : ruE kxU cxR = 0 := by
  unfold ruE
  rw [if_neg (by simp [ku_e]), if_neg (by rw [show (outB cxR.count 1 8 || outB cxR.early 0 60) = false from by kernel_rfl]; decide)]
theorem ku_last : kxU.last = 4 := by kernel_rfl
theorem ku_beg : kxU.beg = 5 := by kernel_rfl
theorem ku_called : kxU.called cxR = true := by kernel_rfl
theorem ku_5 {P : Nat → Prop} (h0 : P 0) (h1 : P 1) (h2 : P 2) (h3 : P 3) (h4 : P 4) : ∀ j, j < 5 → P j := by
  intro j hj
  match j, hj with
  | 0, _ => exact h0
  | 1, _ => exact h1
  | 2, _ => exact h2
  | 3, _ => exact h3
  | 4, _ => exact h4
theorem ku_w : ∀ j, j < 5 → (firstB (fun k => (kxU.failsC k (kxU.plan ((j : Nat) : Int))).isSome) kxU.m).isNone = false := ku_5 (by kernel_rfl) (by kernel_rfl) (by kernel_rfl) (by kernel_rfl) (by kernel_rfl)
theorem ku_n : ∀ j, j < 5 → ((List.range kxU.m).filter fun k => (kxU.failsC k (kxU.plan ((j : Nat) : Int))).isSome) = [0] := ku_5 (by kernel_rfl) (by kernel_rfl) (by kernel_rfl) (by kernel_rfl) (by kernel_rfl)
theorem ku_dec : kxU.decE cxR = 9 ∧ kxU.decD cxR = CDe.zero := by
  refine dec_none ku_ru ku_called (lastB_none.2 fun j hj => ?_)
  rw [ku_beg] at hj
  rw [(wit_c ku_ok (by omega) (by rw [ku_last]; omega)).2]
  exact ku_w j hj
theorem ku_bst : kxU.bstE cxR = 0 ∧ kxU.bstP cxR = ⟨14, 16⟩ ∧ kxU.bstN cxR = [0] := by
  have hn : ∀ j : Nat, j < 5 → kxU.notL (j : Nat) = [0] := fun j hj => (notL_c ku_ok (by omega) (by rw [ku_last]; omega)).trans (ku_n j hj)
  have hb : kxU.bst cxR = some 4 := bst_eq (by decide) (by kernel_rfl) (fun j hj => by
    have h4 := (may_in hj).2.2.1
    rw [ku_last] at h4
    rw [hn 4 (by omega), hn j (by omega)]
    exact ⟨Nat.le_refl _, fun h => by omega⟩)
  obtain ⟨h1, h2, h3⟩ := bst_some ku_ru ku_called hb
  refine ⟨h1, h2.trans (by kernel_rfl), ?_⟩
  rw [h3, hn 4 (by omega)]
  rfl
end Go.Proofs.Ytmpaiphakjogjaa.Bs
/-
  The law ClosureKnown.
-/
namespace Go.Proofs.Ytmpaiphakjogjaa.X
open Go Go.RowKit Go.Proofs.Ytmpaiphakjogjaa.Bs
set_option linter.unusedVariables false
theorem ListAt.intsK5 {w : World} {ok : Nat → Prop} {r : SV} {l : List Int} (h : ListAt intK5 w ok r l) : IntsAt w ok r l := ⟨by have := h.rd; rw [ints_flat5] at this; exact this, h.max⟩
theorem ku_at {w : World} {B : Nat} {v : CTV} (h : CtAt w B v cxT) : CtAt w B v kxU := ⟨h.bas, h.fil, h.his, h.river, h.cap⟩
set_option maxHeartbeats 16000000 in
set_option maxRecDepth 10000 in
theorem ClosureKnown_any {w : World} : Calls Try.prog 10 #[] w fun e w' => e = .returned (.bool true) ∧ Below w.heap.size w w' := by
  have haw := fun {L : Lo} {W : World} (w5 : World) (S5 : Sys w.heap.size W L w5) => Awake5_any (w := w5)
  refine enter Try.func10 rfl Try.ntmps10 rfl ?_; simp only [frame, Nat.zero_add, Nat.reduceAdd]
  repeat (first | (refine M0 ?_; first | refine SL ?_ | refine SB fun _ _ => ?_) | (refine M1 ?_; refine SC ?_) | (refine M2 ?_; refine SE ?_))
  refine XL.callF (ks := []) (rs := []) (hs := []) (b0 := w.heap.size) (wE := w) Tsk5V (ck rfl) rfl rfl (Fam.start (Nat.le_refl w.heap.size)) (fun _ h => by cases h) (Below.refl w.heap.size w) (fun w1 S1 _ _ => Task5_made w1) (fun w1 x new hR hF hB hk => ?_) ZZHL
  obtain ⟨v1, rfl, rfl⟩ := hR
  have hqu := fun (w5 : World) (h : CtAt w5 w5.heap.size v1 cxT) => Quiet_any h
  have hpa := fun (w5 : World) (h : CtAt w5 w5.heap.size v1 cxT) => Plan_any (i := 10) h
  have hpb := fun (w5 : World) (h : CtAt w5 w5.heap.size v1 cxT) => Plan_any (i := 14) h
  have hpc := fun (w5 : World) (h : CtAt w5 w5.heap.size v1 cxT) => Plan_any (i := 11) h
  have hia := fun (w5 : World) (h : CtAt w5 w5.heap.size v1 cxT) => Inner_made (h0 := 0) (p := kxP) h
  have hib := fun (w5 : World) (h : CtAt w5 w5.heap.size v1 cxT) => Inner_made (h0 := 1) (p := kxP) h
  have hha := fun (w5 : World) (h : CtAt w5 w5.heap.size v1 cxT) => Holds_made (p := kxP) h
  have hhb := fun (w5 : World) (h : CtAt w5 w5.heap.size v1 cxT) => Holds_made (p := ⟨11, 15⟩) h
  have hla := fun (w5 : World) (h : CtAt w5 w5.heap.size v1 cxT) => Last_any (h0 := 1) h
  have haa := fun (w5 : World) (h : CtAt w5 w5.heap.size v1 cxT) => Allowed_any (r := cxR) (i := 10) h
  have hab := fun (w5 : World) (h : CtAt w5 w5.heap.size v1 cxT) => Allowed_any (r := cxR) (i := 15) h
  have hac := fun (w5 : World) (h : CtAt w5 w5.heap.size v1 cxT) => Allowed_any (r := ⟨1, 1⟩) (i := 10) h
  have hda := fun (w5 : World) (h : CtAt w5 w5.heap.size v1 cxT) => Decide_made (r := cxR) h
  have hdb := fun (w5 : World) (h : CtAt w5 w5.heap.size v1 cxT) => Decide_made (r := ⟨2, 3⟩) h
  have hcc := fun (q1 q2 : SV) (w5 : World) (h : CtAt w5 w5.heap.size v1 cxT) (h1 : ListAt pekK5 w5 (Lt w5.heap.size) q1 kxD.peaks) (h2 : ListAt wtnK5 w5 (Lt w5.heap.size) q2 kxD.later) => Accept_any (r := cxR) h h1 h2
  have hdu := fun (w5 : World) (h : CtAt w5 w5.heap.size v1 kxU) => Decide_made (r := cxR) h
  have hbu := fun (w5 : World) (h : CtAt w5 w5.heap.size v1 kxU) => Best_made (r := cxR) h
  simp only [kx_q, cx_e, kx_10.1, kx_10.2, kx_14.1, kx_14.2, kx_11.1, kx_11.2, kx_las.1, kx_las.2, kx_al1, kx_al2, kx_al3, cx_ru, kx_ru1, kx_acc, ctkV, ctkC, plnV, ruV, decV, decC, svV] at hqu hpa hpb hpc hia hib hha hhb hla haa hab hac hda hdb hcc hdu hbu
  simp only [ctkV, ctkC]
  repeat (first | (refine M0 ?_; first | refine SL ?_ | refine SB fun _ _ => ?_ | refine Y4 (Ev.call (f := 30) (ck rfl) rfl (fun w5 S5 => Rules5_any w5)) ?_) | (refine M1 ?_; refine SC ?_) | (refine M2 ?_; refine SE ?_))
  refine Y4 (Ev.call (f := 13) (ck rfl) rfl (fun w5 S5 => hqu w5 ((hF.sys S5 ZZHL).ct (.head _)))) ?_
  repeat (first | (refine M0 ?_; first | refine SL ?_ | refine SB fun _ _ => ?_) | (refine M1 ?_; refine SC ?_) | (refine M2 ?_; refine SE ?_))
  refine Y4 (Ev.call (f := 15) (ck rfl) rfl (fun w5 S5 => hpa w5 ((hF.sys S5 ZZHL).ct (.head _)))) ?_
  repeat (first | (refine M0 ?_; first | refine SL ?_ | refine SB fun _ _ => ?_) | (refine M1 ?_; refine SC ?_) | (refine M2 ?_; refine SE ?_))
  refine Y4 (Ev.call (f := 15) (ck rfl) rfl (fun w5 S5 => hpb w5 ((hF.sys S5 ZZHL).ct (.head _)))) ?_
  repeat (first | (refine M0 ?_; first | refine SL ?_ | refine SB fun _ _ => ?_ | refine Y4 (Ev.plnNeq rfl rfl) ?_) | (refine M1 ?_; refine SC ?_) | (refine M2 ?_; refine SE ?_))
  refine XL.callF (wE := w) (InnR cxT 0 kxP) (ck rfl) rfl rfl hF hk hB (fun w5 S5 hF5 _ => hia w5 (hF5.ct (.head _))) (fun w2 x new hR hF hB hk => ?_) ZZHL
  obtain ⟨⟨i1, i2, i3⟩, rfl, rfl⟩ := hR
  rw [kx_i0.1]
  rw [kx_i0.2] at hF
  simp only [svV]
  repeat (first | (refine M0 ?_; first | refine SL ?_ | refine SB fun _ _ => ?_) | (refine M1 ?_; refine SC ?_) | (refine M2 ?_; refine SE ?_))
  refine XL.callF (wE := w) (InnR cxT 1 kxP) (ck rfl) rfl rfl hF hk hB (fun w5 S5 hF5 _ => hib w5 (hF5.ct (.tail _ (.head _)))) (fun w2 x new hR hF hB hk => ?_) ZZHL
  obtain ⟨⟨j1, j2, j3⟩, rfl, rfl⟩ := hR
  rw [kx_i1.1]
  rw [kx_i1.2] at hF
  simp only [svV]
  repeat (first | (refine M0 ?_; first | refine SL ?_ | refine SB fun _ _ => ?_) | (refine M1 ?_; refine SC ?_) | (refine M2 ?_; refine SE ?_))
  refine XL.newRow tok (K := spnK5) (l := [(0, 0), (500, 500), (528, 529), (605, 606), (728, 729), (500, 500)]) (wE := w) rfl rfl rfl rfl rfl rfl rfl rfl rfl ⟨rfl, rfl⟩ rfl rfl hF hk hB hB.size (fun a ha x hx => by cases hx) (fun w7 ga hF hB hk => ?_) ZZHL
  have hsa := fun {L : Lo} (w5 : World) (S5 : Sys w.heap.size w7 L w5) (hL5 : ∀ e, e ∈ L → e.1 ∈ _ ∨ w7.heap.size ≤ e.1) => Spans5x_any (q := ⟨i1, i2, i3⟩) (q2 := ⟨some ⟨ga, 0, none⟩, 6, 6⟩) (Held.lt (x := hList spnK5 ⟨i1, i2, i3⟩ [(0, 0), (500, 500), (528, 529), (605, 606), (728, 729), (500, 500)]) ((hF.sys S5 hL5).get (.tail _ (.head _)))) ((hF.sys S5 hL5).row_at (.head _))
  simp only [svV] at hsa
  repeat (first | (refine M0 ?_; first | refine SL ?_ | refine SB fun _ _ => ?_ | refine Y4 (Ev.call (f := 32) (ck rfl) rfl (fun w5 S5 => hsa w5 S5 ZZHL)) ?_) | (refine M1 ?_; refine SC ?_) | (refine M2 ?_; refine SE ?_))
  refine XL.newRow tok (K := spnK5) (l := [(0, 0), (0, 0), (28, 29), (55, 56), (81, 82), (0, 0)]) (wE := w) rfl rfl rfl rfl rfl rfl rfl rfl rfl ⟨rfl, rfl⟩ rfl rfl hF hk hB hB.size (fun a ha x hx => by cases hx) (fun w7 gb hF hB hk => ?_) ZZHL
  have hsb := fun {L : Lo} (w5 : World) (S5 : Sys w.heap.size w7 L w5) (hL5 : ∀ e, e ∈ L → e.1 ∈ _ ∨ w7.heap.size ≤ e.1) => Spans5x_any (q := ⟨j1, j2, j3⟩) (q2 := ⟨some ⟨gb, 0, none⟩, 6, 6⟩) (Held.lt (x := hList spnK5 ⟨j1, j2, j3⟩ [(0, 0), (0, 0), (28, 29), (55, 56), (81, 82), (0, 0)]) ((hF.sys S5 hL5).get (.head _))) ((hF.sys S5 hL5).row_at (.head _))
  simp only [svV] at hsb
  repeat (first | (refine M0 ?_; first | refine SL ?_ | refine SB fun _ _ => ?_ | refine Y4 (Ev.call (f := 32) (ck rfl) rfl (fun w5 S5 => hsb w5 S5 ZZHL)) ?_) | (refine M1 ?_; refine SC ?_) | (refine M2 ?_; refine SE ?_))
  have hF := Fam.forget (hs' := [hCt v1 cxT]) hF (fun x hx => by rw [List.mem_singleton.1 hx]; exact (.tail _ (.tail _ (.head _))))
  refine XL.callF (wE := w) (HldR cxT kxP) (ck rfl) rfl rfl hF hk hB (fun w5 S5 hF5 _ => hha w5 (hF5.ct (.head _))) (fun w2 x new hR hF hB hk => ?_) ZZHL
  obtain ⟨⟨m1, m2, m3⟩, rfl, rfl⟩ := hR
  rw [kx_h0.1]
  rw [kx_h0.2] at hF
  simp only [svV]
  repeat (first | (refine M0 ?_; first | refine SL ?_ | refine SB fun _ _ => ?_) | (refine M1 ?_; refine SC ?_) | (refine M2 ?_; refine SE ?_))
  refine Y4 (Ev.call (f := 15) (ck rfl) rfl (fun w5 S5 => hpc w5 ((hF.sys S5 ZZHL).ct (.tail _ (.head _))))) ?_
  repeat (first | (refine M0 ?_; first | refine SL ?_ | refine SB fun _ _ => ?_) | (refine M1 ?_; refine SC ?_) | (refine M2 ?_; refine SE ?_))
  refine XL.callF (wE := w) (HldR cxT ⟨11, 15⟩) (ck rfl) rfl rfl hF hk hB (fun w5 S5 hF5 _ => hhb w5 (hF5.ct (.tail _ (.head _)))) (fun w2 x new hR hF hB hk => ?_) ZZHL
  obtain ⟨⟨n1, n2, n3⟩, rfl, rfl⟩ := hR
  rw [kx_h1.1]
  rw [kx_h1.2] at hF
  simp only [svV]
  repeat (first | (refine M0 ?_; first | refine SL ?_ | refine SB fun _ _ => ?_) | (refine M1 ?_; refine SC ?_) | (refine M2 ?_; refine SE ?_))
  refine Y4 (Ev.call (f := 23) (ck rfl) rfl (fun w5 S5 => hla w5 ((hF.sys S5 ZZHL).ct (.tail _ (.tail _ (.head _)))))) ?_
  repeat (first | (refine M0 ?_; first | refine SL ?_ | refine SB fun _ _ => ?_) | (refine M1 ?_; refine SC ?_) | (refine M2 ?_; refine SE ?_))
  refine XL.newRow tok (K := boolK5) (l := [true, true]) (wE := w) rfl rfl rfl rfl rfl rfl rfl rfl rfl ⟨rfl, rfl⟩ rfl rfl hF hk hB hB.size (fun a ha x hx => by cases hx) (fun w7 gc hF hB hk => ?_) ZZHL
  have hsc := fun {L : Lo} (w5 : World) (S5 : Sys w.heap.size w7 L w5) (hL5 : ∀ e, e ∈ L → e.1 ∈ _ ∨ w7.heap.size ≤ e.1) => bools5x_any (q := ⟨m1, m2, m3⟩) (q2 := ⟨some ⟨gc, 0, none⟩, 2, 2⟩) (Held.lt (x := hList boolK5 ⟨m1, m2, m3⟩ [true, true]) ((hF.sys S5 hL5).get (.tail _ (.head _)))) ((hF.sys S5 hL5).row_at (.head _))
  simp only [svV] at hsc
  repeat (first | (refine M0 ?_; first | refine SL ?_ | refine SB fun _ _ => ?_ | refine Y4 (Ev.call (f := 33) (ck rfl) rfl (fun w5 S5 => hsc w5 S5 ZZHL)) ?_) | (refine M1 ?_; refine SC ?_) | (refine M2 ?_; refine SE ?_))
  refine XL.newRow tok (K := boolK5) (l := [false, true]) (wE := w) rfl rfl rfl rfl rfl rfl rfl rfl rfl ⟨rfl, rfl⟩ rfl rfl hF hk hB hB.size (fun a ha x hx => by cases hx) (fun w7 gd hF hB hk => ?_) ZZHL
  have hsd := fun {L : Lo} (w5 : World) (S5 : Sys w.heap.size w7 L w5) (hL5 : ∀ e, e ∈ L → e.1 ∈ _ ∨ w7.heap.size ≤ e.1) => bools5x_any (q := ⟨n1, n2, n3⟩) (q2 := ⟨some ⟨gd, 0, none⟩, 2, 2⟩) (Held.lt (x := hList boolK5 ⟨n1, n2, n3⟩ [false, true]) ((hF.sys S5 hL5).get (.head _))) ((hF.sys S5 hL5).row_at (.head _))
  simp only [svV] at hsd
  repeat (first | (refine M0 ?_; first | refine SL ?_ | refine SB fun _ _ => ?_ | refine Y4 (Ev.call (f := 33) (ck rfl) rfl (fun w5 S5 => hsd w5 S5 ZZHL)) ?_) | (refine M1 ?_; refine SC ?_) | (refine M2 ?_; refine SE ?_))
  have hF := Fam.forget (hs' := [hCt v1 cxT]) hF (fun x hx => by rw [List.mem_singleton.1 hx]; exact (.tail _ (.tail _ (.head _))))
  refine Y4 (Ev.call (f := 21) (ck rfl) rfl (fun w5 S5 => haa w5 ((hF.sys S5 ZZHL).ct (.head _)))) ?_
  repeat (first | (refine M0 ?_; first | refine SL ?_ | refine SB fun _ _ => ?_) | (refine M1 ?_; refine SC ?_) | (refine M2 ?_; refine SE ?_))
  refine Y4 (Ev.call (f := 21) (ck rfl) rfl (fun w5 S5 => hab w5 ((hF.sys S5 ZZHL).ct (.head _)))) ?_
  repeat (first | (refine M0 ?_; first | refine SL ?_ | refine SB fun _ _ => ?_) | (refine M1 ?_; refine SC ?_) | (refine M2 ?_; refine SE ?_))
  refine Y4 (Ev.call (f := 21) (ck rfl) rfl (fun w5 S5 => hac w5 ((hF.sys S5 ZZHL).ct (.head _)))) ?_
  repeat (first | (refine M0 ?_; first | refine SL ?_ | refine SB fun _ _ => ?_) | (refine M1 ?_; refine SC ?_) | (refine M2 ?_; refine SE ?_))
  refine XL.callF (wE := w) (DecR cxT cxR) (ck rfl) rfl rfl hF hk hB (fun w5 S5 hF5 _ => hda w5 (hF5.ct (.head _))) (fun w2 x new hR hF hB hk => ?_) ZZHL
  obtain ⟨⟨d1, d2, d3⟩, ⟨e1, e2, e3⟩, rfl, rfl⟩ := hR
  rw [kx_dec.1, kx_dec.2]
  rw [kx_dec.2] at hF
  simp only [decV, decC, svV]
  repeat (first | (refine M0 ?_; first | refine SL ?_ | refine SB fun _ _ => ?_) | (refine M1 ?_; refine SC ?_) | (refine M2 ?_; refine SE ?_))
  refine XL.buildSlice tok rfl rfl rfl rfl rfl rfl rfl rfl rfl (fun gp hgp => ?_)
  repeat (first | (refine M0 ?_; first | refine SL ?_ | refine SB fun _ _ => ?_) | (refine M1 ?_; refine SC ?_) | (refine M2 ?_; refine SE ?_))
  refine XL.buildSlice tok rfl rfl rfl rfl rfl rfl rfl rfl rfl (fun gw hgw => ?_)
  repeat (first | (refine M0 ?_; first | refine SL ?_ | refine SB fun _ _ => ?_) | (refine M1 ?_; refine SC ?_) | (refine M2 ?_; refine SE ?_))
  have hpk := fun {L : Lo} {B : Nat} {W5 : World} (w5 : World) (S5 : Sys B W5 L w5) (hm : (gp, cel 76 [.int .i64 14, .int .i64 729, .int .i64 14, .int .i64 82]) ∈ L) => (ListAt.blk (K := pekK5) (l := [(14, 729), (14, 82)]) (sp := []) (c := 2) rfl (fun _ => rfl) (fun _ => rfl) (S5.own _ hm).2 (by decide)).mono (ok' := Lt w5.heap.size) (fun j hj => by rw [hj]; exact (Array.getElem?_eq_some_iff.1 (S5.own _ hm).2).1)
  have hwt := fun {L : Lo} {B : Nat} {W5 : World} (w5 : World) (S5 : Sys B W5 L w5) (hm : (gw, cel 88 [.int .i64 0, .int .i64 12, .int .i64 0, .int .i64 12, .int .i64 0, .int .i64 12, .int .i64 0, .int .i64 12]) ∈ L) => (ListAt.blk (K := wtnK5) (l := [(0, 12), (0, 12), (0, 12), (0, 12)]) (sp := []) (c := 4) rfl (fun _ => rfl) (fun _ => rfl) (S5.own _ hm).2 (by decide)).mono (ok' := Lt w5.heap.size) (fun j hj => by rw [hj]; exact (Array.getElem?_eq_some_iff.1 (S5.own _ hm).2).1)
  have hs1 := fun {L : Lo} (w5 : World) (S5 : Sys w.heap.size w2 L w5) (hL5 : ∀ e, e ∈ L → e.1 ∈ _ ∨ w2.heap.size ≤ e.1) (m1 : (gp, cel 76 [.int .i64 14, .int .i64 729, .int .i64 14, .int .i64 82]) ∈ L) (m2 : (gw, cel 88 [.int .i64 0, .int .i64 12, .int .i64 0, .int .i64 12, .int .i64 0, .int .i64 12, .int .i64 0, .int .i64 12]) ∈ L) => Same5_any (q1 := ⟨d1, d2, d3⟩) (q2 := ⟨e1, e2, e3⟩) (q3 := ⟨some ⟨gp, 0, none⟩, 2, 2⟩) (q4 := ⟨some ⟨gw, 0, none⟩, 4, 4⟩) (d := ⟨kxP, [(14, 729), (14, 82)], [(0, 12), (0, 12), (0, 12), (0, 12)]⟩) (Held.lt (x := hList pekK5 ⟨d1, d2, d3⟩ [(14, 729), (14, 82)]) ((hF.sys S5 hL5).get (.head _))) (Held.lt (x := hList wtnK5 ⟨e1, e2, e3⟩ [(0, 12), (0, 12), (0, 12), (0, 12)]) ((hF.sys S5 hL5).get (.tail _ (.head _)))) (hpk w5 S5 m1) (hwt w5 S5 m2)
  simp only [decV, decC, svV] at hs1
  refine Y4 (Ev.call (f := 34) (ck rfl) rfl (fun w5 S5 => hs1 w5 S5 ZZHL (by repeat (first | exact List.mem_cons_self | apply List.mem_cons_of_mem)) (by repeat (first | exact List.mem_cons_self | apply List.mem_cons_of_mem)))) ?_
  repeat (first | (refine M0 ?_; first | refine SL ?_ | refine SB fun _ _ => ?_) | (refine M1 ?_; refine SC ?_) | (refine M2 ?_; refine SE ?_))
  have hF := Fam.forget (hs' := [hCt v1 cxT]) hF (fun x hx => by rw [List.mem_singleton.1 hx]; exact (.tail _ (.tail _ (.head _))))
  refine XL.callF (wE := w) (DecR cxT ⟨2, 3⟩) (ck rfl) rfl rfl hF hk hB (fun w5 S5 hF5 _ => hdb w5 (hF5.ct (.head _))) (fun w3 x new hR hF hB hk => ?_) ZZHL
  obtain ⟨⟨f1, f2, f3⟩, ⟨h1, h2, h3⟩, rfl, rfl⟩ := hR
  rw [kx_dec2.1, kx_dec2.2]
  rw [kx_dec2.2] at hF
  simp only [decV, decC, svV]
  repeat (first | (refine M0 ?_; first | refine SL ?_ | refine SB fun _ _ => ?_) | (refine M1 ?_; refine SC ?_) | (refine M2 ?_; refine SE ?_))
  refine XL.buildSlice tok rfl rfl rfl rfl rfl rfl rfl rfl rfl (fun gq hgq => ?_)
  repeat (first | (refine M0 ?_; first | refine SL ?_ | refine SB fun _ _ => ?_) | (refine M1 ?_; refine SC ?_) | (refine M2 ?_; refine SE ?_))
  have hpn := fun {L : Lo} {B : Nat} {W5 : World} (w5 : World) (S5 : Sys B W5 L w5) (hm : (gq, cel 76 [.int .i64 13, .int .i64 2500, .int .i64 10, .int .i64 0]) ∈ L) => (ListAt.blk (K := pekK5) (l := [(13, 2500), (10, 0)]) (sp := []) (c := 2) rfl (fun _ => rfl) (fun _ => rfl) (S5.own _ hm).2 (by decide)).mono (ok' := Lt w5.heap.size) (fun j hj => by rw [hj]; exact (Array.getElem?_eq_some_iff.1 (S5.own _ hm).2).1)
  have hs2 := fun {L : Lo} (w5 : World) (S5 : Sys w.heap.size w3 L w5) (hL5 : ∀ e, e ∈ L → e.1 ∈ _ ∨ w3.heap.size ≤ e.1) (m1 : (gq, cel 76 [.int .i64 13, .int .i64 2500, .int .i64 10, .int .i64 0]) ∈ L) => Same5_any (q1 := ⟨f1, f2, f3⟩) (q2 := ⟨h1, h2, h3⟩) (q3 := ⟨some ⟨gq, 0, none⟩, 2, 2⟩) (q4 := ⟨none, 0, 0⟩) (d := ⟨nev, [(13, 2500), (10, 0)], []⟩) (Held.lt (x := hList pekK5 ⟨f1, f2, f3⟩ [(13, 2500), (10, 0)]) ((hF.sys S5 hL5).get (.head _))) (Held.lt (x := hList wtnK5 ⟨h1, h2, h3⟩ []) ((hF.sys S5 hL5).get (.tail _ (.head _)))) (hpn w5 S5 m1) ListAt.nil
  simp only [decV, decC, svV] at hs2
  refine Y4 (Ev.call (f := 34) (ck rfl) rfl (fun w5 S5 => hs2 w5 S5 ZZHL (by repeat (first | exact List.mem_cons_self | apply List.mem_cons_of_mem)))) ?_
  have hF := Fam.forget (hs' := [hCt v1 cxT]) hF (fun x hx => by rw [List.mem_singleton.1 hx]; exact (.tail _ (.tail _ (.head _))))
  repeat (first | (refine M0 ?_; first | refine SL ?_ | refine SB fun _ _ => ?_) | (refine M1 ?_; refine SC ?_) | (refine M2 ?_; refine SE ?_))
  refine XL.store_at2 tok 3 (g := gp) (j := 0) rfl rfl rfl rfl rfl (by decide) rfl ?_
  simp only [Nat.zero_mul, Nat.add_zero, Nat.zero_add, List.set_cons_succ, List.set_cons_zero]
  repeat (first | (refine M0 ?_; first | refine SL ?_ | refine SB fun _ _ => ?_) | (refine M1 ?_; refine SC ?_) | (refine M2 ?_; refine SE ?_))
  have hpm := fun {L : Lo} {B : Nat} {W5 : World} (w5 : World) (S5 : Sys B W5 L w5) (hm : (gp, cel 76 [.int .i64 14, .int .i64 728, .int .i64 14, .int .i64 82]) ∈ L) => (ListAt.blk (K := pekK5) (l := [(14, 728), (14, 82)]) (sp := []) (c := 2) rfl (fun _ => rfl) (fun _ => rfl) (S5.own _ hm).2 (by decide)).mono (ok' := Lt w5.heap.size) (fun j hj => by rw [hj]; exact (Array.getElem?_eq_some_iff.1 (S5.own _ hm).2).1)
  have hc1 := fun {L : Lo} (w5 : World) (S5 : Sys w.heap.size w3 L w5) (hL5 : ∀ e, e ∈ L → e.1 ∈ _ ∨ w3.heap.size ≤ e.1) (m1 : (gp, cel 76 [.int .i64 14, .int .i64 728, .int .i64 14, .int .i64 82]) ∈ L) (m2 : (gw, cel 88 [.int .i64 0, .int .i64 12, .int .i64 0, .int .i64 12, .int .i64 0, .int .i64 12, .int .i64 0, .int .i64 12]) ∈ L) => hcc ⟨some ⟨gp, 0, none⟩, 2, 2⟩ ⟨some ⟨gw, 0, none⟩, 4, 4⟩ w5 ((hF.sys S5 hL5).ct (.head _)) (hpm w5 S5 m1) (hwt w5 S5 m2)
  refine Y4 (Ev.call (f := 28) (ck rfl) rfl (fun w5 S5 => hc1 w5 S5 ZZHL (by repeat (first | exact List.mem_cons_self | apply List.mem_cons_of_mem)) (by repeat (first | exact List.mem_cons_self | apply List.mem_cons_of_mem)))) ?_
  repeat (first | (refine M0 ?_; first | refine SL ?_ | refine SB fun _ _ => ?_) | (refine M1 ?_; refine SC ?_) | (refine M2 ?_; refine SE ?_))
  refine XL.callF (wE := w) (DecR kxU cxR) (ck rfl) rfl rfl hF hk hB (fun w5 S5 hF5 _ => hdu w5 (ku_at (hF5.ct (.head _)))) (fun w4 x new hR hF hB hk => ?_) ZZHL
  obtain ⟨⟨k1, k2, k3⟩, ⟨l1, l2, l3⟩, rfl, rfl⟩ := hR
  rw [ku_dec.1, ku_dec.2]
  simp only [decV, decC, svV]
  repeat (first | (refine M0 ?_; first | refine SL ?_ | refine SB fun _ _ => ?_) | (refine M1 ?_; refine SC ?_) | (refine M2 ?_; refine SE ?_))
  refine XL.callF (wE := w) (BstR kxU cxR) (ck rfl) rfl rfl hF hk hB (fun w5 S5 hF5 _ => hbu w5 (ku_at (hF5.ct (.tail _ (.tail _ (.head _)))))) (fun w6 x new hR hF hB hk => ?_) ZZHL
  obtain ⟨⟨o1, o2, o3⟩, rfl, rfl⟩ := hR
  rw [ku_bst.1, ku_bst.2.1]
  rw [ku_bst.2.2] at hF
  simp only [plnV, svV]
  repeat (first | (refine M0 ?_; first | refine SL ?_ | refine SB fun _ _ => ?_ | refine Y4 (Ev.plnEql rfl rfl) ?_) | (refine M1 ?_; refine SC ?_) | (refine M2 ?_; refine SE ?_))
  refine XL.newRow tok (K := intK5) (l := [0]) (wE := w) rfl rfl rfl rfl rfl rfl rfl rfl rfl ⟨rfl, rfl⟩ rfl rfl hF hk hB hB.size (fun a ha x hx => by cases hx) (fun w7 gz hF hB hk => ?_) ZZHL
  have hie := fun {L : Lo} (w5 : World) (S5 : Sys w.heap.size w7 L w5) (hL5 : ∀ e, e ∈ L → e.1 ∈ _ ∨ w7.heap.size ≤ e.1) => intsEq_any (q := ⟨o1, o2, o3⟩) (r := ⟨some ⟨gz, 0, none⟩, 1, 1⟩) (l := [0]) (m := [0]) (ListAt.intsK5 (Held.lt (x := hList intK5 ⟨o1, o2, o3⟩ [0]) ((hF.sys S5 hL5).get (.head _)))) (ListAt.intsK5 ((hF.sys S5 hL5).row_at (.head _)))
  simp only [svV, decide_true] at hie
  repeat (first | (refine M0 ?_; first | refine SL ?_ | refine SB fun _ _ => ?_) | (refine M1 ?_; refine SC ?_) | (refine M2 ?_; refine SE ?_))
  refine Y4 (Ev.call (f := 35) (ck rfl) rfl (fun w5 S5 => hie w5 S5 ZZHL)) ?_
  repeat (first | (refine M0 ?_; first | refine SL ?_ | refine SB fun _ _ => ?_ | refine Y4 (Ev.call (f := 17) (ck rfl) rfl (fun w5 S5 => haw w5 S5)) ?_) | (refine M1 ?_; refine SC ?_) | (refine M2 ?_; refine SE ?_))
  refine XE.retg tok Try.results10 rfl (by simp only [and_self, and_true]) (fun w' S => ?_)
  exact ⟨rfl, hB.trans S.toBelow⟩
end Go.Proofs.Ytmpaiphakjogjaa.X
