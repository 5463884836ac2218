/-
  Frames whose deferred function recovers.
-/
import Derived.Test.YtmpaiphakjogjaaPart4
import Derived.Test.YtmpaiphakjogjaaPart3
set_option linter.unusedVariables false
set_option linter.unusedSimpArgs false
namespace Go.Proofs.Ytmpaiphakjogjaa.X
open Go Go.RowKit
set_option linter.unusedVariables false
section
variable {P : Program} {T : TT} {N : Nat} {B : Nat} {w0 : World} {ds : List Deferred} {Q : Exit → Act → World → Prop} {F : Fr} {L : Lo}
variable {ops : Array Oper} {rest : List Oper} {ty : TypeId} {p : String} {af : Array Edge}
theorem fits_enter {fn : Func} {vs : List Value} (hn : vs.length ≤ fn.ntmps) : Fits fn.ntmps [] (frame 0 vs) { tmps := vs.toArray ++ Array.replicate (fn.ntmps - vs.toArray.size) undef, defers := [] } := by
  refine ⟨?_, rfl, fun t v _ hv => ?_⟩
  · simp; omega
  · obtain ⟨_, h2⟩ := lk_frame vs 0 t v hv
    have hlt : t < vs.length := (List.getElem?_eq_some_iff.1 h2).1
    simp only [Array.getD_eq_getD_getElem?]
    rw [Array.getElem?_append_left (by simpa using hlt)]
    simp at h2 ⊢
    rw [h2]; rfl
/-- a deferred function whose first statement recovers. -/
theorem enterRec {f : FuncId} {fn : Func} {id d n : Nat} {ats : Array TypeId} {c : Code} {vs : List Value} {w : World} {u u' : FrameMode} {vr : Value} {R : Ending → FrameMode → World → Prop} (hf : P.funcs[f]? = some fn)
    (hb : fn.body = some (.seq (.region id #[{ dst := some d, op := .call { callee := .builtin .recover, args := #[], argTypes := ats }, type := ty, pos := p, after := af, guard := none }] false) c))
    (hN : fn.ntmps = n) (hn : Nat.ble vs.length n = true) (hd : Nat.blt d n = true) (S : Sys B w L w)
    (hrec : ∀ (c₀ : Frame) (cs : List Frame), c₀.mode = u → recoverD (c₀ :: cs) = some (vr, { c₀ with mode := u' } :: cs) ∨ (recoverD (c₀ :: cs) = none ∧ vr = .nilIface ∧ u' = u))
    (h : XC P n B w [] (bodyPost P fn fun e w' => R e u' w') c ((d, vr) :: frame 0 vs) L) : CallsD P f vs.toArray u w R := by
  subst hN
  have hn' := Nat.le_of_ble_eq_true hn
  refine callsD_of_wpS hf hb fun c₀ cs hu => ?_
  refine wpS_seq (wpS_region ?_)
  have hF := (fits_enter (fn := fn) (vs := vs) hn').put (v := vr) hd
  obtain ⟨a, ha⟩ : ∃ a : Act, a = { tmps := vs.toArray ++ Array.replicate (fn.ntmps - vs.toArray.size) undef, defers := [] } := ⟨_, rfl⟩
  rw [← ha] at hF ⊢
  have hgo : ∀ cs', cs' = { c₀ with mode := u' } :: cs → c.wpS P (bodyPostS P fn c₀ cs R) (a.put (some d) vr) cs' w := fun cs' e => by
    subst e
    refine wpS_of_wp (wp_mono (h.run _ w hF S) fun e a' w' q => ?_)
    cases e with
    | normal => exact ⟨q.1, u', rfl, q.2⟩
    | ret => exact ⟨q.1, u', rfl, q.2⟩
    | panic ch => exact ⟨q.1, u', rfl, q.2⟩
    | outgrown => exact ⟨u', q⟩
    | exit id => exact q
    | goto l => exact q
  have hx : ∀ ev : Operand → Value, (execOp ev { dst := some d, op := .call { callee := .builtin .recover, args := #[], argTypes := ats }, type := ty, pos := p, after := af, guard := none }).run P w = .ok .recover w := fun ev => by
    simp [execOp, resolve, invoke, builtin]
  show wpOpsS P _ _ [0] a (c₀ :: cs) w
  unfold wpOpsS
  simp only [List.getElem?_toArray, List.getElem?_cons_zero]
  rw [if_pos (by simp [Region.wanted]), hx]
  rcases hrec c₀ cs hu with e | ⟨e, rfl, rfl⟩
  · rw [e]
    exact hgo _ rfl
  · rw [e]
    refine hgo _ ?_
    rw [← hu]
theorem recP {v : Value} (c₀ : Frame) (cs : List Frame) (h : c₀.mode = .panicking (pan v)) : recoverD (c₀ :: cs) = some (v, { c₀ with mode := .panicking [{ v := v, recovered := true }] } :: cs) ∨ (recoverD (c₀ :: cs) = none ∧ v = .nilIface ∧ FrameMode.panicking [{ v := v, recovered := true }] = .panicking (pan v)) := by
  left
  cases c₀
  simp only at h
  subst h
  rfl
theorem recR (c₀ : Frame) (cs : List Frame) (h : c₀.mode = .returning) : recoverD (c₀ :: cs) = some (.nilIface, { c₀ with mode := .returning } :: cs) ∨ (recoverD (c₀ :: cs) = none ∧ Value.nilIface = .nilIface ∧ FrameMode.returning = .returning) := by
  right
  refine ⟨?_, rfl, rfl⟩
  cases c₀
  simp only at h
  subst h
  rfl
theorem enterD {f : FuncId} {fn : Func} {c : Code} {vs : List Value} {w : World} {R : Ending → World → Prop} {n : Nat} (hf : P.funcs[f]? = some fn) (hb : fn.body = some c) (hN : fn.ntmps = n)
    (hn : Nat.ble vs.length n = true) (h : XC P n w.heap.size w [] (bodyPostD P fn R) c (frame 0 vs) []) : Calls P f vs.toArray w R := by
  subst hN
  exact calls_of_wp_defers hf hb (h.run _ w (fits_enter (Nat.le_of_ble_eq_true hn)) (Sys.enter w))
theorem XL.defer {x : Operand} {f : FuncId} {cap : List Value} {ats : Array TypeId} (hx : evo F x = some (.func (.func f) #[] ⟨cap⟩)) (k : XL P N B w0 ({ target := .fn (.func f) ⟨cap⟩, args := #[] } :: ds) Q ops rest F L) :
    XL P N B w0 ds Q ops ({ dst := none, op := .defer { callee := .value x, args := #[], argTypes := ats }, type := ty, pos := p, after := af, guard := none } :: rest) F L := by
  refine ⟨fun a w hf hs => wpList_plain rfl fun K hK => ?_⟩
  unfold Oper.wp
  have e := hf.eval hx
  have h1 : (execOp a.eval { dst := none, op := .defer { callee := .value x, args := #[], argTypes := ats }, type := ty, pos := p, after := af, guard := none }).run P w = .ok (.defer { target := .fn (.func f) ⟨cap⟩, args := #[] }) w := by
    simp [execOp, resolve, e, Deferred.ofValue]
  rw [h1]
  exact hK _ _ (k.run _ _ ⟨hf.size, by simp [hf.defers, Act.put], hf.get⟩ hs)
theorem XE.retD0 (hT : TOK P T) {fn : Func} {R : Ending → World → Prop} {rs : List ResultVar} {vs : List Value} {c : Prop} (h : fn.results = ⟨rs⟩) (hv : resO T F L rs = some (vs, c)) (hc : c)
    (hR : ∀ w, Sys B w0 L w → R (.returned (tupV vs)) w) : XE N B w0 [] (bodyPostD P fn R) .ret F L :=
  ⟨fun a w hf hw => by
    have hm := (XE.retM0 (P := P) (N := N) (B := B) (w0 := w0) hT (fn := fn) (R := R) h hv hc hR).run a w hf hw
    show Leaves P fn a.tmps R a.defers .returning w
    have hm' : LeavesInM Fence.wide 0 P fn a.tmps R a.defers .returning w := hm
    rw [hf.defers] at hm' ⊢
    exact hm'⟩
/-- behind the deferred call it returns what its results' variables hold then. -/
theorem leaveD (hT : TOK P T) {fn : Func} {R : Ending → World → Prop} {rs : List ResultVar} {vs : List Value} {c : Prop} {f : FuncId} {cap : List Value} {u : FrameMode} {L' : Lo} {a : Act} {w : World} (hu : u ≠ .run) (hf : Fits N [{ target := .fn (.func f) ⟨cap⟩, args := #[] }] F a)
    (h : fn.results = ⟨rs⟩) (hk : callOk P f = true) (hv : resO T F L' rs = some (vs, c)) (hc : c)
    (hcall : CallsD P f cap.toArray u w fun en u' w' => (∃ x, en = .returned x) ∧ settle u' = .returning ∧ (∃ B' w1, Sys B' w1 L' w') ∧ R (.returned (tupV vs)) w') : Leaves P fn a.tmps R a.defers u w := by
  rw [hf.defers]
  have hi : (invoke (.fn (.func f) ⟨cap⟩) #[]).run P w = .ok (.enter f cap.toArray) w := by
    have : (#[] ++ (⟨cap⟩ : Array Value)) = cap.toArray := by simp
    simp only [invoke, this]
    exact callFunc_run hk _ _
  have hgo : ∀ (en : Ending) u' w', ((∃ x, en = .returned x) ∧ settle u' = .returning ∧ (∃ B' w1, Sys B' w1 L' w') ∧ R (.returned (tupV vs)) w') → (match en with
      | .returned _ => Leaves P fn a.tmps R [] (settle u') w'
      | .panicked chain => Leaves P fn a.tmps R [] (raised u' chain) w'
      | .outgrown => R .outgrown w') := by
    rintro en u' w' ⟨⟨x, rfl⟩, hs, ⟨B', w1, S⟩, hR⟩
    simp only
    rw [hs]
    have hf' : Fits N [] F { a with defers := [] } := ⟨hf.size, rfl, hf.get⟩
    have hm := (XE.retD0 (P := P) (N := N) (B := B') (w0 := w1) hT (fn := fn) (R := fun e w2 => w2 = w' → R e w2) h hv hc (fun w2 S2 e => by subst e; exact hR)).run _ w' hf' S
    obtain ⟨v, h1, h2⟩ := (show Leaves P fn a.tmps (fun e w2 => w2 = w' → R e w2) [] .returning w' from hm)
    exact ⟨v, h1, h2 rfl⟩
  refine ⟨hu, .func f, ⟨cap⟩, f, cap.toArray, rfl, hi, ?_⟩
  intro c0 cs hm
  obtain ⟨e, u', w', fr, q, rest⟩ := hcall c0 cs hm
  refine ⟨e, u', w', fr, ?_, rest⟩
  have := hgo e u' w' q
  cases e <;> exact this
end
end Go.Proofs.Ytmpaiphakjogjaa.X
/-
  The walks of must, shut, index, form and early (closure).
-/
namespace Go.Proofs.Ytmpaiphakjogjaa.X
open Go Go.RowKit Go.Proofs.Ytmpaiphakjogjaa.Bs
set_option linter.unusedVariables false
theorem Sys.start3 {B : Nat} {w : World} {g h k : Nat} {o o' o'' : Obj} (hB : B ≤ w.heap.size) (b1 : B ≤ g) (b2 : B ≤ h) (b3 : B ≤ k) (hg : w.heap[g]? = some o) (hh : w.heap[h]? = some o') (hk : w.heap[k]? = some o'') (n1 : g ≠ h) (n2 : g ≠ k) (n3 : h ≠ k) : Sys B w [(g, o), (h, o'), (k, o'')] w :=
  Sys.start hB (fun e he => by
    simp only [List.mem_cons, List.not_mem_nil, or_false] at he
    rcases he with rfl | rfl | rfl
    · exact ⟨b1, hg⟩
    · exact ⟨b2, hh⟩
    · exact ⟨b3, hk⟩) (by simp [n1, n2, n3])
theorem own3 {w W : World} {g gr gc : Nat} {o o' o'' : Obj} {L : Lo} (hg : W.heap[g]? = some o) (hr : W.heap[gr]? = some o') (hc : W.heap[gc]? = some o'') (hL : ∀ e, e ∈ L → e = (g, o) ∨ e = (gr, o') ∨ e = (gc, o'') ∨ w.heap.size ≤ e.1) : ∀ e, e ∈ L → e.1 < w.heap.size → W.heap[e.1]? = some e.2 := fun e he hlt => by
  rcases hL e he with rfl | rfl | rfl | h
  · exact hg
  · exact hr
  · exact hc
  · omega
theorem ZZO4 {p : Prop} (h : p := by (intro e he; repeat (first | (cases he; done) | (rcases List.mem_cons.1 he with rfl | he; · first | (left; rfl) | (right; left; rfl) | (right; right; left; rfl) | (right; right; right; assumption) | (right; right; right; simp only; omega)))) <;> fail) : p := h
theorem XE.panic0 {P : Program} {N B : Nat} {w0 : World} {F : Fr} {L : Lo} {fn : Func} {R : Ending → World → Prop} {ch : List PanicEntry} (hR : ∀ w, Sys B w0 L w → R (.panicked ch) w) : XE N B w0 [] (bodyPost P fn R) (.panic ch) F L :=
  ⟨fun a w hf hw => ⟨hf.defers, hR w hw⟩⟩
/-- a refusal. -/
def refV (at_ e : Int) : Value := .iface 134 (.agg ⟨[.int .i64 at_, .int .i64 e]⟩)
def chkC (gr : Nat) (q1 q2 : SV) (d : CDe) : List Value := .pointer (some ⟨gr, 0, none⟩) :: decC q1 q2 d
abbrev chkO (gr : Nat) (q1 q2 : SV) (d : CDe) : Obj := cel 137 (chkC gr q1 q2 d)
theorem ref_con : conB (Try.prog.underlying 134) = true := by kernel_rfl
theorem must_any (b : Bool) (i e : Int) (w : World) :
    Calls Try.prog 90 #[.bool b, .int .i64 i, .int .i64 e] w fun x w' => x = mustE b (refV i e) ∧ Below w.heap.size w w' := by
  refine enter Try.func90 rfl Try.ntmps90 rfl ?_; simp only [frame, Nat.zero_add, Nat.reduceAdd]
  cases b with
  | true =>
    repeat (first | (refine M0 ?_; first | refine SL ?_ | refine SB fun _ _ => ?_) | (refine M1 ?_; refine SC ?_) | (refine M2 ?_; refine SE ?_))
    exact XE.end0 Try.results90 fun w' S => ⟨rfl, S.toBelow⟩
  | false =>
    repeat (first | (refine M0 ?_; first | refine SL ?_ | refine SB fun _ _ => ?_ | refine Y4 (Ev.makeI ref_con rfl) ?_) | (refine M1 ?_; refine SC ?_) | (refine M2 ?_; refine SE ?_))
    refine XL.panic rfl ?_
    exact XE.panic0 fun w' S => ⟨rfl, S.toBelow⟩
section
variable {t : CTk} {v : CTV} {r : CRu} {g gr gc gm : Nat} {w : World} {q1 q2 : SV} {d : CDe}
theorem shut_any (hc : w.heap[gc]? = some (chkO gr q1 q2 d)) :
    Calls Try.prog 91 #[.pointer (some ⟨gc, 0, none⟩)] w fun e w' => e = .returned (.bool (decide (d.plan ≠ nev))) ∧ Below w.heap.size w w' := by
  have S0 := Sys.start1 (B := 0) (Nat.zero_le gc) hc
  obtain ⟨⟨c, o⟩, l1, l2⟩ := d
  rw [plan_n]
  simp only [chkO, chkC, decC, svV] at S0
  refine enterL Try.func91 rfl Try.ntmps91 rfl (S0) ?_; simp only [frame, Nat.zero_add, Nat.reduceAdd]
  refine XC.hint 0 0 ?_
  repeat (first | (refine M0 ?_; first | refine SL ?_ | refine SB fun _ _ => ?_ | refine Y4 (Ev.call (f := 55) (ck rfl) rfl (fun w S => nev_any w)) ?_ | refine Y4 (Ev.plnNeq rfl rfl) ?_) | (refine M1 ?_; first | refine SC ?_ | refine SD ?_) | (refine M2 ?_; refine SE ?_) | (refine M3 ?_; first | refine SG ?_ | refine SF ?_ | refine YF (Ev.call (f := 55) (ck rfl) rfl (fun w S => nev_any w)) ?_ | refine YF (Ev.plnNeq rfl rfl) ?_) | (refine M4 ?_; refine SR ?_) | (refine M5 ?_; first | exact M7 | refine YM ?_ | refine YN ?_ ?_))
  refine XE.retg tok Try.results91 rfl (by simp only [and_self, and_true]) (fun w' S => ?_)
  exact ⟨rfl, S.toBelowG (own1 hc ZZO1)⟩
theorem cindex_any (hc : w.heap[gc]? = some (chkO gr q1 q2 d)) (hr : w.heap[gr]? = some (rulO g r)) (hg : w.heap[g]? = some (gamO v t gm)) (hi : i64in (d.plan.close - t.from_)) :
    Calls Try.prog 92 #[.pointer (some ⟨gc, 0, none⟩)] w fun e w' => e = .returned (.int .i64 (d.plan.close - t.from_)) ∧ Below w.heap.size w w' := by
  have n1 : gc ≠ gr := fun e => by subst e; rw [hr] at hc; simp [chkO, rulO, chkC, rulC] at hc
  have n2 : gc ≠ g := fun e => by subst e; rw [hg] at hc; simp [chkO, gamO, chkC, gamC] at hc
  have n3 : gr ≠ g := fun e => by subst e; rw [hg] at hr; simp [rulO, gamO, rulC, gamC] at hr
  have S0 := Sys.start3 (B := 0) (Nat.zero_le _) (Nat.zero_le gc) (Nat.zero_le gr) (Nat.zero_le g) hc hr hg n1 n2 n3
  obtain ⟨⟨c, o⟩, l1, l2⟩ := d
  simp only at hi
  simp only [chkO, chkC, decC, svV, rulO, rulC, gamO, gamC] at S0
  refine enterL Try.func92 rfl Try.ntmps92 rfl (S0) ?_; simp only [frame, Nat.zero_add, Nat.reduceAdd]
  refine XC.hint 0 2 ?_
  repeat (first | (refine M0 ?_; first | refine SL ?_ | refine SB fun _ _ => ?_ | refine Y4 (Ev.load_loc tok 1 (g := gr) (o := 0) rfl rfl rfl rfl) ?_ | refine Y4 (Ev.load_loc tok 2 (g := g) (o := 11) rfl rfl rfl rfl) ?_) | (refine M1 ?_; first | refine SC ?_ | refine SD ?_) | (refine M2 ?_; refine SE ?_) | (refine M3 ?_; first | refine SG ?_ | refine SF ?_ | refine YF (Ev.load_loc tok 1 (g := gr) (o := 0) rfl rfl rfl rfl) ?_ | refine YF (Ev.load_loc tok 2 (g := g) (o := 11) rfl rfl rfl rfl) ?_) | (refine M4 ?_; refine SR ?_) | (refine M5 ?_; first | exact M7 | refine YM ?_ | refine YN ?_ ?_))
  refine XE.retg tok Try.results92 rfl (by simp only [and_self, and_true]) (fun w' S => ?_)
  exact ⟨rfl, S.toBelowG (own3 hc hr hg ZZO4)⟩
set_option maxHeartbeats 8000000 in
theorem form_any (hc : w.heap[gc]? = some (chkO gr q1 q2 d)) (hr : w.heap[gr]? = some (rulO g r)) (hg : w.heap[g]? = some (gamO v t gm)) (ho : CtOk t) (hhn : v.h.n = t.m) (hq : q1.n = d.peaks.length) :
    Calls Try.prog 66 #[.pointer (some ⟨gc, 0, none⟩)] w fun e w' => e = mustE (!t.strange d.plan && decide (d.peaks.length = t.m)) (refV 0 2) ∧ Below w.heap.size w w' := by
  have n1 : gc ≠ gr := fun e => by subst e; rw [hr] at hc; simp [chkO, rulO, chkC, rulC] at hc
  have n2 : gc ≠ g := fun e => by subst e; rw [hg] at hc; simp [chkO, gamO, chkC, gamC] at hc
  have n3 : gr ≠ g := fun e => by subst e; rw [hg] at hr; simp [rulO, gamO, rulC, gamC] at hr
  have S0 := Sys.start3 (B := 0) (Nat.zero_le _) (Nat.zero_le gc) (Nat.zero_le gr) (Nat.zero_le g) hc hr hg n1 n2 n3
  have hstr := fun {L : Lo} (w5 : World) (S5 : Sys 0 w L w5) (hm : (g, gamO v t gm) ∈ L) => stranger_any (p := d.plan) (S5.own _ hm).2 ho
  have hq' : decide ((q1.n : Int) = (v.h.n : Int)) = decide (d.peaks.length = t.m) := by rw [decide_eq_decide]; omega
  obtain ⟨⟨c, o⟩, l1, l2⟩ := d
  simp only [plnV] at hstr
  simp only at hq'
  simp only [chkO, chkC, decC, svV, rulO, rulC, gamO, gamC] at S0
  refine enterL Try.func66 rfl Try.ntmps66 rfl (S0) ?_; simp only [frame, Nat.zero_add, Nat.reduceAdd]
  refine XC.hint 0 2 ?_
  cases hst : t.strange ⟨c, o⟩ with
  | true =>
    rw [hst] at hstr
    refine XC.drawT mixed rfl rfl (by kernel_rfl) ?_
    repeat (first | (refine M0 ?_; first | refine SL ?_ | refine SB fun _ _ => ?_ | refine Y4 (Ev.load_loc tok 1 (g := gr) (o := 0) rfl rfl rfl rfl) ?_ | refine Y4 (Ev.load_loc tok 2 (g := g) (o := 6) rfl rfl rfl rfl) ?_ | refine Y4 (Ev.call (f := 61) (ck rfl) rfl (fun w5 S5 => hstr w5 S5 (.tail _ (.tail _ (.head _))))) ?_) | (refine M2 ?_; refine SE ?_) | (refine M3 ?_; first | refine SG ?_ | refine SF ?_ | refine YF (Ev.load_loc tok 1 (g := gr) (o := 0) rfl rfl rfl rfl) ?_ | refine YF (Ev.load_loc tok 2 (g := g) (o := 6) rfl rfl rfl rfl) ?_ | refine YF (Ev.call (f := 61) (ck rfl) rfl (fun w5 S5 => hstr w5 S5 (.tail _ (.tail _ (.head _))))) ?_) | (refine M4 ?_; refine SR ?_) | (refine M5 ?_; first | exact M7 | refine YM ?_ | refine YN ?_ ?_))
    refine XL.callM false (refV 0 2) (ck rfl) rfl rfl (fun w _ => must_any _ _ _ w) (fun h => by cases h) (fun _ => ?_)
    exact XE.panic0 fun w' S => ⟨rfl, S.toBelowG (own3 hc hr hg ZZO4)⟩
  | false =>
    rw [hst] at hstr
    refine XC.drawT mixed rfl rfl (by kernel_rfl) ?_
    repeat (first | (refine M0 ?_; first | refine SL ?_ | refine SB fun _ _ => ?_ | refine Y4 (Ev.load_loc tok 1 (g := gr) (o := 0) rfl rfl rfl rfl) ?_ | refine Y4 (Ev.load_loc tok 2 (g := g) (o := 6) rfl rfl rfl rfl) ?_ | refine Y4 (Ev.call (f := 61) (ck rfl) rfl (fun w5 S5 => hstr w5 S5 (.tail _ (.tail _ (.head _))))) ?_) | (refine M2 ?_; refine SE ?_) | (refine M3 ?_; first | refine SG ?_ | refine SF ?_ | refine YF (Ev.load_loc tok 1 (g := gr) (o := 0) rfl rfl rfl rfl) ?_ | refine YF (Ev.load_loc tok 2 (g := g) (o := 6) rfl rfl rfl rfl) ?_ | refine YF (Ev.call (f := 61) (ck rfl) rfl (fun w5 S5 => hstr w5 S5 (.tail _ (.tail _ (.head _))))) ?_) | (refine M4 ?_; refine SR ?_) | (refine M5 ?_; first | exact M7 | refine YM ?_ | refine YN ?_ ?_))
    rw [hq']
    cases decide (l1.length = t.m) with
    | true =>
      refine XL.callM true (refV 0 2) (ck rfl) rfl rfl (fun w _ => must_any _ _ _ w) (fun _ => ?_) (fun h => by cases h)
      repeat (first | (refine M0 ?_; first | refine SL ?_ | refine SB fun _ _ => ?_) | (refine M1 ?_; refine SC ?_) | (refine M2 ?_; refine SE ?_))
      exact XE.end0 Try.results66 fun w' S => ⟨rfl, S.toBelowG (own3 hc hr hg ZZO4)⟩
    | false =>
      refine XL.callM false (refV 0 2) (ck rfl) rfl rfl (fun w _ => must_any _ _ _ w) (fun h => by cases h) (fun _ => ?_)
      exact XE.panic0 fun w' S => ⟨rfl, S.toBelowG (own3 hc hr hg ZZO4)⟩
def _root_.Go.Proofs.Ytmpaiphakjogjaa.Bs.CTk.earB (t : CTk) (r : CRu) (d : CDe) : Bool := if d.plan = nev then !t.called r else t.may r (d.plan.close - t.from_)
set_option maxHeartbeats 8000000 in
theorem early_any (hc : w.heap[gc]? = some (chkO gr q1 q2 d)) (hr : w.heap[gr]? = some (rulO g r)) (hg : w.heap[g]? = some (gamO v t gm)) (hT : CtAt w w.heap.size v t) (ho : CtOk t) (hq : RuOk r) (hst : t.strange d.plan = false) :
    Calls Try.prog 67 #[.pointer (some ⟨gc, 0, none⟩)] w fun e w' => e = mustE (t.earB r d) (refV 0 150) ∧ Below w.heap.size w w' := by
  have n1 : gc ≠ gr := fun e => by subst e; rw [hr] at hc; simp [chkO, rulO, chkC, rulC] at hc
  have n2 : gc ≠ g := fun e => by subst e; rw [hg] at hc; simp [chkO, gamO, chkC, gamC] at hc
  have n3 : gr ≠ g := fun e => by subst e; rw [hg] at hr; simp [rulO, gamO, rulC, gamC] at hr
  have S0 := Sys.start3 (B := 0) (Nat.zero_le _) (Nat.zero_le gc) (Nat.zero_le gr) (Nat.zero_le g) hc hr hg n1 n2 n3
  have lr := (Array.getElem?_eq_some_iff.1 hr).1
  have lg := (Array.getElem?_eq_some_iff.1 hg).1
  have lc := (Array.getElem?_eq_some_iff.1 hc).1
  have h60 := ho.n60
  have hfr := ho.frm
  have hdl := ho.dly
  have hB5 := fun (w5 : World) (S5 : Sys 0 w [(gc, chkO gr q1 q2 d), (gr, rulO g r), (g, gamO v t gm)] w5) => S5.toBelowG (own3 hc hr hg ZZO4)
  have hal := fun (w5 : World) (S5 : Sys 0 w [(gc, chkO gr q1 q2 d), (gr, rulO g r), (g, gamO v t gm)] w5) => allowed_any (r := r) ((hT.below (hB5 w5 S5)).more (hB5 w5 S5).size) ho hq (S5.own _ (.tail _ (.head _))).2 (S5.own _ (.tail _ (.tail _ (.head _)))).2
  have hsh := fun (w5 : World) (S5 : Sys 0 w [(gc, chkO gr q1 q2 d), (gr, rulO g r), (g, gamO v t gm)] w5) => shut_any (S5.own _ (.head _)).2
  have hml := fun (w5 : World) (S5 : Sys 0 w [(gc, chkO gr q1 q2 d), (gr, rulO g r), (g, gamO v t gm)] w5) => may_any (r := r) (i := d.plan.close - t.from_) ((hT.below (hB5 w5 S5)).more (hB5 w5 S5).size) ho hq (S5.own _ (.tail _ (.head _))).2 (S5.own _ (.tail _ (.tail _ (.head _)))).2
  have hix := fun (hi : i64in (d.plan.close - t.from_)) (w5 : World) (S5 : Sys 0 w [(gc, chkO gr q1 q2 d), (gr, rulO g r), (g, gamO v t gm)] w5) => cindex_any (t := t) (S5.own _ (.head _)).2 (S5.own _ (.tail _ (.head _))).2 (S5.own _ (.tail _ (.tail _ (.head _)))).2 hi
  obtain ⟨⟨c, o⟩, l1, l2⟩ := d
  simp only [chkO, chkC, decC, svV, rulO, rulC, gamO, gamC] at S0
  refine enterL Try.func67 rfl Try.ntmps67 rfl (S0) ?_; simp only [frame, Nat.zero_add, Nat.reduceAdd]
  refine XC.hint 0 2 ?_
  repeat (first | (refine M0 ?_; first | refine SL ?_ | refine SB fun _ _ => ?_ | refine Y4 (Ev.call (f := 54) (ck rfl) rfl (fun w5 S5 => hal w5 S5)) ?_) | (refine M1 ?_; refine SC ?_) | (refine M2 ?_; refine SE ?_))
  by_cases hn : (⟨c, o⟩ : CPl) = nev
  · obtain ⟨rfl, rfl⟩ : c = -1 ∧ o = -1 := ⟨congrArg CPl.close hn, congrArg CPl.open_ hn⟩
    have e0 : decide ((⟨-1, -1⟩ : CPl) ≠ nev) = false := decide_eq_false fun h => h rfl
    simp only [e0] at hsh
    have e1 : t.earB r ⟨⟨-1, -1⟩, l1, l2⟩ = !t.called r := by unfold CTk.earB; rw [if_pos hn]
    rw [e1]
    refine XC.drawT mixed rfl rfl (by kernel_rfl) ?_
    repeat (first | (refine M0 ?_; first | refine SL ?_ | refine SB fun _ _ => ?_ | refine Y4 (Ev.call (f := 91) (ck rfl) rfl (fun w5 S5 => hsh w5 S5)) ?_) | (refine M2 ?_; refine SE ?_) | (refine M3 ?_; first | refine SG ?_ | refine SF ?_ | refine YF (Ev.call (f := 91) (ck rfl) rfl (fun w5 S5 => hsh w5 S5)) ?_) | (refine M4 ?_; refine SR ?_) | (refine M5 ?_; first | exact M7 | refine YM ?_ | refine YN ?_ ?_))
    cases t.called r with
    | false =>
      refine XL.callM true (refV 0 150) (ck rfl) rfl rfl (fun w _ => must_any _ _ _ w) (fun _ => ?_) (fun h => by cases h)
      repeat (first | (refine M0 ?_; first | refine SL ?_ | refine SB fun _ _ => ?_) | (refine M1 ?_; refine SC ?_) | (refine M2 ?_; refine SE ?_))
      exact XE.end0 Try.results67 fun w' S => ⟨rfl, S.toBelowG (own3 hc hr hg ZZO4)⟩
    | true =>
      refine XL.callM false (refV 0 150) (ck rfl) rfl rfl (fun w _ => must_any _ _ _ w) (fun h => by cases h) (fun _ => ?_)
      exact XE.panic0 fun w' S => ⟨rfl, S.toBelowG (own3 hc hr hg ZZO4)⟩
  · obtain ⟨b1, b2⟩ := strange_f hst hn
    simp only at b1 b2
    have hix := @hix (by unfold i64in; simp only; unfold CTk.last at b1; omega)
    have e0 : decide ((⟨c, o⟩ : CPl) ≠ nev) = true := decide_eq_true hn
    simp only [e0] at hsh
    have e1 : t.earB r ⟨⟨c, o⟩, l1, l2⟩ = t.may r (c - t.from_) := by unfold CTk.earB; rw [if_neg hn]
    rw [e1]
    refine XC.drawT mixed rfl rfl (by kernel_rfl) ?_
    cases hm : t.may r (c - t.from_) with
    | true =>
      simp only [hm] at hml
      repeat (first | (refine M0 ?_; first | refine SL ?_ | refine SB fun _ _ => ?_ | refine Y4 (Ev.call (f := 91) (ck rfl) rfl (fun w5 S5 => hsh w5 S5)) ?_ | refine Y4 (Ev.call (f := 92) (ck rfl) rfl (fun w5 S5 => hix w5 S5)) ?_ | refine Y4 (Ev.call (f := 59) (ck rfl) rfl (fun w5 S5 => hml w5 S5)) ?_) | (refine M2 ?_; refine SE ?_) | (refine M3 ?_; first | refine SG ?_ | refine SF ?_ | refine YF (Ev.call (f := 91) (ck rfl) rfl (fun w5 S5 => hsh w5 S5)) ?_ | refine YF (Ev.call (f := 92) (ck rfl) rfl (fun w5 S5 => hix w5 S5)) ?_ | refine YF (Ev.call (f := 59) (ck rfl) rfl (fun w5 S5 => hml w5 S5)) ?_) | (refine M4 ?_; refine SR ?_) | (refine M5 ?_; first | exact M7 | refine YM ?_ | refine YN ?_ ?_))
      refine XL.callM true (refV 0 150) (ck rfl) rfl rfl (fun w _ => must_any _ _ _ w) (fun _ => ?_) (fun h => by cases h)
      repeat (first | (refine M0 ?_; first | refine SL ?_ | refine SB fun _ _ => ?_) | (refine M1 ?_; refine SC ?_) | (refine M2 ?_; refine SE ?_))
      exact XE.end0 Try.results67 fun w' S => ⟨rfl, S.toBelowG (own3 hc hr hg ZZO4)⟩
    | false =>
      simp only [hm] at hml
      repeat (first | (refine M0 ?_; first | refine SL ?_ | refine SB fun _ _ => ?_ | refine Y4 (Ev.call (f := 91) (ck rfl) rfl (fun w5 S5 => hsh w5 S5)) ?_ | refine Y4 (Ev.call (f := 92) (ck rfl) rfl (fun w5 S5 => hix w5 S5)) ?_ | refine Y4 (Ev.call (f := 59) (ck rfl) rfl (fun w5 S5 => hml w5 S5)) ?_) | (refine M2 ?_; refine SE ?_) | (refine M3 ?_; first | refine SG ?_ | refine SF ?_ | refine YF (Ev.call (f := 91) (ck rfl) rfl (fun w5 S5 => hsh w5 S5)) ?_ | refine YF (Ev.call (f := 92) (ck rfl) rfl (fun w5 S5 => hix w5 S5)) ?_ | refine YF (Ev.call (f := 59) (ck rfl) rfl (fun w5 S5 => hml w5 S5)) ?_) | (refine M4 ?_; refine SR ?_) | (refine M5 ?_; first | exact M7 | refine YM ?_ | refine YN ?_ ?_))
      refine XL.callM false (refV 0 150) (ck rfl) rfl rfl (fun w _ => must_any _ _ _ w) (fun h => by cases h) (fun _ => ?_)
      exact XE.panic0 fun w' S => ⟨rfl, S.toBelowG (own3 hc hr hg ZZO4)⟩
end
end Go.Proofs.Ytmpaiphakjogjaa.X
/-
  The walk of holds (closure's check).
-/
namespace Go.Proofs.Ytmpaiphakjogjaa.X
open Go Go.RowKit Go.Proofs.Ytmpaiphakjogjaa.Bs
set_option linter.unusedVariables false
noncomputable def _root_.Go.Proofs.Ytmpaiphakjogjaa.Bs.CTk.hldsB (t : CTk) (d : CDe) : Bool := decide (d.plan = nev) || (decide (d.plan = t.plan (d.plan.close - t.from_)) && !(t.wit (d.plan.close - t.from_)).isSome)
theorem mustE_t (v : Value) : mustE true v = .returned (.tuple #[]) := rfl
section
variable {t : CTk} {v : CTV} {r : CRu} {b0 g gr gc gm : Nat} {ks : List Nat} {w : World} {q1 q2 : SV} {d : CDe}
set_option maxHeartbeats 16000000 in
theorem holdsC_any (hG : Gam t v b0 g gm ks [] [] w) (ho : CtOk t) (hc : w.heap[gc]? = some (chkO gr q1 q2 d)) (hr : w.heap[gr]? = some (rulO g r)) (hgc : gc ∈ ks) (hgr : gr ∈ ks) (hbc : b0 ≤ gc) (hbr : b0 ≤ gr) (hst : t.strange d.plan = false)
    (hm : d.plan ≠ nev → t.may r (d.plan.close - t.from_) = true) :
    Calls Try.prog 68 #[.pointer (some ⟨gc, 0, none⟩)] w (GamE t b0 gm ks (mustE (t.hldsB d) (refV 0 151)) w) := by
  have hg : w.heap[g]? = some (gamO v t gm) := hG.game
  have n1 : gc ≠ gr := fun e => by subst e; rw [hr] at hc; simp [chkO, rulO, chkC, rulC] at hc
  have n2 : gc ≠ g := fun e => by subst e; rw [hg] at hc; simp [chkO, gamO, chkC, gamC] at hc
  have n3 : gr ≠ g := fun e => by subst e; rw [hg] at hr; simp [rulO, gamO, rulC, gamC] at hr
  have hb0 : b0 ≤ w.heap.size := hG.fam.base
  have S0 := Sys.start3 (B := b0) hb0 hbc hbr hG.bg hc hr hg n1 n2 n3
  have hrm : gr ≠ gm := fun e => hG.nin (e ▸ hgr)
  have hcm : gc ≠ gm := fun e => hG.nin (e ▸ hgc)
  have hgs := hG.gin
  have h60 := ho.n60
  have hfr := ho.frm
  have hdl := ho.dly
  have hsh := fun {L : Lo} {W : World} (w5 : World) (S5 : Sys b0 W L w5) (m1 : (gc, chkO gr q1 q2 d) ∈ L) => shut_any (S5.own _ m1).2
  have hix := fun (hi : i64in (d.plan.close - t.from_)) {L : Lo} {W : World} (w5 : World) (S5 : Sys b0 W L w5) (m0 : (gc, chkO gr q1 q2 d) ∈ L) (m1 : (gr, rulO g r) ∈ L) (m2 : (g, gamO v t gm) ∈ L) => cindex_any (t := t) (S5.own _ m0).2 (S5.own _ m1).2 (S5.own _ m2).2 hi
  obtain ⟨⟨c, o⟩, l1, l2⟩ := d
  by_cases hn : (⟨c, o⟩ : CPl) = nev
  · obtain ⟨rfl, rfl⟩ : c = -1 ∧ o = -1 := ⟨congrArg CPl.close hn, congrArg CPl.open_ hn⟩
    have e0 : decide ((⟨-1, -1⟩ : CPl) ≠ nev) = false := decide_eq_false fun h => h rfl
    simp only [e0] at hsh
    have e1 : t.hldsB ⟨⟨-1, -1⟩, l1, l2⟩ = true := by unfold CTk.hldsB; rw [decide_eq_true hn]; rfl
    rw [e1, mustE_t]
    simp only [chkO, chkC, decC, svV, rulO, rulC, gamO, gamC] at S0
    refine enterL Try.func68 rfl Try.ntmps68 rfl (S0) ?_; simp only [frame, Nat.zero_add, Nat.reduceAdd]
    refine XC.hint 0 2 ?_
    repeat (first | (refine M0 ?_; first | refine SL ?_ | refine SB fun _ _ => ?_ | refine Y4 (Ev.call (f := 91) (ck rfl) rfl (fun w5 S5 => hsh w5 S5 (.head _))) ?_) | (refine M1 ?_; refine SC ?_) | (refine M2 ?_; refine SE ?_))
    refine XE.retg tok Try.results68 rfl (by simp only [and_self, and_true]) (fun w' S => ?_)
    exact GamE.of (GamR.end2 (kk := []) (R := fun _ _ => True) (x := .nilFunc) hG Since.refl S (.tail _ (.tail _ (.head _))) trivial ZZHM (own3 hg hr hc ZZO4))
  · obtain ⟨b1, b2⟩ := strange_f hst hn
    obtain ⟨c1, c2, c3, c4⟩ := may_in (hm hn)
    simp only at b1 b2 c2 c3 c4
    have hix := @hix (by unfold i64in; simp only; unfold CTk.last at b1; omega)
    have e0 : decide ((⟨c, o⟩ : CPl) ≠ nev) = true := decide_eq_true hn
    simp only [e0] at hsh
    obtain ⟨i, hi⟩ : ∃ i : Nat, c - t.from_ = (i : Nat) := ⟨(c - t.from_).toNat, by omega⟩
    simp only [hi] at hix
    rw [hi] at c3
    have e1 : t.hldsB ⟨⟨c, o⟩, l1, l2⟩ = (decide (c = (t.plan (i : Nat)).close) && decide (o = (t.plan (i : Nat)).open_) && !(t.wit (i : Nat)).isSome) := by
      unfold CTk.hldsB
      simp only
      rw [decide_eq_false hn, hi, Bool.false_or]
      congr 1
      obtain ⟨a, b⟩ := t.plan (i : Nat)
      by_cases x1 : c = a <;> by_cases x2 : o = b <;> simp [x1, x2]
    rw [e1]
    have hl1 : -31 ≤ t.last ∧ t.last ≤ 60 := by unfold CTk.last; omega
    have hpl := fun {L : Lo} {B : Nat} {W1 : World} (w9 : World) (S9 : Sys B W1 L w9) (hm : (g, gamO v t gm) ∈ L) => plan_any (v := v) (t := t) (gm := gm) (i := (i : Nat)) (S9.own _ hm).2 ho ⟨by omega, by omega⟩
    simp only [plnV] at hpl
    simp only [chkO, chkC, decC, svV, rulO, rulC, gamO, gamC] at S0
    refine enterL Try.func68 rfl Try.ntmps68 rfl (S0) ?_; simp only [frame, Nat.zero_add, Nat.reduceAdd]
    refine XC.hint 0 2 ?_
    repeat (first | (refine M0 ?_; first | refine SL ?_ | refine SB fun _ _ => ?_ | refine Y4 (Ev.call (f := 91) (ck rfl) rfl (fun w5 S5 => hsh w5 S5 (.head _))) ?_) | (refine M1 ?_; refine SC ?_) | (refine M2 ?_; refine SE ?_))
    refine XC.cutn [0] rfl (fun z : World => [(3, .bool (t.wit (i : Nat)).isSome)]) (fun _ => [(gc, cel 137 (chkC gr q1 q2 ⟨⟨c, o⟩, l1, l2⟩)), (gr, rulO g r), (g, gamO v t gm)]) (fun z => z) (fun z => Gam t v b0 g gm ks [] [] z ∧ Since w gm z) ?_ ?_
    · have hB : Below b0 w w := Below.refl b0 w
      simp only [rulO, rulC, gamO, gamC]
      refine XC.drawRS (trunc w b0) [(gc, cel 137 [.pointer (some ⟨gr, 0, none⟩), .int .i64 c, .int .i64 o, .slice q1.A q1.n q1.c, .slice q2.A q2.n q2.c])] [0, 1, 2, 3, 4] [5, 6, 7, 8, 9, 10, 11, 12] mixed (fun _ h => Sys.anchorT hB h (fun e he => by rw [List.mem_singleton.1 he]; exact .head _) (by simp) hb0) rfl (by kernel_rfl) ?_
      repeat (any_goals (first | (refine M0 ?_; first | refine SL ?_ | refine SB fun _ _ => ?_ | refine Y4 (Ev.load_loc tok 0 (g := gc) (o := 0) rfl rfl rfl rfl) ?_ | refine Y4 (Ev.call (f := 92) (ck rfl) rfl (fun w5 S5 => hix w5 S5 (by first | exact .head _ | exact .tail _ (.head _)) (by first | exact .tail _ (.head _) | exact .tail _ (.tail _ (.head _))) (by first | exact .tail _ (.tail _ (.head _)) | exact .tail _ (.tail _ (.tail _ (.head _)))))) ?_ | (refine XL.at_call 58 ?_; refine XL.callI (WitX t (i : Nat)) (ck rfl) rfl rfl hG Since.refl (by first | exact .tail _ (.tail _ (.head _)) | exact .tail _ (.tail _ (.tail _ (.head _)))) (fun w5 ks2 S5 hL5 hG5 => witness_any hG5 ho (S5.own (gr, rulO g r) (by first | exact .tail _ (.head _) | exact .tail _ (.tail _ (.head _)))).2 (hL5 (gr, rulO g r) (by first | exact .tail _ (.head _) | exact .tail _ (.tail _ (.head _)))) hbr c3) (fun w5 x new hR hG5 hS5 => ?_) ZZHM (own3 hg hr hc ZZO4); obtain ⟨rfl, rfl⟩ := hR; have hB5 : Below b0 w w5 := hS5.below hG.bm hb0; have hz5 := hS5.size)) | (refine M1 ?_; refine SC ?_) | (refine M2 ?_; first | refine SE ?_ | ((with_reducible refine atHeld ?_); refine z7 ?_)) | (refine M3 ?_; first | refine SG ?_ | refine SF ?_ | refine YF (Ev.load_loc tok 0 (g := gc) (o := 0) rfl rfl rfl rfl) ?_ | refine YF (Ev.call (f := 92) (ck rfl) rfl (fun w5 S5 => hix w5 S5 (by first | exact .head _ | exact .tail _ (.head _)) (by first | exact .tail _ (.head _) | exact .tail _ (.tail _ (.head _))) (by first | exact .tail _ (.tail _ (.head _)) | exact .tail _ (.tail _ (.tail _ (.head _)))))) ?_) | (refine M4 ?_; refine SR ?_) | (refine M5 ?_; first | exact M7 | refine YM ?_ | refine YN ?_ ?_)))
      any_goals (repeat (first | exact AnyR.nil | refine AnyR.skip rfl ?_))
      all_goals
        exact XE.leafW (fun z9 S9 => ⟨z9, ⟨hG5.on (ks := ks) S9 (by repeat (first | exact List.mem_cons_self | apply List.mem_cons_of_mem)) ZZMK (fun x hx => List.mem_append_right _ (List.mem_append_right _ hx)) hgs (fun x hx => hx), Since.end2 hG5 hS5 S9 ZZMK (own3 (hS5.keep hg hG.ne) (hS5.keep hr hrm) (hS5.keep hc hcm) ZZO4)⟩, ZZSUB, S9.rebase ZZSM⟩)
    rintro z ⟨hGz, hSz⟩
    simp only [chkO, chkC, decC, svV, rulO, rulC, gamO, gamC]
    dsimp only [List.cons_append, List.nil_append]
    cases hb : (decide (c = (t.plan (i : Nat)).close) && decide (o = (t.plan (i : Nat)).open_)) with
    | false =>
      refine XC.drawT mixed rfl rfl (by kernel_rfl) ?_
      repeat (first | (refine M0 ?_; first | refine SL ?_ | refine SB fun _ _ => ?_ | refine Y4 (Ev.load_loc_agg tok 0 (g := gc) (o := 1) rfl rfl rfl rfl) ?_ | refine Y4 (Ev.load_loc tok 1 (g := gr) (o := 0) rfl rfl rfl rfl) ?_ | refine Y4 (Ev.call (f := 92) (ck rfl) rfl (fun w5 S5 => hix w5 S5 (.head _) (.tail _ (.head _)) (.tail _ (.tail _ (.head _))))) ?_ | refine Y4 (Ev.call (f := 50) (ck rfl) rfl (fun w5 S5 => hpl w5 S5 (.tail _ (.tail _ (.head _))))) ?_ | refine Y4 (Ev.plnEql rfl rfl) ?_) | (refine M2 ?_; refine SE ?_) | (refine M3 ?_; first | refine SG ?_ | refine SF ?_ | refine YF (Ev.load_loc_agg tok 0 (g := gc) (o := 1) rfl rfl rfl rfl) ?_ | refine YF (Ev.load_loc tok 1 (g := gr) (o := 0) rfl rfl rfl rfl) ?_ | refine YF (Ev.call (f := 92) (ck rfl) rfl (fun w5 S5 => hix w5 S5 (.head _) (.tail _ (.head _)) (.tail _ (.tail _ (.head _))))) ?_ | refine YF (Ev.call (f := 50) (ck rfl) rfl (fun w5 S5 => hpl w5 S5 (.tail _ (.tail _ (.head _))))) ?_ | refine YF (Ev.plnEql rfl rfl) ?_) | (refine M4 ?_; refine SR ?_) | (refine M5 ?_; first | exact M7 | refine YM ?_ | refine YN ?_ ?_))
      rw [hb]
      repeat (first | (refine M0 ?_; first | refine SL ?_ | refine SB fun _ _ => ?_) | (refine M2 ?_; refine SE ?_) | (refine M3 ?_; first | refine SG ?_ | refine SF ?_) | (refine M4 ?_; refine SR ?_) | (refine M5 ?_; first | exact M7 | refine YM ?_ | refine YN ?_ ?_))
      refine XL.callM false (refV 0 151) (ck rfl) rfl rfl (fun w _ => must_any _ _ _ w) (fun h => by cases h) (fun _ => ?_)
      exact XE.panic0 fun w' S => GamE.of (GamR.end2 (kk := []) (R := fun _ _ => True) (x := .nilFunc) hGz hSz S (.tail _ (.tail _ (.head _))) trivial ZZHM (own3 hGz.game (hSz.keep hr hrm) (hSz.keep hc hcm) ZZO4))
    | true =>
      cases hw : (t.wit (i : Nat)).isSome with
      | false =>
        refine XC.drawT mixed rfl rfl (by kernel_rfl) ?_
        repeat (first | (refine M0 ?_; first | refine SL ?_ | refine SB fun _ _ => ?_ | refine Y4 (Ev.load_loc_agg tok 0 (g := gc) (o := 1) rfl rfl rfl rfl) ?_ | refine Y4 (Ev.load_loc tok 1 (g := gr) (o := 0) rfl rfl rfl rfl) ?_ | refine Y4 (Ev.call (f := 92) (ck rfl) rfl (fun w5 S5 => hix w5 S5 (.head _) (.tail _ (.head _)) (.tail _ (.tail _ (.head _))))) ?_ | refine Y4 (Ev.call (f := 50) (ck rfl) rfl (fun w5 S5 => hpl w5 S5 (.tail _ (.tail _ (.head _))))) ?_ | refine Y4 (Ev.plnEql rfl rfl) ?_) | (refine M2 ?_; refine SE ?_) | (refine M3 ?_; first | refine SG ?_ | refine SF ?_ | refine YF (Ev.load_loc_agg tok 0 (g := gc) (o := 1) rfl rfl rfl rfl) ?_ | refine YF (Ev.load_loc tok 1 (g := gr) (o := 0) rfl rfl rfl rfl) ?_ | refine YF (Ev.call (f := 92) (ck rfl) rfl (fun w5 S5 => hix w5 S5 (.head _) (.tail _ (.head _)) (.tail _ (.tail _ (.head _))))) ?_ | refine YF (Ev.call (f := 50) (ck rfl) rfl (fun w5 S5 => hpl w5 S5 (.tail _ (.tail _ (.head _))))) ?_ | refine YF (Ev.plnEql rfl rfl) ?_) | (refine M4 ?_; refine SR ?_) | (refine M5 ?_; first | exact M7 | refine YM ?_ | refine YN ?_ ?_))
        rw [hb]
        repeat (first | (refine M0 ?_; first | refine SL ?_ | refine SB fun _ _ => ?_) | (refine M2 ?_; refine SE ?_) | (refine M3 ?_; first | refine SG ?_ | refine SF ?_) | (refine M4 ?_; refine SR ?_) | (refine M5 ?_; first | exact M7 | refine YM ?_ | refine YN ?_ ?_))
        refine XL.callM true (refV 0 151) (ck rfl) rfl rfl (fun w _ => must_any _ _ _ w) (fun _ => ?_) (fun h => by cases h)
        repeat (first | (refine M0 ?_; first | refine SL ?_ | refine SB fun _ _ => ?_) | (refine M1 ?_; refine SC ?_) | (refine M2 ?_; refine SE ?_))
        exact XE.end0 Try.results68 fun w' S => GamE.of (GamR.end2 (kk := []) (R := fun _ _ => True) (x := .nilFunc) hGz hSz S (.tail _ (.tail _ (.head _))) trivial ZZHM (own3 hGz.game (hSz.keep hr hrm) (hSz.keep hc hcm) ZZO4))
      | true =>
        refine XC.drawT mixed rfl rfl (by kernel_rfl) ?_
        repeat (first | (refine M0 ?_; first | refine SL ?_ | refine SB fun _ _ => ?_ | refine Y4 (Ev.load_loc_agg tok 0 (g := gc) (o := 1) rfl rfl rfl rfl) ?_ | refine Y4 (Ev.load_loc tok 1 (g := gr) (o := 0) rfl rfl rfl rfl) ?_ | refine Y4 (Ev.call (f := 92) (ck rfl) rfl (fun w5 S5 => hix w5 S5 (.head _) (.tail _ (.head _)) (.tail _ (.tail _ (.head _))))) ?_ | refine Y4 (Ev.call (f := 50) (ck rfl) rfl (fun w5 S5 => hpl w5 S5 (.tail _ (.tail _ (.head _))))) ?_ | refine Y4 (Ev.plnEql rfl rfl) ?_) | (refine M2 ?_; refine SE ?_) | (refine M3 ?_; first | refine SG ?_ | refine SF ?_ | refine YF (Ev.load_loc_agg tok 0 (g := gc) (o := 1) rfl rfl rfl rfl) ?_ | refine YF (Ev.load_loc tok 1 (g := gr) (o := 0) rfl rfl rfl rfl) ?_ | refine YF (Ev.call (f := 92) (ck rfl) rfl (fun w5 S5 => hix w5 S5 (.head _) (.tail _ (.head _)) (.tail _ (.tail _ (.head _))))) ?_ | refine YF (Ev.call (f := 50) (ck rfl) rfl (fun w5 S5 => hpl w5 S5 (.tail _ (.tail _ (.head _))))) ?_ | refine YF (Ev.plnEql rfl rfl) ?_) | (refine M4 ?_; refine SR ?_) | (refine M5 ?_; first | exact M7 | refine YM ?_ | refine YN ?_ ?_))
        rw [hb]
        repeat (first | (refine M0 ?_; first | refine SL ?_ | refine SB fun _ _ => ?_) | (refine M2 ?_; refine SE ?_) | (refine M3 ?_; first | refine SG ?_ | refine SF ?_) | (refine M4 ?_; refine SR ?_) | (refine M5 ?_; first | exact M7 | refine YM ?_ | refine YN ?_ ?_))
        refine XL.callM false (refV 0 151) (ck rfl) rfl rfl (fun w _ => must_any _ _ _ w) (fun h => by cases h) (fun _ => ?_)
        exact XE.panic0 fun w' S => GamE.of (GamR.end2 (kk := []) (R := fun _ _ => True) (x := .nilFunc) hGz hSz S (.tail _ (.tail _ (.head _))) trivial ZZHM (own3 hGz.game (hSz.keep hr hrm) (hSz.keep hc hcm) ZZO4))
end
end Go.Proofs.Ytmpaiphakjogjaa.X
/-
  The walk of heights (closure's check).
-/
namespace Go.Proofs.Ytmpaiphakjogjaa.X
open Go Go.RowKit Go.Proofs.Ytmpaiphakjogjaa.Bs
set_option linter.unusedVariables false
/-- how heights ends. -/
noncomputable def _root_.Go.Proofs.Ytmpaiphakjogjaa.Bs.CTk.hgtE (t : CTk) (d : CDe) : Ending := match firstB (fun k => decide (d.peaks[k]?.getD (0, 0) ≠ t.peak d.plan k)) t.m with
  | none => .returned (.tuple #[])
  | some k => .panicked (pan (refV (k : Nat) 152))
section
variable {t : CTk} {v : CTV} {r : CRu} {b0 g gr gc gm : Nat} {ks : List Nat} {w : World} {q1 q2 : SV} {d : CDe}
set_option maxHeartbeats 16000000 in
theorem heights_any (hG : Gam t v b0 g gm ks [] [] w) (ho : CtOk t) (hc : w.heap[gc]? = some (chkO gr q1 q2 d)) (hr : w.heap[gr]? = some (rulO g r)) (hgc : gc ∈ ks) (hgr : gr ∈ ks) (hbc : b0 ≤ gc) (hbr : b0 ≤ gr) (hst : t.strange d.plan = false)
    (hall : ∀ k i, k < t.m → i < t.n → (t.ins k d.plan i).isSome = true) (hL1 : ListAt pekK5 w (Lt b0) q1 d.peaks) (hlen : d.peaks.length = t.m) :
    Calls Try.prog 69 #[.pointer (some ⟨gc, 0, none⟩)] w (GamE t b0 gm ks (t.hgtE d) w) := by
  have hg : w.heap[g]? = some (gamO v t gm) := hG.game
  have n1 : gc ≠ gr := fun e => by subst e; rw [hr] at hc; simp [chkO, rulO, chkC, rulC] at hc
  have n2 : gc ≠ g := fun e => by subst e; rw [hg] at hc; simp [chkO, gamO, chkC, gamC] at hc
  have n3 : gr ≠ g := fun e => by subst e; rw [hg] at hr; simp [rulO, gamO, rulC, gamC] at hr
  have hb0 : b0 ≤ w.heap.size := hG.fam.base
  have S0 := Sys.start3 (B := b0) hb0 hbc hbr hG.bg hc hr hg n1 n2 n3
  have hrm : gr ≠ gm := fun e => hG.nin (e ▸ hgr)
  have hcm : gc ≠ gm := fun e => hG.nin (e ▸ hgc)
  have hgs := hG.gin
  have hm8 := ho.m8
  have lgc := hG.lt gc (.tail _ hgc)
  have lgr := hG.lt gr (.tail _ hgr)
  have lg := hG.lt g (.tail _ hgs)
  have hpk := fun (k : Nat) (hk : k < t.m) (w5 : World) (ks2 : List Nat) (hG5 : Gam t v b0 g gm ks2 [] [] w5) (hr5 : w5.heap[gr]? = some (rulO g r)) (h5 : gr ∈ ks2) => peak_any hG5 ho hr5 h5 hbr hk hst (hall k · hk)
  have hn1 := hL1.len (by decide)
  obtain ⟨q1A, q1n, q1c⟩ := q1
  simp only at hn1
  rw [hlen] at hn1
  subst hn1
  obtain ⟨⟨c, o⟩, l1, l2⟩ := d
  simp only at hlen hL1
  simp only [plnV] at hpk
  simp only [chkO, chkC, decC, svV, rulO, rulC, gamO, gamC] at S0
  refine enterL Try.func69 rfl Try.ntmps69 rfl (S0) ?_; simp only [frame, Nat.zero_add, Nat.reduceAdd]
  refine XC.hint 0 2 ?_
  repeat (first | (refine M0 ?_; first | refine SL ?_ | refine SB fun _ _ => ?_) | (refine M1 ?_; refine SC ?_) | (refine M2 ?_; refine SE ?_))
  refine XC.loopk [0, 8, 9] rfl (fun z : Nat × World => [(10, .int .i64 (z.1 : Nat))]) (fun _ => [(gc, cel 137 (chkC gr ⟨q1A, t.m, q1c⟩ q2 ⟨⟨c, o⟩, l1, l2⟩)), (gr, rulO g r), (g, gamO v t gm)]) (fun z => z.2)
    (fun z => z.1 ≤ t.m ∧ Gam t v b0 g gm ks [] [] z.2 ∧ Since w gm z.2 ∧ ∀ j, j < z.1 → l1[j]?.getD (0, 0) = t.peak ⟨c, o⟩ j) (fun z => t.m - z.1) (0, w) ⟨Nat.zero_le _, hG, Since.refl, fun j hj => absurd hj (by simp)⟩ ZZSUB (fun _ h => h) ?_
  rintro ⟨k, W⟩ ⟨hk, hGW, hSW, hno⟩
  simp only at hk hGW hSW hno
  have hgW := hGW.game
  have hrW := hSW.keep hr hrm
  have hcW := hSW.keep hc hcm
  have hzW := hSW.size
  have hBW : Below b0 w W := hSW.below hG.bm hb0
  simp only [chkO, chkC, decC, svV, rulO, rulC, gamO, gamC]
  dsimp only [List.cons_append, List.nil_append]
  repeat (first | (refine M0 ?_; first | refine SL ?_ | refine SB fun _ _ => ?_) | (refine M1 ?_; refine SC ?_) | (refine M2 ?_; refine SE ?_))
  refine XC.cond _ rfl (fun h1 => ?_) (fun h1 => ?_)
  rotate_left
  · have hkm : k = t.m := by have := of_decide_eq_false h1; omega
    subst hkm
    repeat (first | (refine M0 ?_; first | refine SL ?_ | refine SB fun _ _ => ?_) | (refine M1 ?_; refine SC ?_) | (refine M2 ?_; refine SE ?_))
    refine XE.end0 Try.results69 fun w' S => ?_
    have e1 : t.hgtE ⟨⟨c, o⟩, l1, l2⟩ = .returned (.tuple #[]) := by
      unfold CTk.hgtE
      rw [firstB_none.2 fun j hj => by simp only [decide_eq_false_iff_not]; exact fun h => h (hno j hj)]
    rw [e1]
    exact GamE.of (GamR.end2 (kk := []) (R := fun _ _ => True) (x := .nilFunc) hGW hSW S (.tail _ (.tail _ (.head _))) trivial ZZHM (own3 hgW hrW hcW ZZO4))
  have hkm : k < t.m := by have := of_decide_eq_true h1; omega
  have hL1W := hL1.below hBW
  obtain ⟨ad, rfl, hlt⟩ := hL1.addr (by decide) (by omega)
  have hkl : k < l1.length := by omega
  obtain ⟨⟨pa, pb⟩, hpe⟩ : ∃ x, l1[k]? = some x := ⟨_, List.getElem?_eq_getElem hkl⟩
  have hel := hL1W.elem hpe
  repeat (first | (refine M0 ?_; first | refine SL ?_ | refine SB fun _ _ => ?_ | refine Y4 (Ev.load_old_agg tok [.int .i64 pa, .int .i64 pb] rfl rfl rfl (add_lt hlt) hel) ?_) | (refine M1 ?_; refine SC ?_) | (refine M2 ?_; refine SE ?_))
  rename_i g3 hg3
  refine XC.drawRT (trunc w b0) [(g3, cel 76 [.int .i64 pa, .int .i64 pb]), (gc, cel 137 [.pointer (some ⟨gr, 0, none⟩), .int .i64 c, .int .i64 o, .slice (some ad) t.m q1c, .slice q2.A q2.n q2.c]), (gr, rulO g r), (g, gamO v t gm)] [0, 1, 2, 3, 4, 5, 6, 7, 8, 9, 10, 13] [11, 12] mixed (fun _ h => Sys.anchorT hBW h (by intro e he; repeat (first | (cases he; done) | (rcases List.mem_cons.1 he with rfl | he; · repeat (first | exact List.mem_cons_self | apply List.mem_cons_of_mem)))) (by simp [n1, n2, n3]; omega) hb0) rfl rfl (by kernel_rfl) rfl (by kernel_rfl) ?_
  repeat (first | (refine M0 ?_; first | refine SL ?_ | refine SB fun _ _ => ?_ | refine Y4 (Ev.load_loc_agg tok 0 (g := g3) (o := 0) rfl rfl rfl rfl) ?_ | refine Y4 (Ev.load_loc tok 1 (g := gc) (o := 0) rfl rfl rfl rfl) ?_ | refine Y4 (Ev.load_loc_agg tok 1 (g := gc) (o := 1) rfl rfl rfl rfl) ?_) | (refine M2 ?_; refine SE ?_) | (refine M3 ?_; first | refine SG ?_ | refine SF ?_ | refine YF (Ev.load_loc_agg tok 0 (g := g3) (o := 0) rfl rfl rfl rfl) ?_ | refine YF (Ev.load_loc tok 1 (g := gc) (o := 0) rfl rfl rfl rfl) ?_ | refine YF (Ev.load_loc_agg tok 1 (g := gc) (o := 1) rfl rfl rfl rfl) ?_) | (refine M4 ?_; refine SR ?_) | (refine M5 ?_; first | exact M7 | refine YM ?_ | refine YN ?_ ?_))
  refine XL.callI (PekX t k ⟨c, o⟩) (ck rfl) rfl rfl hGW hSW (.tail _ (.tail _ (.tail _ (.head _)))) (fun w5 ks2 S5 hL5 hG5 => hpk k hkm w5 ks2 hG5 (S5.own (gr, rulO g r) (.tail _ (.tail _ (.head _)))).2 (hL5 (gr, rulO g r) (.tail _ (.tail _ (.head _))))) (fun w5 x new hR hG5 hS5 => ?_) ZZMK (own3 hgW hrW hcW ZZO4)
  obtain ⟨rfl, rfl⟩ := hR
  have hz5 := hS5.size
  have hB5 : Below b0 w w5 := hS5.below hG.bm hb0
  have hg5 := hG5.game
  have hr5 := hS5.keep hr hrm
  have hc5 := hS5.keep hc hcm
  simp only [iiV]
  repeat (first | (refine M0 ?_; first | refine SL ?_ | refine SB fun _ _ => ?_ | refine Y4 (Ev.pekEql rfl rfl) ?_) | (refine M2 ?_; refine SE ?_) | (refine M3 ?_; first | refine SG ?_ | refine SF ?_ | refine YF (Ev.pekEql rfl rfl) ?_) | (refine M4 ?_; refine SR ?_) | (refine M5 ?_; first | exact M7 | refine YM ?_ | refine YN ?_ ?_))
  refine z7 ?_
  repeat (first | (refine M0 ?_; first | refine SL ?_ | refine SB fun _ _ => ?_ | refine Y4 (Ev.pekEql rfl rfl) ?_) | (refine M2 ?_; refine SE ?_) | (refine M3 ?_; first | refine SG ?_ | refine SF ?_ | refine YF (Ev.pekEql rfl rfl) ?_) | (refine M4 ?_; refine SR ?_) | (refine M5 ?_; first | exact M7 | refine YM ?_ | refine YN ?_ ?_))
  refine z7 ?_
  repeat (first | (refine M0 ?_; first | refine SL ?_ | refine SB fun _ _ => ?_) | (refine M2 ?_; refine SE ?_) | (refine M3 ?_; first | refine SG ?_ | refine SF ?_) | (refine M4 ?_; refine SR ?_) | (refine M5 ?_; first | exact M7 | refine YM ?_ | refine YN ?_ ?_))
  refine XE.lastZ (fun _ _ h => h) ?_
  cases hb : (decide (pa = (t.peak ⟨c, o⟩ k).1) && decide (pb = (t.peak ⟨c, o⟩ k).2)) with
  | true =>
    have hpq : l1[k]?.getD (0, 0) = t.peak ⟨c, o⟩ k := by
      rw [hpe]
      simp only [Bool.and_eq_true, decide_eq_true_eq] at hb
      exact Prod.ext hb.1 hb.2
    refine XL.callM true (refV (k : Nat) 152) (ck rfl) rfl rfl (fun w _ => must_any _ _ _ w) (fun _ => ?_) (fun h => by cases h)
    repeat (first | (refine M0 ?_; first | refine SL ?_ | refine SB fun _ _ => ?_) | (refine M1 ?_; refine SC ?_) | (refine M2 ?_; refine SE ?_))
    refine XE.roundW (s := (k, W)) (fun w9 S9 => ⟨(k + 1, w9), ⟨hkm, hG5.on (ks := ks) S9 (by repeat (first | exact List.mem_cons_self | apply List.mem_cons_of_mem)) ZZMK (fun x hx => List.mem_append_right _ (List.mem_append_right _ hx)) hgs (fun x hx => hx), Since.end2 hG5 hS5 S9 ZZMK (own3 hg5 hr5 hc5 ZZO4), fun j hj => ?_⟩, by simp only; omega, ZZSUB, S9.rebase ZZSM⟩)
    rcases Nat.lt_or_ge j k with h2 | h2
    · exact hno j h2
    · have : j = k := by omega
      subst this
      exact hpq
  | false =>
    refine XL.callM false (refV (k : Nat) 152) (ck rfl) rfl rfl (fun w _ => must_any _ _ _ w) (fun h => by cases h) (fun _ => ?_)
    refine ⟨fun a w' hf S => And.intro hf.defers ?_⟩
    have e1 : t.hgtE ⟨⟨c, o⟩, l1, l2⟩ = .panicked (pan (refV (k : Nat) 152)) := by
      unfold CTk.hgtE
      rw [firstB_some.2 ⟨hkm, ?_, fun j hj => by simp only [decide_eq_false_iff_not]; exact fun h => h (hno j hj)⟩]
      simp only [decide_eq_true_eq]
      rw [hpe]
      intro h
      simp only [Option.getD_some] at h
      rw [← h] at hb
      simp at hb
    rw [e1]
    exact GamE.of (GamR.end2 (kk := _) (R := fun _ _ => True) (x := .nilFunc) hG5 hS5 S (.tail _ (.tail _ (.tail _ (.head _)))) trivial ZZMK (own3 hg5 hr5 hc5 ZZO4))
  any_goals (repeat (first | exact AnyR.nil | refine AnyR.skip rfl ?_))
end
end Go.Proofs.Ytmpaiphakjogjaa.X
/-
  The walk of later (closure's check).
-/
namespace Go.Proofs.Ytmpaiphakjogjaa.X
open Go Go.RowKit Go.Proofs.Ytmpaiphakjogjaa.Bs
set_option linter.unusedVariables false
noncomputable def _root_.Go.Proofs.Ytmpaiphakjogjaa.Bs.CTk.manyI (t : CTk) (d : CDe) : Int := if d.plan = nev then 0 else t.last - (d.plan.close - t.from_)
/-- how later ends. -/
noncomputable def _root_.Go.Proofs.Ytmpaiphakjogjaa.Bs.CTk.latE (t : CTk) (d : CDe) : Ending := if (d.later.length : Int) ≠ t.manyI d then .panicked (pan (refV 0 2)) else
  match firstB (fun k => !t.rules (d.plan.close - t.from_ + 1 + (k : Nat)) (d.later[k]?.getD (0, 0))) d.later.length with
  | none => .returned (.tuple #[])
  | some k => .panicked (pan (refV (k : Nat) 153))
section
variable {t : CTk} {v : CTV} {r : CRu} {b0 g gr gc gm : Nat} {ks : List Nat} {w : World} {q1 q2 : SV} {d : CDe}
set_option maxHeartbeats 16000000 in
theorem later_any (hG : Gam t v b0 g gm ks [] [] w) (ho : CtOk t) (hc : w.heap[gc]? = some (chkO gr q1 q2 d)) (hr : w.heap[gr]? = some (rulO g r)) (hgc : gc ∈ ks) (hgr : gr ∈ ks) (hbc : b0 ≤ gc) (hbr : b0 ≤ gr) (hst : t.strange d.plan = false)
    (hm : d.plan ≠ nev → t.may r (d.plan.close - t.from_) = true) (hL2 : ListAt wtnK5 w (Lt b0) q2 d.later) :
    Calls Try.prog 70 #[.pointer (some ⟨gc, 0, none⟩)] w (GamE t b0 gm ks (t.latE d) w) := by
  have hg : w.heap[g]? = some (gamO v t gm) := hG.game
  have n1 : gc ≠ gr := fun e => by subst e; rw [hr] at hc; simp [chkO, rulO, chkC, rulC] at hc
  have n2 : gc ≠ g := fun e => by subst e; rw [hg] at hc; simp [chkO, gamO, chkC, gamC] at hc
  have n3 : gr ≠ g := fun e => by subst e; rw [hg] at hr; simp [rulO, gamO, rulC, gamC] at hr
  have hb0 : b0 ≤ w.heap.size := hG.fam.base
  have S0 := Sys.start3 (B := b0) hb0 hbc hbr hG.bg hc hr hg n1 n2 n3
  have hrm : gr ≠ gm := fun e => hG.nin (e ▸ hgr)
  have hcm : gc ≠ gm := fun e => hG.nin (e ▸ hgc)
  have hgs := hG.gin
  have hm8 := ho.m8
  have h60 := ho.n60
  have hfr := ho.frm
  have hdl := ho.dly
  have hl1 : -31 ≤ t.last ∧ t.last ≤ 60 := by unfold CTk.last; omega
  have lgc := hG.lt gc (.tail _ hgc)
  have lgr := hG.lt gr (.tail _ hgr)
  have lg := hG.lt g (.tail _ hgs)
  have hhn := hG.task.hn
  have hn2 := hL2.len (by decide)
  have hx2 := hL2.max
  have hsh := fun {L : Lo} {W : World} (w5 : World) (S5 : Sys b0 W L w5) (m1 : (gc, chkO gr q1 q2 d) ∈ L) => shut_any (S5.own _ m1).2
  have hix := fun (hi : i64in (d.plan.close - t.from_)) {L : Lo} {W : World} (w5 : World) (S5 : Sys b0 W L w5) (m0 : (gc, chkO gr q1 q2 d) ∈ L) (m1 : (gr, rulO g r) ∈ L) (m2 : (g, gamO v t gm) ∈ L) => cindex_any (t := t) (S5.own _ m0).2 (S5.own _ m1).2 (S5.own _ m2).2 hi
  have hla := fun {L : Lo} {W : World} (w5 : World) (S5 : Sys b0 W L w5) (m2 : (g, gamO v t gm) ∈ L) => last_any (v := v) (t := t) (gm := gm) (S5.own _ m2).2 ho
  have hidx : d.plan ≠ nev → ∃ i : Nat, d.plan.close - t.from_ = (i : Nat) ∧ (i : Int) ≤ t.last := fun hn => by
    obtain ⟨c1, c2, c3, c4⟩ := may_in (hm hn)
    exact ⟨(d.plan.close - t.from_).toNat, by omega, by omega⟩
  obtain ⟨vp, vf, ⟨Ah, nh, ch'⟩, vr⟩ := v
  simp only at hhn
  subst hhn
  obtain ⟨q2A, q2n, q2c⟩ := q2
  simp only at hn2 hx2
  subst hn2
  obtain ⟨⟨c, o⟩, l1, l2⟩ := d
  simp only at hL2 hidx hx2
  simp only [chkO, chkC, decC, svV, rulO, rulC, gamO, gamC] at S0
  refine enterL Try.func70 rfl Try.ntmps70 rfl (S0) ?_; simp only [frame, Nat.zero_add, Nat.reduceAdd]
  refine XC.hint 0 2 ?_
  repeat (first | (refine M0 ?_; first | refine SL ?_ | refine SB fun _ _ => ?_ | refine Y4 (Ev.call (f := 91) (ck rfl) rfl (fun w5 S5 => hsh w5 S5 (.head _))) ?_) | (refine M1 ?_; refine SC ?_) | (refine M2 ?_; refine SE ?_))
  refine XC.cutn [0] rfl (fun _ : World => [(2, .int .i64 (t.manyI ⟨⟨c, o⟩, l1, l2⟩))]) (fun _ => [(gc, cel 137 (chkC gr q1 ⟨q2A, l2.length, q2c⟩ ⟨⟨c, o⟩, l1, l2⟩)), (gr, rulO g r), (g, gamO ⟨vp, vf, ⟨Ah, t.m, ch'⟩, vr⟩ t gm)]) (fun z => z) (fun z => Gam t ⟨vp, vf, ⟨Ah, t.m, ch'⟩, vr⟩ b0 g gm ks [] [] z ∧ Since w gm z) ?_ ?_
  · by_cases hn : (⟨c, o⟩ : CPl) = nev
    · rw [show decide ((⟨c, o⟩ : CPl) ≠ nev) = false from decide_eq_false fun h => h hn]
      have e1 : t.manyI ⟨⟨c, o⟩, l1, l2⟩ = 0 := by unfold CTk.manyI; rw [if_pos hn]
      rw [e1]
      repeat (first | (refine M0 ?_; first | refine SL ?_ | refine SB fun _ _ => ?_) | (refine M1 ?_; refine SC ?_) | (refine M2 ?_; refine SE ?_))
      exact XE.leafW (fun z9 S9 => ⟨z9, ⟨hG.on (ks := ks) S9 (.tail _ (.tail _ (.head _))) ZZMK (fun x hx => List.mem_append_right _ hx) hgs (fun x hx => hx), Since.end2 hG Since.refl S9 ZZMK (own3 hg hr hc ZZO4)⟩, ZZSUB, S9.rebase ZZSM⟩)
    · rw [show decide ((⟨c, o⟩ : CPl) ≠ nev) = true from decide_eq_true hn]
      obtain ⟨i, hi, hil⟩ := hidx hn
      have hix := @hix (by unfold i64in; simp only; omega)
      simp only [hi] at hix
      have e1 : t.manyI ⟨⟨c, o⟩, l1, l2⟩ = t.last - (i : Nat) := by unfold CTk.manyI; rw [if_neg hn]; simp only; rw [hi]
      rw [e1]
      repeat (first | (refine M0 ?_; first | refine SL ?_ | refine SB fun _ _ => ?_ | refine Y4 (Ev.load_loc tok 1 (g := gr) (o := 0) rfl rfl rfl rfl) ?_ | refine Y4 (Ev.call (f := 49) (ck rfl) rfl (fun w5 S5 => hla w5 S5 (.tail _ (.tail _ (.head _))))) ?_ | refine Y4 (Ev.call (f := 92) (ck rfl) rfl (fun w5 S5 => hix w5 S5 (.head _) (.tail _ (.head _)) (.tail _ (.tail _ (.head _))))) ?_) | (refine M1 ?_; refine SC ?_) | (refine M2 ?_; refine SE ?_))
      exact XE.leafW (fun z9 S9 => ⟨z9, ⟨hG.on (ks := ks) S9 (.tail _ (.tail _ (.head _))) ZZMK (fun x hx => List.mem_append_right _ hx) hgs (fun x hx => hx), Since.end2 hG Since.refl S9 ZZMK (own3 hg hr hc ZZO4)⟩, ZZSUB, S9.rebase ZZSM⟩)
  rintro z ⟨hGz, hSz⟩
  simp only [chkC, decC, svV, rulO, rulC, gamO, gamC]
  dsimp only [List.cons_append, List.nil_append]
  repeat (first | (refine M0 ?_; first | refine SL ?_ | refine SB fun _ _ => ?_) | (refine M1 ?_; refine SC ?_) | (refine M2 ?_; refine SE ?_))
  have hgz := hGz.game
  have hrz := hSz.keep hr hrm
  have hcz := hSz.keep hc hcm
  by_cases hmn : (l2.length : Int) = t.manyI ⟨⟨c, o⟩, l1, l2⟩
  rotate_left
  · rw [show decide ((l2.length : Int) = t.manyI ⟨⟨c, o⟩, l1, l2⟩) = false from decide_eq_false hmn]
    refine XL.callM false (refV 0 2) (ck rfl) rfl rfl (fun w _ => must_any _ _ _ w) (fun h => by cases h) (fun _ => ?_)
    refine ⟨fun a w' hf S => And.intro hf.defers ?_⟩
    have e1 : t.latE ⟨⟨c, o⟩, l1, l2⟩ = .panicked (pan (refV 0 2)) := by unfold CTk.latE; rw [if_pos hmn]
    rw [e1]
    exact GamE.of (GamR.end2 (kk := []) (R := fun _ _ => True) (x := .nilFunc) hGz hSz S (.tail _ (.tail _ (.head _))) trivial ZZHM (own3 hgz hrz hcz ZZO4))
  rw [show decide ((l2.length : Int) = t.manyI ⟨⟨c, o⟩, l1, l2⟩) = true from decide_eq_true hmn]
  refine XL.callM true (refV 0 2) (ck rfl) rfl rfl (fun w _ => must_any _ _ _ w) (fun _ => ?_) (fun h => by cases h)
  repeat (first | (refine M0 ?_; first | refine SL ?_ | refine SB fun _ _ => ?_) | (refine M1 ?_; refine SC ?_) | (refine M2 ?_; refine SE ?_))
  refine XC.loopk [0, 32, 33] rfl (fun z : Nat × World => [(34, .int .i64 (z.1 : Nat))]) (fun _ => [(gc, cel 137 (chkC gr q1 ⟨q2A, l2.length, q2c⟩ ⟨⟨c, o⟩, l1, l2⟩)), (gr, rulO g r), (g, gamO ⟨vp, vf, ⟨Ah, t.m, ch'⟩, vr⟩ t gm)]) (fun z => z.2)
    (fun z => z.1 ≤ l2.length ∧ Gam t ⟨vp, vf, ⟨Ah, t.m, ch'⟩, vr⟩ b0 g gm ks [] [] z.2 ∧ Since w gm z.2 ∧ ∀ j, j < z.1 → t.rules (c - t.from_ + 1 + (j : Nat)) (l2[j]?.getD (0, 0)) = true) (fun z => l2.length - z.1) (0, z) ⟨Nat.zero_le _, hGz, hSz, fun j hj => absurd hj (by simp)⟩ ZZSUB (fun _ h => h) ?_
  rintro ⟨k, W⟩ ⟨hk, hGW, hSW, hno⟩
  simp only at hk hGW hSW hno
  have hgW := hGW.game
  have hrW := hSW.keep hr hrm
  have hcW := hSW.keep hc hcm
  have hzW := hSW.size
  have hBW : Below b0 w W := hSW.below hG.bm hb0
  simp only [chkC, decC, svV, rulO, rulC, gamO, gamC]
  dsimp only [List.cons_append, List.nil_append]
  repeat (first | (refine M0 ?_; first | refine SL ?_ | refine SB fun _ _ => ?_) | (refine M1 ?_; refine SC ?_) | (refine M2 ?_; refine SE ?_))
  refine XC.cond _ rfl (fun h1 => ?_) (fun h1 => ?_)
  rotate_left
  · have hkm : k = l2.length := by have := of_decide_eq_false h1; omega
    subst hkm
    repeat (first | (refine M0 ?_; first | refine SL ?_ | refine SB fun _ _ => ?_) | (refine M1 ?_; refine SC ?_) | (refine M2 ?_; refine SE ?_))
    refine XE.end0 Try.results70 fun w' S => ?_
    have e1 : t.latE ⟨⟨c, o⟩, l1, l2⟩ = .returned (.tuple #[]) := by
      unfold CTk.latE
      rw [if_neg (fun h => h hmn)]
      simp only
      rw [firstB_none.2 fun j hj => by rw [hno j hj]; rfl]
    rw [e1]
    exact GamE.of (GamR.end2 (kk := []) (R := fun _ _ => True) (x := .nilFunc) hGW hSW S (.tail _ (.tail _ (.head _))) trivial ZZHM (own3 hgW hrW hcW ZZO4))
  have hkl : k < l2.length := by have := of_decide_eq_true h1; omega
  have hn : ¬ (⟨c, o⟩ : CPl) = nev := fun h => by
    unfold CTk.manyI at hmn
    rw [if_pos h] at hmn
    omega
  obtain ⟨i, hi, hil⟩ := hidx hn
  have hik : (i : Int) + 1 + (k : Nat) ≤ t.last := by
    unfold CTk.manyI at hmn
    rw [if_neg hn] at hmn
    simp only at hmn
    omega
  have hix := @hix (by unfold i64in; simp only; omega)
  simp only [hi] at hix
  have hL2W := hL2.below hBW
  obtain ⟨ad, rfl, hlt⟩ := hL2.addr (by decide) (by omega)
  obtain ⟨⟨pa, pb⟩, hpe⟩ : ∃ x, l2[k]? = some x := ⟨_, List.getElem?_eq_getElem hkl⟩
  have hel := hL2W.elem hpe
  have hbad : t.rules (c - t.from_ + 1 + (k : Nat)) (pa, pb) = false → t.latE ⟨⟨c, o⟩, l1, l2⟩ = .panicked (pan (refV (k : Nat) 153)) := fun h => by
    unfold CTk.latE
    rw [if_neg (fun h => h hmn)]
    simp only
    rw [firstB_some.2 ⟨hkl, by rw [hpe]; simp only [Option.getD_some]; rw [h]; rfl, fun j hj => by rw [hno j hj]; rfl⟩]
  have hrul : t.rules (c - t.from_ + 1 + (k : Nat)) (pa, pb) = (!outB pa 0 ((t.m : Int) - 1) && (!outB pb t.from_ (t.from_ + t.n - 1) && t.above pa.toNat (t.plan ((i : Int) + 1 + (k : Nat))) (pb - t.from_).toNat)) := by
    unfold CTk.rules
    rw [hi]
  repeat (first | (refine M0 ?_; first | refine SL ?_ | refine SB fun _ _ => ?_ | refine Y4 (Ev.load_old_agg tok [.int .i64 pa, .int .i64 pb] rfl rfl rfl (add_lt hlt) hel) ?_) | (refine M1 ?_; refine SC ?_) | (refine M2 ?_; refine SE ?_))
  rename_i g4 hg4
  refine XC.drawT mixed rfl rfl (by kernel_rfl) ?_
  cases hb1 : outB pa 0 ((t.m : Int) - 1) with
  | true =>
    rw [hb1] at hrul
    repeat (first | (refine M0 ?_; first | refine SL ?_ | refine SB fun _ _ => ?_ | refine Y4 (Ev.load_loc tok 1 (g := gc) (o := 0) rfl rfl rfl rfl) ?_ | refine Y4 (Ev.load_loc tok 2 (g := gr) (o := 0) rfl rfl rfl rfl) ?_ | refine Y4 (Ev.load_loc tok 3 (g := g) (o := 6) rfl rfl rfl rfl) ?_ | refine Y4 (Ev.call (f := 37) (ck rfl) rfl (fun w S => cout_any _ _ _ w)) ?_) | (refine M2 ?_; refine SE ?_) | (refine M3 ?_; first | refine SG ?_ | refine SF ?_ | refine YF (Ev.load_loc tok 1 (g := gc) (o := 0) rfl rfl rfl rfl) ?_ | refine YF (Ev.load_loc tok 2 (g := gr) (o := 0) rfl rfl rfl rfl) ?_ | refine YF (Ev.load_loc tok 3 (g := g) (o := 6) rfl rfl rfl rfl) ?_ | refine YF (Ev.call (f := 37) (ck rfl) rfl (fun w S => cout_any _ _ _ w)) ?_) | (refine M4 ?_; refine SR ?_) | (refine M5 ?_; first | exact M7 | refine YM ?_ | refine YN ?_ ?_))
    rw [hb1]
    repeat (first | (refine M0 ?_; first | refine SL ?_ | refine SB fun _ _ => ?_) | (refine M2 ?_; refine SE ?_) | (refine M3 ?_; first | refine SG ?_ | refine SF ?_) | (refine M4 ?_; refine SR ?_) | (refine M5 ?_; first | exact M7 | refine YM ?_ | refine YN ?_ ?_))
    repeat (first | (refine M0 ?_; first | refine SL ?_ | refine SB fun _ _ => ?_) | (refine M1 ?_; refine SC ?_) | (refine M2 ?_; refine SE ?_))
    refine XC.drawT mixed rfl rfl (by kernel_rfl) ?_
    repeat (first | (refine M0 ?_; first | refine SL ?_ | refine SB fun _ _ => ?_) | (refine M2 ?_; refine SE ?_) | (refine M3 ?_; first | refine SG ?_ | refine SF ?_) | (refine M4 ?_; refine SR ?_) | (refine M5 ?_; first | exact M7 | refine YM ?_ | refine YN ?_ ?_))
    refine XL.callM false (refV (k : Nat) 153) (ck rfl) rfl rfl (fun w _ => must_any _ _ _ w) (fun h => by cases h) (fun _ => ?_)
    refine ⟨fun a w' hf S => And.intro hf.defers ?_⟩
    rw [hbad hrul]
    exact GamE.of (GamR.end2 (kk := []) (R := fun _ _ => True) (x := .nilFunc) hGW hSW S (.tail _ (.tail _ (.tail _ (.head _)))) trivial ZZMK (own3 hgW hrW hcW ZZO4))
  | false =>
    cases hb2 : outB pb t.from_ (t.from_ + t.n - 1) with
    | true =>
      rw [hb1, hb2] at hrul
      repeat (first | (refine M0 ?_; first | refine SL ?_ | refine SB fun _ _ => ?_ | refine Y4 (Ev.load_loc tok 1 (g := gc) (o := 0) rfl rfl rfl rfl) ?_ | refine Y4 (Ev.load_loc tok 2 (g := gr) (o := 0) rfl rfl rfl rfl) ?_ | refine Y4 (Ev.load_loc tok 3 (g := g) (o := 6) rfl rfl rfl rfl) ?_ | refine Y4 (Ev.call (f := 37) (ck rfl) rfl (fun w S => cout_any _ _ _ w)) ?_) | (refine M2 ?_; refine SE ?_) | (refine M3 ?_; first | refine SG ?_ | refine SF ?_ | refine YF (Ev.load_loc tok 1 (g := gc) (o := 0) rfl rfl rfl rfl) ?_ | refine YF (Ev.load_loc tok 2 (g := gr) (o := 0) rfl rfl rfl rfl) ?_ | refine YF (Ev.load_loc tok 3 (g := g) (o := 6) rfl rfl rfl rfl) ?_ | refine YF (Ev.call (f := 37) (ck rfl) rfl (fun w S => cout_any _ _ _ w)) ?_) | (refine M4 ?_; refine SR ?_) | (refine M5 ?_; first | exact M7 | refine YM ?_ | refine YN ?_ ?_))
      rw [hb1]
      repeat (first | (refine M0 ?_; first | refine SL ?_ | refine SB fun _ _ => ?_ | refine Y4 (Ev.load_loc tok 0 (g := g4) (o := 1) rfl rfl rfl rfl) ?_ | refine Y4 (Ev.load_loc tok 1 (g := gc) (o := 0) rfl rfl rfl rfl) ?_ | refine Y4 (Ev.load_loc tok 2 (g := gr) (o := 0) rfl rfl rfl rfl) ?_ | refine Y4 (Ev.load_loc tok 3 (g := g) (o := 11) rfl rfl rfl rfl) ?_ | refine Y4 (Ev.load_loc tok 3 (g := g) (o := 12) rfl rfl rfl rfl) ?_ | refine Y4 (Ev.call (f := 37) (ck rfl) rfl (fun w S => cout_any _ _ _ w)) ?_) | (refine M2 ?_; refine SE ?_) | (refine M3 ?_; first | refine SG ?_ | refine SF ?_ | refine YF (Ev.load_loc tok 0 (g := g4) (o := 1) rfl rfl rfl rfl) ?_ | refine YF (Ev.load_loc tok 1 (g := gc) (o := 0) rfl rfl rfl rfl) ?_ | refine YF (Ev.load_loc tok 2 (g := gr) (o := 0) rfl rfl rfl rfl) ?_ | refine YF (Ev.load_loc tok 3 (g := g) (o := 11) rfl rfl rfl rfl) ?_ | refine YF (Ev.load_loc tok 3 (g := g) (o := 12) rfl rfl rfl rfl) ?_ | refine YF (Ev.call (f := 37) (ck rfl) rfl (fun w S => cout_any _ _ _ w)) ?_) | (refine M4 ?_; refine SR ?_) | (refine M5 ?_; first | exact M7 | refine YM ?_ | refine YN ?_ ?_))
      rw [hb2]
      repeat (first | (refine M0 ?_; first | refine SL ?_ | refine SB fun _ _ => ?_) | (refine M2 ?_; refine SE ?_) | (refine M3 ?_; first | refine SG ?_ | refine SF ?_) | (refine M4 ?_; refine SR ?_) | (refine M5 ?_; first | exact M7 | refine YM ?_ | refine YN ?_ ?_))
      repeat (first | (refine M0 ?_; first | refine SL ?_ | refine SB fun _ _ => ?_) | (refine M1 ?_; refine SC ?_) | (refine M2 ?_; refine SE ?_))
      refine XC.drawT mixed rfl rfl (by kernel_rfl) ?_
      repeat (first | (refine M0 ?_; first | refine SL ?_ | refine SB fun _ _ => ?_) | (refine M2 ?_; refine SE ?_) | (refine M3 ?_; first | refine SG ?_ | refine SF ?_) | (refine M4 ?_; refine SR ?_) | (refine M5 ?_; first | exact M7 | refine YM ?_ | refine YN ?_ ?_))
      refine XL.callM false (refV (k : Nat) 153) (ck rfl) rfl rfl (fun w _ => must_any _ _ _ w) (fun h => by cases h) (fun _ => ?_)
      refine ⟨fun a w' hf S => And.intro hf.defers ?_⟩
      rw [hbad hrul]
      exact GamE.of (GamR.end2 (kk := []) (R := fun _ _ => True) (x := .nilFunc) hGW hSW S (.tail _ (.tail _ (.tail _ (.head _)))) trivial ZZMK (own3 hgW hrW hcW ZZO4))
    | false =>
      have hr1 := outB_f.1 hb1
      have hr2 := outB_f.1 hb2
      obtain ⟨hh, rfl⟩ : ∃ hh : Nat, pa = (hh : Nat) := ⟨pa.toNat, by omega⟩
      obtain ⟨aa, haa⟩ : ∃ aa : Nat, pb - t.from_ = (aa : Nat) := ⟨(pb - t.from_).toNat, by omega⟩
      rw [hb1, hb2, haa, Int.toNat_natCast, Int.toNat_natCast] at hrul
      have hhm : hh < t.m := by omega
      have han : aa < t.n := by omega
      have hstk : t.strange (t.plan ((i : Int) + 1 + (k : Nat))) = false := (plan_ok ho (by omega) hik).1
      have hpl := fun {L : Lo} {B : Nat} {W1 : World} (w9 : World) (S9 : Sys B W1 L w9) (hm : (g, gamO ⟨vp, vf, ⟨Ah, t.m, ch'⟩, vr⟩ t gm) ∈ L) => plan_any (v := ⟨vp, vf, ⟨Ah, t.m, ch'⟩, vr⟩) (t := t) (gm := gm) (i := (i : Int) + 1 + (k : Nat)) (S9.own _ hm).2 ho ⟨by omega, by omega⟩
      have hab := fun (w5 : World) (ks2 : List Nat) (hG5 : Gam t ⟨vp, vf, ⟨Ah, t.m, ch'⟩, vr⟩ b0 g gm ks2 [] [] w5) => cabove_any (p := t.plan ((i : Int) + 1 + (k : Nat))) hG5 ho hhm han hstk
      simp only [plnV] at hpl hab
      repeat (first | (refine M0 ?_; first | refine SL ?_ | refine SB fun _ _ => ?_ | refine Y4 (Ev.load_loc tok 1 (g := gc) (o := 0) rfl rfl rfl rfl) ?_ | refine Y4 (Ev.load_loc tok 2 (g := gr) (o := 0) rfl rfl rfl rfl) ?_ | refine Y4 (Ev.load_loc tok 3 (g := g) (o := 6) rfl rfl rfl rfl) ?_ | refine Y4 (Ev.call (f := 37) (ck rfl) rfl (fun w S => cout_any _ _ _ w)) ?_) | (refine M2 ?_; refine SE ?_) | (refine M3 ?_; first | refine SG ?_ | refine SF ?_ | refine YF (Ev.load_loc tok 1 (g := gc) (o := 0) rfl rfl rfl rfl) ?_ | refine YF (Ev.load_loc tok 2 (g := gr) (o := 0) rfl rfl rfl rfl) ?_ | refine YF (Ev.load_loc tok 3 (g := g) (o := 6) rfl rfl rfl rfl) ?_ | refine YF (Ev.call (f := 37) (ck rfl) rfl (fun w S => cout_any _ _ _ w)) ?_) | (refine M4 ?_; refine SR ?_) | (refine M5 ?_; first | exact M7 | refine YM ?_ | refine YN ?_ ?_))
      rw [hb1]
      repeat (first | (refine M0 ?_; first | refine SL ?_ | refine SB fun _ _ => ?_ | refine Y4 (Ev.load_loc tok 0 (g := g4) (o := 1) rfl rfl rfl rfl) ?_ | refine Y4 (Ev.load_loc tok 1 (g := gc) (o := 0) rfl rfl rfl rfl) ?_ | refine Y4 (Ev.load_loc tok 2 (g := gr) (o := 0) rfl rfl rfl rfl) ?_ | refine Y4 (Ev.load_loc tok 3 (g := g) (o := 11) rfl rfl rfl rfl) ?_ | refine Y4 (Ev.load_loc tok 3 (g := g) (o := 12) rfl rfl rfl rfl) ?_ | refine Y4 (Ev.call (f := 37) (ck rfl) rfl (fun w S => cout_any _ _ _ w)) ?_) | (refine M2 ?_; refine SE ?_) | (refine M3 ?_; first | refine SG ?_ | refine SF ?_ | refine YF (Ev.load_loc tok 0 (g := g4) (o := 1) rfl rfl rfl rfl) ?_ | refine YF (Ev.load_loc tok 1 (g := gc) (o := 0) rfl rfl rfl rfl) ?_ | refine YF (Ev.load_loc tok 2 (g := gr) (o := 0) rfl rfl rfl rfl) ?_ | refine YF (Ev.load_loc tok 3 (g := g) (o := 11) rfl rfl rfl rfl) ?_ | refine YF (Ev.load_loc tok 3 (g := g) (o := 12) rfl rfl rfl rfl) ?_ | refine YF (Ev.call (f := 37) (ck rfl) rfl (fun w S => cout_any _ _ _ w)) ?_) | (refine M4 ?_; refine SR ?_) | (refine M5 ?_; first | exact M7 | refine YM ?_ | refine YN ?_ ?_))
      rw [hb2]
      repeat (first | (refine M0 ?_; first | refine SL ?_ | refine SB fun _ _ => ?_) | (refine M2 ?_; refine SE ?_) | (refine M3 ?_; first | refine SG ?_ | refine SF ?_) | (refine M4 ?_; refine SR ?_) | (refine M5 ?_; first | exact M7 | refine YM ?_ | refine YN ?_ ?_))
      repeat (first | (refine M0 ?_; first | refine SL ?_ | refine SB fun _ _ => ?_) | (refine M1 ?_; refine SC ?_) | (refine M2 ?_; refine SE ?_))
      refine XC.drawRT (trunc w b0) [(g4, cel 88 [.int .i64 (hh : Nat), .int .i64 pb]), (gc, cel 137 [.pointer (some ⟨gr, 0, none⟩), .int .i64 c, .int .i64 o, .slice q1.A q1.n q1.c, .slice (some ad) l2.length q2c]), (gr, rulO g r), (g, gamO ⟨vp, vf, ⟨Ah, t.m, ch'⟩, vr⟩ t gm)] [0, 1, 2, 3, 4, 5, 6, 7, 8, 9, 10, 11, 12, 13, 14, 15, 16, 17, 18, 21, 24, 25, 26, 27, 28, 29, 30, 31, 32, 33, 34, 35, 36, 39] [19, 20, 22, 23, 37, 38] mixed (fun _ h => Sys.anchorT hBW h (by intro e he; repeat (first | (cases he; done) | (rcases List.mem_cons.1 he with rfl | he; · repeat (first | exact List.mem_cons_self | apply List.mem_cons_of_mem)))) (by simp [n1, n2, n3]; omega) hb0) rfl rfl (by kernel_rfl) rfl (by kernel_rfl) ?_
      repeat (first | (refine M0 ?_; first | refine SL ?_ | refine SB fun _ _ => ?_ | refine Y4 (Ev.load_loc tok 0 (g := g4) (o := 0) rfl rfl rfl rfl) ?_ | refine Y4 (Ev.load_loc tok 0 (g := g4) (o := 1) rfl rfl rfl rfl) ?_ | refine Y4 (Ev.load_loc tok 1 (g := gc) (o := 0) rfl rfl rfl rfl) ?_ | refine Y4 (Ev.load_loc tok 2 (g := gr) (o := 0) rfl rfl rfl rfl) ?_ | refine Y4 (Ev.load_loc tok 3 (g := g) (o := 11) rfl rfl rfl rfl) ?_ | refine Y4 (Ev.call (f := 92) (ck rfl) rfl (fun w5 S5 => hix w5 S5 (.tail _ (.head _)) (.tail _ (.tail _ (.head _))) (.tail _ (.tail _ (.tail _ (.head _)))))) ?_) | (refine M2 ?_; refine SE ?_) | (refine M3 ?_; first | refine SG ?_ | refine SF ?_ | refine YF (Ev.load_loc tok 0 (g := g4) (o := 0) rfl rfl rfl rfl) ?_ | refine YF (Ev.load_loc tok 0 (g := g4) (o := 1) rfl rfl rfl rfl) ?_ | refine YF (Ev.load_loc tok 1 (g := gc) (o := 0) rfl rfl rfl rfl) ?_ | refine YF (Ev.load_loc tok 2 (g := gr) (o := 0) rfl rfl rfl rfl) ?_ | refine YF (Ev.load_loc tok 3 (g := g) (o := 11) rfl rfl rfl rfl) ?_ | refine YF (Ev.call (f := 92) (ck rfl) rfl (fun w5 S5 => hix w5 S5 (.tail _ (.head _)) (.tail _ (.tail _ (.head _))) (.tail _ (.tail _ (.tail _ (.head _)))))) ?_) | (refine M4 ?_; refine SR ?_) | (refine M5 ?_; first | exact M7 | refine YM ?_ | refine YN ?_ ?_))
      rw [haa]
      refine z7 ?_
      repeat (first | (refine M0 ?_; first | refine SL ?_ | refine SB fun _ _ => ?_) | (refine M2 ?_; refine SE ?_) | (refine M3 ?_; first | refine SG ?_ | refine SF ?_) | (refine M4 ?_; refine SR ?_) | (refine M5 ?_; first | exact M7 | refine YM ?_ | refine YN ?_ ?_))
      refine z7 ?_
      repeat (first | (refine M0 ?_; first | refine SL ?_ | refine SB fun _ _ => ?_) | (refine M2 ?_; refine SE ?_) | (refine M3 ?_; first | refine SG ?_ | refine SF ?_) | (refine M4 ?_; refine SR ?_) | (refine M5 ?_; first | exact M7 | refine YM ?_ | refine YN ?_ ?_))
      refine z7 ?_
      repeat (first | (refine M0 ?_; first | refine SL ?_ | refine SB fun _ _ => ?_ | refine Y4 (Ev.call (f := 50) (ck rfl) rfl (fun w5 S5 => hpl w5 S5 (.tail _ (.tail _ (.tail _ (.head _)))))) ?_) | (refine M2 ?_; refine SE ?_) | (refine M3 ?_; first | refine SG ?_ | refine SF ?_ | refine YF (Ev.call (f := 50) (ck rfl) rfl (fun w5 S5 => hpl w5 S5 (.tail _ (.tail _ (.tail _ (.head _)))))) ?_) | (refine M4 ?_; refine SR ?_) | (refine M5 ?_; first | exact M7 | refine YM ?_ | refine YN ?_ ?_))
      refine z7 ?_
      repeat (first | (refine M0 ?_; first | refine SL ?_ | refine SB fun _ _ => ?_) | (refine M2 ?_; refine SE ?_) | (refine M3 ?_; first | refine SG ?_ | refine SF ?_) | (refine M4 ?_; refine SR ?_) | (refine M5 ?_; first | exact M7 | refine YM ?_ | refine YN ?_ ?_))
      refine XL.callI (BoolR (t.above hh (t.plan ((i : Int) + 1 + (k : Nat))) aa)) (ck rfl) rfl rfl hGW hSW (.tail _ (.tail _ (.tail _ (.head _)))) (fun w5 ks2 _ _ hG5 => hab w5 ks2 hG5) (fun w5 x new hR hG5 hS5 => ?_) ZZMK (own3 hgW hrW hcW ZZO4)
      obtain ⟨rfl, rfl⟩ := hR
      have hz5 := hS5.size
      have hB5 : Below b0 w w5 := hS5.below hG.bm hb0
      have hg5 := hG5.game
      have hr5 := hS5.keep hr hrm
      have hc5 := hS5.keep hc hcm
      repeat (first | (refine M0 ?_; first | refine SL ?_ | refine SB fun _ _ => ?_) | (refine M2 ?_; refine SE ?_) | (refine M3 ?_; first | refine SG ?_ | refine SF ?_) | (refine M4 ?_; refine SR ?_) | (refine M5 ?_; first | exact M7 | refine YM ?_ | refine YN ?_ ?_))
      refine z7 ?_
      repeat (first | (refine M0 ?_; first | refine SL ?_ | refine SB fun _ _ => ?_) | (refine M2 ?_; refine SE ?_) | (refine M3 ?_; first | refine SG ?_ | refine SF ?_) | (refine M4 ?_; refine SR ?_) | (refine M5 ?_; first | exact M7 | refine YM ?_ | refine YN ?_ ?_))
      refine z7 ?_
      repeat (first | (refine M0 ?_; first | refine SL ?_ | refine SB fun _ _ => ?_) | (refine M2 ?_; refine SE ?_) | (refine M3 ?_; first | refine SG ?_ | refine SF ?_) | (refine M4 ?_; refine SR ?_) | (refine M5 ?_; first | exact M7 | refine YM ?_ | refine YN ?_ ?_))
      refine XE.lastZ (fun _ _ h => h) ?_
      cases hbv : t.above hh (t.plan ((i : Int) + 1 + (k : Nat))) aa with
      | true =>
        rw [hbv] at hrul
        refine XL.callM true (refV (k : Nat) 153) (ck rfl) rfl rfl (fun w _ => must_any _ _ _ w) (fun _ => ?_) (fun h => by cases h)
        repeat (first | (refine M0 ?_; first | refine SL ?_ | refine SB fun _ _ => ?_) | (refine M1 ?_; refine SC ?_) | (refine M2 ?_; refine SE ?_))
        refine XE.roundW (s := (k, W)) (fun w9 S9 => ⟨(k + 1, w9), ⟨hkl, hG5.on (ks := ks) S9 (by repeat (first | exact List.mem_cons_self | apply List.mem_cons_of_mem)) ZZMK (fun x hx => List.mem_append_right _ (List.mem_append_right _ hx)) hgs (fun x hx => hx), Since.end2 hG5 hS5 S9 ZZMK (own3 hg5 hr5 hc5 ZZO4), fun j hj => ?_⟩, by simp only; omega, ZZSUB, S9.rebase ZZSM⟩)
        rcases Nat.lt_or_ge j k with h2 | h2
        · exact hno j h2
        · have : j = k := by omega
          subst this
          rw [hpe]
          exact hrul
      | false =>
        rw [hbv] at hrul
        refine XL.callM false (refV (k : Nat) 153) (ck rfl) rfl rfl (fun w _ => must_any _ _ _ w) (fun h => by cases h) (fun _ => ?_)
        refine ⟨fun a w' hf S => And.intro hf.defers ?_⟩
        rw [hbad hrul]
        exact GamE.of (GamR.end2 (kk := _) (R := fun _ _ => True) (x := .nilFunc) hG5 hS5 S (.tail _ (.tail _ (.tail _ (.head _)))) trivial ZZMK (own3 hg5 hr5 hc5 ZZO4))
      any_goals (repeat (first | exact AnyR.nil | refine AnyR.skip rfl ?_))
end
end Go.Proofs.Ytmpaiphakjogjaa.X
/-
  The walk of Accept's deferred function (closure).
-/
namespace Go.Proofs.Ytmpaiphakjogjaa.X
open Go Go.RowKit Go.Proofs.Ytmpaiphakjogjaa.Bs
set_option linter.unusedVariables false
theorem any_if5 : isIf (Try.prog.underlying 20) = true := by kernel_rfl
section
variable {w : World} {b g6 g7 : Nat} {x y : Int}
/-- a frame that returns: nothing is recovered. -/
theorem catch_ret (hb : b ≤ w.heap.size) (h6 : w.heap[g6]? = some (cel 3 [.int .i64 x])) (h7 : w.heap[g7]? = some (cel 30 [.int .i64 y])) (b6 : b ≤ g6) (b7 : b ≤ g7) (hne : g6 ≠ g7) :
    CallsD Try.prog 65 #[.pointer (some ⟨g6, 0, none⟩), .pointer (some ⟨g7, 0, none⟩)] .returning w fun en u' w' => (∃ v, en = .returned v) ∧ u' = .returning ∧ Sys b w [(g6, cel 3 [.int .i64 x]), (g7, cel 30 [.int .i64 y])] w' := by
  have S0 := Sys.start2 b6 b7 h6 h7 hne
  refine enterRec Try.func65 rfl Try.ntmps65 rfl rfl S0 recR ?_
  simp only [frame, Nat.zero_add, Nat.reduceAdd]
  repeat (first | (refine M0 ?_; first | refine SL ?_ | refine SB fun _ _ => ?_ | refine Y4 (Ev.ifEql rfl rfl any_if5) ?_) | (refine M1 ?_; refine SC ?_) | (refine M2 ?_; refine SE ?_))
  exact XE.end0 Try.results65 fun w' S => ⟨⟨_, rfl⟩, trivial, S⟩
theorem catch_ref {i e : Int} (hb : b ≤ w.heap.size) (h6 : w.heap[g6]? = some (cel 3 [.int .i64 x])) (h7 : w.heap[g7]? = some (cel 30 [.int .i64 y])) (b6 : b ≤ g6) (b7 : b ≤ g7) (hne : g6 ≠ g7) :
    CallsD Try.prog 65 #[.pointer (some ⟨g6, 0, none⟩), .pointer (some ⟨g7, 0, none⟩)] (.panicking (pan (refV i e))) w fun en u' w' => (∃ v, en = .returned v) ∧ settle u' = .returning ∧ Sys b w [(g6, cel 3 [.int .i64 i]), (g7, cel 30 [.int .i64 e])] w' := by
  have S0 := Sys.start2 b6 b7 h6 h7 hne
  have l6 := (Array.getElem?_eq_some_iff.1 h6).1
  have l7 := (Array.getElem?_eq_some_iff.1 h7).1
  refine enterRec Try.func65 rfl Try.ntmps65 rfl rfl S0 recP ?_
  simp only [frame, Nat.zero_add, Nat.reduceAdd, refV]
  refine XC.hint 0 1 (XC.hint 1 0 ?_)
  repeat (first | (refine M0 ?_; first | refine SL ?_ | refine SB fun _ _ => ?_ | refine Y4 (Ev.ifEql rfl rfl any_if5) ?_ | refine Y4 (Ev.assertOk rfl ref_con tok rfl (.tuple ⟨[.agg ⟨[.int .i64 i, .int .i64 e]⟩, .bool true]⟩) rfl) ?_) | (refine M1 ?_; refine SC ?_) | (refine M2 ?_; refine SE ?_))
  rename_i g3 hg3
  have hBw : Below b w w := Below.refl b w
  refine XC.drawRS (trunc w b) [(g3, cel 134 [.int .i64 i, .int .i64 e])] [0, 1, 2, 3] [4, 5] mixed (fun _ h => Sys.anchorT hBw h (fun e he => by rw [List.mem_singleton.1 he]; exact .head _) (by simp) hb) rfl (by kernel_rfl) ?_
  repeat (first | (refine M0 ?_; first | refine SL ?_ | refine SB fun _ _ => ?_ | refine Y4 (Ev.load_loc tok 0 (g := g3) (o := 0) rfl rfl rfl rfl) ?_ | refine Y4 (Ev.load_loc tok 0 (g := g3) (o := 1) rfl rfl rfl rfl) ?_) | (refine M2 ?_; refine SE ?_) | (refine M3 ?_; first | refine SG ?_ | refine SF ?_ | refine YF (Ev.load_loc tok 0 (g := g3) (o := 0) rfl rfl rfl rfl) ?_ | refine YF (Ev.load_loc tok 0 (g := g3) (o := 1) rfl rfl rfl rfl) ?_) | (refine M4 ?_; refine SR ?_) | (refine M5 ?_; first | exact M7 | refine YM ?_ | refine YN ?_ ?_))
  repeat (any_goals (first | (refine M0 ?_; first | refine SL ?_ | refine SB fun _ _ => ?_) | (refine M1 ?_; refine SC ?_) | (refine M2 ?_; first | refine SE ?_ | ((with_reducible refine atHeld ?_); refine z7 ?_)) | (refine M3 ?_; first | refine SG ?_ | refine SF ?_) | (refine M4 ?_; refine SR ?_) | (refine M5 ?_; first | exact M7 | refine YM ?_ | refine YN ?_ ?_)))
  any_goals (repeat (first | exact AnyR.nil | refine AnyR.skip rfl ?_))
  all_goals
    exact XE.end0 Try.results65 fun w' S => ⟨⟨_, rfl⟩, rfl, S.pick (fun e he => by simp only [List.mem_cons, List.not_mem_nil, or_false] at he; rcases he with rfl | rfl <;> simp) (by simp [hne]) (fun e he => by simp only [List.mem_cons, List.not_mem_nil, or_false] at he; rcases he with rfl | rfl | rfl <;> simp [hg3])⟩
end
end Go.Proofs.Ytmpaiphakjogjaa.X
/-
  The walk of Accept (closure).
-/
namespace Go.Proofs.Ytmpaiphakjogjaa.X
open Go Go.RowKit Go.Proofs.Ytmpaiphakjogjaa.Bs
set_option linter.unusedVariables false
section
variable {t : CTk} {v : CTV} {r : CRu} {b0 g gm : Nat} {ks : List Nat} {w w' : World} {d : CDe}
theorem GamE.ofBelow {e e0 : Ending} (hG : Gam t v b0 g gm ks [] [] w) (h : e = e0 ∧ Below w.heap.size w w') : GamE t b0 gm ks e0 w e w' :=
  ⟨h.1, Since.refl.made h.2, (hG.made (new := []) h.2 (fun x hx => by cases hx)).memo⟩
theorem acc_form (h : ruE t r = 0) (hb : (!t.strange d.plan && decide (d.peaks.length = t.m)) = false) : t.acc r d = (0, 2) := by
  unfold CTk.acc
  rw [if_neg (by simp [h]), if_pos]
  cases hs : t.strange d.plan with
  | true => exact .inl rfl
  | false =>
    rw [hs] at hb
    right
    simpa using hb
theorem acc_early (h : ruE t r = 0) (hs : t.strange d.plan = false) (hl : d.peaks.length = t.m) (hb : t.earB r d = false) : t.acc r d = (0, 150) := by
  unfold CTk.acc
  rw [if_neg (by simp [h]), if_neg (by simp [hs, hl]), if_pos]
  unfold CTk.earB at hb
  by_cases hn : d.plan = nev
  · rw [if_pos hn] at hb ⊢; simpa using hb
  · rw [if_neg hn] at hb ⊢; simpa using hb
theorem acc_3 (h : ruE t r = 0) (hs : t.strange d.plan = false) (hl : d.peaks.length = t.m) (hb : t.earB r d = true) : t.acc r d = (if d.plan ≠ nev ∧ (d.plan ≠ t.plan (d.plan.close - t.from_) ∨ t.wit (d.plan.close - t.from_) ≠ none) then (0, 151) else
  match firstB (fun k => decide (d.peaks[k]?.getD (0, 0) ≠ t.peak d.plan k)) t.m with
  | some k => (((k : Nat) : Int), (152 : Int))
  | none =>
    if (d.later.length : Int) ≠ (if d.plan = nev then 0 else t.last - (d.plan.close - t.from_)) then (0, 2) else
    match firstB (fun k => !t.rules (d.plan.close - t.from_ + 1 + (k : Nat)) (d.later[k]?.getD (0, 0))) d.later.length with
    | some k => (((k : Nat) : Int), 153)
    | none => (0, 0)) := by
  unfold CTk.acc
  rw [if_neg (by simp [h]), if_neg (by simp [hs, hl]), if_neg]
  · rfl
  unfold CTk.earB at hb
  by_cases hn : d.plan = nev
  · rw [if_pos hn] at hb ⊢; simpa using hb
  · rw [if_neg hn] at hb ⊢; simpa using hb
theorem hlds_t (hb : t.hldsB d = true) : ¬ (d.plan ≠ nev ∧ (d.plan ≠ t.plan (d.plan.close - t.from_) ∨ t.wit (d.plan.close - t.from_) ≠ none)) := by
  unfold CTk.hldsB at hb
  simp only [Bool.or_eq_true, Bool.and_eq_true, decide_eq_true_eq, Bool.not_eq_true', Option.isSome_eq_false_iff, Option.isNone_iff_eq_none] at hb
  rintro ⟨h1, h2⟩
  rcases hb with hb | hb
  · exact h1 hb
  · rcases h2 with h2 | h2
    · exact h2 hb.1
    · exact h2 hb.2
theorem hlds_f (hb : t.hldsB d = false) : d.plan ≠ nev ∧ (d.plan ≠ t.plan (d.plan.close - t.from_) ∨ t.wit (d.plan.close - t.from_) ≠ none) := by
  refine Classical.byContradiction fun h => ?_
  have : t.hldsB d = true := by
    unfold CTk.hldsB
    by_cases hn : d.plan = nev
    · simp [hn]
    · have h1 : d.plan = t.plan (d.plan.close - t.from_) := Decidable.byContradiction fun h2 => h ⟨hn, .inl h2⟩
      have h2 : t.wit (d.plan.close - t.from_) = none := Classical.byContradiction fun h2 => h ⟨hn, .inr h2⟩
      simp only [Bool.or_eq_true, Bool.and_eq_true, decide_eq_true_eq]
      exact .inr ⟨h1, by rw [h2]; rfl⟩
  rw [hb] at this; cases this
theorem acc_holds (h : ruE t r = 0) (hs : t.strange d.plan = false) (hl : d.peaks.length = t.m) (hb : t.earB r d = true) (hh : t.hldsB d = false) : t.acc r d = (0, 151) := by
  rw [acc_3 h hs hl hb, if_pos (hlds_f hh)]
theorem acc_heights (h : ruE t r = 0) (hs : t.strange d.plan = false) (hl : d.peaks.length = t.m) (hb : t.earB r d = true) (hh : t.hldsB d = true) {k : Nat} (hk : firstB (fun k => decide (d.peaks[k]?.getD (0, 0) ≠ t.peak d.plan k)) t.m = some k) : t.acc r d = (((k : Nat) : Int), 152) := by
  rw [acc_3 h hs hl hb, if_neg (hlds_t hh), hk]
theorem acc_many (h : ruE t r = 0) (hs : t.strange d.plan = false) (hl : d.peaks.length = t.m) (hb : t.earB r d = true) (hh : t.hldsB d = true) (hk : firstB (fun k => decide (d.peaks[k]?.getD (0, 0) ≠ t.peak d.plan k)) t.m = none) (hm : (d.later.length : Int) ≠ t.manyI d) : t.acc r d = (0, 2) := by
  rw [acc_3 h hs hl hb, if_neg (hlds_t hh), hk]
  simp only
  unfold CTk.manyI at hm
  rw [if_pos hm]
theorem acc_later (h : ruE t r = 0) (hs : t.strange d.plan = false) (hl : d.peaks.length = t.m) (hb : t.earB r d = true) (hh : t.hldsB d = true) (hk : firstB (fun k => decide (d.peaks[k]?.getD (0, 0) ≠ t.peak d.plan k)) t.m = none) (hm : ¬ (d.later.length : Int) ≠ t.manyI d) {k : Nat}
    (hf : firstB (fun k => !t.rules (d.plan.close - t.from_ + 1 + (k : Nat)) (d.later[k]?.getD (0, 0))) d.later.length = some k) : t.acc r d = (((k : Nat) : Int), 153) := by
  rw [acc_3 h hs hl hb, if_neg (hlds_t hh), hk]
  simp only
  unfold CTk.manyI at hm
  rw [if_neg hm, hf]
theorem acc_ok (h : ruE t r = 0) (hs : t.strange d.plan = false) (hl : d.peaks.length = t.m) (hb : t.earB r d = true) (hh : t.hldsB d = true) (hk : firstB (fun k => decide (d.peaks[k]?.getD (0, 0) ≠ t.peak d.plan k)) t.m = none) (hm : ¬ (d.later.length : Int) ≠ t.manyI d)
    (hf : firstB (fun k => !t.rules (d.plan.close - t.from_ + 1 + (k : Nat)) (d.later[k]?.getD (0, 0))) d.later.length = none) : t.acc r d = (0, 0) := by
  rw [acc_3 h hs hl hb, if_neg (hlds_t hh), hk]
  simp only
  unfold CTk.manyI at hm
  rw [if_neg hm, hf]
theorem form_t {a : Bool} {n m : Nat} (h : (!a && decide (n = m)) = true) : a = false ∧ n = m := by
  simp only [Bool.and_eq_true, Bool.not_eq_true', decide_eq_true_eq] at h
  exact h
theorem ear_may (h : t.earB r d = true) : d.plan ≠ nev → t.may r (d.plan.close - t.from_) = true := fun hn => by
  unfold CTk.earB at h
  rw [if_neg hn] at h
  exact h
theorem mustE_ret {b : Bool} {v x : Value} (h : mustE b v = .returned x) : b = true := by
  cases b with
  | true => rfl
  | false => cases h
theorem mustE_pan {b : Bool} {v : Value} {ch : List PanicEntry} (h : mustE b v = .panicked ch) : b = false ∧ ch = pan v := by
  cases b with
  | true => cases h
  | false => exact ⟨rfl, (Ending.panicked.inj h).symm⟩
theorem hgt_p {ch : List PanicEntry} (h : t.hgtE d = .panicked ch) : ∃ k : Nat, firstB (fun k => decide (d.peaks[k]?.getD (0, 0) ≠ t.peak d.plan k)) t.m = some k ∧ ch = pan (refV (k : Nat) 152) := by
  unfold CTk.hgtE at h
  split at h
  · cases h
  · rename_i k hk
    exact ⟨k, hk, (Ending.panicked.inj h).symm⟩
theorem lat_r {x : Value} (h : t.latE d = .returned x) : ¬ (d.later.length : Int) ≠ t.manyI d ∧ firstB (fun k => !t.rules (d.plan.close - t.from_ + 1 + (k : Nat)) (d.later[k]?.getD (0, 0))) d.later.length = none := by
  unfold CTk.latE at h
  split at h
  · cases h
  · rename_i hm
    split at h
    · rename_i hf; exact ⟨hm, hf⟩
    · cases h
theorem lat_p {ch : List PanicEntry} (h : t.latE d = .panicked ch) : ((d.later.length : Int) ≠ t.manyI d ∧ ch = pan (refV 0 2)) ∨ (¬ (d.later.length : Int) ≠ t.manyI d ∧ ∃ k : Nat, firstB (fun k => !t.rules (d.plan.close - t.from_ + 1 + (k : Nat)) (d.later[k]?.getD (0, 0))) d.later.length = some k ∧ ch = pan (refV (k : Nat) 153)) := by
  unfold CTk.latE at h
  split at h
  · rename_i hm; exact .inl ⟨hm, (Ending.panicked.inj h).symm⟩
  · rename_i hm
    split at h
    · cases h
    · rename_i k hk; exact .inr ⟨hm, k, hk, (Ending.panicked.inj h).symm⟩
theorem hgt_r {x : Value} (h : t.hgtE d = .returned x) : firstB (fun k => decide (d.peaks[k]?.getD (0, 0) ≠ t.peak d.plan k)) t.m = none := by
  unfold CTk.hgtE at h
  split at h
  · assumption
  · cases h
theorem hlds_ins (ho : CtOk t) (hb : t.hldsB d = true) : ∀ k i, k < t.m → i < t.n → (t.ins k d.plan i).isSome = true := by
  by_cases hn : d.plan = nev
  · rw [hn]; exact nev_ins t
  · have h1 := hlds_t hb
    have h2 : d.plan = t.plan (d.plan.close - t.from_) := Decidable.byContradiction fun h2 => h1 ⟨hn, .inl h2⟩
    have h3 : t.wit (d.plan.close - t.from_) = none := Classical.byContradiction fun h2 => h1 ⟨hn, .inr h2⟩
    have h4 := wit_none.1 h3
    rw [← h2] at h4
    exact all_ins h4
end
/-- two own blocks have been turned. -/
theorem Sys.turned2 {B : Nat} {w0 w5 w6 : World} {L L1 L2 : Lo} {B' g f : Nat} {o o' q q' : Obj} (S : Sys B w0 L w5) (i j : Nat) (hi : L[i]? = some (g, o)) (s1 : setN L i (g, o') = some L1) (hj : L1[j]? = some (f, q)) (s2 : setN L1 j (f, q') = some L2) (h' : Sys B' w5 [(g, o'), (f, q')] w6) : Sys B w6 L2 w6 := by
  obtain ⟨e1, _⟩ := setN_spec _ _ _ _ s1
  obtain ⟨e2, _⟩ := setN_spec _ _ _ _ s2
  subst e1
  subst e2
  obtain ⟨k1, k2⟩ := set_cases (o' := o') S.nd hi
  obtain ⟨k3, k4⟩ := set_cases (o' := q') (by rw [k1]; exact S.nd) hj
  have bg : B ≤ g := (S.own _ (List.mem_of_getElem? hi)).1
  have bf : B ≤ f := by
    rcases k2 _ (List.mem_of_getElem? hj) with h | ⟨h, _⟩
    · have : f = g := congrArg Prod.fst h
      omega
    · exact (S.own _ h).1
  refine Sys.start (Nat.le_trans S.base (Nat.le_trans S.size h'.size)) (fun x hx => ?_) (by rw [k3, k1]; exact S.nd)
  rcases k4 x hx with rfl | ⟨hx, hne⟩
  · exact ⟨bf, (h'.own _ (.tail _ (.head _))).2⟩
  · rcases k2 x hx with rfl | ⟨hm, hne2⟩
    · exact ⟨bg, (h'.own _ (.head _)).2⟩
    · refine ⟨(S.own x hm).1, ?_⟩
      rw [h'.old x.1 (S.lt hm) (fun y hy e => ?_)]
      · exact (S.own x hm).2
      · simp only [List.mem_cons, List.not_mem_nil, or_false] at hy
        rcases hy with rfl | rfl
        · exact hne2 e.symm
        · exact hne e.symm
/-- where a check panics the deferred function takes up what it says. -/
theorem accept_pan {N : Nat} {F : Fr} {L L1 L2 : Lo} {W w : World} {Q : Exit → Act → World → Prop} {rs : List ResultVar} {g6 g7 : Nat} {i e x y : Int} {c : Prop} {r0 : Int × Int} (hB : Below w.heap.size w W) (h : Try.f28.results = ⟨rs⟩) (hr : r0 = (i, e)) (i6 i7 : Nat)
    (m6 : L[i6]? = some (g6, cel 3 [.int .i64 x])) (s6 : setN L i6 (g6, cel 3 [.int .i64 i]) = some L1) (m7 : L1[i7]? = some (g7, cel 30 [.int .i64 y])) (s7 : setN L1 i7 (g7, cel 30 [.int .i64 e]) = some L2) (m8 : (g7, cel 30 [.int .i64 y]) ∈ L) (hne : g6 ≠ g7)
    (hv : resO TB F L2 rs = some ([.int .i64 i, .int .i64 e], c)) (hc : c)
    (hQ : ∀ a w', bodyPostD Try.prog Try.f28 (fun e w' => e = .returned (.tuple ⟨[.int .i64 r0.1, .int .i64 r0.2]⟩) ∧ Below w.heap.size w w') (.panic (pan (refV i e))) a w' → Q (.panic (pan (refV i e))) a w') :
    XE N w.heap.size W [{ target := .fn (.func 65) ⟨[.pointer (some ⟨g6, 0, none⟩), .pointer (some ⟨g7, 0, none⟩)]⟩, args := #[] }] Q (.panic (pan (refV i e))) F L := by
  subst hr
  refine ⟨fun a w' hf S => hQ a w' (leaveD (P := Try.prog) (T := TB) (L' := L2) tok (by intro h; cases h) hf h (ck rfl) hv hc ?_)⟩
  have o6 := S.own _ (List.mem_of_getElem? m6)
  have o7 := S.own _ m8
  refine (catch_ref (b := w.heap.size) (Nat.le_trans hB.size S.size) o6.2 o7.2 o6.1 o7.1 hne).mono fun en u' w2 hx => ?_
  obtain ⟨h1, h2, S2⟩ := hx
  exact ⟨h1, h2, ⟨_, _, S.turned2 i6 i7 m6 s6 m7 s7 S2⟩, rfl, (hB.trans S.toBelow).trans S2.toBelow⟩
theorem accept_ret {N : Nat} {F : Fr} {L L1 L2 : Lo} {W w : World} {Q : Exit → Act → World → Prop} {rs : List ResultVar} {g6 g7 : Nat} {i e : Int} {c : Prop} {r0 : Int × Int} (hB : Below w.heap.size w W) (h : Try.f28.results = ⟨rs⟩) (hr : r0 = (i, e)) (i6 i7 : Nat)
    (m6 : L[i6]? = some (g6, cel 3 [.int .i64 i])) (s6 : setN L i6 (g6, cel 3 [.int .i64 i]) = some L1) (m7 : L1[i7]? = some (g7, cel 30 [.int .i64 e])) (s7 : setN L1 i7 (g7, cel 30 [.int .i64 e]) = some L2) (m8 : (g7, cel 30 [.int .i64 e]) ∈ L) (hne : g6 ≠ g7)
    (hv : resO TB F L2 rs = some ([.int .i64 i, .int .i64 e], c)) (hc : c)
    (hQ : ∀ a w', bodyPostD Try.prog Try.f28 (fun e w' => e = .returned (.tuple ⟨[.int .i64 r0.1, .int .i64 r0.2]⟩) ∧ Below w.heap.size w w') .ret a w' → Q .ret a w') :
    XE N w.heap.size W [{ target := .fn (.func 65) ⟨[.pointer (some ⟨g6, 0, none⟩), .pointer (some ⟨g7, 0, none⟩)]⟩, args := #[] }] Q .ret F L := by
  subst hr
  refine ⟨fun a w' hf S => hQ a w' (leaveD (P := Try.prog) (T := TB) (L' := L2) tok (by intro h; cases h) hf h (ck rfl) hv hc ?_)⟩
  have o6 := S.own _ (List.mem_of_getElem? m6)
  have o7 := S.own _ m8
  refine (catch_ret (b := w.heap.size) (Nat.le_trans hB.size S.size) o6.2 o7.2 o6.1 o7.1 hne).mono fun en u' w2 hx => ?_
  obtain ⟨h1, rfl, S2⟩ := hx
  exact ⟨h1, rfl, ⟨_, _, S.turned2 i6 i7 m6 s6 m7 s7 S2⟩, rfl, (hB.trans S.toBelow).trans S2.toBelow⟩
theorem fn5_size : (Try.prog.info? 1).map (·.size) = some 1 := by kernel_rfl
theorem fn5_one : lkG TB.one 1 = some () := by kernel_rfl
set_option maxHeartbeats 16000000 in
theorem Accept_any {v : CTV} {t : CTk} {r : CRu} {q1 q2 : SV} {d : CDe} {w : World} (h : CtAt w w.heap.size v t) (hL1 : ListAt pekK5 w (Lt w.heap.size) q1 d.peaks) (hL2 : ListAt wtnK5 w (Lt w.heap.size) q2 d.later) :
    Calls Try.prog 28 #[ctkV v t, ruV r, decV q1 q2 d] w fun e w' => e = .returned (.tuple ⟨[.int .i64 (t.acc r d).1, .int .i64 (t.acc r d).2]⟩) ∧ Below w.heap.size w w' := by
  simp only [ctkV, ctkC, ruV, decV, decC, svV]
  refine enterD Try.func28 rfl Try.ntmps28 rfl ?_; simp only [frame, Nat.zero_add, Nat.reduceAdd]
  repeat (first | (refine M0 ?_; first | refine SL ?_ | refine SB fun _ _ => ?_) | (refine M1 ?_; refine SC ?_) | (refine M2 ?_; refine SE ?_))
  rename_i g3 hg3 g4 hg4 g5 hg5 g6 hg6 g7 hg7
  have hle : w.heap.size ≤ w.heap.size := Nat.le_refl _
  refine XL.with5 (v := v) (t := t) (r := r) h rfl rfl (fun hc w1 hB1 => ?_) (fun hc ho hq w1 gr g gm hG1 hB1 hgl hgrl => ?_)
  · have e1 : t.acc r d = (0, ruE t r) := by unfold CTk.acc; rw [if_pos hc]
    rw [e1]
    repeat (first | (refine M0 ?_; first | refine SL ?_ | refine SB fun _ _ => ?_ | refine XL.store_at tok 0 (g := g7) (o := 0) (j := 0) (cs := [.int .i64 0]) rfl rfl rfl rfl rfl (Nat.le_of_ble_eq_true rfl) rfl ?_) | (refine M1 ?_; refine SC ?_) | (refine M2 ?_; refine SE ?_))
    rw [show decide (ruE t r ≠ 0) = true from decide_eq_true hc]
    repeat (first | (refine M0 ?_; first | refine SL ?_ | refine SB fun _ _ => ?_) | (refine M1 ?_; refine SC ?_) | (refine M2 ?_; refine SE ?_))
    refine XC.drawRS (trunc w w.heap.size) [] [] [0, 1, 2] mixed (fun _ h => Sys.anchorT hB1 h (fun e he => by cases he) (by simp) hle) rfl (by kernel_rfl) ?_
    repeat (any_goals (first | (refine M0 ?_; first | refine SL ?_ | refine SB fun _ _ => ?_) | (refine M1 ?_; refine SC ?_) | (refine M2 ?_; first | refine SE ?_ | ((with_reducible refine atHeld ?_); refine z7 ?_)) | (refine M3 ?_; first | refine SG ?_ | refine SF ?_) | (refine M4 ?_; refine SR ?_) | (refine M5 ?_; first | exact M7 | refine YM ?_ | refine YN ?_ ?_)))
    any_goals (repeat (first | exact AnyR.nil | refine AnyR.skip rfl ?_))
    all_goals
      refine XE.retD0 tok Try.results28 rfl (by simp only [and_self, and_true]) (fun w' S => ?_)
      exact ⟨rfl, hB1.trans S.toBelow⟩
  repeat (first | (refine M0 ?_; first | refine SL ?_ | refine SB fun _ _ => ?_ | refine Y4 (Ev.makeFunc rfl rfl) ?_) | (refine M1 ?_; refine SC ?_) | (refine M2 ?_; refine SE ?_))
  refine XL.defer rfl ?_
  repeat (first | (refine M0 ?_; first | refine SL ?_ | refine SB fun _ _ => ?_ | refine Y4 (Ev.makeFunc rfl rfl) ?_) | (refine M1 ?_; refine SC ?_) | (refine M2 ?_; refine SE ?_))
  rename_i gc hgc
  refine XL.step _ (Ev.buildArr tok Try.underlying138 fn5_size rfl rfl rfl) rfl ?_
  repeat (first | (refine M0 ?_; first | refine SL ?_ | refine SB fun _ _ => ?_) | (refine M1 ?_; refine SC ?_) | (refine M2 ?_; refine SE ?_))
  refine XC.rebase (List.Sublist.refl _) (fun W0 S0 => ?_)
  have hG0 : Gam t v w.heap.size g gm [gc, gr, g, g7, g6, g5, g4, g3] [] [] W0 := hG1.on (ks := [gc, gr, g, g7, g6, g5, g4, g3]) S0 (.tail _ (.tail _ (.head _))) ZZMK ZZSB (by simp) (fun x hx => hx)
  have hB0 : Below w.heap.size w W0 := hB1.trans S0.toBelow
  have hn67 : g6 ≠ g7 := by
    have := S0.nd
    simp only [List.map_cons, List.map_nil, List.nodup_cons, List.mem_cons, not_or] at this
    exact fun e => this.2.2.2.1.1 e.symm
  have hbc : w.heap.size ≤ gc := (S0.own _ (.head _)).1
  have hlen1 := hL1.len (by decide)
  refine XC.loopk [6, 7, 36] rfl (fun z : Nat × World => [(37, .int .i64 (z.1 : Nat))]) (fun _ => [(gc, chkO gr q1 q2 d), (gr, rulO g r), (g, gamO v t gm), (g7, cel 30 [.int .i64 0]), (g6, cel 3 [.int .i64 0]), (g5, cel 49 (decC q1 q2 d)), (g4, cel 42 [.int .i64 r.count, .int .i64 r.early]), (g3, cel 29 (ctkC v t))]) (fun z => z.2)
    (fun z => z.1 ≤ 5 ∧ Gam t v w.heap.size g gm [gc, gr, g, g7, g6, g5, g4, g3] [] [] z.2 ∧ Below w.heap.size w z.2 ∧ (1 ≤ z.1 → t.strange d.plan = false ∧ d.peaks.length = t.m) ∧ (2 ≤ z.1 → t.earB r d = true) ∧ (3 ≤ z.1 → t.hldsB d = true) ∧ (4 ≤ z.1 → firstB (fun k => decide (d.peaks[k]?.getD (0, 0) ≠ t.peak d.plan k)) t.m = none) ∧
      (5 ≤ z.1 → ¬ (d.later.length : Int) ≠ t.manyI d ∧ firstB (fun k => !t.rules (d.plan.close - t.from_ + 1 + (k : Nat)) (d.later[k]?.getD (0, 0))) d.later.length = none)) (fun z => 5 - z.1) (0, W0)
    ⟨Nat.zero_le _, hG0, hB0, fun h => absurd h (by simp), fun h => absurd h (by simp), fun h => absurd h (by simp), fun h => absurd h (by simp), fun h => absurd h (by simp)⟩ ZZSUB (fun _ h => h) ?_
  rintro ⟨k, W⟩ ⟨hk, hGW, hBW, a1, a2, a3, a4, a5⟩
  simp only at hk hGW hBW a1 a2 a3 a4 a5
  dsimp only [List.cons_append, List.nil_append]
  repeat (first | (refine M0 ?_; first | refine SL ?_ | refine SB fun _ _ => ?_) | (refine M1 ?_; refine SC ?_) | (refine M2 ?_; refine SE ?_))
  refine XC.cond _ rfl (fun h5 => ?_) (fun h5 => ?_)
  · have hk4 : k ≤ 4 := by simp only [decide_eq_true_eq] at h5; omega
    rcases k with _ | _ | _ | _ | _ | k
    · repeat (first | (refine M0 ?_; first | refine SL ?_ | refine SB fun _ _ => ?_) | (refine M1 ?_; refine SC ?_) | (refine M2 ?_; refine SE ?_))
      refine XL.step _ (Ev.indexArr tok Try.underlying138 fn5_one rfl (j := 0) rfl (by decide) rfl) rfl ?_
      repeat (first | (refine M0 ?_; first | refine SL ?_ | refine SB fun _ _ => ?_) | (refine M1 ?_; refine SC ?_) | (refine M2 ?_; refine SE ?_))
      refine XL.callE (fst := [.pointer (some ⟨gc, 0, none⟩)]) (cap := []) (vs := []) (mustE (!t.strange d.plan && decide (d.peaks.length = t.m)) (refV 0 2)) (by unfold mustE; split <;> (intro hh; cases hh)) (ck rfl) rfl rfl rfl hGW (.tail _ (.tail _ (.head _))) (fun w5 ks2 S5 hk5 hG5 => (form_any (S5.own (gc, chkO gr q1 q2 d) (.head _)).2 (S5.own (gr, rulO g r) (.tail _ (.head _))).2 hG5.game ho hG5.task.hn hlen1).mono fun e w' hx => GamE.ofBelow hG5 hx) (fun w6 x he hG6 hB6 => ?_) (fun w6 ch he hG6 hB6 => ?_) ZZMK
      · have hfact := form_t (mustE_ret he)
        repeat (first | (refine M0 ?_; first | refine SL ?_ | refine SB fun _ _ => ?_) | (refine M1 ?_; refine SC ?_) | (refine M2 ?_; refine SE ?_))
        refine XE.roundW (s := (0, W)) (fun w9 S9 => ⟨(0 + 1, w9), ⟨by omega, hG6.on (ks := [gc, gr, g, g7, g6, g5, g4, g3]) S9 (.tail _ (.tail _ (.head _))) ZZMK ZZSB (by simp) (fun x hx => hx), (hBW.trans hB6).trans S9.toBelow, fun _ => hfact, fun hh => absurd hh (by omega), fun hh => absurd hh (by omega), fun hh => absurd hh (by omega), fun hh => absurd hh (by omega)⟩, by simp only; omega, ZZSUB, S9.rebase ZZSM⟩)
      · obtain ⟨hb, rfl⟩ := mustE_pan he
        exact accept_pan (i := 0) (e := 2) (hBW.trans hB6) Try.results28 (acc_form hc hb) 4 3 rfl rfl rfl rfl (.tail _ (.tail _ (.tail _ (.head _)))) hn67 rfl (by simp only [and_self, and_true]) (fun _ _ h => h)
    · repeat (first | (refine M0 ?_; first | refine SL ?_ | refine SB fun _ _ => ?_) | (refine M1 ?_; refine SC ?_) | (refine M2 ?_; refine SE ?_))
      refine XL.step _ (Ev.indexArr tok Try.underlying138 fn5_one rfl (j := 1) rfl (by decide) rfl) rfl ?_
      repeat (first | (refine M0 ?_; first | refine SL ?_ | refine SB fun _ _ => ?_) | (refine M1 ?_; refine SC ?_) | (refine M2 ?_; refine SE ?_))
      refine XL.callE (fst := [.pointer (some ⟨gc, 0, none⟩)]) (cap := []) (vs := []) (mustE (t.earB r d) (refV 0 150)) (by unfold mustE; split <;> (intro hh; cases hh)) (ck rfl) rfl rfl rfl hGW (.tail _ (.tail _ (.head _))) (fun w5 ks2 S5 hk5 hG5 => (early_any (S5.own (gc, chkO gr q1 q2 d) (.head _)).2 (S5.own (gr, rulO g r) (.tail _ (.head _))).2 hG5.game (hG5.task.more hG5.fam.base) ho hq (a1 (by omega)).1).mono fun e w' hx => GamE.ofBelow hG5 hx) (fun w6 x he hG6 hB6 => ?_) (fun w6 ch he hG6 hB6 => ?_) ZZMK
      · have hfact := mustE_ret he
        repeat (first | (refine M0 ?_; first | refine SL ?_ | refine SB fun _ _ => ?_) | (refine M1 ?_; refine SC ?_) | (refine M2 ?_; refine SE ?_))
        refine XE.roundW (s := (1, W)) (fun w9 S9 => ⟨(1 + 1, w9), ⟨by omega, hG6.on (ks := [gc, gr, g, g7, g6, g5, g4, g3]) S9 (.tail _ (.tail _ (.head _))) ZZMK ZZSB (by simp) (fun x hx => hx), (hBW.trans hB6).trans S9.toBelow, fun _ => a1 (by omega), fun _ => hfact, fun hh => absurd hh (by omega), fun hh => absurd hh (by omega), fun hh => absurd hh (by omega)⟩, by simp only; omega, ZZSUB, S9.rebase ZZSM⟩)
      · obtain ⟨hb, rfl⟩ := mustE_pan he
        exact accept_pan (i := 0) (e := 150) (hBW.trans hB6) Try.results28 (acc_early hc (a1 (by omega)).1 (a1 (by omega)).2 hb) 4 3 rfl rfl rfl rfl (.tail _ (.tail _ (.tail _ (.head _)))) hn67 rfl (by simp only [and_self, and_true]) (fun _ _ h => h)
    · repeat (first | (refine M0 ?_; first | refine SL ?_ | refine SB fun _ _ => ?_) | (refine M1 ?_; refine SC ?_) | (refine M2 ?_; refine SE ?_))
      refine XL.step _ (Ev.indexArr tok Try.underlying138 fn5_one rfl (j := 2) rfl (by decide) rfl) rfl ?_
      repeat (first | (refine M0 ?_; first | refine SL ?_ | refine SB fun _ _ => ?_) | (refine M1 ?_; refine SC ?_) | (refine M2 ?_; refine SE ?_))
      refine XL.callE (fst := [.pointer (some ⟨gc, 0, none⟩)]) (cap := []) (vs := []) (mustE (t.hldsB d) (refV 0 151)) (by unfold mustE; split <;> (intro hh; cases hh)) (ck rfl) rfl rfl rfl hGW (.tail _ (.tail _ (.head _))) (fun w5 ks2 S5 hk5 hG5 => holdsC_any hG5 ho (S5.own (gc, chkO gr q1 q2 d) (.head _)).2 (S5.own (gr, rulO g r) (.tail _ (.head _))).2 (hk5 (gc, chkO gr q1 q2 d) (.head _)) (hk5 (gr, rulO g r) (.tail _ (.head _))) hbc hgrl (a1 (by omega)).1 (ear_may (a2 (by omega)))) (fun w6 x he hG6 hB6 => ?_) (fun w6 ch he hG6 hB6 => ?_) ZZMK
      · have hfact := mustE_ret he
        repeat (first | (refine M0 ?_; first | refine SL ?_ | refine SB fun _ _ => ?_) | (refine M1 ?_; refine SC ?_) | (refine M2 ?_; refine SE ?_))
        refine XE.roundW (s := (2, W)) (fun w9 S9 => ⟨(2 + 1, w9), ⟨by omega, hG6.on (ks := [gc, gr, g, g7, g6, g5, g4, g3]) S9 (.tail _ (.tail _ (.head _))) ZZMK ZZSB (by simp) (fun x hx => hx), (hBW.trans hB6).trans S9.toBelow, fun _ => a1 (by omega), fun _ => a2 (by omega), fun _ => hfact, fun hh => absurd hh (by omega), fun hh => absurd hh (by omega)⟩, by simp only; omega, ZZSUB, S9.rebase ZZSM⟩)
      · obtain ⟨hb, rfl⟩ := mustE_pan he
        exact accept_pan (i := 0) (e := 151) (hBW.trans hB6) Try.results28 (acc_holds hc (a1 (by omega)).1 (a1 (by omega)).2 (a2 (by omega)) hb) 4 3 rfl rfl rfl rfl (.tail _ (.tail _ (.tail _ (.head _)))) hn67 rfl (by simp only [and_self, and_true]) (fun _ _ h => h)
    · repeat (first | (refine M0 ?_; first | refine SL ?_ | refine SB fun _ _ => ?_) | (refine M1 ?_; refine SC ?_) | (refine M2 ?_; refine SE ?_))
      refine XL.step _ (Ev.indexArr tok Try.underlying138 fn5_one rfl (j := 3) rfl (by decide) rfl) rfl ?_
      repeat (first | (refine M0 ?_; first | refine SL ?_ | refine SB fun _ _ => ?_) | (refine M1 ?_; refine SC ?_) | (refine M2 ?_; refine SE ?_))
      refine XL.callE (fst := [.pointer (some ⟨gc, 0, none⟩)]) (cap := []) (vs := []) (t.hgtE d) (by unfold CTk.hgtE; split <;> (intro hh; cases hh)) (ck rfl) rfl rfl rfl hGW (.tail _ (.tail _ (.head _))) (fun w5 ks2 S5 hk5 hG5 => heights_any hG5 ho (S5.own (gc, chkO gr q1 q2 d) (.head _)).2 (S5.own (gr, rulO g r) (.tail _ (.head _))).2 (hk5 (gc, chkO gr q1 q2 d) (.head _)) (hk5 (gr, rulO g r) (.tail _ (.head _))) hbc hgrl (a1 (by omega)).1 (hlds_ins ho (a3 (by omega))) (hL1.below (hBW.trans S5.toBelow)) (a1 (by omega)).2) (fun w6 x he hG6 hB6 => ?_) (fun w6 ch he hG6 hB6 => ?_) ZZMK
      · have hfact := hgt_r he
        repeat (first | (refine M0 ?_; first | refine SL ?_ | refine SB fun _ _ => ?_) | (refine M1 ?_; refine SC ?_) | (refine M2 ?_; refine SE ?_))
        refine XE.roundW (s := (3, W)) (fun w9 S9 => ⟨(3 + 1, w9), ⟨by omega, hG6.on (ks := [gc, gr, g, g7, g6, g5, g4, g3]) S9 (.tail _ (.tail _ (.head _))) ZZMK ZZSB (by simp) (fun x hx => hx), (hBW.trans hB6).trans S9.toBelow, fun _ => a1 (by omega), fun _ => a2 (by omega), fun _ => a3 (by omega), fun _ => hfact, fun hh => absurd hh (by omega)⟩, by simp only; omega, ZZSUB, S9.rebase ZZSM⟩)
      · obtain ⟨n, hn, rfl⟩ := hgt_p he
        exact accept_pan (i := ((n : Nat) : Int)) (e := 152) (hBW.trans hB6) Try.results28 (acc_heights hc (a1 (by omega)).1 (a1 (by omega)).2 (a2 (by omega)) (a3 (by omega)) hn) 4 3 rfl rfl rfl rfl (.tail _ (.tail _ (.tail _ (.head _)))) hn67 rfl (by simp only [and_self, and_true]) (fun _ _ h => h)
    · repeat (first | (refine M0 ?_; first | refine SL ?_ | refine SB fun _ _ => ?_) | (refine M1 ?_; refine SC ?_) | (refine M2 ?_; refine SE ?_))
      refine XL.step _ (Ev.indexArr tok Try.underlying138 fn5_one rfl (j := 4) rfl (by decide) rfl) rfl ?_
      repeat (first | (refine M0 ?_; first | refine SL ?_ | refine SB fun _ _ => ?_) | (refine M1 ?_; refine SC ?_) | (refine M2 ?_; refine SE ?_))
      refine XL.callE (fst := [.pointer (some ⟨gc, 0, none⟩)]) (cap := []) (vs := []) (t.latE d) (by unfold CTk.latE; split <;> (first | (intro hh; cases hh; done) | (split <;> (intro hh; cases hh)))) (ck rfl) rfl rfl rfl hGW (.tail _ (.tail _ (.head _))) (fun w5 ks2 S5 hk5 hG5 => later_any hG5 ho (S5.own (gc, chkO gr q1 q2 d) (.head _)).2 (S5.own (gr, rulO g r) (.tail _ (.head _))).2 (hk5 (gc, chkO gr q1 q2 d) (.head _)) (hk5 (gr, rulO g r) (.tail _ (.head _))) hbc hgrl (a1 (by omega)).1 (ear_may (a2 (by omega))) (hL2.below (hBW.trans S5.toBelow))) (fun w6 x he hG6 hB6 => ?_) (fun w6 ch he hG6 hB6 => ?_) ZZMK
      · have hfact := lat_r he
        repeat (first | (refine M0 ?_; first | refine SL ?_ | refine SB fun _ _ => ?_) | (refine M1 ?_; refine SC ?_) | (refine M2 ?_; refine SE ?_))
        refine XE.roundW (s := (4, W)) (fun w9 S9 => ⟨(4 + 1, w9), ⟨by omega, hG6.on (ks := [gc, gr, g, g7, g6, g5, g4, g3]) S9 (.tail _ (.tail _ (.head _))) ZZMK ZZSB (by simp) (fun x hx => hx), (hBW.trans hB6).trans S9.toBelow, fun _ => a1 (by omega), fun _ => a2 (by omega), fun _ => a3 (by omega), fun _ => a4 (by omega), fun _ => hfact⟩, by simp only; omega, ZZSUB, S9.rebase ZZSM⟩)
      · rcases lat_p he with ⟨hm, rfl⟩ | ⟨hm, n, hn, rfl⟩
        · exact accept_pan (i := 0) (e := 2) (hBW.trans hB6) Try.results28 (acc_many hc (a1 (by omega)).1 (a1 (by omega)).2 (a2 (by omega)) (a3 (by omega)) (a4 (by omega)) hm) 4 3 rfl rfl rfl rfl (.tail _ (.tail _ (.tail _ (.head _)))) hn67 rfl (by simp only [and_self, and_true]) (fun _ _ h => h)
        · exact accept_pan (i := ((n : Nat) : Int)) (e := 153) (hBW.trans hB6) Try.results28 (acc_later hc (a1 (by omega)).1 (a1 (by omega)).2 (a2 (by omega)) (a3 (by omega)) (a4 (by omega)) hm hn) 4 3 rfl rfl rfl rfl (.tail _ (.tail _ (.tail _ (.head _)))) hn67 rfl (by simp only [and_self, and_true]) (fun _ _ h => h)
    · omega
  · have hk5 : k = 5 := by simp only [decide_eq_false_iff_not] at h5; omega
    subst hk5
    repeat (first | (refine M0 ?_; first | refine SL ?_ | refine SB fun _ _ => ?_) | (refine M1 ?_; refine SC ?_) | (refine M2 ?_; refine SE ?_))
    exact accept_ret (i := 0) (e := 0) hBW Try.results28 (acc_ok hc (a1 (by omega)).1 (a1 (by omega)).2 (a2 (by omega)) (a3 (by omega)) (a4 (by omega)) (a5 (by omega)).1 (a5 (by omega)).2) 4 3 rfl rfl rfl rfl (.tail _ (.tail _ (.tail _ (.head _)))) hn67 rfl (by simp only [and_self, and_true]) (fun _ _ h => h)
end Go.Proofs.Ytmpaiphakjogjaa.X
/-
  The law ClosureOpens.
-/
namespace Go.Proofs.Ytmpaiphakjogjaa.Bs
open Go Go.Proofs.Ytmpaiphakjogjaa.X
set_option linter.unusedVariables false
end Go.Proofs.Ytmpaiphakjogjaa.Bs
namespace Go.Proofs.Ytmpaiphakjogjaa.X
open Go Go.RowKit Go.Proofs.Ytmpaiphakjogjaa.Bs
set_option linter.unusedVariables false
set_option maxHeartbeats 4000000 in
theorem both5_any {q : SV} {l : List Bool} {w : World} (hq : ListAt boolK5 w (Lt w.heap.size) q l) :
    Calls Try.prog 24 #[svV q] w fun e w' => e = .returned (.bool (l.all id)) ∧ Below w.heap.size w w' := by
  obtain ⟨A, m, c⟩ := q
  have lq := hq.len (by decide)
  have mq := hq.max
  simp only at lq mq
  subst lq
  simp only [svV]
  refine enter Try.func24 rfl Try.ntmps24 rfl ?_; simp only [frame, Nat.zero_add, Nat.reduceAdd]
  repeat (first | (refine M0 ?_; first | refine SL ?_ | refine SB fun _ _ => ?_) | (refine M1 ?_; refine SC ?_) | (refine M2 ?_; refine SE ?_))
  refine XC.loopk [0] rfl (fun k : Nat => [(3, .int .i64 (k : Nat))]) (fun _ => []) (fun _ => w) (fun k => k ≤ l.length ∧ ∀ b, b ∈ l.take k → b = true) (fun k => l.length - k) 0 ⟨Nat.zero_le _, fun b h => by cases h⟩ ZZSUB (fun _ h => h) ?_
  rintro k ⟨hk, h0⟩
  dsimp only [List.cons_append, List.nil_append]
  repeat (first | (refine M0 ?_; first | refine SL ?_ | refine SB fun _ _ => ?_) | (refine M1 ?_; refine SC ?_) | (refine M2 ?_; refine SE ?_))
  refine XC.cond _ rfl (fun h2 => ?_) (fun h2 => ?_)
  rotate_left
  · have hkn : k = l.length := by have := of_decide_eq_false h2; omega
    subst hkn
    rw [List.take_length] at h0
    repeat (first | (refine M0 ?_; first | refine SL ?_ | refine SB fun _ _ => ?_) | (refine M1 ?_; refine SC ?_) | (refine M2 ?_; refine SE ?_))
    refine XE.retg tok Try.results24 rfl (by simp only [and_self, and_true]) (fun w' S => ?_)
    rw [show l.all id = true from List.all_eq_true.2 fun b hb => h0 b hb]
    exact ⟨rfl, S.toBelow⟩
  have hkn : k < l.length := by have := of_decide_eq_true h2; omega
  obtain ⟨ad, rfl, hlt⟩ := hq.addr (by decide) (by omega)
  have hcell := hq.elem (List.getElem?_eq_getElem hkn) 0 (.bool l[k]) rfl
  rw [add_add, Nat.add_zero] at hcell
  have hcell : w.cell? (ad.add (k * 1)) = some (.bool l[k]) := hcell
  repeat (first | (refine M0 ?_; first | refine SL ?_ | refine SB fun _ _ => ?_ | refine Y4 (Ev.load_old tok rfl rfl (add_lt hlt) hcell) ?_) | (refine M1 ?_; refine SC ?_) | (refine M2 ?_; refine SE ?_))
  refine XC.cond _ rfl (fun h3 => ?_) (fun h3 => ?_)
  · repeat (first | (refine M0 ?_; first | refine SL ?_ | refine SB fun _ _ => ?_) | (refine M1 ?_; refine SC ?_) | (refine M2 ?_; refine SE ?_))
    refine XE.retg tok Try.results24 rfl (by simp only [and_self, and_true]) (fun w' S => ?_)
    rw [show l.all id = false from List.all_eq_false.2 ⟨l[k], List.getElem_mem hkn, by simpa using h3⟩]
    exact ⟨rfl, S.toBelow⟩
  · repeat (first | (refine M0 ?_; first | refine SL ?_ | refine SB fun _ _ => ?_) | (refine M1 ?_; refine SC ?_) | (refine M2 ?_; refine SE ?_))
    refine XE.round (s := k) (k + 1) ⟨hkn, fun b hm => ?_⟩ (by omega) ZZSUB (fun _ h => h)
    rw [List.take_succ_eq_append_getElem hkn] at hm
    rcases List.mem_append.1 hm with h | h
    · exact h0 b h
    · rw [List.mem_singleton.1 h]; simpa using h3
end Go.Proofs.Ytmpaiphakjogjaa.X
/-
  The walks of whole, Long and levels of the statements (closure).
-/
namespace Go.Proofs.Ytmpaiphakjogjaa.Bs
open Go Go.Proofs.Ytmpaiphakjogjaa.X
set_option linter.unusedVariables false
def CTk.wholeB (t : CTk) : Bool := decide (0 < t.m) && (List.range t.m).all fun k => decide ((t.h k).vals.length = t.river.length) && decide ((t.h k).from_ = t.from_)
def CTk.longB (t : CTk) : Bool := (decide (12 < t.river.length) && decide (t.river.length ≤ 60)) || (decide (4 < t.m) && decide (t.m ≤ 8))
theorem whole_t {t : CTk} (h : t.wholeB = true) : 0 < t.m ∧ ∀ k, k < t.m → (t.h k).vals.length = t.river.length ∧ (t.h k).from_ = t.from_ := by
  unfold CTk.wholeB at h
  rw [Bool.and_eq_true, decide_eq_true_eq, List.all_eq_true] at h
  exact ⟨h.1, fun k hk => by have := h.2 k (List.mem_range.2 hk); rw [Bool.and_eq_true, decide_eq_true_eq, decide_eq_true_eq] at this; exact this⟩
end Go.Proofs.Ytmpaiphakjogjaa.Bs
namespace Go.Proofs.Ytmpaiphakjogjaa.X
open Go Go.RowKit Go.Proofs.Ytmpaiphakjogjaa.Bs
set_option linter.unusedVariables false
set_option maxHeartbeats 8000000 in
theorem whole5_any {v : CTV} {t : CTk} {w : World} (hT : CtAt w w.heap.size v t) :
    Calls Try.prog 19 #[ctkV v t] w fun e w' => e = .returned (.bool t.wholeB) ∧ Below w.heap.size w w' := by
  have hhn := hT.hn
  have hhm := hT.hmax
  have hhis := fun k hk => hT.hisAt (k := k) hk
  have hrn := hT.river.len
  have hrm := hT.river.max
  obtain ⟨vp, vf, ⟨Ah, nh, ch⟩, ⟨Ar, nr, cr⟩⟩ := v
  simp only at hhn hrn hhis hhm hrm
  subst hhn hrn
  simp only [ctkV, ctkC]
  refine enter Try.func19 rfl Try.ntmps19 rfl ?_; simp only [frame, Nat.zero_add, Nat.reduceAdd]
  repeat (first | (refine M0 ?_; first | refine SL ?_ | refine SB fun _ _ => ?_) | (refine M1 ?_; refine SC ?_) | (refine M2 ?_; refine SE ?_))
  rename_i g1 hg1
  refine XC.loopk [1] rfl (fun k : Nat => [(3, .int .i64 (k : Nat))]) (fun _ => [(g1, cel 29 (ctkC ⟨vp, vf, ⟨Ah, t.m, ch⟩, ⟨Ar, t.river.length, cr⟩⟩ t))]) (fun _ => w) (fun k => k ≤ t.m ∧ ∀ j, j < k → (t.h j).vals.length = t.river.length ∧ (t.h j).from_ = t.from_) (fun k => t.m - k) 0 ⟨Nat.zero_le _, fun j h => absurd h (by omega)⟩ ZZSUB (fun _ h => h) ?_
  rintro k ⟨hk, h0⟩
  simp only [ctkC]
  dsimp only [List.cons_append, List.nil_append]
  repeat (first | (refine M0 ?_; first | refine SL ?_ | refine SB fun _ _ => ?_) | (refine M1 ?_; refine SC ?_) | (refine M2 ?_; refine SE ?_))
  refine XC.cond _ rfl (fun h2 => ?_) (fun h2 => ?_)
  rotate_left
  · have hkn : k = t.m := by have := of_decide_eq_false h2; omega
    subst hkn
    repeat (first | (refine M0 ?_; first | refine SL ?_ | refine SB fun _ _ => ?_) | (refine M1 ?_; refine SC ?_) | (refine M2 ?_; refine SE ?_))
    refine XE.retg tok Try.results19 rfl (by simp only [and_self, and_true]) (fun w' S => ?_)
    refine ⟨?_, S.toBelow⟩
    have e : t.wholeB = decide ((0 : Int) < (t.m : Int)) := by
      unfold CTk.wholeB
      rw [show ((List.range t.m).all fun k => decide ((t.h k).vals.length = t.river.length) && decide ((t.h k).from_ = t.from_)) = true from List.all_eq_true.2 fun k hk => by
        obtain ⟨a, b⟩ := h0 k (List.mem_range.1 hk)
        rw [decide_eq_true a, decide_eq_true b]; rfl, Bool.and_true]
      by_cases h : 0 < t.m
      · rw [decide_eq_true h, decide_eq_true (by omega)]
      · rw [decide_eq_false h, decide_eq_false (by omega)]
    rw [e]; rfl
  have hkn : k < t.m := by have := of_decide_eq_true h2; omega
  obtain ⟨ad, q, e1, hlt, hc, hq⟩ := hhis k hkn
  obtain ⟨ad', q0, e1', hlt', hc', hq0⟩ := hhis 0 (by omega)
  obtain rfl := e1
  obtain rfl : ad = ad' := Option.some.inj e1'
  have hql := hq.len
  have hqm := hq.max
  have c0 := hc 0 _ rfl
  have c1 := hc 1 _ rfl
  have d0 := hc' 0 _ rfl
  obtain ⟨qA, qn, qc⟩ := q
  simp only at hql hqm
  subst hql
  simp only [svV] at c1
  have hno : ∀ j, j < t.m → ¬((t.h j).vals.length = t.river.length ∧ (t.h j).from_ = t.from_) → t.wholeB = false := fun j hj hn => by
    cases hw : t.wholeB with
    | false => rfl
    | true => exact absurd ((whole_t hw).2 j hj) hn
  have hadd : ∀ j, (ad.add j).block < w.heap.size := fun j => add_lt hlt
  repeat (any_goals (first | (refine M0 ?_; first | refine SL ?_ | refine SB fun _ _ => ?_ | (refine XL.split _ _ rfl (fun h => ?_) (fun h => ?_) <;> rw [h]) | refine Y4 (Ev.load_old tok rfl rfl (add_lt2 hlt) c1) ?_ | refine Y4 (Ev.load_old tok rfl rfl (add_lt2 hlt) c0) ?_ | refine Y4 (Ev.load_old tok rfl rfl (add_lt2 hlt) d0) ?_) | (refine M1 ?_; first | refine SC ?_ | refine SD ?_ | refine XC.cond _ rfl (fun h => ?_) (fun h => ?_)) | (refine M2 ?_; refine SE ?_) | (refine M3 ?_; first | refine SG ?_ | refine SF ?_ | (refine Fw.split _ _ rfl (fun h => ?_) (fun h => ?_) <;> rw [h]) | refine YF (Ev.load_old tok rfl rfl (add_lt2 hlt) c1) ?_ | refine YF (Ev.load_old tok rfl rfl (add_lt2 hlt) c0) ?_ | refine YF (Ev.load_old tok rfl rfl (add_lt2 hlt) d0) ?_) | (refine M4 ?_; refine SR ?_) | (refine M5 ?_; first | exact M7 | refine YM ?_ | refine YN ?_ ?_)))
  · have hl : (t.h k).vals.length ≠ t.river.length := by have := of_decide_eq_true h; omega
    refine XE.retg tok Try.results19 rfl (by simp only [and_self, and_true]) (fun w' S => ?_)
    rw [hno k hkn (fun h => hl h.1)]
    exact ⟨rfl, S.toBelow⟩
  · have hl : (t.h k).from_ ≠ (t.h 0).from_ := of_decide_eq_true h
    refine XE.retg tok Try.results19 rfl (by simp only [and_self, and_true]) (fun w' S => ?_)
    rw [hno k hkn (fun h => hl h.2)]
    exact ⟨rfl, S.toBelow⟩
  · rename_i h5
    have e5 : (t.h k).vals.length = t.river.length := by have := of_decide_eq_false h5; omega
    have e6 : (t.h k).from_ = t.from_ := Decidable.byContradiction fun hn => of_decide_eq_false h hn
    refine XE.round (s := k) (k + 1) ⟨hkn, fun j hj => ?_⟩ (by omega) ZZSUB (fun _ h => h)
    rcases Nat.lt_or_ge j k with h6 | h6
    · exact h0 j h6
    · have : j = k := by omega
      subst this
      exact ⟨e5, e6⟩
set_option maxHeartbeats 8000000 in
theorem levels5_any {v : CTV} {t : CTk} {k : Nat} {p : CPl} {w : World} (hT : CtAt w w.heap.size v t) (ho : CtOk t) (hk : k < t.m) (hp : t.strange p = false) :
    Calls Try.prog 25 #[ctkV v t, .int .i64 (k : Nat), plnV p] w fun e w' => e = .returned (.tuple ⟨[.bool (t.holds k p), .bool true]⟩) ∧ Below w.heap.size w w' := by
  have hin := fun (w5 : World) (hB : Below w.heap.size w w5) => Inner_made (v := v) (h0 := (k : Nat)) (p := p) (hT.sys (Sys.ofBelow hB))
  have hrn := hT.river.len
  have hrv := ho.river
  have h60 := ho.n60
  obtain ⟨vp, vf, vh, ⟨Ar, nr, cr⟩⟩ := v
  simp only at hrn
  subst hrn
  simp only [ctkV, ctkC, plnV] at hin ⊢
  refine enter Try.func25 rfl Try.ntmps25 rfl ?_; simp only [frame, Nat.zero_add, Nat.reduceAdd]
  repeat (first | (refine M0 ?_; first | refine SL ?_ | refine SB fun _ _ => ?_) | (refine M1 ?_; refine SC ?_) | (refine M2 ?_; refine SE ?_))
  rename_i g3 hg3 g5 hg5
  refine XL.callF (ks := []) (rs := []) (hs := []) (b0 := w.heap.size) (wE := w) (InnR t (k : Nat) p) (ck rfl) rfl rfl (Fam.start (Nat.le_refl _)) (fun _ h => by cases h) (Below.refl _ w) (fun w1 S1 _ hB1 => hin w1 hB1) (fun w2 x new hR hF2 hB2 hk2 => ?_) ZZHL
  obtain ⟨q, rfl, rfl⟩ := hR
  have hl : ListAt spnK5 w2 (Free w2 w.heap.size _ []) q (t.innL (k : Nat) p) := hF2.held (hList spnK5 q (t.innL (k : Nat) p)) (.head _)
  have hql := hl.len (by decide)
  obtain ⟨qA, qn, qc⟩ := q
  simp only at hql
  subst hql
  simp only [svV]
  rcases lev_holds ho hk hp with ⟨e1, e2⟩ | ⟨e1, e2, e3⟩
  · have e4 : t.innL (k : Nat) p = [] := by unfold CTk.innL; rw [if_pos (by rw [e1]; decide)]
    rw [e1, e2, e4]
    simp only [List.length_nil]
    repeat (first | (refine M0 ?_; first | refine SL ?_ | refine SB fun _ _ => ?_) | (refine M1 ?_; refine SC ?_) | (refine M2 ?_; refine SE ?_))
    refine XC.loopk [9, 10, 8] rfl (fun _ : Unit => [(11, .bool false), (12, .int .i64 0)]) (fun _ => [(g5, cel 36 [.int .i64 p.close, .int .i64 p.open_]), (g3, cel 29 (ctkC ⟨vp, vf, vh, ⟨Ar, t.river.length, cr⟩⟩ t))]) (fun _ => w2) (fun _ => True) (fun _ => 1) () trivial ZZSUB (fun _ h => h) ?_
    intro u hu
    simp only [ctkC]
    dsimp only [List.cons_append, List.nil_append]
    repeat (first | (refine M0 ?_; first | refine SL ?_ | refine SB fun _ _ => ?_) | (refine M1 ?_; refine SC ?_) | (refine M2 ?_; refine SE ?_))
    refine XE.retg tok Try.results25 rfl (by simp only [and_self, and_true]) (fun w' S => ?_)
    exact ⟨rfl, hB2.trans S.toBelow⟩
  · rw [e1]
    have hlr : (t.innL (k : Nat) p).length = t.river.length := by rw [e2, hrv]
    obtain ⟨l, hll⟩ : ∃ l, l = t.innL (k : Nat) p := ⟨_, rfl⟩
    rw [← hll] at hl hlr e3 ⊢
    repeat (first | (refine M0 ?_; first | refine SL ?_ | refine SB fun _ _ => ?_) | (refine M1 ?_; refine SC ?_) | (refine M2 ?_; refine SE ?_))
    rw [show decide ((l.length : Int) = (t.river.length : Int)) = true from decide_eq_true (by omega)]
    repeat (first | (refine M0 ?_; first | refine SL ?_ | refine SB fun _ _ => ?_) | (refine M1 ?_; refine SC ?_) | (refine M2 ?_; refine SE ?_))
    refine XC.loopk [3, 8, 9, 10] rfl (fun j : Nat => [(11, .bool ((l.take j).all fun x => decide (x.2 ≤ t.limit))), (12, .int .i64 (j : Nat))]) (fun _ => [(g5, cel 36 [.int .i64 p.close, .int .i64 p.open_]), (g3, cel 29 (ctkC ⟨vp, vf, vh, ⟨Ar, t.river.length, cr⟩⟩ t))]) (fun _ => w2) (fun j => j ≤ l.length) (fun j => l.length - j) 0 (Nat.zero_le _) ZZSUB (fun _ h => h) ?_
    intro j hj
    simp only [ctkC]
    dsimp only [List.cons_append, List.nil_append]
    repeat (first | (refine M0 ?_; first | refine SL ?_ | refine SB fun _ _ => ?_) | (refine M1 ?_; refine SC ?_) | (refine M2 ?_; refine SE ?_))
    refine XC.cond _ rfl (fun h2 => ?_) (fun h2 => ?_)
    rotate_left
    · have hjn : j = l.length := by have := of_decide_eq_false h2; omega
      subst hjn
      rw [List.take_length, e3]
      repeat (first | (refine M0 ?_; first | refine SL ?_ | refine SB fun _ _ => ?_) | (refine M1 ?_; refine SC ?_) | (refine M2 ?_; refine SE ?_))
      refine XE.retg tok Try.results25 rfl (by simp only [and_self, and_true]) (fun w' S => ?_)
      exact ⟨rfl, hB2.trans S.toBelow⟩
    have hjn : j < l.length := by have := of_decide_eq_true h2; omega
    obtain ⟨ad, rfl, hfr⟩ := hl.addr (by decide) (by omega)
    have hcell := hl.elem (List.getElem?_eq_getElem hjn) 1 (.int .i64 l[j].2) rfl
    have hcell : w2.cell? ((ad.add (j * 2)).add 1) = some (.int .i64 l[j].2) := hcell
    have htk : (l.take (j + 1)).all (fun x => decide (x.2 ≤ t.limit)) = ((l.take j).all (fun x => decide (x.2 ≤ t.limit)) && decide (l[j].2 ≤ t.limit)) := by
      rw [List.take_succ_eq_append_getElem hjn, List.all_append]; simp
    have hlt2 : ((ad.add (j * 2)).add 1).block < w2.heap.size := by rw [add_block, add_block]; exact hfr.2.1
    cases hb : (l.take j).all fun x => decide (x.2 ≤ t.limit) with
    | false =>
      rw [hb] at htk
      repeat (first | (refine M0 ?_; first | refine SL ?_ | refine SB fun _ _ => ?_) | (refine M1 ?_; first | refine SC ?_ | refine SD ?_) | (refine M2 ?_; refine SE ?_) | (refine M3 ?_; first | refine SG ?_ | refine SF ?_) | (refine M4 ?_; refine SR ?_) | (refine M5 ?_; first | exact M7 | refine YM ?_ | refine YN ?_ ?_))
      exact XE.round (s := j) (j + 1) (by omega) (by omega) (Sub.cons (by simp only [htk]; rfl) ZZSUB) (fun _ h => h)
    | true =>
      rw [hb] at htk
      repeat (first | (refine M0 ?_; first | refine SL ?_ | refine SB fun _ _ => ?_ | refine Y4 (Ev.load_far tok rfl rfl hlt2 (hfr.far2 ZZHL) hcell) ?_) | (refine M1 ?_; first | refine SC ?_ | refine SD ?_) | (refine M2 ?_; refine SE ?_) | (refine M3 ?_; first | refine SG ?_ | refine SF ?_ | refine YF (Ev.load_far tok rfl rfl hlt2 (hfr.far2 ZZHL) hcell) ?_) | (refine M4 ?_; refine SR ?_) | (refine M5 ?_; first | exact M7 | refine YM ?_ | refine YN ?_ ?_))
      exact XE.round (s := j) (j + 1) (by omega) (by omega) (Sub.cons (by simp only [htk]; rfl) ZZSUB) (fun _ h => h)
end Go.Proofs.Ytmpaiphakjogjaa.X
/-
  The walk of lower of the statements (closure).
-/
namespace Go.Proofs.Ytmpaiphakjogjaa.Bs
open Go Go.Proofs.Ytmpaiphakjogjaa.X
set_option linter.unusedVariables false
def lowV (bs : List Int) (v : Int) (i : Nat) : Int := if 0 < bs.length then max (-20000) (v - at0 bs (i % bs.length)) else v
def lowTo (l bs : List Int) (n : Nat) : List Int := (List.range n).map fun i => lowV bs (at0 l i) i
end Go.Proofs.Ytmpaiphakjogjaa.Bs
namespace Go.Proofs.Ytmpaiphakjogjaa.X
open Go Go.RowKit Go.Proofs.Ytmpaiphakjogjaa.Bs
set_option linter.unusedVariables false
def u16K5 : Kind Int := ⟨43, 1, fun k => [.int .u16 k], fun _ => [], fun _ => rfl⟩
def LowR (h : His) (bs : List Int) (x : Value) (new : List Held) : Prop := ∃ q : SV, x = .agg ⟨[.int .i64 h.from_, svV q]⟩ ∧ new = [hInts q (lowTo h.vals bs h.vals.length)]
end Go.Proofs.Ytmpaiphakjogjaa.X
/-
  The law ClosureSafe.
-/
namespace Go.Proofs.Ytmpaiphakjogjaa.X
open Go Go.RowKit Go.Proofs.Ytmpaiphakjogjaa.Bs
set_option linter.unusedVariables false
def hisK0 : Kind (SV × His) := ⟨65, 2, fun e => hisC e.1 e.2, fun _ => [], fun _ => rfl⟩
end Go.Proofs.Ytmpaiphakjogjaa.X
/-
  The walk of Long; the law ClosureLess.
-/
namespace Go.Proofs.Ytmpaiphakjogjaa.Bs
open Go Go.Proofs.Ytmpaiphakjogjaa.X
set_option linter.unusedVariables false
/-- a task without one of its histories. -/
def CTk.wout (t : CTk) (k : Nat) : CTk := { t with his := t.his.take k ++ t.his.drop (k + 1) }
end Go.Proofs.Ytmpaiphakjogjaa.Bs
namespace Go.Proofs.Ytmpaiphakjogjaa.X
open Go Go.RowKit Go.Proofs.Ytmpaiphakjogjaa.Bs
set_option linter.unusedVariables false
theorem Long5_any {v : CTV} {t : CTk} {w : World} (hT : CtAt w w.heap.size v t) :
    Calls Try.prog 18 #[ctkV v t] w fun e w' => e = .returned (.bool t.longB) ∧ Below w.heap.size w w' := by
  have hhn := hT.hn
  have hhm := hT.hmax
  have hrn := hT.river.len
  have hrm := hT.river.max
  obtain ⟨vp, vf, ⟨Ah, nh, ch⟩, ⟨Ar, nr, cr⟩⟩ := v
  simp only at hhn hrn hhm hrm
  subst hhn hrn
  have k1 : decide ((12 : Int) < (t.river.length : Int)) = decide (12 < t.river.length) := by rw [decide_eq_decide]; omega
  have k2 : decide ((t.river.length : Int) ≤ 60) = decide (t.river.length ≤ 60) := by rw [decide_eq_decide]; omega
  have k3 : decide ((4 : Int) < (t.m : Int)) = decide (4 < t.m) := by rw [decide_eq_decide]; omega
  have k4 : decide ((t.m : Int) ≤ 8) = decide (t.m ≤ 8) := by rw [decide_eq_decide]; omega
  simp only [ctkV, ctkC]
  unfold CTk.longB
  refine enter Try.func18 rfl Try.ntmps18 rfl ?_; simp only [frame, Nat.zero_add, Nat.reduceAdd]
  repeat (first | (refine M0 ?_; first | refine SL ?_ | refine SB fun _ _ => ?_) | (refine M1 ?_; refine SC ?_) | (refine M2 ?_; refine SE ?_))
  rw [k1]
  cases decide (12 < t.river.length) with
  | true =>
    repeat (first | (refine M0 ?_; first | refine SL ?_ | refine SB fun _ _ => ?_) | (refine M1 ?_; refine SC ?_) | (refine M2 ?_; refine SE ?_))
    rw [k2]
    cases decide (t.river.length ≤ 60) with
    | true =>
      repeat (first | (refine M0 ?_; first | refine SL ?_ | refine SB fun _ _ => ?_) | (refine M1 ?_; refine SC ?_) | (refine M2 ?_; refine SE ?_))
      refine XE.retg tok Try.results18 rfl (by simp only [and_self, and_true]) (fun w' S => ?_)
      exact ⟨rfl, S.toBelow⟩
    | false =>
      repeat (first | (refine M0 ?_; first | refine SL ?_ | refine SB fun _ _ => ?_) | (refine M1 ?_; refine SC ?_) | (refine M2 ?_; refine SE ?_))
      rw [k3]
      cases decide (4 < t.m) with
      | true =>
        repeat (first | (refine M0 ?_; first | refine SL ?_ | refine SB fun _ _ => ?_) | (refine M1 ?_; refine SC ?_) | (refine M2 ?_; refine SE ?_))
        rw [k4]
        refine XE.retg tok Try.results18 rfl (by simp only [and_self, and_true]) (fun w' S => ?_)
        exact ⟨rfl, S.toBelow⟩
      | false =>
        repeat (first | (refine M0 ?_; first | refine SL ?_ | refine SB fun _ _ => ?_) | (refine M1 ?_; refine SC ?_) | (refine M2 ?_; refine SE ?_))
        refine XE.retg tok Try.results18 rfl (by simp only [and_self, and_true]) (fun w' S => ?_)
        exact ⟨rfl, S.toBelow⟩
  | false =>
    repeat (first | (refine M0 ?_; first | refine SL ?_ | refine SB fun _ _ => ?_) | (refine M1 ?_; refine SC ?_) | (refine M2 ?_; refine SE ?_))
    rw [k3]
    cases decide (4 < t.m) with
    | true =>
      repeat (first | (refine M0 ?_; first | refine SL ?_ | refine SB fun _ _ => ?_) | (refine M1 ?_; refine SC ?_) | (refine M2 ?_; refine SE ?_))
      rw [k4]
      refine XE.retg tok Try.results18 rfl (by simp only [and_self, and_true]) (fun w' S => ?_)
      exact ⟨rfl, S.toBelow⟩
    | false =>
      repeat (first | (refine M0 ?_; first | refine SL ?_ | refine SB fun _ _ => ?_) | (refine M1 ?_; refine SC ?_) | (refine M2 ?_; refine SE ?_))
      refine XE.retg tok Try.results18 rfl (by simp only [and_self, and_true]) (fun w' S => ?_)
      exact ⟨rfl, S.toBelow⟩
end Go.Proofs.Ytmpaiphakjogjaa.X
/-
  The law ClosureLess.
-/
namespace Go.Proofs.Ytmpaiphakjogjaa.X
open Go Go.RowKit Go.Proofs.Ytmpaiphakjogjaa.Bs
set_option linter.unusedVariables false
end Go.Proofs.Ytmpaiphakjogjaa.X
/-
  The law ClosureProves.
-/
namespace Go.Proofs.Ytmpaiphakjogjaa.Bs
open Go Go.Proofs.Ytmpaiphakjogjaa.X
set_option linter.unusedVariables false
theorem plan_alw {t : CTk} {r : CRu} (h0 : ruE t r = 0) (ho : CtOk t) {i : Nat} (hm : t.may r (i : Nat) = true) : t.alwB r (t.plan (i : Nat)).close = true := by
  have h1 := (may_in hm).2.2.1
  have hd := ho.dly
  unfold CTk.alwB
  rw [if_neg (by simp [h0])]
  unfold CTk.allowed
  have e1 : (t.plan (i : Nat)).close - t.from_ = (i : Nat) := by unfold CTk.plan; simp only; omega
  rw [e1, hm, outB_f.2 (show t.from_ ≤ (t.plan (i : Nat)).close ∧ (t.plan (i : Nat)).close ≤ t.from_ + t.n - 1 by unfold CTk.last at h1; omega)]
  rfl
end Go.Proofs.Ytmpaiphakjogjaa.Bs
namespace Go.Proofs.Ytmpaiphakjogjaa.X
open Go Go.RowKit Go.Proofs.Ytmpaiphakjogjaa.Bs
set_option linter.unusedVariables false
end Go.Proofs.Ytmpaiphakjogjaa.X
/-
  The law ClosureInTime.
-/
namespace Go.Proofs.Ytmpaiphakjogjaa.Bs
open Go Go.Proofs.Ytmpaiphakjogjaa.X
set_option linter.unusedVariables false
/-- what the law says of a decision that is accepted. -/
theorem in_time_all {t : CTk} {r : CRu} {d : CDe} (h : (t.acc r d).2 = 0) : t.decE r = 0 ∧ (t.decD r).plan = d.plan ∧ ruE t r = 0 ∧ CtOk t ∧ t.strange d.plan = false ∧ d.peaks.length = t.m ∧ (¬ d.plan.close < 0 → t.alwB r d.plan.close = true ∧ (∀ k, k < t.m → t.holds k d.plan = true ∧ ∃ a b : Int, d.peaks[k]? = some (a, b) ∧ b ≤ t.limit) ∧
    ∀ p, t.strange p = false → d.plan.close < p.close → ∃ k, k < t.m ∧ t.holds k p = false) := by
  obtain ⟨i1, i2, i3⟩ := in_time h
  obtain ⟨a0, a1, a2, a3, a4⟩ := acc_0 h
  obtain ⟨_, ho, _⟩ := ruE_0 a0
  refine ⟨i1, i2, a0, ho, a1, a2, fun hc => ?_⟩
  have hn : d.plan ≠ nev := fun e => hc (by rw [e]; decide)
  obtain ⟨j1, j2⟩ := i3 hn
  rcases a4 with ⟨e, _⟩ | ⟨_, b2, b3, b4, _⟩
  · exact absurd e hn
  obtain ⟨i, hi⟩ : ∃ i : Nat, d.plan.close - t.from_ = (i : Nat) := ⟨(d.plan.close - t.from_).toNat, by omega⟩
  rw [hi] at b2 b3 b4 j1
  simp only [Int.toNat_natCast] at j1
  have hh : ∀ k, k < t.m → t.holds k d.plan = true := by rw [b3]; exact wit_none.1 b4
  refine ⟨by rw [b3]; exact plan_alw a0 ho b2, fun k hk => ⟨hh k hk, ?_⟩, fun p hp hlt => none_later ho j1 hp (by omega)⟩
  have h1 := a3 k hk
  have hkl : k < d.peaks.length := by omega
  obtain ⟨x, hx⟩ : ∃ x, d.peaks[k]? = some x := ⟨_, List.getElem?_eq_getElem hkl⟩
  rw [hx] at h1
  simp only [Option.getD_some] at h1
  refine ⟨x.1, x.2, hx, ?_⟩
  rw [h1]
  exact peak_lim ho hk (hh k hk)
end Go.Proofs.Ytmpaiphakjogjaa.Bs
namespace Go.Proofs.Ytmpaiphakjogjaa.X
open Go Go.RowKit Go.Proofs.Ytmpaiphakjogjaa.Bs
set_option linter.unusedVariables false
set_option maxHeartbeats 16000000 in
theorem ClosureInTime_any {v : CTV} {t : CTk} {r : CRu} {q1 q2 : SV} {d : CDe} {p : CPl} {w : World} (hT : CtAt w w.heap.size v t) (hL1 : ListAt pekK5 w (Lt w.heap.size) q1 d.peaks) (hL2 : ListAt wtnK5 w (Lt w.heap.size) q2 d.later) :
    Calls Try.prog 9 #[ctkV v t, .agg ⟨.int .i64 r.count :: .int .i64 r.early :: decC q1 q2 d⟩, plnV p] w fun e w' => e = .returned (.bool true) ∧ Below w.heap.size w w' := by
  have haw := fun {L : Lo} {W : World} (w5 : World) (S5 : Sys w.heap.size W L w5) => Awake5_any (w := w5)
  have hlo := fun (w5 : World) (hB : Below w.heap.size w w5) => Long5_any (hT.sys (Sys.ofBelow hB))
  have hwh := fun (w5 : World) (hB : Below w.heap.size w w5) => whole5_any (hT.sys (Sys.ofBelow hB))
  have hac := fun (w5 : World) (hB : Below w.heap.size w w5) => Accept_any (v := v) (t := t) (r := r) (q1 := q1) (q2 := q2) (d := d) (hT.sys (Sys.ofBelow hB)) ((hL1.below hB).mono fun j hj => Nat.lt_of_lt_of_le hj hB.size) ((hL2.below hB).mono fun j hj => Nat.lt_of_lt_of_le hj hB.size)
  have hlev := fun (w5 : World) (hB : Below w.heap.size w w5) (k : Nat) (ho : CtOk t) (hk : k < t.m) (hp : t.strange d.plan = false) => levels5_any (k := k) (p := d.plan) (hT.sys (Sys.ofBelow hB)) ho hk hp
  have hhn := hT.hn
  have hq1 := hL1.len (by decide)
  obtain ⟨q1A, q1n, q1c⟩ := q1
  simp only at hq1
  subst hq1
  obtain ⟨vp, vf, ⟨Ah, nh, ch⟩, vr⟩ := v
  simp only at hhn
  subst hhn
  obtain ⟨dp, dl1, dl2⟩ := d
  simp only [ctkV, ctkC, ruV, plnV, decV, decC, svV] at hlo hwh hac hlev ⊢
  refine enter Try.func9 rfl Try.ntmps9 rfl ?_; simp only [frame, Nat.zero_add, Nat.reduceAdd]
  repeat (first | (refine M0 ?_; first | refine SL ?_ | refine SB fun _ _ => ?_ | refine Y4 (Ev.call (f := 28) (ck rfl) rfl (fun w5 S5 => hac w5 S5.toBelow)) ?_ | refine Y4 (Ev.call (f := 18) (ck rfl) rfl (fun w5 S5 => hlo w5 S5.toBelow)) ?_) | (refine M1 ?_; refine SC ?_) | (refine M2 ?_; refine SE ?_))
  rename_i g3 hg3 g4 hg4 g5 hg5
  cases hlg : t.longB with
  | true =>
    repeat (first | (refine M0 ?_; first | refine SL ?_ | refine SB fun _ _ => ?_ | refine Y4 (Ev.call (f := 17) (ck rfl) rfl (fun w5 S5 => haw w5 S5)) ?_) | (refine M1 ?_; refine SC ?_) | (refine M2 ?_; refine SE ?_))
    refine XE.retg tok Try.results9 rfl (by simp only [and_self, and_true]) (fun w' S => ?_)
    exact ⟨rfl, S.toBelow⟩
  | false =>
  repeat (first | (refine M0 ?_; first | refine SL ?_ | refine SB fun _ _ => ?_) | (refine M1 ?_; refine SC ?_) | (refine M2 ?_; refine SE ?_))
  by_cases hE : (t.acc r ⟨dp, dl1, dl2⟩).2 = 0
  rotate_left
  · rw [show decide ((t.acc r ⟨dp, dl1, dl2⟩).2 ≠ 0) = true from decide_eq_true hE]
    repeat (first | (refine M0 ?_; first | refine SL ?_ | refine SB fun _ _ => ?_ | refine Y4 (Ev.call (f := 17) (ck rfl) rfl (fun w5 S5 => haw w5 S5)) ?_) | (refine M1 ?_; refine SC ?_) | (refine M2 ?_; refine SE ?_))
    refine XE.retg tok Try.results9 rfl (by simp only [and_self, and_true]) (fun w' S => ?_)
    exact ⟨rfl, S.toBelow⟩
  rw [show decide ((t.acc r ⟨dp, dl1, dl2⟩).2 ≠ 0) = false from decide_eq_false (fun h => h hE)]
  repeat (first | (refine M0 ?_; first | refine SL ?_ | refine SB fun _ _ => ?_ | refine Y4 (Ev.call (f := 19) (ck rfl) rfl (fun w5 S5 => hwh w5 S5.toBelow)) ?_) | (refine M1 ?_; refine SC ?_) | (refine M2 ?_; refine SE ?_))
  cases hwb : t.wholeB with
  | false =>
    repeat (first | (refine M0 ?_; first | refine SL ?_ | refine SB fun _ _ => ?_ | refine Y4 (Ev.call (f := 17) (ck rfl) rfl (fun w5 S5 => haw w5 S5)) ?_) | (refine M1 ?_; refine SC ?_) | (refine M2 ?_; refine SE ?_))
    refine XE.retg tok Try.results9 rfl (by simp only [and_self, and_true]) (fun w' S => ?_)
    exact ⟨rfl, S.toBelow⟩
  | true =>
  obtain ⟨c1, c2, c3, ho, c4, c5, c6⟩ := in_time_all hE
  simp only at c2 c4 c5 c6
  have hm8 := ho.m8
  repeat (first | (refine M0 ?_; first | refine SL ?_ | refine SB fun _ _ => ?_) | (refine M1 ?_; refine SC ?_) | (refine M2 ?_; refine SE ?_))
  refine XL.callF (ks := []) (rs := []) (hs := []) (b0 := w.heap.size) (wE := w) (DecR t r) (ck rfl) rfl rfl (Fam.start (Nat.le_refl w.heap.size)) (fun _ h => by cases h) (Below.refl w.heap.size w) (fun w1 S1 _ hB1 => Decide_made (v := ⟨vp, vf, ⟨Ah, t.m, ch⟩, vr⟩) (r := r) (hT.sys (Sys.ofBelow hB1))) (fun w1 x new hR hF1 hB1 hk1 => ?_) ZZHL
  obtain ⟨q3, q4, rfl, rfl⟩ := hR
  simp only [decV, decC, svV]
  rw [c1, c2]
  repeat (first | (refine M0 ?_; first | refine SL ?_ | refine SB fun _ _ => ?_ | refine Y4 (Ev.plnNeq rfl rfl) ?_) | (refine M1 ?_; refine SC ?_) | (refine M2 ?_; refine SE ?_))
  rename_i g9 hg9
  rw [show (!(decide (dp.close = dp.close) && decide (dp.open_ = dp.open_))) = false from by simp]
  repeat (first | (refine M0 ?_; first | refine SL ?_ | refine SB fun _ _ => ?_) | (refine M1 ?_; refine SC ?_) | (refine M2 ?_; refine SE ?_))
  by_cases hcl : dp.close < 0
  · rw [show decide (dp.close < 0) = true from decide_eq_true hcl]
    repeat (first | (refine M0 ?_; first | refine SL ?_ | refine SB fun _ _ => ?_ | refine Y4 (Ev.call (f := 17) (ck rfl) rfl (fun w5 S5 => haw w5 S5)) ?_) | (refine M1 ?_; refine SC ?_) | (refine M2 ?_; refine SE ?_))
    refine XE.retg tok Try.results9 rfl (by simp only [and_self, and_true]) (fun w' S => ?_)
    exact ⟨rfl, hB1.trans S.toBelow⟩
  rw [show decide (dp.close < 0) = false from decide_eq_false hcl]
  obtain ⟨d1, d2, d3⟩ := c6 hcl
  have hal := fun (w5 : World) (hB : Below w.heap.size w w5) => Allowed_any (r := r) (i := dp.close) (hT.sys (Sys.ofBelow hB))
  rw [d1, c3] at hal
  simp only [ctkV, ctkC, ruV] at hal
  repeat (first | (refine M0 ?_; first | refine SL ?_ | refine SB fun _ _ => ?_ | refine Y4 (Ev.call (f := 21) (ck rfl) rfl (fun w5 S5 => hal w5 (hB1.trans S5.toBelow))) ?_) | (refine M1 ?_; refine SC ?_) | (refine M2 ?_; refine SE ?_))
  rw [show decide ((dl1.length : Int) ≠ (t.m : Int)) = false from decide_eq_false (fun h => h (by omega))]
  repeat (first | (refine M0 ?_; first | refine SL ?_ | refine SB fun _ _ => ?_) | (refine M1 ?_; refine SC ?_) | (refine M2 ?_; refine SE ?_))
  refine XC.loopk [3, 4, 5, 9] rfl (fun k : Nat => [(11, .int .i64 (k : Nat))]) (fun _ => [(g9, cel 49 [.int .i64 dp.close, .int .i64 dp.open_, .slice q3.A q3.n q3.c, .slice q4.A q4.n q4.c]), (g5, cel 36 [.int .i64 p.close, .int .i64 p.open_]), (g4, cel 74 [.int .i64 r.count, .int .i64 r.early, .int .i64 dp.close, .int .i64 dp.open_, .slice q1A dl1.length q1c, .slice q2.A q2.n q2.c]), (g3, cel 29 (ctkC ⟨vp, vf, ⟨Ah, t.m, ch⟩, vr⟩ t))]) (fun _ => w1) (fun k => k ≤ t.m) (fun k => t.m - k) 0 (Nat.zero_le _) ZZSUB (fun _ h => h) ?_
  intro k hk
  simp only [ctkC]
  dsimp only [List.cons_append, List.nil_append]
  repeat (first | (refine M0 ?_; first | refine SL ?_ | refine SB fun _ _ => ?_) | (refine M1 ?_; refine SC ?_) | (refine M2 ?_; refine SE ?_))
  refine XC.cond _ rfl (fun h1 => ?_) (fun h1 => ?_)
  · have hkm : k < t.m := by have := of_decide_eq_true h1; omega
    obtain ⟨f1, pa, pb, f2, f3⟩ := d2 k hkm
    have hlev := fun (w5 : World) (hB : Below w.heap.size w w5) => hlev w5 hB k ho hkm c4
    simp only [f1] at hlev
    obtain ⟨ad, rfl, hlt⟩ := hL1.addr (by decide) (by simp only; omega)
    have hel := (hL1.below hB1).elem f2 1 (.int .i64 pb) rfl
    have hel : w1.cell? ((ad.add (k * 2)).add 1) = some (.int .i64 pb) := hel
    repeat (first | (refine M0 ?_; first | refine SL ?_ | refine SB fun _ _ => ?_ | refine Y4 (Ev.call (f := 25) (ck rfl) rfl (fun w5 S5 => hlev w5 (hB1.trans S5.toBelow))) ?_) | (refine M1 ?_; refine SC ?_) | (refine M2 ?_; refine SE ?_))
    refine XC.drawT mixed rfl rfl (by kernel_rfl) ?_
    repeat (first | (refine M0 ?_; first | refine SL ?_ | refine SB fun _ _ => ?_ | refine Y4 (Ev.load_old tok rfl rfl (add_lt (add_lt hlt)) hel) ?_) | (refine M2 ?_; refine SE ?_) | (refine M3 ?_; first | refine SG ?_ | refine SF ?_ | refine YF (Ev.load_old tok rfl rfl (add_lt (add_lt hlt)) hel) ?_) | (refine M4 ?_; refine SR ?_) | (refine M5 ?_; first | exact M7 | refine YM ?_ | refine YN ?_ ?_))
    rw [show decide (t.limit < pb) = false from decide_eq_false (by omega)]
    repeat (first | (refine M0 ?_; first | refine SL ?_ | refine SB fun _ _ => ?_) | (refine M1 ?_; refine SC ?_) | (refine M2 ?_; refine SE ?_))
    exact XE.round (s := k) (k + 1) (by omega) (by omega) ZZSUB (fun _ h => h)
  repeat (first | (refine M0 ?_; first | refine SL ?_ | refine SB fun _ _ => ?_) | (refine M1 ?_; refine SC ?_) | (refine M2 ?_; refine SE ?_))
  refine XL.callF (wE := w) (HldR t p) (ck rfl) rfl rfl hF1 hk1 hB1 (fun w5 S5 _ hB5 => Holds_made (v := ⟨vp, vf, ⟨Ah, t.m, ch⟩, vr⟩) (p := p) (hT.sys (Sys.ofBelow hB5))) (fun w2 x new hR hF2 hB2 hk2 => ?_) ZZHL
  obtain ⟨q5, rfl, rfl⟩ := hR
  have hbo := fun {L : Lo} (w5 : World) (S5 : Sys w.heap.size w2 L w5) (hL : ∀ e, e ∈ L → e.1 ∈ _ ∨ w2.heap.size ≤ e.1) => both5_any (Held.lt (x := hList boolK5 q5 (t.hldL p)) ((hF2.sys S5 hL).get (.head _)))
  simp only [svV] at hbo ⊢
  repeat (first | (refine M0 ?_; first | refine SL ?_ | refine SB fun _ _ => ?_) | (refine M1 ?_; refine SC ?_) | (refine M2 ?_; refine SE ?_))
  by_cases hH : t.hldE p = 0
  rotate_left
  · rw [show decide (t.hldE p ≠ 0) = true from decide_eq_true hH]
    repeat (first | (refine M0 ?_; first | refine SL ?_ | refine SB fun _ _ => ?_ | refine Y4 (Ev.call (f := 17) (ck rfl) rfl (fun w5 S5 => haw w5 S5)) ?_) | (refine M1 ?_; refine SC ?_) | (refine M2 ?_; refine SE ?_))
    refine XE.retg tok Try.results9 rfl (by simp only [and_self, and_true]) (fun w' S => ?_)
    exact ⟨rfl, hB2.trans S.toBelow⟩
  rw [show decide (t.hldE p ≠ 0) = false from decide_eq_false (fun h => h hH)]
  repeat (first | (refine M0 ?_; first | refine SL ?_ | refine SB fun _ _ => ?_) | (refine M1 ?_; refine SC ?_) | (refine M2 ?_; refine SE ?_))
  by_cases hpc : p.close ≤ dp.close
  · rw [show decide (p.close ≤ dp.close) = true from decide_eq_true hpc]
    repeat (first | (refine M0 ?_; first | refine SL ?_ | refine SB fun _ _ => ?_ | refine Y4 (Ev.call (f := 17) (ck rfl) rfl (fun w5 S5 => haw w5 S5)) ?_) | (refine M1 ?_; refine SC ?_) | (refine M2 ?_; refine SE ?_))
    refine XE.retg tok Try.results9 rfl (by simp only [and_self, and_true]) (fun w' S => ?_)
    exact ⟨rfl, hB2.trans S.toBelow⟩
  rw [show decide (p.close ≤ dp.close) = false from decide_eq_false hpc]
  obtain ⟨-, -, hps, hl⟩ := hld_0 hH
  obtain ⟨k, hkm, hkh⟩ := d3 p hps (by omega)
  have hall : (t.hldL p).all id = false := List.all_eq_false.2 ⟨t.holds k p, by rw [hl]; exact List.mem_of_getElem? (holdL_at hkm), by rw [hkh]; simp⟩
  rw [hall] at hbo
  repeat (first | (refine M0 ?_; first | refine SL ?_ | refine SB fun _ _ => ?_ | refine Y4 (Ev.call (f := 24) (ck rfl) rfl (fun w5 S5 => hbo w5 S5 ZZHL)) ?_ | refine Y4 (Ev.call (f := 17) (ck rfl) rfl (fun w5 S5 => haw w5 S5)) ?_) | (refine M1 ?_; refine SC ?_) | (refine M2 ?_; refine SE ?_))
  refine XE.retg tok Try.results9 rfl (by simp only [and_self, and_true]) (fun w' S => ?_)
  exact ⟨rfl, hB2.trans S.toBelow⟩
end Go.Proofs.Ytmpaiphakjogjaa.X
