/-
  What stood, but for a few blocks, as a held thing; numbers that lie among the arguments or were made; drawn regions whose reads are of own blocks, anchored to what the arguments are.
-/
import Derived.Test.YtmpaiphakjogjaaGreatPart3
import Derived.Laws.StructEq
set_option linter.unusedVariables false
set_option linter.unusedSimpArgs false
namespace Go.Proofs.YtmpaiphakjogjaaGreat.X
open Go Go.RowKit Go.Proofs.YtmpaiphakjogjaaGreat.Bs
def intK5 : Kind Int := ⟨3, 1, fun k => [.int .i64 k], fun _ => [], fun _ => rfl⟩
theorem int5_el : elemOk Tryz.prog 26 intK5.ty intK5.m 8 = true := by kernel_rfl
theorem ints_flat5 (l : List Int) : l.flatMap intK5.c = ints l := by
  induction l with
  | nil => rfl
  | cons a l ih => rw [List.flatMap_cons, ih]; rfl
def hOld2 (b0 : Nat) (W0 : World) (gs : List Nat) : Held := ⟨fun W ok => ∀ k, b0 ≤ k → k < W0.heap.size → k ∉ gs → ok k ∧ W.heap[k]? = W0.heap[k]?, fun h hk k h1 h2 h3 => ⟨(h k h1 h2 h3).1, (hk k (h k h1 h2 h3).1).trans (h k h1 h2 h3).2⟩, fun h hk k h1 h2 h3 => ⟨hk k (h k h1 h2 h3).1, (h k h1 h2 h3).2⟩⟩
def hIntsO (w : World) (b0 : Nat) (q : SV) (l : List Int) : Held := ⟨fun W ok => IntsAt w (Lt b0) q l ∨ IntsAt W ok q l, fun h hk => h.imp id fun h => h.keep hk, fun h hk => h.imp id fun h => h.mono hk⟩
theorem Fam.old2 {w : World} {b0 : Nat} {gs : List Nat} (h : b0 ≤ w.heap.size) : Fam w b0 gs [] [hOld2 b0 w gs] :=
  (Fam.start h).hold (ok := Free w b0 gs []) (fun k h1 h2 h3 => ⟨⟨h1, h2, h3, fun r hr => by cases hr⟩, rfl⟩) fun j hj => hj
theorem hIntsO.at_ {w W : World} {b0 : Nat} {q : SV} {l : List Int} {ok : Nat → Prop} (h : (hIntsO w b0 q l).p W ok) (hb : Below b0 w W) (hw : b0 ≤ W.heap.size) (hok : ∀ k, ok k → k < W.heap.size) : IntsAt W (Lt W.heap.size) q l := by
  rcases h with h | h
  · exact (h.below hb).mono fun k hk => Nat.lt_of_lt_of_le hk hw
  · exact h.mono hok
theorem Since.of {w w' : World} {b0 g gm : Nat} {ok : Nat → Prop} (hB : Below b0 w w') (hO : (hOld2 b0 w [gm, g]).p w' ok) (hg : w'.heap[g]? = w.heap[g]?) : Since w gm w' :=
  ⟨hB.os, hB.tape, hB.output, hB.size, fun k hk hne => by
    by_cases e : k = g
    · rw [e]; exact hg
    · rcases Nat.lt_or_ge k b0 with h1 | h1
      · exact hB.block k h1
      · exact (hO k h1 hk (by simp [hne, e])).2⟩
theorem owns_raise {W : World} {b0 b1 e size n : Nat} {v : Value} {xs : List Value} (h : W.ownsRow b0 e size v n xs) (hb : ∀ k, v.ownBlock = some k → b1 ≤ k) : W.ownsRow b1 e size v n xs := by
  refine ⟨h.1, ?_⟩
  rcases h.2 with h1 | ⟨g, cap, cur, rfl, h2, h3⟩
  · exact .inl h1
  · exact .inr ⟨g, cap, cur, rfl, hb g rfl, h3⟩
theorem Fam.fresh2 {w W : World} {b0 : Nat} {gs ks : List Nat} {rs : List RowX} {hs : List Held} (h : Fam W b0 ks rs hs) (hm : hOld2 b0 w gs ∈ hs) (hgs : ∀ k, k ∈ gs → k ∈ ks) {r : RowX} (hr : r ∈ rs) {k : Nat} (hk : r.v.ownBlock = some k) : w.heap.size ≤ k := by
  refine Nat.not_lt.1 fun hlt => ?_
  have h1 := (h.lt hr hk).1
  by_cases hg : k ∈ gs
  · exact h.sep r hr k hk (hgs k hg)
  · exact (h.held _ hm k h1 hlt hg).1.2.2.2 r hr hk
theorem trunc_cell {w : World} {n : Nat} {a : Addr} (h : a.block < n) : (trunc w n).cell? a = w.cell? a := by
  unfold World.cell? trunc
  have : (w.heap.extract 0 n)[a.block]? = w.heap[a.block]? := by
    rw [Array.getElem?_extract]
    simp
    omega
  simp only [this]
section
variable {P : Program} {N : Nat} {B : Nat} {w0 wE : World} {ds : List Deferred} {Q : Exit → Act → World → Prop} {F : Fr} {L Ls : Lo} {ops : Array Oper} {rem : List (Nat × Oper)}
theorem z7 (k : XR P N B (trunc wE B) w0 ds Q Ls ops rem F L) (hB : Below B wE w0 := by assumption) (hle : B ≤ wE.heap.size := by assumption)
    (hs : ∀ e, e ∈ Ls → e ∈ L := by (intro e he; repeat (first | (cases he; done) | (rcases List.mem_cons.1 he with rfl | he; · repeat (first | exact List.mem_cons_self | apply List.mem_cons_of_mem)))) <;> fail)
    (hn : (Ls.map (·.1)).Nodup := by (simp; try omega) <;> fail) : XE N B w0 ds (heldR P B (trunc wE B) Q Ls ops rem) .normal F L :=
  XE.heldR (fun _ h => Sys.anchorT hB h hs hn hle) k
end
section
variable {t : CTk} {v : CTV} {b0 g gm : Nat} {ks ks' : List Nat} {rs : List RowX} {hs hs' new : List Held} {w w' wE w0 w1 w2 : World} {L : Lo} {B : Nat}
variable {P : Program} {N : Nat} {ds : List Deferred} {Q : Exit → Act → World → Prop} {F : Fr} {ops : Array Oper} {rest : List Oper} {ty : TypeId} {p : String} {af : Array Edge}
theorem XL.callH {f : FuncId} {d : Nat} {args : Array Operand} {vs : List Value} {ats : Array TypeId} (R : Value → List Held → Prop) (h : callOk P f = true)
    (ha : evos F args.toList = some vs) (hd : Nat.blt d N = true) (hG : Gam t v b0 g gm ks rs hs w0) (hSn : Since wE gm w0) (hg : (g, gamO v t gm) ∈ L)
    (hc : ∀ w ks2, Sys b0 w0 L w → (∀ e, e ∈ L → e.1 ∈ ks2) → Gam t v b0 g gm ks2 [] [] w → Calls P f vs.toArray w (GamR t b0 gm ks2 R w))
    (k : ∀ w' x new, R x new → Gam t v b0 g gm (L.map (·.1) ++ ks) rs (new ++ hs) w' → Since wE gm w' → XL P N b0 w' ds Q ops rest ((d, x) :: F) L)
    (hL : ∀ e, e ∈ L → e.1 ∈ ks ∨ w0.heap.size ≤ e.1 := by exact ZZHM) (hLE : ∀ e, e ∈ L → e.1 ∈ [g] ∨ wE.heap.size ≤ e.1 := by exact ZZHM) :
    XL P N b0 w0 ds Q ops ({ dst := some d, op := .call { callee := .value (.func f), args := args, argTypes := ats }, type := ty, pos := p, after := af, guard := none } :: rest) F L := by
  refine XL.callr (fst := []) (cap := []) (fun w x w' => ∃ new, R x new ∧ Gam t v b0 g gm (L.map (·.1) ++ ks) rs (new ++ hs) w' ∧ Since w gm w') h rfl ha hd (fun w S => ?_) (fun w x w' S hR => ?_)
  · have hA := hG.add S hg hL
    have := hc w _ S (fun e he => List.mem_append_right _ (List.mem_append_left _ (List.mem_map.2 ⟨e, he, rfl⟩))) hA.down
    simp only [List.nil_append, List.append_nil]
    exact this.mono fun e w' ⟨x, new, e1, e2, e3, e4, e5⟩ => ⟨x, e1, new, e2, hA.after rfl e3 e4 e5, e3⟩
  · obtain ⟨new, e2, hG', e3⟩ := hR
    have hne : ∀ e, e ∈ L → e.1 ≠ gm := fun e he e1 => by
      rcases hL e he with h1 | h1
      · exact hG.nin (e1 ▸ h1)
      · have := hG.lt gm (.head _); omega
    have S' : Sys b0 w' L w' := Sys.start hG'.fam.base (fun e he => ⟨(S.own e he).1, by rw [e3.old e.1 (S.lt he) (hne e he)]; exact (S.own e he).2⟩) S.nd
    refine ⟨L, w', S', k w' x new e2 hG' ((hSn.sys S fun e he => ⟨fun hlt => ?_, hne e he⟩).trans e3)⟩
    rcases hLE e he with h1 | h1
    · rw [List.mem_singleton] at h1
      have h2 : e = (g, gamO v t gm) := by
        have a1 := (S.own e he).2
        have a2 := (S.own _ hg).2
        rw [h1] at a1
        simp only at a2
        rw [a1] at a2
        exact Prod.ext h1 (Option.some.inj a2)
      rw [h2]; exact hG.game
    · omega
end
end Go.Proofs.YtmpaiphakjogjaaGreat.X
namespace Go.Proofs.YtmpaiphakjogjaaGreat.X
open Go Go.RowKit
section
variable {P : Program} {T : TT} {N : Nat} {B : Nat} {w0 : World} {ds : List Deferred} {Q : Exit → Act → World → Prop} {F : Fr} {L L' : Lo} {r : Option Nat} {n : Nat}
theorem XI.guard_y {ops : Array Oper} {rest : List Oper} {d j : Nat} {wb : Bool} {op : Op} {ty : TypeId} {p : String} {af : Array Edge} (hj : asked ops F j = some wb)
    (h : XI P N B w0 ds Q r n ops ({ dst := some d, op := op, type := ty, pos := p, after := af, guard := none } :: rest) F L) :
    XI P N B w0 ds Q r n ops ({ dst := some d, op := op, type := ty, pos := p, after := af, guard := some (j, wb) } :: rest) F L := by
  refine ⟨fun a w hf hs => ?_⟩
  have hw : Region.wanted { dst := some d, op := op, type := ty, pos := p, after := af, guard := some (j, wb) } (yielded ops a.tmps) = true := by
    simp [Region.wanted, asked_spec hj hf]
  have h1 := h.run a w hf hs
  unfold wpListIn at h1 ⊢
  rw [if_pos (by simp [Region.wanted])] at h1
  rw [hw, if_pos rfl]
  exact h1
theorem XI.guard_n {ops : Array Oper} {rest : List Oper} {d j : Nat} {wb : Bool} {op : Op} {ty : TypeId} {p : String} {af : Array Edge} (hj : asked ops F j = some (!wb))
    (h : XI P N B w0 ds Q r n ops rest ((d, undef) :: F) L) (hd : Nat.blt d N = true) :
    XI P N B w0 ds Q r n ops ({ dst := some d, op := op, type := ty, pos := p, after := af, guard := some (j, wb) } :: rest) F L := by
  refine ⟨fun a w hf hs => ?_⟩
  have hw : Region.wanted { dst := some d, op := op, type := ty, pos := p, after := af, guard := some (j, wb) } (yielded ops a.tmps) = false := by
    simp [Region.wanted, asked_spec hj hf]
  unfold wpListIn
  rw [hw, if_neg (by simp)]
  exact ⟨fun f _ => fen_fn r f, h.run _ w (hf.put hd) hs⟩
theorem XC.loopD {c : Code} {σ : Type} (ts : List Nat) {G0 : Fr} (hk : keepO F ts = some G0) (G : σ → Fr) (M : σ → Lo) (W : σ → World) (D : σ → List Deferred) (pre : σ → Prop) (μ : σ → Nat) (s0 : σ)
    (h0 : pre s0) (hD : D s0 = ds) (hG : Sub (G s0) F) (hM : ∀ w, Sys B w0 L w → Sys B (W s0) (M s0) w)
    (round : ∀ s, pre s → XC P N B (W s) (D s) (Exit.then (fun a w => ∃ s', pre s' ∧ μ s' < μ s ∧ Fits N (D s') (G s' ++ G0) a ∧ Sys B (W s') (M s') w) Q) c (G s ++ G0) (M s)) :
    XC P N B w0 ds Q (.loop c) F L := by
  subst hD
  refine ⟨fun a w hf hs => ?_⟩
  refine wp_loop_ghost (fun n a w => ∃ s, μ s = n ∧ pre s ∧ Fits N (D s) (G s ++ G0) a ∧ Sys B (W s) (M s) w) (μ s0) ⟨s0, rfl, h0, (hG.append (keepO_sub ts G0 hk)).fits hf, hM w hs⟩ ?_
  rintro n a w ⟨s, rfl, hp, hf, hs⟩
  refine wp_mono ((round s hp).run a w hf hs) fun e a' w' q => ?_
  cases e with
  | normal =>
    obtain ⟨s', hp', hlt, hf', hs'⟩ := q
    exact ⟨μ s', hlt, s', rfl, hp', hf', hs'⟩
  | exit id => exact q
  | goto l => exact q
  | ret => exact q
  | panic ch => exact q
  | outgrown => exact q
theorem XE.roundD {σ : Type} {G : σ → Fr} {M : σ → Lo} {W : σ → World} {D : σ → List Deferred} {pre : σ → Prop} {μ : σ → Nat} {s : σ}
    (h : ∀ w, Sys B w0 L w → ∃ s', pre s' ∧ μ s' < μ s ∧ D s' = ds ∧ Sub (G s') F ∧ Sys B (W s') (M s') w) :
    XE N B w0 ds (Exit.then (fun a w => ∃ s', pre s' ∧ μ s' < μ s ∧ Fits N (D s') (G s') a ∧ Sys B (W s') (M s') w) Q) .normal F L :=
  ⟨fun a w hf hs => by
    obtain ⟨s', h1, h2, h3, h4, h5⟩ := h w hs
    exact ⟨s', h1, h2, by rw [h3]; exact h4.fits hf, h5⟩⟩
def RFEnd (P : Program) (N B : Nat) (w1 : World) (ds : List Deferred) (Q : Exit → Act → World → Prop) (F : Fr) (L : Lo) : Option Code → Prop
  | none => XE N B w1 ds Q .normal F L
  | some .ret => XE N B w1 ds Q .ret F L
  | some (.exit id) => XE N B w1 ds Q (.exit id) F L
  | some _ => False
theorem XC.rangeFuncD {g : Operand} {ps : Array Tmp} {assign body : Code} {gf : FuncId} {cap : List Value} (hg : evo F g = some (.func (.func gf) #[] ⟨cap⟩)) (hk : callOk P gf = true)
    (hc : ∀ (fn : FuncId) (a : Act) (D : Nat) (w : World), w0.heap.size ≤ D → Fits N ds F a → Sys B w0 ((D + 1, .loop (recO fn a.tmps ps assign body D .ready none)) :: (D, .deferred (some [])) :: L) w →
      Calls P gf (Value.func (.yield (D + 1)) #[] #[] :: cap).toArray w fun e w3 => ∃ v, e = .returned v ∧
        ∃ st pe L3 w1, st ≠ .busy ∧ Sys B w1 ((D + 1, .loop (recO fn a.tmps ps assign body D st pe)) :: L3) w3 ∧ RFEnd P N B w1 (markD D :: ds) Q F ((D + 1, .loop (recO fn a.tmps ps assign body D .exhausted pe)) :: L3) pe) :
    XC P N B w0 ds Q (.rangeFunc g ps assign body) F L := by
  refine ⟨fun a w hf hs => (wpIn_wide (n := 1)).1 (wpIn_rangeFunc (F := Fence.wide) fun fn _ => ?_)⟩
  have S1 := (hs.box (.deferred (some []))).box (.loop (recO fn a.tmps ps assign body w.heap.size .ready none))
  have hsz : (w.alloc (.deferred (some []))).heap.size = w.heap.size + 1 := by simp
  rw [hsz] at S1
  obtain ⟨W1, hW1⟩ : ∃ W1, (w.alloc (.deferred (some []))).alloc (.loop (recO fn a.tmps ps assign body w.heap.size .ready none)) = W1 := ⟨_, rfl⟩
  rw [hW1] at S1
  have hcall := hc fn a w.heap.size W1 hs.size hf S1
  refine ⟨w.heap.size + 1, [markD w.heap.size], W1, { target := .fn (.func gf) ⟨cap⟩, args := #[.func (.yield (w.heap.size + 1)) #[] #[]] }, W1, gf, (Value.func (.yield (w.heap.size + 1)) #[] #[] :: cap).toArray, W1,
    by rw [← hW1]; exact run_enterLoop_outer _ _ _ _ _, ?_, fun f' _ => trivial, ?_, fun h => (by cases h), ?_⟩
  · have : evo F g = some (.func (.func gf) ⟨[]⟩ ⟨cap⟩) := hg
    have e := hf.eval this
    simp only [resolve, rangeCall, e, Deferred.ofValue]
    simp [Act.eval]
  · have : (#[Value.func (.yield (w.heap.size + 1)) #[] #[]] ++ (⟨cap⟩ : Array Value)) = (Value.func (.yield (w.heap.size + 1)) #[] #[] :: cap).toArray := by simp
    simp only [invoke, this]
    exact callFunc_run hk _ _
  · refine callsIn_wide.2 (hcall.mono fun e w3 he => ?_)
    obtain ⟨v, rfl, st, pe, L3, w1, hst, hS, hx⟩ := he
    have hf' : Fits N (markD w.heap.size :: ds) F { a with defers := [markD w.heap.size] ++ a.defers } := ⟨hf.size, by simp [hf.defers], hf.get⟩
    have hl := (hS.own _ List.mem_cons_self).2
    refine ⟨pe, _, run_endLoop hl hst, ?_⟩
    have hS' := hS.setObj (i := 0) (o' := .loop (recO fn a.tmps ps assign body w.heap.size .exhausted pe)) rfl rfl
    match pe, hx with
    | none, hx => exact hx.run _ _ hf' hS'
    | some .ret, hx => exact wpIn_ret (hx.run _ _ hf' hS')
    | some (.exit id), hx => exact wpIn_exit (hx.run _ _ hf' hS')
theorem XE.endExit {l i id : Nat} {r : Loop} {R : Ending → World → Prop} (hL : L[i]? = some (l, .loop r)) (hL' : setN L i (l, .loop { r with state := .done, pending := some (.exit id) }) = some L')
    (h : ∀ w, Sys B w0 L' w → R (.returned (.bool false)) w) : XE N B w0 ds (roundPost P l R) (.exit id) F L :=
  ⟨fun a w hf hs => by
    obtain ⟨e, _⟩ := setN_spec _ _ _ _ hL'
    exact ⟨_, _, run_endRound (some (.exit id)) (hs.own _ (List.mem_of_getElem? hL)).2, h _ (hs.setObj hL e)⟩⟩
structure Marked (Ds : List Nat) (w w' : World) : Prop where
  os : w'.os = w.os
  tape : w'.tape = w.tape
  output : w'.output = w.output
  size : w'.heap.size = w.heap.size
  old : ∀ j, j ∉ Ds → w'.heap[j]? = w.heap[j]?
theorem leaves_marks {fn : Func} {tmps : Array Value} {R : Ending → World → Prop} : ∀ (Ds : List Nat) (w : World), (∀ D, D ∈ Ds → w.heap[D]? = some (.deferred (some []))) → Ds.Nodup →
    (∀ w', Marked Ds w w' → LeavesIn Fence.wide 0 P fn tmps R [] .returning w') → LeavesInM Fence.wide 0 P fn tmps R (Ds.map markD) .returning w
  | [], w, _, _, h => h w ⟨rfl, rfl, rfl, rfl, fun _ _ => rfl⟩
  | D :: Ds, w, hD, hn, h => by
    have hD0 := hD D (.head _)
    refine ⟨by simp, .inl ⟨D, w.putObj D (.deferred none), rfl, run_takeDeferred hD0, leaves_marks Ds _ (fun D' h' => ?_) (List.nodup_cons.1 hn).2 (fun w' hm => h w' ?_)⟩⟩
    · have hne : D' ≠ D := fun e => (List.nodup_cons.1 hn).1 (e ▸ h')
      rw [show (w.putObj D (.deferred none)).heap[D']? = w.heap[D']? by unfold World.putObj; simp [Array.getElem?_setIfInBounds, Ne.symm hne]]
      exact hD D' (.tail _ h')
    · refine ⟨hm.os, hm.tape, hm.output, by rw [hm.size]; simp [World.putObj], fun j hj => ?_⟩
      rw [hm.old j (fun h => hj (.tail _ h))]
      have hne : j ≠ D := fun e => hj (e ▸ .head _)
      unfold World.putObj
      simp [Array.getElem?_setIfInBounds, Ne.symm hne]
theorem XE.retMs (hT : TOK P T) {fn : Func} {R : Ending → World → Prop} {rs : List ResultVar} {vs : List Value} {c : Prop} {Ds : List Nat} (hds : ds = Ds.map markD) (h : fn.results = ⟨rs⟩) (hv : resO T F L rs = some (vs, c)) (hc : c)
    (hD : ∀ w, Sys B w0 L w → ∀ D, D ∈ Ds → w.heap[D]? = some (.deferred (some []))) (hn : Ds.Nodup) (hLD : ∀ e, e ∈ L → e.1 ∉ Ds)
    (hR : ∀ w w', Sys B w0 L w → Marked Ds w w' → R (.returned (tupV vs)) w') : XE N B w0 ds (bodyPostM Fence.wide 0 P fn R) .ret F L := by
  subst hds
  refine ⟨fun a w hf hw => ?_⟩
  show LeavesInM Fence.wide 0 P fn a.tmps R a.defers .returning w
  rw [hf.defers]
  refine leaves_marks Ds w (hD w hw) hn fun w' hm => ?_
  have hsys : Sys B w' L w' := Sys.start (by rw [hm.size]; exact Nat.le_trans hw.base hw.size) (fun e he => ⟨(hw.own e he).1, by rw [hm.old e.1 (hLD e he)]; exact (hw.own e he).2⟩) hw.nd
  have hf' : Fits N [] F { a with defers := [] } := ⟨hf.size, rfl, hf.get⟩
  have h1 := resO_run hT hf' hsys hv hc
  have h2 : (results fn a.tmps).run P w' = .ok (tupV vs) w' := by
    unfold results
    rw [h, Array.mapM_eq_mapM_toList]
    simp only [Sem.run_bind, Sem.run_map]
    refine (congrArg (fun r : Result (List Value) => (r.andThen fun a w' => Result.ok a.toArray w').andThen fun a w' => Sem.run P (pure (if h : a.size = 1 then a[0] else Value.tuple a)) w') h1).trans ?_
    simp only [Result.andThen_ok, Sem.run_pure]
    cases vs with
    | nil => rfl
    | cons v vs => cases vs with
      | nil => rfl
      | cons u vs => simp [tupV]
  show LeavesIn Fence.wide 0 P fn a.tmps R [] .returning w'
  exact ⟨_, h2, hR _ _ hw hm⟩
end
end Go.Proofs.YtmpaiphakjogjaaGreat.X
namespace Go.Proofs.YtmpaiphakjogjaaGreat.Bs
def idxB (f : Nat → Bool) (n : Nat) : Int := match firstB f n with
  | some i => ((i : Nat) : Int)
  | none => -1
theorem idxB_any {f : Nat → Bool} {n : Nat} : decide (0 ≤ idxB f n) = (firstB f n).isSome := by
  unfold idxB
  cases firstB f n <;> simp
theorem idxB_neg {f : Nat → Bool} {n : Nat} : decide (idxB f n < 0) = (firstB f n).isNone := by
  unfold idxB
  cases firstB f n with
  | none => simp
  | some i => simp
end Go.Proofs.YtmpaiphakjogjaaGreat.Bs
namespace Go.Proofs.YtmpaiphakjogjaaGreat.X
open Go Go.RowKit Go.Proofs.YtmpaiphakjogjaaGreat.Bs
theorem cout_any (n lo hi : Int) (w : World) :
    Calls Tryz.prog 41 #[.int .i64 n, .int .i64 lo, .int .i64 hi] w fun e w' => e = .returned (.bool (outB n lo hi)) ∧ Below w.heap.size w w' := by
  refine enter Tryz.func41 rfl Tryz.ntmps41 rfl ?_; simp only [frame, Nat.zero_add, Nat.reduceAdd]
  repeat (any_goals (first | (refine M0 ?_; first | refine SL ?_ | refine SB fun _ _ => ?_ | (refine XL.split _ _ rfl (fun h => ?_) (fun h => ?_) <;> rw [h])) | (refine M1 ?_; first | refine SC ?_ | refine SD ?_ | refine XC.cond _ rfl (fun h => ?_) (fun h => ?_)) | (refine M2 ?_; refine SE ?_) | (refine M3 ?_; first | refine SG ?_ | refine SF ?_ | (refine Fw.split _ _ rfl (fun h => ?_) (fun h => ?_) <;> rw [h])) | (refine M4 ?_; refine SR ?_) | (refine M5 ?_; first | exact M7 | refine YM ?_ | refine YN ?_ ?_)))
  all_goals
    refine XE.ret1 Tryz.results41 rfl (fun w' S => ?_)
    exact ⟨by simp only [outB, h, Bool.true_or, Bool.false_or], S.toBelow⟩
theorem nev_any (w : World) : Calls Tryz.prog 46 #[] w fun e w' => e = .returned (.agg ⟨[.int .i64 (-1), .int .i64 (-1)]⟩) ∧ Below w.heap.size w w' := by
  refine enter Tryz.func46 rfl Tryz.ntmps46 rfl ?_; simp only [frame, Nat.zero_add, Nat.reduceAdd]
  repeat (first | (refine M0 ?_; first | refine SL ?_ | refine SB fun _ _ => ?_) | (refine M1 ?_; first | refine SC ?_ | refine SD ?_) | (refine M2 ?_; refine SE ?_) | (refine M3 ?_; first | refine SG ?_ | refine SF ?_) | (refine M4 ?_; refine SR ?_) | (refine M5 ?_; first | exact M7 | refine YM ?_ | refine YN ?_ ?_))
  first
    | refine XE.retc tok Tryz.results46 rfl rfl rfl rfl (fun w' S => ?_)
      exact ⟨rfl, S.toBelow⟩
    | refine XE.retg tok Tryz.results46 rfl (by simp only [and_self, and_true]) (fun w' S => ?_)
      exact ⟨rfl, S.toBelow⟩
theorem cchk1_any (n : Int) (w : World) :
    Calls Tryz.prog 101 #[.int .i64 n] w fun e w' => e = .returned (.bool (highB n)) ∧ Below w.heap.size w w' := by
  refine enter Tryz.func101 rfl Tryz.ntmps101 rfl ?_; simp only [frame, Nat.zero_add, Nat.reduceAdd]
  repeat (first | (refine M0 ?_; first | refine SL ?_ | refine SB fun _ _ => ?_ | refine Y4 (Ev.call (f := 41) (ck rfl) rfl (fun w S => cout_any _ _ _ w)) ?_) | (refine M1 ?_; first | refine SC ?_ | refine SD ?_) | (refine M2 ?_; refine SE ?_) | (refine M3 ?_; first | refine SG ?_ | refine SF ?_ | refine YF (Ev.call (f := 41) (ck rfl) rfl (fun w S => cout_any _ _ _ w)) ?_) | (refine M4 ?_; refine SR ?_) | (refine M5 ?_; first | exact M7 | refine YM ?_ | refine YN ?_ ?_))
  refine XE.retg tok Tryz.results101 rfl (by simp only [and_self, and_true]) (fun w' S => ?_)
  exact ⟨rfl, S.toBelow⟩
theorem cchk2_any (n : Int) (w : World) :
    Calls Tryz.prog 103 #[.int .i64 n] w fun e w' => e = .returned (.bool (outB n 0 10000000)) ∧ Below w.heap.size w w' := by
  refine enter Tryz.func103 rfl Tryz.ntmps103 rfl ?_; simp only [frame, Nat.zero_add, Nat.reduceAdd]
  repeat (first | (refine M0 ?_; first | refine SL ?_ | refine SB fun _ _ => ?_ | refine Y4 (Ev.call (f := 41) (ck rfl) rfl (fun w S => cout_any _ _ _ w)) ?_) | (refine M1 ?_; first | refine SC ?_ | refine SD ?_) | (refine M2 ?_; refine SE ?_) | (refine M3 ?_; first | refine SG ?_ | refine SF ?_ | refine YF (Ev.call (f := 41) (ck rfl) rfl (fun w S => cout_any _ _ _ w)) ?_) | (refine M4 ?_; refine SR ?_) | (refine M5 ?_; first | exact M7 | refine YM ?_ | refine YN ?_ ?_))
  refine XE.retg tok Tryz.results103 rfl (by simp only [and_self, and_true]) (fun w' S => ?_)
  exact ⟨rfl, S.toBelow⟩
theorem cchk3_any {gt i : Nat} {n : Int} {v : CTV} {t : CTk} {w : World} (hg : w.heap[gt]? = some (cel 29 (ctkC v t))) (hb : BasAt w w.heap.size v.p t.b) (hi : i < t.b.pols.length) :
    Calls Tryz.prog 104 #[.int .i64 (i : Nat), .int .i64 n, .pointer (some ⟨gt, 0, none⟩)] w fun e w' => e = .returned (.bool (outB n 0 (t.b.pol i).room)) ∧ Below w.heap.size w w' := by
  have hl := (Array.getElem?_eq_some_iff.1 hg).1
  have hn2 := hb.n2_eq
  obtain ⟨⟨A1, n1, c1, A2, n2, c2⟩, vf, vh, vr⟩ := v
  simp only at hn2
  subst hn2
  obtain ⟨ad, rfl, had⟩ := hb.pols.addr (by simp only; omega)
  have hc4 : w.cell? ⟨gt, 4, none⟩ = some (.slice (some ad) t.b.pols.length c2) := by simp [World.cell?, hg, ctkC]
  have hroom : w.cell? ((ad.add (i * 4)).add 3) = some (.int .i64 (t.b.pol i).room) := hb.pol hi 3 _ rfl
  refine enter Tryz.func104 rfl Tryz.ntmps104 rfl ?_; simp only [frame, Nat.zero_add, Nat.reduceAdd]
  repeat (first | (refine M0 ?_; first | refine SL ?_ | refine SB fun _ _ => ?_ | refine Y4 (Ev.load_old tok rfl rfl hl hc4) ?_ | refine Y4 (Ev.load_old tok rfl rfl (add_lt2 had) hroom) ?_ | refine Y4 (Ev.call (f := 41) (ck rfl) rfl (fun w S => cout_any _ _ _ w)) ?_) | (refine M1 ?_; first | refine SC ?_ | refine SD ?_) | (refine M2 ?_; refine SE ?_) | (refine M3 ?_; first | refine SG ?_ | refine SF ?_ | refine YF (Ev.load_old tok rfl rfl hl hc4) ?_ | refine YF (Ev.load_old tok rfl rfl (add_lt2 had) hroom) ?_ | refine YF (Ev.call (f := 41) (ck rfl) rfl (fun w S => cout_any _ _ _ w)) ?_) | (refine M4 ?_; refine SR ?_) | (refine M5 ?_; first | exact M7 | refine YM ?_ | refine YN ?_ ?_))
  refine XE.retg tok Tryz.results104 rfl (by simp only [and_self, and_true]) (fun w' S => ?_)
  exact ⟨rfl, S.toBelow⟩
set_option maxHeartbeats 4000000 in
theorem where_pure {f : FuncId} {cap : List Value} {P : Nat → Bool} {r : SV} {ms : List Int} {w : World} (hck : callOk Tryz.prog f = true) (hr : IntsAt w (Lt w.heap.size) r ms) (hn : ms.length ≤ 1000)
    (hc : ∀ k, k < ms.length → ∀ w', Below w.heap.size w w' → Calls Tryz.prog f ([] ++ [Value.int .i64 (k : Nat), Value.int .i64 (at0 ms k)] ++ cap).toArray w' fun e w'' => e = .returned (.bool (P k)) ∧ Below w'.heap.size w' w'') :
    Calls Tryz.prog 75 #[svV r, .func (.func f) #[] cap.toArray] w fun e w' => e = .returned (.int .i64 (idxB P ms.length)) ∧ Below w.heap.size w w' := by
  obtain ⟨A, n, c⟩ := r
  have hln := hr.len
  simp only at hln
  subst hln
  simp only [svV]
  refine enter Tryz.func75 rfl Tryz.ntmps75 rfl ?_; simp only [frame, Nat.zero_add, Nat.reduceAdd]
  repeat (first | (refine M0 ?_; first | refine SL ?_ | refine SB fun _ _ => ?_) | (refine M1 ?_; first | refine SC ?_ | refine SD ?_) | (refine M2 ?_; refine SE ?_) | (refine M3 ?_; first | refine SG ?_ | refine SF ?_) | (refine M4 ?_; refine SR ?_) | (refine M5 ?_; first | exact M7 | refine YM ?_ | refine YN ?_ ?_))
  refine XC.loopk [1, 7, 8] rfl (fun k : Nat => [(9, .int .i64 (k : Nat))]) (fun _ => []) (fun _ => w) (fun k => k ≤ ms.length ∧ ∀ j, j < k → P j = false) (fun k => ms.length - k) 0 ⟨Nat.zero_le _, fun j h => absurd h (by omega)⟩ ZZSUB (fun _ h => h) ?_
  rintro k ⟨hk, h0⟩
  dsimp only [List.cons_append, List.nil_append]
  repeat (first | (refine M0 ?_; first | refine SL ?_ | refine SB fun _ _ => ?_) | (refine M1 ?_; first | refine SC ?_ | refine SD ?_) | (refine M2 ?_; refine SE ?_) | (refine M3 ?_; first | refine SG ?_ | refine SF ?_) | (refine M4 ?_; refine SR ?_) | (refine M5 ?_; first | exact M7 | refine YM ?_ | refine YN ?_ ?_))
  refine XC.cond _ rfl (fun h3 => ?_) (fun h3 => ?_)
  · have hkn : k < ms.length := by simpa using h3
    obtain ⟨ad, rfl, hlt, hcells⟩ := hr.at_ (by omega)
    have hcell := hcells k hkn
    repeat (first | (refine M0 ?_; first | refine SL ?_ | refine SB fun _ _ => ?_ | refine Y4 (Ev.load_old tok rfl rfl (add_lt hlt) hcell) ?_ | refine Y4 (Ev.callv (f := f) (fst := []) (cap := cap) hck rfl rfl (fun w S => hc k hkn w S.toBelow)) ?_) | (refine M1 ?_; first | refine SC ?_ | refine SD ?_) | (refine M2 ?_; refine SE ?_) | (refine M3 ?_; first | refine SG ?_ | refine SF ?_ | refine YF (Ev.load_old tok rfl rfl (add_lt hlt) hcell) ?_ | refine YF (Ev.callv (f := f) (fst := []) (cap := cap) hck rfl rfl (fun w S => hc k hkn w S.toBelow)) ?_) | (refine M4 ?_; refine SR ?_) | (refine M5 ?_; first | exact M7 | refine YM ?_ | refine YN ?_ ?_))
    refine XC.cond _ rfl (fun h4 => ?_) (fun h4 => ?_)
    · repeat (first | (refine M0 ?_; first | refine SL ?_ | refine SB fun _ _ => ?_) | (refine M1 ?_; first | refine SC ?_ | refine SD ?_) | (refine M2 ?_; refine SE ?_) | (refine M3 ?_; first | refine SG ?_ | refine SF ?_) | (refine M4 ?_; refine SR ?_) | (refine M5 ?_; first | exact M7 | refine YM ?_ | refine YN ?_ ?_))
      refine XE.retg tok Tryz.results75 rfl (by simp only [and_self, and_true]) (fun w' S => ?_)
      unfold idxB
      rw [firstB_some.2 ⟨hkn, h4, h0⟩]
      exact ⟨rfl, S.toBelow⟩
    · repeat (first | (refine M0 ?_; first | refine SL ?_ | refine SB fun _ _ => ?_) | (refine M1 ?_; first | refine SC ?_ | refine SD ?_) | (refine M2 ?_; refine SE ?_) | (refine M3 ?_; first | refine SG ?_ | refine SF ?_) | (refine M4 ?_; refine SR ?_) | (refine M5 ?_; first | exact M7 | refine YM ?_ | refine YN ?_ ?_))
      refine XE.round (k + 1) ⟨hkn, fun j hj => ?_⟩ (by omega) ZZSUB (fun _ h => h)
      rcases Nat.lt_or_ge j k with h5 | h5
      · exact h0 j h5
      · have : j = k := by omega
        subst this
        exact h4
  · have hkn : ¬ k < ms.length := by simpa using h3
    repeat (first | (refine M0 ?_; first | refine SL ?_ | refine SB fun _ _ => ?_) | (refine M1 ?_; first | refine SC ?_ | refine SD ?_) | (refine M2 ?_; refine SE ?_) | (refine M3 ?_; first | refine SG ?_ | refine SF ?_) | (refine M4 ?_; refine SR ?_) | (refine M5 ?_; first | exact M7 | refine YM ?_ | refine YN ?_ ?_))
    refine XE.retg tok Tryz.results75 rfl (by simp only [and_self, and_true]) (fun w' S => ?_)
    unfold idxB
    rw [firstB_none.2 fun j hj => h0 j (by omega)]
    exact ⟨rfl, S.toBelow⟩
set_option maxHeartbeats 4000000 in
theorem idxC {f : FuncId} {cap : List Value} {P : Int → Bool} {r : SV} {ms : List Int} {w : World} (hck : callOk Tryz.prog f = true) (hr : IntsAt w (Lt w.heap.size) r ms) (hn : ms.length ≤ 1000)
    (hc : ∀ m, m ∈ ms → ∀ w', Below w.heap.size w w' → Calls Tryz.prog f ([] ++ [Value.int .i64 m] ++ cap).toArray w' fun e w'' => e = .returned (.bool (P m)) ∧ Below w'.heap.size w' w'') :
    Calls Tryz.prog 125 #[svV r, .func (.func f) #[] cap.toArray] w fun e w' => e = .returned (.int .i64 (idxL ms P)) ∧ Below w.heap.size w w' := by
  obtain ⟨A, n, c⟩ := r
  have hln := hr.len
  simp only at hln
  subst hln
  simp only [svV]
  refine enter Tryz.func125 rfl Tryz.ntmps125 rfl ?_; simp only [frame, Nat.zero_add, Nat.reduceAdd]
  repeat (first | (refine M0 ?_; first | refine SL ?_ | refine SB fun _ _ => ?_) | (refine M1 ?_; first | refine SC ?_ | refine SD ?_) | (refine M2 ?_; refine SE ?_) | (refine M3 ?_; first | refine SG ?_ | refine SF ?_) | (refine M4 ?_; refine SR ?_) | (refine M5 ?_; first | exact M7 | refine YM ?_ | refine YN ?_ ?_))
  refine XC.loopk [0, 1, 7] rfl (fun k : Nat => [(8, .int .i64 (k : Nat))]) (fun _ => []) (fun _ => w) (fun k => k ≤ ms.length ∧ ∀ j m, j < k → ms[j]? = some m → P m = false) (fun k => ms.length - k) 0 ⟨Nat.zero_le _, fun j m h => absurd h (by omega)⟩ ZZSUB (fun _ h => h) ?_
  rintro k ⟨hk, h0⟩
  dsimp only [List.cons_append, List.nil_append]
  repeat (first | (refine M0 ?_; first | refine SL ?_ | refine SB fun _ _ => ?_) | (refine M1 ?_; first | refine SC ?_ | refine SD ?_) | (refine M2 ?_; refine SE ?_) | (refine M3 ?_; first | refine SG ?_ | refine SF ?_) | (refine M4 ?_; refine SR ?_) | (refine M5 ?_; first | exact M7 | refine YM ?_ | refine YN ?_ ?_))
  refine XC.cond _ rfl (fun h3 => ?_) (fun h3 => ?_)
  · have hkn : k < ms.length := by simpa using h3
    obtain ⟨ad, rfl, hlt, hcells⟩ := hr.at_ (by omega)
    have hmk : ms[k]? = some ms[k] := List.getElem?_eq_getElem hkn
    have hcell := hcells k hkn
    rw [show at0 ms k = ms[k] by simp [at0, hkn]] at hcell
    repeat (first | (refine M0 ?_; first | refine SL ?_ | refine SB fun _ _ => ?_ | refine Y4 (Ev.load_old tok rfl rfl (add_lt hlt) hcell) ?_ | refine Y4 (Ev.callv (f := f) (fst := []) (cap := cap) hck rfl rfl (fun w S => hc _ (List.getElem_mem hkn) w S.toBelow)) ?_) | (refine M1 ?_; first | refine SC ?_ | refine SD ?_) | (refine M2 ?_; refine SE ?_) | (refine M3 ?_; first | refine SG ?_ | refine SF ?_ | refine YF (Ev.load_old tok rfl rfl (add_lt hlt) hcell) ?_ | refine YF (Ev.callv (f := f) (fst := []) (cap := cap) hck rfl rfl (fun w S => hc _ (List.getElem_mem hkn) w S.toBelow)) ?_) | (refine M4 ?_; refine SR ?_) | (refine M5 ?_; first | exact M7 | refine YM ?_ | refine YN ?_ ?_))
    refine XC.cond _ rfl (fun h4 => ?_) (fun h4 => ?_)
    · repeat (first | (refine M0 ?_; first | refine SL ?_ | refine SB fun _ _ => ?_) | (refine M1 ?_; first | refine SC ?_ | refine SD ?_) | (refine M2 ?_; refine SE ?_) | (refine M3 ?_; first | refine SG ?_ | refine SF ?_) | (refine M4 ?_; refine SR ?_) | (refine M5 ?_; first | exact M7 | refine YM ?_ | refine YN ?_ ?_))
      refine XE.retg tok Tryz.results125 rfl (by simp only [and_self, and_true]) (fun w' S => ?_)
      have : ms.findIdx? P = some k := by
        rw [List.findIdx?_eq_some_iff_getElem]
        exact ⟨hkn, h4, fun j hj => by simpa using h0 j _ hj (List.getElem?_eq_getElem (by omega))⟩
      unfold idxL
      rw [this]
      exact ⟨rfl, S.toBelow⟩
    · repeat (first | (refine M0 ?_; first | refine SL ?_ | refine SB fun _ _ => ?_) | (refine M1 ?_; first | refine SC ?_ | refine SD ?_) | (refine M2 ?_; refine SE ?_) | (refine M3 ?_; first | refine SG ?_ | refine SF ?_) | (refine M4 ?_; refine SR ?_) | (refine M5 ?_; first | exact M7 | refine YM ?_ | refine YN ?_ ?_))
      refine XE.round (k + 1) ⟨hkn, fun j m hj hm => ?_⟩ (by omega) ZZSUB (fun _ h => h)
      rcases Nat.lt_or_ge j k with h5 | h5
      · exact h0 j m h5 hm
      · have : j = k := by omega
        subst this
        rw [hmk] at hm
        cases hm
        exact h4
  · have hkn : ¬ k < ms.length := by simpa using h3
    repeat (first | (refine M0 ?_; first | refine SL ?_ | refine SB fun _ _ => ?_) | (refine M1 ?_; first | refine SC ?_ | refine SD ?_) | (refine M2 ?_; refine SE ?_) | (refine M3 ?_; first | refine SG ?_ | refine SF ?_) | (refine M4 ?_; refine SR ?_) | (refine M5 ?_; first | exact M7 | refine YM ?_ | refine YN ?_ ?_))
    refine XE.retg tok Tryz.results125 rfl (by simp only [and_self, and_true]) (fun w' S => ?_)
    have : ms.findIdx? P = none := by
      rw [List.findIdx?_eq_none_iff]
      intro m hm
      obtain ⟨j, hj, e⟩ := List.mem_iff_getElem.1 hm
      exact h0 j m (by omega) (by rw [List.getElem?_eq_getElem hj, e])
    unfold idxL
    rw [this]
    exact ⟨rfl, S.toBelow⟩
theorem contC {f : FuncId} {cap : List Value} {P : Int → Bool} {r : SV} {ms : List Int} {w : World} (hck : callOk Tryz.prog f = true) (hr : IntsAt w (Lt w.heap.size) r ms) (hn : ms.length ≤ 1000)
    (hc : ∀ m, m ∈ ms → ∀ w', Below w.heap.size w w' → Calls Tryz.prog f ([] ++ [Value.int .i64 m] ++ cap).toArray w' fun e w'' => e = .returned (.bool (P m)) ∧ Below w'.heap.size w' w'') :
    Calls Tryz.prog 102 #[svV r, .func (.func f) #[] cap.toArray] w fun e w' => e = .returned (.bool (ms.any P)) ∧ Below w.heap.size w w' := by
  obtain ⟨A, n, c⟩ := r
  simp only [svV]
  refine enter Tryz.func102 rfl Tryz.ntmps102 rfl ?_; simp only [frame, Nat.zero_add, Nat.reduceAdd]
  repeat (first | (refine M0 ?_; first | refine SL ?_ | refine SB fun _ _ => ?_ | refine Y4 (Ev.call (f := 125) (ck rfl) rfl (fun w5 S5 => (idxC (f := f) (cap := cap) (P := P) (r := ⟨A, n, c⟩) (ms := ms) hck (hr.arg S5) hn (fun m hm w' hb => hc m hm w' (S5.toBelow.trans (hb.mono S5.size))) :))) ?_) | (refine M1 ?_; first | refine SC ?_ | refine SD ?_) | (refine M2 ?_; refine SE ?_) | (refine M3 ?_; first | refine SG ?_ | refine SF ?_ | refine YF (Ev.call (f := 125) (ck rfl) rfl (fun w5 S5 => (idxC (f := f) (cap := cap) (P := P) (r := ⟨A, n, c⟩) (ms := ms) hck (hr.arg S5) hn (fun m hm w' hb => hc m hm w' (S5.toBelow.trans (hb.mono S5.size))) :))) ?_) | (refine M4 ?_; refine SR ?_) | (refine M5 ?_; first | exact M7 | refine YM ?_ | refine YN ?_ ?_))
  refine XE.retg tok Tryz.results102 rfl (by simp only [and_self, and_true]) (fun w' S => ?_)
  exact ⟨by rw [idxL_any]; rfl, S.toBelow⟩
end Go.Proofs.YtmpaiphakjogjaaGreat.X
namespace Go.Proofs.YtmpaiphakjogjaaGreat.Bs
open Go.Proofs.YtmpaiphakjogjaaGreat.X
structure PreA (t : CTk) : Prop where
  c : chkE t.b = 0
  m : outB t.m 1 8 = false
  n : outB t.n 1 60 = false
structure PreB (t : CTk) : Prop extends PreA t where
  h : ∀ j, j < t.m → hisErr t j = 0
section
variable {t : CTk}
theorem chkC_1 (h : chkE t.b ≠ 0) : chkC t = (1, 0, chkE t.b) := by unfold chkC; rw [if_pos h]
theorem chkC_2 (h : chkE t.b = 0) (h2 : (outB t.m 1 8 || outB t.n 1 60) = true) : chkC t = (2, 0, 3) := by unfold chkC; rw [if_neg (by simp [h]), if_pos h2]
theorem chkC_3 (p : PreA t) {i : Nat} (hi : i < t.m) (h0 : ∀ j, j < i → hisErr t j = 0) {e : Int} (h : hisErr t i = e) (he : e ≠ 0) : chkC t = (2, ((i : Nat) : Int), e) := by
  subst h
  unfold chkC
  rw [if_neg (by simp [p.c]), if_neg (by simp [p.m, p.n]), firstN_some hi h0 he]
variable (p : PreB t)
include p
theorem chkC_4 (h : t.river.length ≠ t.n) : chkC t = (3, 0, 2) := by
  unfold chkC
  rw [if_neg (by simp [p.c]), if_neg (by simp [p.m, p.n]), firstN_none p.h]
  simp only
  rw [if_pos h]
variable (h1 : t.river.length = t.n)
include h1
theorem chkC_5 (h : (t.river.any fun v => outB v 0 10000000) = true) : chkC t = (3, 0, 7) := by
  unfold chkC
  rw [if_neg (by simp [p.c]), if_neg (by simp [p.m, p.n]), firstN_none p.h]
  simp only
  rw [if_neg (by simp [h1]), if_pos h]
variable (h2 : (t.river.any fun v => outB v 0 10000000) = false)
include h2
theorem chkC_6 (h : t.fil.length ≠ t.b.pols.length) : chkC t = (4, 0, 2) := by
  unfold chkC
  rw [if_neg (by simp [p.c]), if_neg (by simp [p.m, p.n]), firstN_none p.h]
  simp only
  rw [if_neg (by simp [h1]), if_neg (by simp [h2]), if_pos h]
variable (h3 : t.fil.length = t.b.pols.length)
include h3
theorem chkC_7 (h : (outB t.out 0 10000000 || (outB t.limit (t.b.row 0).level 20000 || outB t.delay 0 30)) = true) : chkC t = (4, 0, 7) := by
  unfold chkC
  rw [if_neg (by simp [p.c]), if_neg (by simp [p.m, p.n]), firstN_none p.h]
  simp only
  rw [if_neg (by simp [h1]), if_neg (by simp [h2]), if_neg (by simp [h3]), if_pos h]
variable (h4 : (outB t.out 0 10000000 || (outB t.limit (t.b.row 0).level 20000 || outB t.delay 0 30)) = false)
include h4
theorem chkC_8 (h : filBad t = true) : chkC t = (4, 0, 7) := by
  unfold chkC
  rw [if_neg (by simp [p.c]), if_neg (by simp [p.m, p.n]), firstN_none p.h]
  simp only
  rw [if_neg (by simp [h1]), if_neg (by simp [h2]), if_neg (by simp [h3]), if_neg (by simp [h4]), if_pos h]
theorem chkC_9 (h : filBad t = false) : chkC t = (0, 0, 0) := by
  unfold chkC
  rw [if_neg (by simp [p.c]), if_neg (by simp [p.m, p.n]), firstN_none p.h]
  simp only
  rw [if_neg (by simp [h1]), if_neg (by simp [h2]), if_neg (by simp [h3]), if_neg (by simp [h4]), if_neg (by simp [h])]
end
theorem filBad_eq (t : CTk) : filBad t = (firstB (fun i => outB (at0 t.fil i) 0 (t.b.pol i).room) t.fil.length).isSome := by
  unfold filBad
  cases h : firstB (fun i => outB (at0 t.fil i) 0 (t.b.pol i).room) t.fil.length with
  | none =>
    have := firstB_none.1 h
    simp only [Option.isSome_none]
    rw [List.any_eq_false]
    intro i hi
    rw [this i (by simpa using hi)]; simp
  | some i =>
    obtain ⟨a1, a2, _⟩ := firstB_some.1 h
    simp only [Option.isSome_some]
    rw [List.any_eq_true]
    exact ⟨i, by simpa using a1, a2⟩
end Go.Proofs.YtmpaiphakjogjaaGreat.Bs
namespace Go.Proofs.YtmpaiphakjogjaaGreat.X
open Go Go.RowKit Go.Proofs.YtmpaiphakjogjaaGreat.Bs
noncomputable def chkCV (t : CTk) : Value := .tuple ⟨[.int .i64 (chkC t).1, .int .i64 (chkC t).2.1, .int .i64 (chkC t).2.2]⟩
theorem chkCV_of {t : CTk} {a b c : Int} (h : chkC t = (a, b, c)) : Ending.returned (.tuple ⟨[.int .i64 a, .int .i64 b, .int .i64 c]⟩) = .returned (chkCV t) := by unfold chkCV; rw [h]
set_option maxHeartbeats 16000000 in
theorem ctCheck_any {v : CTV} {t : CTk} {w : World} (h : CtAt w w.heap.size v t) :
    Calls Tryz.prog 85 #[ctkV v t] w fun e w' => e = .returned (chkCV t) ∧ Below w.heap.size w w' := by
  have hh := h
  have hm := h.hn
  have hmax := h.hmax
  have hrn := h.river.len
  have hfn := h.fil.len
  have hpn := h.bas.n2_eq
  have hrows := h.bas.n_eq
  have hbas := h.bas
  have hhis := fun k hk => h.hisAt (k := k) hk
  have hriv := h.river
  have hfil := h.fil
  obtain ⟨⟨A1, n1, c1, A2, n2, c2⟩, ⟨Af, nf, cf⟩, ⟨Ah, nh, ch⟩, ⟨Ar, nr, cr⟩⟩ := v
  simp only at hm hrn hfn hpn hrows hmax
  subst hm hrn hfn hpn hrows
  simp only [ctkV, ctkC]
  have hchk := fun (w5 : World) (hB : Below w.heap.size w w5) => check_any (p := ⟨A1, t.b.rows.length, c1, A2, t.b.pols.length, c2⟩) (b := t.b) w5 ((hbas.below hB).more hB.size)
  simp only [basV, basC] at hchk
  refine enter Tryz.func85 rfl Tryz.ntmps85 rfl ?_; simp only [frame, Nat.zero_add, Nat.reduceAdd]
  repeat (first | (refine M0 ?_; first | refine SL ?_ | refine SB fun _ _ => ?_ | refine Y4 (Ev.call (f := 100) (ck rfl) rfl (fun w5 S5 => hchk w5 S5.toBelow)) ?_) | (refine M1 ?_; refine SC ?_) | (refine M2 ?_; refine SE ?_))
  by_cases hc : chkE t.b = 0
  rotate_left
  · rw [show decide ((chk t.b).2.2 ≠ 0) = true from decide_eq_true hc]
    repeat (first | (refine M0 ?_; first | refine SL ?_ | refine SB fun _ _ => ?_) | (refine M1 ?_; refine SC ?_) | (refine M2 ?_; refine SE ?_))
    refine XE.retg tok Tryz.results85 rfl (by simp only [and_self, and_true]) (fun w' S => ?_)
    exact ⟨chkCV_of (chkC_1 hc), S.toBelow⟩
  rw [show decide ((chk t.b).2.2 ≠ 0) = false from decide_eq_false (fun h => h hc)]
  repeat (first | (refine M0 ?_; first | refine SL ?_ | refine SB fun _ _ => ?_ | refine Y4 (Ev.call (f := 41) (ck rfl) rfl (fun w S => cout_any _ _ _ w)) ?_) | (refine M1 ?_; refine SC ?_) | (refine M2 ?_; refine SE ?_))
  cases hm1 : outB (t.m : Int) 1 8
  rotate_left
  · repeat (first | (refine M0 ?_; first | refine SL ?_ | refine SB fun _ _ => ?_) | (refine M1 ?_; refine SC ?_) | (refine M2 ?_; refine SE ?_))
    refine XE.retg tok Tryz.results85 rfl (by simp only [and_self, and_true]) (fun w' S => ?_)
    exact ⟨chkCV_of (chkC_2 hc (by rw [hm1]; rfl)), S.toBelow⟩
  have hm2 := outB_f.1 hm1
  obtain ⟨ad, ⟨A0, n0, c0⟩, rfl, hlt, hcell0, hq0⟩ := hhis 0 (by omega)
  have hl0 := hq0.len
  have hn0 : n0 = t.n := hl0
  subst hn0
  have d01 : w.cell? ((ad.add (0 * 2)).add 1) = some (.slice A0 t.n c0) := hcell0 1 _ rfl
  repeat (first | (refine M0 ?_; first | refine SL ?_ | refine SB fun _ _ => ?_ | refine Y4 (Ev.load_old tok rfl rfl (add_lt2 hlt) d01) ?_ | refine Y4 (Ev.call (f := 41) (ck rfl) rfl (fun w S => cout_any _ _ _ w)) ?_) | (refine M1 ?_; refine SC ?_) | (refine M2 ?_; refine SE ?_))
  cases hn1 : outB (t.n : Int) 1 60
  rotate_left
  · repeat (first | (refine M0 ?_; first | refine SL ?_ | refine SB fun _ _ => ?_) | (refine M1 ?_; refine SC ?_) | (refine M2 ?_; refine SE ?_))
    refine XE.retg tok Tryz.results85 rfl (by simp only [and_self, and_true]) (fun w' S => ?_)
    exact ⟨chkCV_of (chkC_2 hc (by rw [hm1, hn1]; rfl)), S.toBelow⟩
  have hn2 := outB_f.1 hn1
  have pA : PreA t := ⟨hc, hm1, hn1⟩
  repeat (first | (refine M0 ?_; first | refine SL ?_ | refine SB fun _ _ => ?_ | refine Y4 (Ev.load_old_agg tok (hisC ⟨A0, t.n, c0⟩ (t.h 0)) rfl rfl rfl (add_lt hlt) hcell0) ?_) | (refine M1 ?_; refine SC ?_) | (refine M2 ?_; refine SE ?_))
  rename_i g1 hg1 g5 hg5
  refine XC.loopk [1, 5, 6, 7, 42, 43] rfl (fun k : Nat => [(44, .int .i64 (k : Nat))]) (fun _ => _) (fun _ => w) (fun k => k ≤ t.m ∧ ∀ j, j < k → hisErr t j = 0) (fun k => t.m - k) 0 ⟨Nat.zero_le _, fun j h => absurd h (by omega)⟩ ZZSUB (fun _ h => h) ?_
  rintro k ⟨hk, h0⟩
  dsimp only [List.cons_append, List.nil_append]
  repeat (first | (refine M0 ?_; first | refine SL ?_ | refine SB fun _ _ => ?_) | (refine M1 ?_; refine SC ?_) | (refine M2 ?_; refine SE ?_))
  refine XC.cond _ rfl (fun h3 => ?_) (fun h3 => ?_)
  · have hkn : k < t.m := by simpa using h3
    obtain ⟨ad', ⟨Ak, nk, ck1⟩, e, _, hck, hqk⟩ := hhis k hkn
    cases e
    have hlk := hqk.len
    simp only at hlk
    subst hlk
    repeat (first | (refine M0 ?_; first | refine SL ?_ | refine SB fun _ _ => ?_ | refine Y4 (Ev.load_old_agg tok (hisC ⟨Ak, (t.h k).vals.length, ck1⟩ (t.h k)) rfl rfl rfl (add_lt hlt) hck) ?_) | (refine M1 ?_; refine SC ?_) | (refine M2 ?_; refine SE ?_))
    rename_i g9 hg9
    by_cases hf : (t.h k).from_ = (t.h 0).from_
    rotate_left
    · rw [show decide ((t.h k).from_ ≠ (t.h 0).from_) = true from decide_eq_true hf]
      repeat (first | (refine M0 ?_; first | refine SL ?_ | refine SB fun _ _ => ?_) | (refine M1 ?_; refine SC ?_) | (refine M2 ?_; refine SE ?_))
      refine XE.retg tok Tryz.results85 rfl (by simp only [and_self, and_true]) (fun w' S => ?_)
      exact ⟨chkCV_of (chkC_3 pA hkn h0 (by unfold hisErr; rw [if_pos (.inl hf)]) (by decide)), S.toBelow⟩
    rw [show decide ((t.h k).from_ ≠ (t.h 0).from_) = false from decide_eq_false (fun h => h hf)]
    repeat (first | (refine M0 ?_; first | refine SL ?_ | refine SB fun _ _ => ?_) | (refine M1 ?_; refine SC ?_) | (refine M2 ?_; refine SE ?_))
    by_cases hl : (t.h k).vals.length = t.n
    rotate_left
    · rw [show decide (((t.h k).vals.length : Int) ≠ (t.n : Int)) = true from decide_eq_true (by omega)]
      repeat (first | (refine M0 ?_; first | refine SL ?_ | refine SB fun _ _ => ?_) | (refine M1 ?_; refine SC ?_) | (refine M2 ?_; refine SE ?_))
      refine XE.retg tok Tryz.results85 rfl (by simp only [and_self, and_true]) (fun w' S => ?_)
      exact ⟨chkCV_of (chkC_3 pA hkn h0 (by unfold hisErr; rw [if_pos (.inr hl)]) (by decide)), S.toBelow⟩
    rw [show decide (((t.h k).vals.length : Int) ≠ (t.n : Int)) = false from decide_eq_false (by omega)]
    repeat (first | (refine M0 ?_; first | refine SL ?_ | refine SB fun _ _ => ?_ | refine Y4 (Ev.call (f := 41) (ck rfl) rfl (fun w S => cout_any _ _ _ w)) ?_) | (refine M1 ?_; refine SC ?_) | (refine M2 ?_; refine SE ?_))
    have hneg : ¬ ((t.h k).from_ ≠ t.from_ ∨ (t.h k).vals.length ≠ t.n) := fun h => h.elim (fun h => h hf) (fun h => h hl)
    cases ho : outB (t.h k).from_ 0 (200000 - (t.n : Int) + 1)
    rotate_left
    · repeat (first | (refine M0 ?_; first | refine SL ?_ | refine SB fun _ _ => ?_) | (refine M1 ?_; refine SC ?_) | (refine M2 ?_; refine SE ?_))
      refine XE.retg tok Tryz.results85 rfl (by simp only [and_self, and_true]) (fun w' S => ?_)
      exact ⟨chkCV_of (chkC_3 pA hkn h0 (e := 7) (by unfold hisErr; rw [if_neg hneg, ho]; rfl) (by decide)), S.toBelow⟩
    repeat (first | (refine M0 ?_; first | refine SL ?_ | refine SB fun _ _ => ?_) | (refine M1 ?_; refine SC ?_) | (refine M2 ?_; refine SE ?_))
    refine XL.step _ (Ev.call (f := 102) (ck rfl) rfl (fun w5 S5 => (contC (f := 101) (cap := []) (P := highB) (r := ⟨Ak, (t.h k).vals.length, ck1⟩) (ms := (t.h k).vals) (ck rfl) (hqk.arg S5) (by omega) (fun m hm w' hb => cchk1_any m w') :))) rfl ?_
    cases ha : (t.h k).vals.any highB
    rotate_left
    · repeat (first | (refine M0 ?_; first | refine SL ?_ | refine SB fun _ _ => ?_) | (refine M1 ?_; refine SC ?_) | (refine M2 ?_; refine SE ?_))
      refine XE.retg tok Tryz.results85 rfl (by simp only [and_self, and_true]) (fun w' S => ?_)
      exact ⟨chkCV_of (chkC_3 pA hkn h0 (e := 7) (by unfold hisErr; rw [if_neg hneg, ho, ha]; rfl) (by decide)), S.toBelow⟩
    repeat (first | (refine M0 ?_; first | refine SL ?_ | refine SB fun _ _ => ?_) | (refine M1 ?_; refine SC ?_) | (refine M2 ?_; refine SE ?_))
    refine XE.round (k + 1) ⟨hkn, fun j hj => ?_⟩ (by omega) ZZSUB (fun _ h => h.pop (by assumption))
    rcases Nat.lt_or_ge j k with h5 | h5
    · exact h0 j h5
    · have : j = k := by omega
      subst this
      unfold hisErr; rw [if_neg hneg, ho, ha]; rfl
  have hkn : k = t.m := by have : ¬ k < t.m := by simpa using h3
                           omega
  subst hkn
  have pB : PreB t := ⟨pA, h0⟩
  repeat (first | (refine M0 ?_; first | refine SL ?_ | refine SB fun _ _ => ?_) | (refine M1 ?_; refine SC ?_) | (refine M2 ?_; refine SE ?_))
  by_cases hr : t.river.length = t.n
  rotate_left
  · rw [show decide ((t.river.length : Int) ≠ (t.n : Int)) = true from decide_eq_true (by omega)]
    repeat (first | (refine M0 ?_; first | refine SL ?_ | refine SB fun _ _ => ?_) | (refine M1 ?_; refine SC ?_) | (refine M2 ?_; refine SE ?_))
    refine XE.retg tok Tryz.results85 rfl (by simp only [and_self, and_true]) (fun w' S => ?_)
    exact ⟨chkCV_of (chkC_4 pB hr), S.toBelow⟩
  rw [show decide ((t.river.length : Int) ≠ (t.n : Int)) = false from decide_eq_false (by omega)]
  repeat (first | (refine M0 ?_; first | refine SL ?_ | refine SB fun _ _ => ?_) | (refine M1 ?_; refine SC ?_) | (refine M2 ?_; refine SE ?_))
  refine XL.step _ (Ev.call (f := 102) (ck rfl) rfl (fun w5 S5 => (contC (f := 103) (cap := []) (P := fun v => outB v 0 10000000) (r := ⟨Ar, t.river.length, cr⟩) (ms := t.river) (ck rfl) (hriv.arg S5) (by omega) (fun m hm w' hb => cchk2_any m w') :))) rfl ?_
  cases ha : t.river.any fun v => outB v 0 10000000
  rotate_left
  · repeat (first | (refine M0 ?_; first | refine SL ?_ | refine SB fun _ _ => ?_) | (refine M1 ?_; refine SC ?_) | (refine M2 ?_; refine SE ?_))
    refine XE.retg tok Tryz.results85 rfl (by simp only [and_self, and_true]) (fun w' S => ?_)
    exact ⟨chkCV_of (chkC_5 pB hr ha), S.toBelow⟩
  repeat (first | (refine M0 ?_; first | refine SL ?_ | refine SB fun _ _ => ?_) | (refine M1 ?_; refine SC ?_) | (refine M2 ?_; refine SE ?_))
  by_cases hfl : t.fil.length = t.b.pols.length
  rotate_left
  · rw [show decide ((t.fil.length : Int) ≠ (t.b.pols.length : Int)) = true from decide_eq_true (by omega)]
    repeat (first | (refine M0 ?_; first | refine SL ?_ | refine SB fun _ _ => ?_) | (refine M1 ?_; refine SC ?_) | (refine M2 ?_; refine SE ?_))
    refine XE.retg tok Tryz.results85 rfl (by simp only [and_self, and_true]) (fun w' S => ?_)
    exact ⟨chkCV_of (chkC_6 pB hr ha hfl), S.toBelow⟩
  rw [show decide ((t.fil.length : Int) ≠ (t.b.pols.length : Int)) = false from decide_eq_false (by omega)]
  repeat (first | (refine M0 ?_; first | refine SL ?_ | refine SB fun _ _ => ?_) | (refine M1 ?_; refine SC ?_) | (refine M2 ?_; refine SE ?_))
  have hOk := ok_of hc
  have hr2 := hOk.n2
  obtain ⟨ar, rfl, hltr⟩ := hbas.rows.addr (by simp only; omega)
  have dlev : w.cell? ((ar.add (0 * 2)).add 0) = some (.int .i64 (t.b.row 0).level) := hbas.rowLevel (by omega)
  obtain ⟨b1, hb1⟩ : ∃ b1, b1 = outB t.out 0 10000000 := ⟨_, rfl⟩
  obtain ⟨b2, hb2⟩ : ∃ b2, b2 = outB t.limit (t.b.row 0).level 20000 := ⟨_, rfl⟩
  obtain ⟨b3, hb3⟩ : ∃ b3, b3 = outB t.delay 0 30 := ⟨_, rfl⟩
  have f1 := fun w => cchk2_any t.out w
  rw [← hb1] at f1
  cases b1
  rotate_left
  · repeat (first | (refine M0 ?_; first | refine SL ?_ | refine SB fun _ _ => ?_) | (refine M1 ?_; refine SC ?_) | (refine M2 ?_; refine SE ?_))
    repeat (first | (refine M0 ?_; first | refine SL ?_ | refine SB fun _ _ => ?_ | refine Y4 (Ev.callv (f := 103) (fst := []) (cap := []) (vs := [.int .i64 t.out]) (ck rfl) rfl rfl (fun w S => f1 w)) ?_ | refine Y4 (Ev.call (f := 41) (ck rfl) rfl (fun w S => cout_any _ _ _ w)) ?_ | refine Y4 (Ev.load_old tok rfl rfl (add_lt2 hltr) dlev) ?_) | (refine M1 ?_; first | refine SC ?_ | refine SD ?_) | (refine M2 ?_; refine SE ?_) | (refine M3 ?_; first | refine SG ?_ | refine SF ?_ | refine YF (Ev.callv (f := 103) (fst := []) (cap := []) (vs := [.int .i64 t.out]) (ck rfl) rfl rfl (fun w S => f1 w)) ?_ | refine YF (Ev.call (f := 41) (ck rfl) rfl (fun w S => cout_any _ _ _ w)) ?_ | refine YF (Ev.load_old tok rfl rfl (add_lt2 hltr) dlev) ?_) | (refine M4 ?_; refine SR ?_) | (refine M5 ?_; first | exact M7 | refine YM ?_ | refine YN ?_ ?_))
    repeat (first | (refine M0 ?_; first | refine SL ?_ | refine SB fun _ _ => ?_) | (refine M1 ?_; refine SC ?_) | (refine M2 ?_; refine SE ?_))
    refine XE.retg tok Tryz.results85 rfl (by simp only [and_self, and_true]) (fun w' S => ?_)
    exact ⟨chkCV_of (chkC_7 pB hr ha hfl (by rw [← hb1]; rfl)), S.toBelow⟩
  cases b2
  rotate_left
  · repeat (first | (refine M0 ?_; first | refine SL ?_ | refine SB fun _ _ => ?_) | (refine M1 ?_; refine SC ?_) | (refine M2 ?_; refine SE ?_))
    repeat (first | (refine M0 ?_; first | refine SL ?_ | refine SB fun _ _ => ?_ | refine Y4 (Ev.callv (f := 103) (fst := []) (cap := []) (vs := [.int .i64 t.out]) (ck rfl) rfl rfl (fun w S => f1 w)) ?_ | refine Y4 (Ev.call (f := 41) (ck rfl) rfl (fun w S => cout_any _ _ _ w)) ?_ | refine Y4 (Ev.load_old tok rfl rfl (add_lt2 hltr) dlev) ?_) | (refine M1 ?_; first | refine SC ?_ | refine SD ?_) | (refine M2 ?_; refine SE ?_) | (refine M3 ?_; first | refine SG ?_ | refine SF ?_ | refine YF (Ev.callv (f := 103) (fst := []) (cap := []) (vs := [.int .i64 t.out]) (ck rfl) rfl rfl (fun w S => f1 w)) ?_ | refine YF (Ev.call (f := 41) (ck rfl) rfl (fun w S => cout_any _ _ _ w)) ?_ | refine YF (Ev.load_old tok rfl rfl (add_lt2 hltr) dlev) ?_) | (refine M4 ?_; refine SR ?_) | (refine M5 ?_; first | exact M7 | refine YM ?_ | refine YN ?_ ?_))
    rw [← hb2]
    repeat (first | (refine M0 ?_; first | refine SL ?_ | refine SB fun _ _ => ?_ | refine Y4 (Ev.callv (f := 103) (fst := []) (cap := []) (vs := [.int .i64 t.out]) (ck rfl) rfl rfl (fun w S => f1 w)) ?_ | refine Y4 (Ev.call (f := 41) (ck rfl) rfl (fun w S => cout_any _ _ _ w)) ?_ | refine Y4 (Ev.load_old tok rfl rfl (add_lt2 hltr) dlev) ?_) | (refine M1 ?_; first | refine SC ?_ | refine SD ?_) | (refine M2 ?_; refine SE ?_) | (refine M3 ?_; first | refine SG ?_ | refine SF ?_ | refine YF (Ev.callv (f := 103) (fst := []) (cap := []) (vs := [.int .i64 t.out]) (ck rfl) rfl rfl (fun w S => f1 w)) ?_ | refine YF (Ev.call (f := 41) (ck rfl) rfl (fun w S => cout_any _ _ _ w)) ?_ | refine YF (Ev.load_old tok rfl rfl (add_lt2 hltr) dlev) ?_) | (refine M4 ?_; refine SR ?_) | (refine M5 ?_; first | exact M7 | refine YM ?_ | refine YN ?_ ?_))
    repeat (first | (refine M0 ?_; first | refine SL ?_ | refine SB fun _ _ => ?_) | (refine M1 ?_; refine SC ?_) | (refine M2 ?_; refine SE ?_))
    refine XE.retg tok Tryz.results85 rfl (by simp only [and_self, and_true]) (fun w' S => ?_)
    exact ⟨chkCV_of (chkC_7 pB hr ha hfl (by rw [← hb1, ← hb2]; rfl)), S.toBelow⟩
  cases b3
  rotate_left
  · repeat (first | (refine M0 ?_; first | refine SL ?_ | refine SB fun _ _ => ?_) | (refine M1 ?_; refine SC ?_) | (refine M2 ?_; refine SE ?_))
    repeat (first | (refine M0 ?_; first | refine SL ?_ | refine SB fun _ _ => ?_ | refine Y4 (Ev.callv (f := 103) (fst := []) (cap := []) (vs := [.int .i64 t.out]) (ck rfl) rfl rfl (fun w S => f1 w)) ?_ | refine Y4 (Ev.call (f := 41) (ck rfl) rfl (fun w S => cout_any _ _ _ w)) ?_ | refine Y4 (Ev.load_old tok rfl rfl (add_lt2 hltr) dlev) ?_) | (refine M1 ?_; first | refine SC ?_ | refine SD ?_) | (refine M2 ?_; refine SE ?_) | (refine M3 ?_; first | refine SG ?_ | refine SF ?_ | refine YF (Ev.callv (f := 103) (fst := []) (cap := []) (vs := [.int .i64 t.out]) (ck rfl) rfl rfl (fun w S => f1 w)) ?_ | refine YF (Ev.call (f := 41) (ck rfl) rfl (fun w S => cout_any _ _ _ w)) ?_ | refine YF (Ev.load_old tok rfl rfl (add_lt2 hltr) dlev) ?_) | (refine M4 ?_; refine SR ?_) | (refine M5 ?_; first | exact M7 | refine YM ?_ | refine YN ?_ ?_))
    rw [← hb2]
    repeat (first | (refine M0 ?_; first | refine SL ?_ | refine SB fun _ _ => ?_ | refine Y4 (Ev.callv (f := 103) (fst := []) (cap := []) (vs := [.int .i64 t.out]) (ck rfl) rfl rfl (fun w S => f1 w)) ?_ | refine Y4 (Ev.call (f := 41) (ck rfl) rfl (fun w S => cout_any _ _ _ w)) ?_ | refine Y4 (Ev.load_old tok rfl rfl (add_lt2 hltr) dlev) ?_) | (refine M1 ?_; first | refine SC ?_ | refine SD ?_) | (refine M2 ?_; refine SE ?_) | (refine M3 ?_; first | refine SG ?_ | refine SF ?_ | refine YF (Ev.callv (f := 103) (fst := []) (cap := []) (vs := [.int .i64 t.out]) (ck rfl) rfl rfl (fun w S => f1 w)) ?_ | refine YF (Ev.call (f := 41) (ck rfl) rfl (fun w S => cout_any _ _ _ w)) ?_ | refine YF (Ev.load_old tok rfl rfl (add_lt2 hltr) dlev) ?_) | (refine M4 ?_; refine SR ?_) | (refine M5 ?_; first | exact M7 | refine YM ?_ | refine YN ?_ ?_))
    rw [← hb3]
    repeat (first | (refine M0 ?_; first | refine SL ?_ | refine SB fun _ _ => ?_) | (refine M1 ?_; refine SC ?_) | (refine M2 ?_; refine SE ?_))
    refine XE.retg tok Tryz.results85 rfl (by simp only [and_self, and_true]) (fun w' S => ?_)
    exact ⟨chkCV_of (chkC_7 pB hr ha hfl (by rw [← hb1, ← hb2, ← hb3]; rfl)), S.toBelow⟩
  have h7 : (outB t.out 0 10000000 || (outB t.limit (t.b.row 0).level 20000 || outB t.delay 0 30)) = false := by rw [← hb1, ← hb2, ← hb3]; rfl
  repeat (first | (refine M0 ?_; first | refine SL ?_ | refine SB fun _ _ => ?_) | (refine M1 ?_; refine SC ?_) | (refine M2 ?_; refine SE ?_))
  repeat (first | (refine M0 ?_; first | refine SL ?_ | refine SB fun _ _ => ?_ | refine Y4 (Ev.callv (f := 103) (fst := []) (cap := []) (vs := [.int .i64 t.out]) (ck rfl) rfl rfl (fun w S => f1 w)) ?_ | refine Y4 (Ev.call (f := 41) (ck rfl) rfl (fun w S => cout_any _ _ _ w)) ?_ | refine Y4 (Ev.load_old tok rfl rfl (add_lt2 hltr) dlev) ?_) | (refine M1 ?_; first | refine SC ?_ | refine SD ?_) | (refine M2 ?_; refine SE ?_) | (refine M3 ?_; first | refine SG ?_ | refine SF ?_ | refine YF (Ev.callv (f := 103) (fst := []) (cap := []) (vs := [.int .i64 t.out]) (ck rfl) rfl rfl (fun w S => f1 w)) ?_ | refine YF (Ev.call (f := 41) (ck rfl) rfl (fun w S => cout_any _ _ _ w)) ?_ | refine YF (Ev.load_old tok rfl rfl (add_lt2 hltr) dlev) ?_) | (refine M4 ?_; refine SR ?_) | (refine M5 ?_; first | exact M7 | refine YM ?_ | refine YN ?_ ?_))
  rw [← hb2]
  repeat (first | (refine M0 ?_; first | refine SL ?_ | refine SB fun _ _ => ?_ | refine Y4 (Ev.callv (f := 103) (fst := []) (cap := []) (vs := [.int .i64 t.out]) (ck rfl) rfl rfl (fun w S => f1 w)) ?_ | refine Y4 (Ev.call (f := 41) (ck rfl) rfl (fun w S => cout_any _ _ _ w)) ?_ | refine Y4 (Ev.load_old tok rfl rfl (add_lt2 hltr) dlev) ?_) | (refine M1 ?_; first | refine SC ?_ | refine SD ?_) | (refine M2 ?_; refine SE ?_) | (refine M3 ?_; first | refine SG ?_ | refine SF ?_ | refine YF (Ev.callv (f := 103) (fst := []) (cap := []) (vs := [.int .i64 t.out]) (ck rfl) rfl rfl (fun w S => f1 w)) ?_ | refine YF (Ev.call (f := 41) (ck rfl) rfl (fun w S => cout_any _ _ _ w)) ?_ | refine YF (Ev.load_old tok rfl rfl (add_lt2 hltr) dlev) ?_) | (refine M4 ?_; refine SR ?_) | (refine M5 ?_; first | exact M7 | refine YM ?_ | refine YN ?_ ?_))
  rw [← hb3]
  repeat (first | (refine M0 ?_; first | refine SL ?_ | refine SB fun _ _ => ?_) | (refine M1 ?_; refine SC ?_) | (refine M2 ?_; refine SE ?_))
  refine XL.step _ (Ev.makeFunc rfl rfl) rfl ?_
  have hwh := fun {L : Lo} (w5 : World) (S5 : Sys w.heap.size w L w5) (hg : (g1, cel 29 (ctkC ⟨⟨some ar, t.b.rows.length, c1, A2, t.b.pols.length, c2⟩, ⟨Af, t.fil.length, cf⟩, ⟨some ad, t.m, ch⟩, ⟨Ar, t.river.length, cr⟩⟩ t)) ∈ L) => where_pure (f := 104) (cap := [.pointer (some ⟨g1, 0, none⟩)]) (P := fun i => outB (at0 t.fil i) 0 (t.b.pol i).room) (r := ⟨Af, t.fil.length, cf⟩) (ms := t.fil) (w := w5) (ck rfl) (hfil.arg S5) (by have := hOk.m6; omega) (fun k hk w' hb => cchk3_any ((hb.block g1 (S5.lt hg)).trans (S5.own _ hg).2) ((hbas.below (S5.toBelow.trans (hb.mono (Nat.le_trans S5.base S5.size)))).more (Nat.le_trans (Nat.le_trans S5.base S5.size) hb.size)) (by omega))
  refine XL.step _ (Ev.call (f := 75) (ck rfl) rfl (fun w5 S5 => (hwh w5 S5 (.tail _ (.head _)) :))) rfl ?_
  repeat (first | (refine M0 ?_; first | refine SL ?_ | refine SB fun _ _ => ?_) | (refine M1 ?_; refine SC ?_) | (refine M2 ?_; refine SE ?_))
  rw [idxB_any, ← filBad_eq]
  cases hfb : filBad t
  · repeat (first | (refine M0 ?_; first | refine SL ?_ | refine SB fun _ _ => ?_) | (refine M1 ?_; refine SC ?_) | (refine M2 ?_; refine SE ?_))
    refine XE.retg tok Tryz.results85 rfl (by simp only [and_self, and_true]) (fun w' S => ?_)
    exact ⟨chkCV_of (chkC_9 pB hr ha hfl h7 hfb), S.toBelow⟩
  · repeat (first | (refine M0 ?_; first | refine SL ?_ | refine SB fun _ _ => ?_) | (refine M1 ?_; refine SC ?_) | (refine M2 ?_; refine SE ?_))
    refine XE.retg tok Tryz.results85 rfl (by simp only [and_self, and_true]) (fun w' S => ?_)
    exact ⟨chkCV_of (chkC_8 pB hr ha hfl h7 hfb), S.toBelow⟩
end Go.Proofs.YtmpaiphakjogjaaGreat.X
namespace Go.Proofs.YtmpaiphakjogjaaGreat.X
open Go Go.RowKit Go.Proofs.YtmpaiphakjogjaaGreat.Bs
section
variable {N : Nat} {B : Nat} {w0 : World} {ds : List Deferred} {F : Fr} {L : Lo} {pu : Prop} {dst : Option Tmp} {ty : TypeId} {p : String} {af : Array Edge} {gd : Option (Nat × Bool)}
theorem part_int5 (w : World) (cs : List Value) (o : Nat) (v : Value) (hv : cs[o]? = some v) : (part 3 ⟨cs⟩ o).run Tryz.prog w = .ok v w := by
  obtain ⟨h1, h2⟩ := isAgg_of_one (tab_ok tok.one (show lkG TB.one 3 = some () by rfl)) w
  simp [part, h2, hv]
theorem pln_eq (w : World) (a c b d : Int) : (Op.equalIn 10000 42 (.agg ⟨[.int .i64 a, .int .i64 c]⟩) (.agg ⟨[.int .i64 b, .int .i64 d]⟩)).run Tryz.prog w = .ok (decide (a = b) && decide (c = d)) w := by
  have hu := Tryz.underlying42
  have hf : Tryz.prog.underlying 42 = some (.struct (Tryz.prog.fieldsOf 42)) := by simp [Program.fieldsOf, hu]
  rw [run_equalIn_struct w 9999 42 _ _ hf (by kernel_rfl)]
  simp only [Program.fieldsOf, hu]
  simp only [Op.eqFields]
  have h1 := part_int5 w [.int .i64 a, .int .i64 c] 0 (.int .i64 a) rfl
  have h2 := part_int5 w [.int .i64 b, .int .i64 d] 0 (.int .i64 b) rfl
  have h3 := part_int5 w [.int .i64 a, .int .i64 c] 1 (.int .i64 c) rfl
  have h4 := part_int5 w [.int .i64 b, .int .i64 d] 1 (.int .i64 d) rfl
  have h5 := run_equalIn_int (P := Tryz.prog) w 9998 3 .i64 .i64 a b Tryz.underlying3
  have h6 := run_equalIn_int (P := Tryz.prog) w 9998 3 .i64 .i64 c d Tryz.underlying3
  simp [Sem.run_bind, h1, h2, h3, h4, h5, h6]
  by_cases e1 : a = b <;> by_cases e2 : c = d <;> simp [e1, e2, h3, h4, h6]
theorem Ev.plnNeq {x y : Operand} {u : TypeId} {a b c d : Int} (hx : evo F x = some (.agg ⟨[.int .i64 a, .int .i64 c]⟩)) (hy : evo F y = some (.agg ⟨[.int .i64 b, .int .i64 d]⟩)) :
    Ev Tryz.prog N B w0 ds pu F L ⟨dst, .binOp .neq 42 x y u, ty, p, af, gd⟩ (.bool (!(decide (a = b) && decide (c = d)))) := .of_run fun a' w hf hw => by
  have e1 := hf.eval hx
  have e2 := hf.eval hy
  have h1 := run_eqGuard_agg (P := Tryz.prog) w .neq 42 x y ⟨[.int .i64 a, .int .i64 c]⟩ ⟨[.int .i64 b, .int .i64 d]⟩ (by kernel_rfl)
  have h2 := run_neq_struct (P := Tryz.prog) w 42 ⟨[.int .i64 a, .int .i64 c]⟩ ⟨[.int .i64 b, .int .i64 d]⟩
  rw [pln_eq] at h2
  simp only [Result.andThen_ok] at h2
  simp [execOp, e1, e2, Sem.run_bind, h1, h2]
theorem Ev.plnEql {x y : Operand} {u : TypeId} {a b c d : Int} (hx : evo F x = some (.agg ⟨[.int .i64 a, .int .i64 c]⟩)) (hy : evo F y = some (.agg ⟨[.int .i64 b, .int .i64 d]⟩)) :
    Ev Tryz.prog N B w0 ds pu F L ⟨dst, .binOp .eql 42 x y u, ty, p, af, gd⟩ (.bool (decide (a = b) && decide (c = d))) := .of_run fun a' w hf hw => by
  have e1 := hf.eval hx
  have e2 := hf.eval hy
  have h1 := run_eqGuard_agg (P := Tryz.prog) w .eql 42 x y ⟨[.int .i64 a, .int .i64 c]⟩ ⟨[.int .i64 b, .int .i64 d]⟩ (by kernel_rfl)
  have h2 := run_eql_struct (P := Tryz.prog) w 42 ⟨[.int .i64 a, .int .i64 c]⟩ ⟨[.int .i64 b, .int .i64 d]⟩
  rw [pln_eq] at h2
  simp only [Result.andThen_ok] at h2
  simp [execOp, e1, e2, Sem.run_bind, h1, h2]
theorem pek_eq (w : World) (a c b d : Int) : (Op.equalIn 10000 68 (.agg ⟨[.int .i64 a, .int .i64 c]⟩) (.agg ⟨[.int .i64 b, .int .i64 d]⟩)).run Tryz.prog w = .ok (decide (a = b) && decide (c = d)) w := by
  have hu := Tryz.underlying68
  have hf : Tryz.prog.underlying 68 = some (.struct (Tryz.prog.fieldsOf 68)) := by simp [Program.fieldsOf, hu]
  rw [run_equalIn_struct w 9999 68 _ _ hf (by kernel_rfl)]
  simp only [Program.fieldsOf, hu]
  simp only [Op.eqFields]
  have h1 := part_int5 w [.int .i64 a, .int .i64 c] 0 (.int .i64 a) rfl
  have h2 := part_int5 w [.int .i64 b, .int .i64 d] 0 (.int .i64 b) rfl
  have h3 := part_int5 w [.int .i64 a, .int .i64 c] 1 (.int .i64 c) rfl
  have h4 := part_int5 w [.int .i64 b, .int .i64 d] 1 (.int .i64 d) rfl
  have h5 := run_equalIn_int (P := Tryz.prog) w 9998 3 .i64 .i64 a b Tryz.underlying3
  have h6 := run_equalIn_int (P := Tryz.prog) w 9998 3 .i64 .i64 c d Tryz.underlying3
  simp [Sem.run_bind, h1, h2, h3, h4, h5, h6]
  by_cases e1 : a = b <;> by_cases e2 : c = d <;> simp [e1, e2, h3, h4, h6]
theorem Ev.pekNeq {x y : Operand} {u : TypeId} {a b c d : Int} (hx : evo F x = some (.agg ⟨[.int .i64 a, .int .i64 c]⟩)) (hy : evo F y = some (.agg ⟨[.int .i64 b, .int .i64 d]⟩)) :
    Ev Tryz.prog N B w0 ds pu F L ⟨dst, .binOp .neq 68 x y u, ty, p, af, gd⟩ (.bool (!(decide (a = b) && decide (c = d)))) := .of_run fun a' w hf hw => by
  have e1 := hf.eval hx
  have e2 := hf.eval hy
  have h1 := run_eqGuard_agg (P := Tryz.prog) w .neq 68 x y ⟨[.int .i64 a, .int .i64 c]⟩ ⟨[.int .i64 b, .int .i64 d]⟩ (by kernel_rfl)
  have h2 := run_neq_struct (P := Tryz.prog) w 68 ⟨[.int .i64 a, .int .i64 c]⟩ ⟨[.int .i64 b, .int .i64 d]⟩
  rw [pek_eq] at h2
  simp only [Result.andThen_ok] at h2
  simp [execOp, e1, e2, Sem.run_bind, h1, h2]
theorem Ev.pekEql {x y : Operand} {u : TypeId} {a b c d : Int} (hx : evo F x = some (.agg ⟨[.int .i64 a, .int .i64 c]⟩)) (hy : evo F y = some (.agg ⟨[.int .i64 b, .int .i64 d]⟩)) :
    Ev Tryz.prog N B w0 ds pu F L ⟨dst, .binOp .eql 68 x y u, ty, p, af, gd⟩ (.bool (decide (a = b) && decide (c = d))) := .of_run fun a' w hf hw => by
  have e1 := hf.eval hx
  have e2 := hf.eval hy
  have h1 := run_eqGuard_agg (P := Tryz.prog) w .eql 68 x y ⟨[.int .i64 a, .int .i64 c]⟩ ⟨[.int .i64 b, .int .i64 d]⟩ (by kernel_rfl)
  have h2 := run_eql_struct (P := Tryz.prog) w 68 ⟨[.int .i64 a, .int .i64 c]⟩ ⟨[.int .i64 b, .int .i64 d]⟩
  rw [pek_eq] at h2
  simp only [Result.andThen_ok] at h2
  simp [execOp, e1, e2, Sem.run_bind, h1, h2]
end
end Go.Proofs.YtmpaiphakjogjaaGreat.X
namespace Go.Proofs.YtmpaiphakjogjaaGreat.X
open Go Go.RowKit Go.Proofs.YtmpaiphakjogjaaGreat.Bs
theorem Sys.toBelowG {B : Nat} {w0 w : World} {L : Lo} (h : Sys B w0 L w) (hL : ∀ e, e ∈ L → e.1 < w0.heap.size → w0.heap[e.1]? = some e.2) : Below w0.heap.size w0 w :=
  ⟨h.os, h.tape, h.output, h.size, fun k hk => by
    by_cases he : ∃ e, e ∈ L ∧ e.1 = k
    · obtain ⟨e, he, rfl⟩ := he
      rw [(h.own e he).2]
      exact (hL e he hk).symm
    · exact h.old k hk fun e h1 h2 => he ⟨e, h1, h2⟩⟩
theorem own1 {w0 : World} {g : Nat} {o : Obj} {L : Lo} (hg : w0.heap[g]? = some o) (hL : ∀ e, e ∈ L → e = (g, o) ∨ w0.heap.size ≤ e.1) : ∀ e, e ∈ L → e.1 < w0.heap.size → w0.heap[e.1]? = some e.2 := fun e he hlt => by
  rcases hL e he with rfl | h
  · exact hg
  · omega
theorem ZZO1 {p : Prop} (h : p := by (intro e he; repeat (first | (cases he; done) | (rcases List.mem_cons.1 he with rfl | he; · first | (left; rfl) | (right; assumption)))) <;> fail) : p := h
section
variable {v : CTV} {t : CTk} {g gm : Nat} {w : World}
theorem last_any (hg : w.heap[g]? = some (gamO v t gm)) (ho : CtOk t) :
    Calls Tryz.prog 74 #[.pointer (some ⟨g, 0, none⟩)] w fun e w' => e = .returned (.int .i64 t.last) ∧ Below w.heap.size w w' := by
  have h1 := ho.n60
  have h2 := ho.dly
  have S0 := Sys.start1 (B := 0) (Nat.zero_le g) hg
  simp only [gamO, gamC] at S0
  refine enterL Tryz.func74 rfl Tryz.ntmps74 rfl (S0) ?_; simp only [frame, Nat.zero_add, Nat.reduceAdd]
  refine XC.hint 0 0 ?_
  repeat (first | (refine M0 ?_; first | refine SL ?_ | refine SB fun _ _ => ?_) | (refine M1 ?_; first | refine SC ?_ | refine SD ?_) | (refine M2 ?_; refine SE ?_) | (refine M3 ?_; first | refine SG ?_ | refine SF ?_) | (refine M4 ?_; refine SR ?_) | (refine M5 ?_; first | exact M7 | refine YM ?_ | refine YN ?_ ?_))
  refine XE.retg tok Tryz.results74 rfl (by simp only [and_self, and_true]) (fun w' S => ?_)
  exact ⟨rfl, S.toBelowG (own1 hg ZZO1)⟩
theorem plan_any {i : Int} (hg : w.heap[g]? = some (gamO v t gm)) (ho : CtOk t) (hi : 0 ≤ i ∧ i ≤ 1000) :
    Calls Tryz.prog 33 #[.pointer (some ⟨g, 0, none⟩), .int .i64 i] w fun e w' => e = .returned (.agg ⟨[.int .i64 (t.plan i).close, .int .i64 (t.plan i).open_]⟩) ∧ Below w.heap.size w w' := by
  have h1 := ho.n60
  have h2 := ho.dly
  have h3 := ho.frm
  have h4 : t.q ≤ t.n := (qTo_spec t t.n).1
  have S0 := Sys.start1 (B := 0) (Nat.zero_le g) hg
  simp only [gamO, gamC] at S0
  refine enterL Tryz.func33 rfl Tryz.ntmps33 rfl (S0) ?_; simp only [frame, Nat.zero_add, Nat.reduceAdd]
  refine XC.hint 0 0 ?_
  repeat (first | (refine M0 ?_; first | refine SL ?_ | refine SB fun _ _ => ?_) | (refine M1 ?_; first | refine SC ?_ | refine SD ?_) | (refine M2 ?_; refine SE ?_) | (refine M3 ?_; first | refine SG ?_ | refine SF ?_) | (refine M4 ?_; refine SR ?_) | (refine M5 ?_; first | exact M7 | refine YM ?_ | refine YN ?_ ?_))
  refine XE.retg tok Tryz.results33 rfl (by simp only [and_self, and_true]) (fun w' S => ?_)
  exact ⟨rfl, S.toBelowG (own1 hg ZZO1)⟩
def plnV (p : CPl) : Value := .agg ⟨[.int .i64 p.close, .int .i64 p.open_]⟩
theorem plan_n {p : CPl} : decide (p ≠ nev) = (!(decide (p.close = -1) && decide (p.open_ = -1))) := by
  obtain ⟨c, o⟩ := p
  by_cases h1 : c = -1 <;> by_cases h2 : o = -1 <;> simp [nev, h1, h2]
set_option maxHeartbeats 4000000 in
theorem stranger_any {p : CPl} (hg : w.heap[g]? = some (gamO v t gm)) (ho : CtOk t) :
    Calls Tryz.prog 59 #[.pointer (some ⟨g, 0, none⟩), plnV p] w fun e w' => e = .returned (.bool (t.strange p)) ∧ Below w.heap.size w w' := by
  have h1 := ho.n60
  have h2 := ho.dly
  have h3 := ho.frm
  obtain ⟨c, o⟩ := p
  have S0 := Sys.start1 (B := 0) (Nat.zero_le g) hg
  have hla := fun {L : Lo} (w5 : World) (S5 : Sys 0 w L w5) (hm : (g, gamO v t gm) ∈ L) => last_any (v := v) (t := t) (gm := gm) (S5.own _ hm).2 ho
  have hl1 : -31 ≤ t.last ∧ t.last ≤ 60 := by unfold CTk.last; omega
  simp only [gamO, gamC] at S0
  simp only [plnV]
  unfold CTk.strange
  rw [plan_n]
  refine enterL Tryz.func59 rfl Tryz.ntmps59 rfl (S0) ?_; simp only [frame, Nat.zero_add, Nat.reduceAdd]
  refine XC.hint 0 0 ?_
  repeat (first | (refine M0 ?_; first | refine SL ?_ | refine SB fun _ _ => ?_ | refine Y4 (Ev.call (f := 46) (ck rfl) rfl (fun w S => nev_any w)) ?_ | refine Y4 (Ev.plnNeq rfl rfl) ?_) | (refine M1 ?_; first | refine SC ?_ | refine SD ?_) | (refine M2 ?_; refine SE ?_) | (refine M3 ?_; first | refine SG ?_ | refine SF ?_ | refine YF (Ev.call (f := 46) (ck rfl) rfl (fun w S => nev_any w)) ?_ | refine YF (Ev.plnNeq rfl rfl) ?_) | (refine M4 ?_; refine SR ?_) | (refine M5 ?_; first | exact M7 | refine YM ?_ | refine YN ?_ ?_))
  cases hb : !(decide (c = -1) && decide (o = -1))
  · repeat (first | (refine M0 ?_; first | refine SL ?_ | refine SB fun _ _ => ?_) | (refine M1 ?_; first | refine SC ?_ | refine SD ?_) | (refine M2 ?_; refine SE ?_) | (refine M3 ?_; first | refine SG ?_ | refine SF ?_) | (refine M4 ?_; refine SR ?_) | (refine M5 ?_; first | exact M7 | refine YM ?_ | refine YN ?_ ?_))
    refine XE.retg tok Tryz.results59 rfl (by simp only [and_self, and_true]) (fun w' S => ?_)
    exact ⟨rfl, S.toBelowG (own1 hg ZZO1)⟩
  repeat (first | (refine M0 ?_; first | refine SL ?_ | refine SB fun _ _ => ?_ | refine Y4 (Ev.call (f := 41) (ck rfl) rfl (fun w S => cout_any _ _ _ w)) ?_ | refine Y4 (Ev.call (f := 74) (ck rfl) rfl (fun w5 S5 => hla w5 S5 (.tail _ (.head _)))) ?_) | (refine M1 ?_; first | refine SC ?_ | refine SD ?_) | (refine M2 ?_; refine SE ?_) | (refine M3 ?_; first | refine SG ?_ | refine SF ?_ | refine YF (Ev.call (f := 41) (ck rfl) rfl (fun w S => cout_any _ _ _ w)) ?_ | refine YF (Ev.call (f := 74) (ck rfl) rfl (fun w5 S5 => hla w5 S5 (.tail _ (.head _)))) ?_) | (refine M4 ?_; refine SR ?_) | (refine M5 ?_; first | exact M7 | refine YM ?_ | refine YN ?_ ?_))
  cases hb2 : outB c t.from_ (t.from_ + t.last)
  rotate_left
  · repeat (first | (refine M0 ?_; first | refine SL ?_ | refine SB fun _ _ => ?_) | (refine M1 ?_; first | refine SC ?_ | refine SD ?_) | (refine M2 ?_; refine SE ?_) | (refine M3 ?_; first | refine SG ?_ | refine SF ?_) | (refine M4 ?_; refine SR ?_) | (refine M5 ?_; first | exact M7 | refine YM ?_ | refine YN ?_ ?_))
    refine XE.retg tok Tryz.results59 rfl (by simp only [and_self, and_true]) (fun w' S => ?_)
    exact ⟨rfl, S.toBelowG (own1 hg ZZO1)⟩
  have hc := outB_f.1 hb2
  repeat (first | (refine M0 ?_; first | refine SL ?_ | refine SB fun _ _ => ?_ | refine Y4 (Ev.call (f := 41) (ck rfl) rfl (fun w S => cout_any _ _ _ w)) ?_) | (refine M1 ?_; first | refine SC ?_ | refine SD ?_) | (refine M2 ?_; refine SE ?_) | (refine M3 ?_; first | refine SG ?_ | refine SF ?_ | refine YF (Ev.call (f := 41) (ck rfl) rfl (fun w S => cout_any _ _ _ w)) ?_) | (refine M4 ?_; refine SR ?_) | (refine M5 ?_; first | exact M7 | refine YM ?_ | refine YN ?_ ?_))
  refine XE.retg tok Tryz.results59 rfl (by simp only [and_self, and_true]) (fun w' S => ?_)
  exact ⟨rfl, S.toBelowG (own1 hg ZZO1)⟩
end
end Go.Proofs.YtmpaiphakjogjaaGreat.X
namespace Go.Proofs.YtmpaiphakjogjaaGreat.X
open Go Go.RowKit Go.Proofs.YtmpaiphakjogjaaGreat.Bs
def StepCV5 (b : Bas) (s : Sta) (t : Tick) (v : Value) (new : List Held) : Prop := ∃ q r : SV, v = .tuple ⟨[staV q (outS b s t), floV r (outF b s t), .int .i64 (stepE b s t)]⟩ ∧ new = [hInts q (outS b s t).fil, hInts r (outF b s t).taken]
theorem Step_made5 {p : BV} {b : Bas} {q : SV} {s : Sta} {t : Tick} {w : World} (hb : BasAt w w.heap.size p b) (hq : IntsAt w (Lt w.heap.size) q s.fil) (hc : chkE b = 0) (hs : StaOk b s) :
    Calls Tryz.prog 107 #[basV p b, staV q s, tickV t] w (Made w (StepCV5 b s t)) :=
  (Step_any (t := t) hb hq).mono fun e w' ⟨v, h1, ⟨q2, r2, h2, h3, h4, h5⟩⟩ => by
    obtain ⟨f1, f2, f3⟩ := full_0 (t := t) (staErr_ok hc hs)
    rw [f1, f2, f3] at h2
    rw [f2] at h3
    rw [f3] at h4
    exact ⟨v, _, h1, ⟨q2, r2, h2, rfl⟩, fun x hx => by
      rcases List.mem_cons.1 hx with rfl | hx
      · exact h3
      · rw [List.mem_singleton.1 hx]; exact h4, h5⟩
def RunR5 (t : CTk) (k s : Nat) (x : Value) (new : List Held) : Prop := ∃ q : SV, x = svV q ∧ new = [hInts q (t.vols k s (t.n - s))]
theorem RunE.later {t : CTk} {w w' : World} {b0 g gm : Nat} {ks : List Nat} {e : Value × Value} (hg : g ∈ gm :: ks) (hO : ∀ j, b0 ≤ j → j < w.heap.size → j ∉ [gm, g] → w'.heap[j]? = w.heap[j]?) (hsz : w.heap.size ≤ w'.heap.size) (h : RunE t w (Free w b0 (gm :: ks) []) e) : RunE t w' (Free w' b0 (gm :: ks) []) e := by
  obtain ⟨k, s, q, e1, e2, e3, e4, e5⟩ := h
  refine ⟨k, s, q, e1, e2, e3, e4, (e5.keep fun j hj => hO j hj.1 hj.2.1 fun hm => hj.2.2.1 ?_).mono fun j hj => ⟨hj.1, Nat.lt_of_lt_of_le hj.2.1 hsz, hj.2.2⟩⟩
  simp only [List.mem_cons, List.not_mem_nil, or_false] at hm
  rcases hm with rfl | rfl
  · exact .head _
  · exact hg
theorem GamR.of {t : CTk} {w w' : World} {b0 g gm k s : Nat} {ks : List Nat} {kvs kvs' : List (Value × Value)} {q : SV} (hg : g ∈ gm :: ks) (hB : Below b0 w w') (hO : (hOld2 b0 w [gm, g]).p w' fun _ => True) (hgg : w'.heap[g]? = w.heap[g]?)
    (hgm : w'.heap[gm]? = some (mapO kvs')) (hk : KeysOk Tryz.prog 149 kvs') (h3 : ∀ e, e ∈ kvs → RunE t w (Free w b0 (gm :: ks) []) e) (hE : ∀ e, e ∈ kvs' → e ∈ kvs ∨ RunE t w' (Free w' b0 (gm :: ks) []) e)
    (hq : IntsAt w' (Free w' b0 (gm :: ks) []) q (t.vols k s (t.n - s))) : GamR t b0 gm ks (RunR5 t k s) w (.returned (svV q)) w' := by
  refine ⟨_, _, rfl, ⟨q, rfl, rfl⟩, Since.of hB hO hgg, ⟨kvs', hgm, hk, fun e he => ?_⟩, fun y hy => by rw [List.mem_singleton.1 hy]; exact hq⟩
  rcases hE e he with h | h
  · exact (h3 e h).later hg (fun j h1 h2 h3 => (hO j h1 h2 h3).2) hB.size
  · exact h
theorem below_cell5 {B : Nat} {w w' : World} (h : Below B w w') {ad : Addr} (hb : ad.block < B) : w'.cell? ad = w.cell? ad := by unfold World.cell?; rw [h.block _ hb]
set_option maxHeartbeats 16000000 in
theorem crun_any {t : CTk} {v : CTV} {b0 g gm k s : Nat} {ks : List Nat} {w : World} (hG : Gam t v b0 g gm ks [] [] w) (ho : CtOk t) (hk : k < t.m) (hs : s < t.n) :
    Calls Tryz.prog 87 #[.pointer (some ⟨g, 0, none⟩), keyV k s] w (GamR t b0 gm ks (RunR5 t k s) w) := by
  obtain ⟨kvs, hm1, hm2, hm3⟩ := hG.memo
  have hne := hG.ne
  have hb0 := hG.fam.base
  have hgl := hG.lt g (List.mem_cons_of_mem _ hG.gin)
  have hml := hG.lt gm (.head _)
  have hggk : g ∈ gm :: ks := List.mem_cons_of_mem _ hG.gin
  have hmmk : gm ∈ gm :: ks := .head _
  have hT := hG.task
  have hkn : t.n ≤ 60 := ho.n60
  have hkey : ∃ l, keyOf Tryz.prog 149 (keyV k s) = some l := run_key (by have := ho.m8; omega) (by omega)
  have hgm : w.heap[g]? = some (gamO v t gm) := hG.game
  have S0 := Sys.start2 hG.bm hG.bg hm1 hgm (Ne.symm hne)
  obtain ⟨vp, vf, vh, vr⟩ := v
  simp only [gamO, gamC] at S0
  simp only [keyV, keyC]
  refine enterL Tryz.func87 rfl Tryz.ntmps87 rfl (S0) ?_; simp only [frame, Nat.zero_add, Nat.reduceAdd]
  refine XC.hint 0 0 ?_
  repeat (first | (refine M0 ?_; first | refine SL ?_ | refine SB fun _ _ => ?_) | (refine M1 ?_; refine SC ?_) | (refine M2 ?_; refine SE ?_))
  rename_i g3 hg3
  refine Or.elim (Classical.em (∃ vv, (keyV k s, vv) ∈ kvs)) (fun hfound => ?_) (fun hnone => ?_)
  · obtain ⟨vv, hv⟩ := hfound
    obtain ⟨k2, s2, q, e1, e2, _, _, hq⟩ := hm3 _ hv
    obtain ⟨rfl, rfl⟩ := keyV_inj e1
    simp only at e2
    subst e2
    simp only [svV] at hv
    repeat (first | (refine M0 ?_; first | refine SL ?_ | refine SB fun _ _ => ?_ | refine Y4 (Ev.lookupYes 1 (k := keyV k s) kvs run_law rfl rfl rfl Tryz.underlying82 hm2 hkey hv) ?_) | (refine M1 ?_; first | refine SC ?_ | refine SD ?_) | (refine M2 ?_; refine SE ?_) | (refine M3 ?_; first | refine SG ?_ | refine SF ?_ | refine YF (Ev.lookupYes 1 (k := keyV k s) kvs run_law rfl rfl rfl Tryz.underlying82 hm2 hkey hv) ?_) | (refine M4 ?_; refine SR ?_) | (refine M5 ?_; first | exact M7 | refine YM ?_ | refine YN ?_ ?_))
    refine XE.retg tok Tryz.results87 rfl (by simp only [and_self, and_true]) (fun w' S => ?_)
    have hF := (Fam.old2 (gs := [gm, g]) hb0).sys S ZZHL
    refine GamR.of hggk S.toBelow ((hOld2 b0 w [gm, g]).mono (hF.held _ (.head _)) fun _ _ => trivial) (((S.own (g, _) (.tail _ (.tail _ (.head _)))).2).trans hgm.symm) (S.own (gm, _) (.tail _ (.head _))).2 hm2 hm3 (fun e he => .inl he) ?_
    refine (hq.keep fun j hj => (hF.held _ (.head _) j hj.1 hj.2.1 fun hm => hj.2.2.1 ?_).2).mono fun j hj => ⟨hj.1, Nat.lt_of_lt_of_le hj.2.1 S.size, hj.2.2⟩
    simp only [List.mem_cons, List.not_mem_nil, or_false] at hm
    rcases hm with rfl | rfl
    · exact .head _
    · exact hggk
  have hnv : ∀ e, e ∈ kvs → e.1 ≠ keyV k s := fun e he h => hnone ⟨e.2, by rw [← h]; exact he⟩
  have hhn := hT.hn
  obtain ⟨ah, ⟨Ak, nk, ck1⟩, e1, hlth, hck, hqk⟩ := hT.hisAt hk
  have hlk := hqk.len
  simp only at hlk e1 hhn
  have hlen : (t.h k).vals.length = t.n := ho.len k hk
  rw [hlen] at hlk
  subst hlk
  obtain ⟨ak, rfl, hltk, hvk⟩ := hqk.at_ (by omega)
  have dh1 : w.cell? ((ah.add (k * 2)).add 1) = some (.slice (some ak) t.n ck1) := hck 1 _ rfl
  have dV : ∀ i, i < t.n → w.cell? (ak.add (i * 1)) = some (.int .i64 (t.v k i)) := fun i hi => hvk i (by rw [hlen]; exact hi)
  have hbas := hT.bas
  have hrows := hbas.n_eq
  obtain ⟨A1, n1, c1, A2, n2, c2⟩ := vp
  simp only at hrows hbas
  subst hrows
  have hr2 := ho.ok.n2
  obtain ⟨ab, rfl, hltb⟩ := hbas.rows.addr (by simp only; omega)
  have dlev : w.cell? ((ab.add (0 * 2)).add 0) = some (.int .i64 (t.b.row 0).level) := hbas.rowLevel (by omega)
  have hriv := hT.river
  have hrn := hriv.len
  obtain ⟨Ar, nr, cr⟩ := vr
  simp only at hrn hriv
  have hrl : t.river.length = t.n := ho.river
  rw [hrl] at hrn
  subst hrn
  obtain ⟨ar, rfl, hltr, hrv⟩ := hriv.at_ (by omega)
  have dR : ∀ i, i < t.n → w.cell? (ar.add (i * 1)) = some (.int .i64 (at0 t.river i)) := fun i hi => hrv i (by omega)
  obtain ⟨Ah, nh, ch⟩ := vh
  simp only at e1 hhn
  subst e1 hhn
  obtain ⟨Af, nf, cf⟩ := vf
  have hfil := hT.fil
  simp only at hfil
  have hvol := fun {L : Lo} {W : World} (w5 : World) (hBW : Below b0 w W) (S5 : Sys b0 W L w5) => Volume_any (p := ⟨some ab, t.b.rows.length, c1, A2, n2, c2⟩) (b := t.b) (l := max (t.v k s) (t.b.row 0).level) (w := w5) ((hbas.below (hBW.trans S5.toBelow)).more (Nat.le_trans S5.base S5.size))
  have hv0 : volN t.b (max (t.v k s) (t.b.row 0).level) = t.vol0 k s := (vol_0 ho.chk (outB_f.2 (by have := ho.val k s hk hs; have := ho.lim; omega))).2
  rw [hv0] at hvol
  simp only [basV, basC] at hvol
  simp only [svV]
  repeat (first | (refine M0 ?_; first | refine SL ?_ | refine SB fun _ _ => ?_ | refine Y4 (Ev.lookupNo tok 1 (k := keyV k s) kvs run_law rfl rfl rfl Tryz.underlying82 rfl hm2 hkey hnv) ?_ | refine Y4 (Ev.load_old tok rfl rfl (add_lt2 hlth) dh1) ?_ | refine Y4 (Ev.load_old tok rfl rfl (add_lt hltk) (dV s hs)) ?_ | refine Y4 (Ev.load_old tok rfl rfl (add_lt2 hltb) dlev) ?_ | refine Y4 (Ev.call (f := 106) (ck rfl) rfl (fun w5 S5 => hvol w5 (Below.refl _ _) S5)) ?_) | (refine M1 ?_; first | refine SC ?_ | refine SD ?_) | (refine M2 ?_; refine SE ?_) | (refine M3 ?_; first | refine SG ?_ | refine SF ?_ | refine YF (Ev.lookupNo tok 1 (k := keyV k s) kvs run_law rfl rfl rfl Tryz.underlying82 rfl hm2 hkey hnv) ?_ | refine YF (Ev.load_old tok rfl rfl (add_lt2 hlth) dh1) ?_ | refine YF (Ev.load_old tok rfl rfl (add_lt hltk) (dV s hs)) ?_ | refine YF (Ev.load_old tok rfl rfl (add_lt2 hltb) dlev) ?_ | refine YF (Ev.call (f := 106) (ck rfl) rfl (fun w5 S5 => hvol w5 (Below.refl _ _) S5)) ?_) | (refine M4 ?_; refine SR ?_) | (refine M5 ?_; first | exact M7 | refine YM ?_ | refine YN ?_ ?_))
  have hF0 := Fam.old2 (w := w) (gs := [gm, g]) hb0
  have hk0 : ∀ x, x ∈ [gm, g] → x < w.heap.size := fun x hx => by
    simp only [List.mem_cons, List.not_mem_nil, or_false] at hx
    rcases hx with rfl | rfl <;> assumption
  refine XL.newRow tok (K := intK5) (l := [t.vol0 k s]) (rs := []) (hs := [hOld2 b0 w [gm, g]]) (wE := w) rfl rfl rfl rfl rfl rfl rfl rfl rfl ⟨rfl, rfl⟩ rfl rfl hF0 hk0 (Below.refl _ _) hb0 (fun a _ x hx => by cases hx) (fun w1 gr hF1 hB1 hk1 => ?_) ZZHL
  repeat (first | (refine M0 ?_; first | refine SL ?_ | refine SB fun _ _ => ?_) | (refine M2 ?_; refine SE ?_) | (refine M3 ?_; first | refine SG ?_ | refine SF ?_) | (refine M4 ?_; refine SR ?_) | (refine M5 ?_; first | exact M7 | refine YM ?_ | refine YN ?_ ?_))
  rename_i g10 hg10
  refine XC.seq (XC.seq (XC.region ?_))
  repeat (first | (refine M0 ?_; first | refine SL ?_ | refine SB fun _ _ => ?_) | (refine M2 ?_; refine SE ?_) | (refine M3 ?_; first | refine SG ?_ | refine SF ?_) | (refine M4 ?_; refine SR ?_) | (refine M5 ?_; first | exact M7 | refine YM ?_ | refine YN ?_ ?_))
  refine XC.cutn [0, 3] rfl (fun z : World × SV => [(11, svV z.2)]) (fun z => [(g3, cel 149 (keyC k s)), (gm, mapO kvs), (g, cel 84 (gamC ⟨⟨some ab, t.b.rows.length, c1, A2, n2, c2⟩, ⟨Af, nf, cf⟩, ⟨some ah, t.m, ch⟩, ⟨some ar, t.n, cr⟩⟩ t gm))]) (fun z => z.1) (fun z => Below b0 w z.1 ∧ Fam z.1 b0 [g3, gm, g] [⟨Int, intK5, svV z.2, t.vols k s (t.n - s)⟩] [hOld2 b0 w [gm, g]] ∧ ∀ x, x ∈ [g3, gm, g] → x < z.1.heap.size) ?_ ?_
  · repeat (first | (refine M0 ?_; first | refine SL ?_ | refine SB fun _ _ => ?_) | (refine M1 ?_; refine SC ?_) | (refine M2 ?_; refine SE ?_))
    refine XC.rebase (List.Sublist.refl _) (fun W0 S0' => ?_)
    have hF2 : Fam W0 b0 [g10, g3, gm, g] [⟨Int, intK5, svV ⟨some ⟨gr, 0, none⟩, 1, 1⟩, t.vols k s (s - s + 1)⟩] [hOld2 b0 w [gm, g], hIntsO w b0 ⟨Af, nf, cf⟩ t.fil] := by
      have e1 : t.vols k s (s - s + 1) = [t.vol0 k s] := by rw [Nat.sub_self]; simp [CTk.vols, CTk.rs, List.range_succ]
      rw [e1]
      have h1 := (hF1.add (ks' := [g10, g3, gm, g]) (fun x hx => by
        rcases List.mem_cons.1 hx with rfl | hx
        · exact .inr hg10
        · left
          simp only [List.mem_cons, List.not_mem_nil, or_false] at hx
          simp only [List.map_cons, List.map_nil, List.mem_append, List.mem_cons, List.not_mem_nil, or_false]
          omega)).hold (x := hIntsO w b0 ⟨Af, nf, cf⟩ t.fil) (ok := fun _ => False) (.inl hfil) (fun j hj => hj.elim)
      exact Fam.forget (h1.sys S0' ZZHL) (fun x hx => by simp only [List.mem_cons, List.not_mem_nil, or_false] at hx ⊢; rcases hx with rfl | rfl <;> simp)
    refine XC.loopk [0, 3, 7, 10] rfl (fun z : Nat × World × SV × Sta × SV => [(11, svV z.2.2.1), (12, .int .i64 (z.1 : Nat))]) (fun z => [(g10, cel 153 (staC z.2.2.2.2 z.2.2.2.1)), (g3, cel 149 (keyC k s)), (gm, mapO kvs), (g, cel 84 (gamC ⟨⟨some ab, t.b.rows.length, c1, A2, n2, c2⟩, ⟨Af, nf, cf⟩, ⟨some ah, t.m, ch⟩, ⟨some ar, t.n, cr⟩⟩ t gm))]) (fun z => z.2.1)
      (fun z => s ≤ z.1 ∧ z.1 < t.n ∧ t.rs k s (z.1 - s) = some z.2.2.2.1 ∧ Below b0 w z.2.1 ∧ Fam z.2.1 b0 [g10, g3, gm, g] [⟨Int, intK5, svV z.2.2.1, t.vols k s (z.1 - s + 1)⟩] [hOld2 b0 w [gm, g], hIntsO w b0 z.2.2.2.2 z.2.2.2.1.fil] ∧ ∀ x, x ∈ [g10, g3, gm, g] → x < z.2.1.heap.size)
      (fun z => t.n - z.1) (s, W0, ⟨some ⟨gr, 0, none⟩, 1, 1⟩, ⟨t.vol0 k s, t.fil⟩, ⟨Af, nf, cf⟩) ⟨Nat.le_refl _, hs, by rw [Nat.sub_self]; rfl, hB1.trans S0'.toBelow, hF2, fun x hx => S0'.keyLt x hx⟩ ZZSUB (fun _ h => h) ?_
    rintro ⟨i, W, ⟨rA, rn, rc⟩, st, ⟨qA, qn, qc⟩⟩ ⟨h1, h2, h3, h4, h5, h6⟩
    simp only at h1 h2 h3 h4 h5 h6
    simp only [svV, staC, keyC, gamC]
    dsimp only [List.cons_append, List.nil_append]
    repeat (first | (refine M0 ?_; first | refine SL ?_ | refine SB fun _ _ => ?_) | (refine M1 ?_; refine SC ?_) | (refine M2 ?_; refine SE ?_))
    have hcell {j : Nat} (hj : j < t.n) := (below_cell5 h4 (ad := ak.add (j * 1)) (add_lt hltk)).trans (dV j hj)
    have hcellR {j : Nat} (hj : j < t.n) := (below_cell5 h4 (ad := ar.add (j * 1)) (add_lt hltr)).trans (dR j hj)
    refine XC.cond _ rfl (fun h7 => ?_) (fun h7 => ?_)
    rotate_left
    · have h8 : i + 1 = t.n := by have := of_decide_eq_false h7; omega
      repeat (first | (refine M0 ?_; first | refine SL ?_ | refine SB fun _ _ => ?_) | (refine M1 ?_; refine SC ?_) | (refine M2 ?_; refine SE ?_))
      refine XE.leafW (fun w9 S9 => ⟨(w9, ⟨rA, rn, rc⟩), ⟨h4.trans S9.toBelow, ?_, fun x hx => S9.keyLt x (List.mem_cons_of_mem _ hx)⟩, ZZSUB, S9.rebase ZZSM⟩)
      rw [show t.n - s = i - s + 1 by omega]
      exact Fam.forget ((h5.sys S9 ZZHL).add (fun x hx => .inl (List.mem_cons_of_mem _ hx))) (fun x hx => by rw [List.mem_singleton.1 hx]; exact .head _)
    have h8 : i + 1 < t.n := by have := of_decide_eq_true h7; omega
    have hst := rs_ok ho hk hs h3
    have hstep := fun (w5 : World) (hB : Below b0 w w5) (hw : b0 ≤ w5.heap.size) (hq : IntsAt w5 (Lt w5.heap.size) ⟨qA, qn, qc⟩ st.fil) => Step_made5 (t := t.tick k i) (p := ⟨some ab, t.b.rows.length, c1, A2, n2, c2⟩) (w := w5) ((hbas.below hB).more hw) hq ho.chk hst
    simp only [basV, basC, staV, staC, tickV, tickC, CTk.tick] at hstep
    repeat (first | (refine M0 ?_; first | refine SL ?_ | refine SB fun _ _ => ?_) | (refine M1 ?_; refine SC ?_) | (refine M2 ?_; refine SE ?_))
    refine XC.cutn [0, 3, 7, 10, 11, 12] rfl (fun z : World × Nat × SV => [(13, .pointer (some ⟨z.2.1, 0, none⟩)), (15, .int .i64 (stepE t.b st (t.tick k i)))]) (fun z => [(z.2.1, cel 153 (staC z.2.2 (outS t.b st (t.tick k i)))), (g10, cel 153 (staC ⟨qA, qn, qc⟩ st)), (g3, cel 149 (keyC k s)), (gm, mapO kvs), (g, cel 84 (gamC ⟨⟨some ab, t.b.rows.length, c1, A2, n2, c2⟩, ⟨Af, nf, cf⟩, ⟨some ah, t.m, ch⟩, ⟨some ar, t.n, cr⟩⟩ t gm))]) (fun z => z.1)
      (fun z => Below b0 w z.1 ∧ Fam z.1 b0 [z.2.1, g10, g3, gm, g] [⟨Int, intK5, svV ⟨rA, rn, rc⟩, t.vols k s (i - s + 1)⟩] [hInts z.2.2 (outS t.b st (t.tick k i)).fil, hOld2 b0 w [gm, g]] ∧ ∀ x, x ∈ [z.2.1, g10, g3, gm, g] → x < z.1.heap.size) ?_ ?_
    · refine XC.drawR _ [0, 1, 2, 3, 4, 5, 6, 7, 8, 9, 10, 11, 12, 13, 14, 15, 16, 17, 18, 19, 20, 21, 22, 23] [24, 25, 26, 27, 28, 29, 30, 31, 32, 33] mixed (fun _ h => h) rfl (by kernel_rfl) ?_
      repeat (any_goals (first | (refine M0 ?_; first | refine SL ?_ | refine SB fun _ _ => ?_ | refine Y4 (Ev.load_old tok rfl rfl (add_lt hltk) (hcell h2)) ?_ | refine Y4 (Ev.load_old tok rfl rfl (add_lt hltr) (hcellR h2)) ?_ | (refine XL.at_call 107 ?_; refine XL.callFW (wE := w) (StepCV5 t.b st (t.tick k i)) (ck rfl) rfl rfl h5 h6 h4 (fun w5 S5 hF5 hB5 => hstep w5 hB5 (Nat.le_trans S5.base S5.size) (hIntsO.at_ (hF5.held (hIntsO w b0 ⟨qA, qn, qc⟩ st.fil) (.tail _ (.head _))) hB5 (Nat.le_trans S5.base S5.size) (fun j hj => hj.2.1))) (fun w2 x new hR hF2 hB2 hk2 S2 => ?_); obtain ⟨q2, r2, rfl, rfl⟩ := hR; simp only [staV, staC, floV, floC]; have hz2 := S2.size; try have S3 := S2.pop (by assumption); try have S4 := S3.pop (by assumption))) | (refine M1 ?_; refine SC ?_) | (refine M2 ?_; first | refine SE ?_ | refine z5 ?_ | refine z6 ?_) | (refine M3 ?_; first | refine SG ?_ | refine SF ?_ | refine YF (Ev.load_old tok rfl rfl (add_lt hltk) (hcell h2)) ?_ | refine YF (Ev.load_old tok rfl rfl (add_lt hltr) (hcellR h2)) ?_) | (refine M4 ?_; refine SR ?_) | (refine M5 ?_; first | exact M7 | refine YM ?_ | refine YN ?_ ?_)))
      any_goals (repeat (first | exact AnyR.nil | refine AnyR.skip rfl ?_))
      all_goals
        refine XE.leafW (fun w9 S9 => ?_)
        apply Exists.intro (w9, _, q2)
        refine ⟨?pre, ?sub, ?sys⟩
        case sub => repeat (first | exact Sub.nil | refine Sub.cons rfl ?_)
        case sys => exact S9.rebase ZZSM
        case pre => exact ⟨Below.trans (by assumption) S9.toBelow, Fam.forget (Fam.add (Fam.atEnd (by assumption) S9 ZZHL) (fun k hk => by left; simp only [List.mem_cons, List.not_mem_nil, or_false] at hk; simp only [List.map_cons, List.map_nil, List.mem_append, List.mem_cons, List.not_mem_nil, or_false]; omega)) (fun x hx => by simp only [List.mem_cons, List.not_mem_nil, or_false] at hx; rcases hx with rfl | rfl <;> simp), fun k hk => S9.keyLt k (by simp only [List.map_cons, List.map_nil, List.mem_cons, List.not_mem_nil, or_false] at hk ⊢; omega)⟩
    rintro ⟨W2, g13, ⟨q2A, q2n, q2c⟩⟩ ⟨hB2, hF2, hk2⟩
    simp only at hB2 hF2 hk2
    simp only [svV, staC, keyC, gamC]
    dsimp only [List.cons_append, List.nil_append]
    refine XC.hint 13 4 (XC.hint 10 3 (XC.hint 3 2 (XC.hint 0 0 ?_)))
    have hne1 : i - s + 1 = i + 1 - s := by omega
    have hrs1 : t.rs k s (i + 1 - s) = if stepE t.b st (t.tick k i) = 0 then some (outS t.b st (t.tick k i)) else none := by
      rw [← hne1]
      simp only [CTk.rs, h3]
      rw [show s + (i - s) = i by omega]
    obtain ⟨E, hE⟩ : ∃ E, E = stepE t.b st (t.tick k i) := ⟨_, rfl⟩
    rw [← hE]
    by_cases hE0 : E = 0
    rotate_left
    · repeat (first | (refine M0 ?_; first | refine SL ?_ | refine SB fun _ _ => ?_) | (refine M1 ?_; refine SC ?_) | (refine M2 ?_; refine SE ?_))
      rw [show decide (E ≠ 0) = true from decide_eq_true hE0]
      repeat (first | (refine M0 ?_; first | refine SL ?_ | refine SB fun _ _ => ?_) | (refine M1 ?_; refine SC ?_) | (refine M2 ?_; refine SE ?_))
      refine XE.leafW (fun w9 S9 => ⟨(w9, ⟨rA, rn, rc⟩), ⟨hB2.trans S9.toBelow, ?_, fun x hx => S9.keyLt x (List.mem_cons_of_mem _ (List.mem_cons_of_mem _ hx))⟩, ZZSUB, S9.rebase ZZSM⟩)
      rw [if_neg (by rw [← hE]; exact hE0), ← hne1] at hrs1
      rw [vols_stop hrs1 (by omega)]
      exact Fam.forget ((hF2.sys S9 ZZHL).add (fun x hx => .inl (List.mem_cons_of_mem _ (List.mem_cons_of_mem _ hx)))) (fun x hx => by rw [List.mem_singleton.1 hx]; exact .tail _ (.head _))
    have hE1 : stepE t.b st (t.tick k i) = 0 := by rw [← hE]; exact hE0
    rw [if_pos hE1] at hrs1
    obtain ⟨so, hso⟩ : ∃ so, so = outS t.b st (t.tick k i) := ⟨_, rfl⟩
    rw [← hso] at hF2 hrs1 ⊢
    have hlr : (t.vols k s (i - s + 1)).length ≤ 100 := by have := @vols_le t k s (i - s + 1); omega
    have hvs : t.vols k s (i - s + 1) ++ [so.vol] = t.vols k s (i + 1 - s + 1) := by
      rw [vols_succ t k s (i + 1 - s), hrs1, hne1]; rfl
    obtain ⟨lv, hlv⟩ : ∃ lv, lv = t.vols k s (i - s + 1) := ⟨_, rfl⟩
    rw [← hlv] at hF2 hlr hvs
    obtain ⟨sv, hsv⟩ : ∃ sv, sv = so.vol := ⟨_, rfl⟩
    rw [← hsv] at hvs ⊢
    repeat (first | (refine M0 ?_; first | refine SL ?_ | refine SB fun _ _ => ?_) | (refine M1 ?_; refine SC ?_) | (refine M2 ?_; refine SE ?_))
    rw [show decide (E ≠ 0) = false from decide_eq_false (fun h => h hE0)]
    repeat (first | (refine M0 ?_; first | refine SL ?_ | refine SB fun _ _ => ?_) | (refine M1 ?_; refine SC ?_) | (refine M2 ?_; refine SE ?_))
    refine XC.drawRS (trunc w b0) [(g13, cel 153 [.int .i64 sv, .slice q2A q2n q2c])] [0, 1, 2, 3] [4, 5, 6, 7] mixed (fun _ h => Sys.anchorT hB2 h (fun e he => by rw [List.mem_singleton.1 he]; exact .head _) (by simp) hb0) rfl (by kernel_rfl) ?_
    repeat (any_goals (first | (refine M0 ?_; first | refine SL ?_ | refine SB fun _ _ => ?_ | refine XL.buildSlice tok rfl rfl rfl rfl rfl rfl rfl rfl rfl (fun _ _ => ?_)) | (refine M1 ?_; refine SC ?_) | (refine M2 ?_; first | refine SE ?_ | refine z5 ?_ | refine z7 ?_) | (refine M3 ?_; first | refine SG ?_ | refine SF ?_) | (refine M4 ?_; refine SR ?_) | (refine M5 ?_; first | exact M7 | refine YM ?_ | refine YN ?_ ?_)))
    · refine XL.push (K := intK5) (a := sv) (wE := w) 0 int5_el (by decide) rfl rfl rfl hF2 rfl hk2 hB2 (Nat.le_refl _) rfl (by omega) (by decide) (fun x hx => by cases hx) (fun W3 u3 hF3 hB3 hk3 => ?_)
      obtain ⟨⟨r3A, r3n, r3c⟩, rfl, hr3⟩ := Fam.sv (K := intK5) (l := lv ++ [sv]) (v := u3) hF3 (List.mem_singleton.2 rfl)
      simp only [svV]
      refine XL.done ?_
      refine z7 ?_
      repeat (first | (refine M0 ?_; refine SL ?_) | (refine M2 ?_; first | refine SE ?_ | refine z7 ?_) | (refine M3 ?_; first | refine SG ?_ | refine SF ?_) | (refine M4 ?_; refine SR ?_) | (refine M5 ?_; first | exact M7 | refine YM ?_ | refine YN ?_ ?_))
      · repeat (first | (refine M0 ?_; first | refine SL ?_ | refine SB fun _ _ => ?_) | (refine M1 ?_; refine SC ?_) | (refine M2 ?_; refine SE ?_))
        have hF4 := hF3
        simp only [List.set_cons_zero] at hF4
        refine XE.roundW (s := (i, W, ⟨rA, rn, rc⟩, st, ⟨qA, qn, qc⟩)) (fun w9 S9 => ⟨(i + 1, w9, ⟨r3A, r3n, r3c⟩, so, ⟨q2A, q2n, q2c⟩), ⟨by simp only; omega, h8, hrs1, hB3.trans S9.toBelow, ?_, fun x hx => S9.keyLt x (by simp only [List.mem_cons, List.not_mem_nil, or_false] at hx; simp only [List.map_cons, List.map_nil, List.mem_cons, List.not_mem_nil, or_false]; omega)⟩, by simp only; omega, ZZSUB, by rw [hsv] at S9; exact S9.rebase ZZSM⟩)
        rw [hvs] at hF4
        have h9 := hF4.sys S9 ZZHL
        have h10 := (h9.hold (x := hIntsO w b0 ⟨q2A, q2n, q2c⟩ so.fil) (ok := Free w9 b0 _ _) (.inr (h9.held (hInts ⟨q2A, q2n, q2c⟩ so.fil) (.head _))) (fun j hj => hj)).add (ks' := [g10, g3, gm, g]) (fun x hx => by left; simp only [List.mem_cons, List.not_mem_nil, or_false] at hx; simp only [List.map_cons, List.map_nil, List.mem_append, List.mem_cons, List.not_mem_nil, or_false]; omega)
        exact Fam.forget h10 (fun x hx => by simp only [List.mem_cons, List.not_mem_nil, or_false] at hx; rcases hx with rfl | rfl <;> simp)
      · any_goals (repeat (first | exact AnyR.nil | refine AnyR.skip rfl ?_))
  rintro ⟨W, ⟨rA, rn, rc⟩⟩ ⟨hB, hF, hkl⟩
  simp only at hB hF hkl
  simp only [svV, keyC, gamC]
  dsimp only [List.cons_append, List.nil_append]
  refine XC.hint 3 2 (XC.hint 0 0 ?_)
  refine XC.seq ?_
  refine XC.drawT mixed rfl rfl (by kernel_rfl) ?_
  repeat (first | (refine M0 ?_; first | refine SL ?_ | refine SB fun _ _ => ?_) | (refine M2 ?_; refine SE ?_) | (refine M3 ?_; first | refine SG ?_ | refine SF ?_) | (refine M4 ?_; refine SR ?_) | (refine M5 ?_; first | exact M7 | refine YM ?_ | refine YN ?_ ?_))
  refine XL.updateK 1 (k := keyV k s) (v := svV ⟨rA, rn, rc⟩) kvs run_law rfl rfl rfl rfl Tryz.underlying82 hm2 hkey hnv rfl ?_
  repeat (first | (refine M0 ?_; first | refine SL ?_ | refine SB fun _ _ => ?_) | (refine M1 ?_; refine SC ?_) | (refine M2 ?_; refine SE ?_))
  refine XE.retg tok Tryz.results87 rfl (by simp only [and_self, and_true]) (fun w' S => ?_)
  have hF9 := hF.sys S ZZHL
  have hfr := fun kk hkk => Fam.fresh2 hF9 (gs := [gm, g]) (.head _) (fun x hx => List.mem_cons_of_mem _ hx) (r := ⟨Int, intK5, svV ⟨rA, rn, rc⟩, t.vols k s (t.n - s)⟩) (.head _) (k := kk) hkk
  have hrow := owns_raise (hF9.row _ (.head _)) hfr
  simp only [ints_flat5] at hrow
  have hq : IntsAt w' (Free w' b0 (gm :: ks) []) ⟨rA, rn, rc⟩ (t.vols k s (t.n - s)) := (IntsAt.own hrow).mono fun j hj => ⟨Nat.le_trans hb0 hj.1, hj.2, fun hm => by have := hG.lt j hm; have := hj.1; omega, fun r hr => by cases hr⟩
  refine GamR.of hggk (hB.trans S.toBelow) ((hOld2 b0 w [gm, g]).mono (hF9.held _ (.head _)) fun _ _ => trivial) (((S.own (g, _) (.tail _ (.tail _ (.head _)))).2).trans hgm.symm) (S.own (gm, _) (.tail _ (.head _))).2 (hm2.push hkey hnv) hm3 (fun e he => ?_) hq
  rcases List.mem_append.1 he with h | h
  · exact .inl h
  · rw [List.mem_singleton.1 h]
    exact .inr ⟨k, s, ⟨rA, rn, rc⟩, rfl, rfl, hk, hs, hq⟩
end Go.Proofs.YtmpaiphakjogjaaGreat.X
namespace Go.Proofs.YtmpaiphakjogjaaGreat.X
open Go Go.RowKit Go.Proofs.YtmpaiphakjogjaaGreat.Bs
theorem ZZO2 {p : Prop} (h : p := by (intro e he; repeat (first | (cases he; done) | (rcases List.mem_cons.1 he with rfl | he; · first | (left; assumption) | (right; simp only; omega)))) <;> fail) : p := h
section
variable {t : CTk} {v : CTV} {b0 g gm : Nat} {kk ks : List Nat} {hs : List Held} {w W w' : World} {L : Lo} {R : Value → List Held → Prop} {x : Value}
theorem Since.end_ (hG : Gam t v b0 g gm (kk ++ ks) [] hs W) (hm : gm < w.heap.size) (hS : Since w gm W) (S : Sys b0 W L w') (hg : (g, gamO v t gm) ∈ L) (hL : ∀ e, e ∈ L → e.1 ∈ [g] ∨ w.heap.size ≤ e.1) : Since w gm w' :=
  hS.sys S fun e he => by
    rcases hL e he with h1 | h1
    · rw [List.mem_singleton] at h1
      have h2 : e = (g, gamO v t gm) := by
        have a1 := (S.own e he).2
        have a2 := (S.own _ hg).2
        rw [h1] at a1
        simp only at a2
        rw [a1] at a2
        exact Prod.ext h1 (Option.some.inj a2)
      rw [h2]
      exact ⟨fun _ => hG.game, hG.ne⟩
    · exact ⟨fun h => by omega, fun h => by omega⟩
theorem GamR.end_ (hG : Gam t v b0 g gm (kk ++ ks) [] hs W) (hm : gm < w.heap.size) (hS : Since w gm W) (S : Sys b0 W L w') (hg : (g, gamO v t gm) ∈ L) (hR : R x []) (hL : ∀ e, e ∈ L → e.1 ∈ kk ++ ks ∨ W.heap.size ≤ e.1) (hLE : ∀ e, e ∈ L → e.1 ∈ [g] ∨ w.heap.size ≤ e.1) : GamR t b0 gm ks R w (.returned x) w' := by
  have h1 := hG.sys S hg hL
  refine ⟨x, [], rfl, hR, Since.end_ hG hm hS S hg hLE, h1.memo.mono fun j hj => ⟨hj.1, hj.2.1, fun h => hj.2.2.1 ?_, hj.2.2.2⟩, fun y hy => by cases hy⟩
  rcases List.mem_cons.1 h with rfl | h
  · exact .head _
  · exact List.mem_cons_of_mem _ (List.mem_append_right _ h)
end
noncomputable def spn5 (t : CTk) (x : Option Lv) : Value := match x with
  | none => .tuple ⟨[.agg ⟨[.int .i64 0, .int .i64 0]⟩, .bool false]⟩
  | some x => .tuple ⟨[.agg ⟨[.int .i64 (t.lo x), .int .i64 (t.hi x)]⟩, .bool true]⟩
def InsR (t : CTk) (k : Nat) (p : CPl) (i : Nat) (x : Value) (new : List Held) : Prop := x = spn5 t (t.ins k p i) ∧ new = []
theorem nev_b {p : CPl} : decide (p = nev) = (decide (p.close = -1) && decide (p.open_ = -1)) := by
  obtain ⟨c, o⟩ := p
  by_cases h1 : c = -1 <;> by_cases h2 : o = -1 <;> simp [nev, h1, h2]
theorem plan_bd {t : CTk} (ho : CtOk t) {p : CPl} (hp : t.strange p = false) : (-1 ≤ p.close ∧ p.close ≤ 300000) ∧ (-1 ≤ p.open_ ∧ p.open_ ≤ 300000) ∧ (p ≠ nev → 0 ≤ t.shutI p) := by
  have h1 := ho.frm
  have h2 := ho.dly
  have h3 := ho.n60
  by_cases hn : p = nev
  · subst hn
    exact ⟨⟨by decide, by decide⟩, ⟨by decide, by decide⟩, fun h => absurd rfl h⟩
  · unfold CTk.strange at hp
    rw [decide_eq_true hn, Bool.true_and, Bool.or_eq_false_iff] at hp
    have a1 := outB_f.1 hp.1
    have a2 := outB_f.1 hp.2
    unfold CTk.last at a1
    exact ⟨by omega, by omega, fun _ => by unfold CTk.shutI; omega⟩
set_option maxHeartbeats 16000000 in
theorem inside_any {t : CTk} {v : CTV} {b0 g gm k i : Nat} {p : CPl} {ks : List Nat} {w : World} (hG : Gam t v b0 g gm ks [] [] w) (ho : CtOk t) (hk : k < t.m) (hi : i < t.n) (hp : t.strange p = false) :
    Calls Tryz.prog 60 #[.pointer (some ⟨g, 0, none⟩), .int .i64 (k : Nat), plnV p, .int .i64 (i : Nat)] w (GamR t b0 gm ks (InsR t k p i) w) := by
  have hgs := hG.gin
  have hgg : g ∈ [g] := .head _
  have hml := hG.lt gm (.head _)
  have hn60 := ho.n60
  have hdl := ho.dly
  have hfr := ho.frm
  obtain ⟨hb1, hb2, hb3⟩ := plan_bd ho hp
  have hT := hG.task
  have hgm : w.heap[g]? = some (gamO v t gm) := hG.game
  have S0 := Sys.start1 hG.bg hgm
  have hhn := hT.hn
  obtain ⟨ah, ⟨Ak, nk, ck1⟩, e1, hlth, hck, hqk⟩ := hT.hisAt hk
  have hlk := hqk.len
  simp only at hlk e1 hhn
  have hlen : (t.h k).vals.length = t.n := ho.len k hk
  rw [hlen] at hlk
  subst hlk
  obtain ⟨ak, rfl, hltk, hvk⟩ := hqk.at_ (by omega)
  have dh1 : w.cell? ((ah.add (k * 2)).add 1) = some (.slice (some ak) t.n ck1) := hck 1 _ rfl
  have dV : w.cell? (ak.add (i * 1)) = some (.int .i64 (t.v k i)) := hvk i (by rw [hlen]; exact hi)
  have hgen := fun {L : Lo} {w' : World} (S : Sys b0 w L w') (hg : (g, gamO v t gm) ∈ L) (hL : ∀ e, e ∈ L → e.1 ∈ ks ∨ w.heap.size ≤ e.1) (hLE : ∀ e, e ∈ L → e.1 ∈ [g] ∨ w.heap.size ≤ e.1) {x : Value} (hR : InsR t k p i x []) => GamR.end_ (kk := []) (ks := ks) (R := InsR t k p i) hG hml (Since.refl (gm := gm)) S hg hR hL hLE
  have hgen2 := fun {L : Lo} {kk : List Nat} {hs : List Held} {W w' : World} (hG1 : Gam t v b0 g gm (kk ++ ks) [] hs W) (hS : Since w gm W) (S : Sys b0 W L w') (hg : (g, gamO v t gm) ∈ L) (hL : ∀ e, e ∈ L → e.1 ∈ kk ++ ks ∨ W.heap.size ≤ e.1) (hLE : ∀ e, e ∈ L → e.1 ∈ [g] ∨ w.heap.size ≤ e.1) {x : Value} (hR : InsR t k p i x []) => GamR.end_ (R := InsR t k p i) hG1 hml hS S hg hR hL hLE
  have hrun := fun (s : Nat) (hs : s < t.n) (w5 : World) (ks2 : List Nat) (hG5 : Gam t v b0 g gm ks2 [] [] w5) => crun_any hG5 ho hk hs
  have hins : t.ins k p i = if (decide (p.close = -1) && decide (p.open_ = -1) || (decide ((i : Int) ≤ t.shutI p) || decide (p.open_ - t.from_ ≤ (i : Int)))) = true then some ⟨false, t.v k i⟩ else (t.rs k (t.shutI p).toNat (i - (t.shutI p).toNat)).map fun st => ⟨true, st.vol⟩ := by
    unfold CTk.ins CTk.isOpen
    rw [nev_b]
  have hbas := hT.bas
  obtain ⟨⟨A1, n1, c1, A2, n2, c2⟩, ⟨Af, nf, cf⟩, ⟨Ah, nh, ch⟩, ⟨Ar, nr, cr⟩⟩ := v
  simp only at hbas hhn e1
  subst hhn e1
  have hlev := fun {L : Lo} {W : World} (x : Int) (hBW : Below b0 w W) (w5 : World) (S5 : Sys b0 W L w5) => Level_any (p := ⟨A1, n1, c1, A2, n2, c2⟩) (b := t.b) (v := x) (w := w5) ((hbas.below (hBW.trans S5.toBelow)).more (Nat.le_trans S5.base S5.size))
  simp only [basV, basC, spanV] at hlev
  obtain ⟨c, o⟩ := p
  simp only at hb1 hb2 hins
  have hsI : t.shutI ⟨c, o⟩ = c - t.from_ + t.delay := rfl
  rw [hsI] at hins
  simp only [gamO, gamC] at S0
  simp only [plnV]
  refine enterL Tryz.func60 rfl Tryz.ntmps60 rfl (S0) ?_; simp only [frame, Nat.zero_add, Nat.reduceAdd]
  refine XC.hint 0 0 ?_
  repeat (first | (refine M0 ?_; first | refine SL ?_ | refine SB fun _ _ => ?_ | refine Y4 (Ev.call (f := 46) (ck rfl) rfl (fun w S => nev_any w)) ?_ | refine Y4 (Ev.plnEql rfl rfl) ?_) | (refine M1 ?_; first | refine SC ?_ | refine SD ?_) | (refine M2 ?_; refine SE ?_) | (refine M3 ?_; first | refine SG ?_ | refine SF ?_ | refine YF (Ev.call (f := 46) (ck rfl) rfl (fun w S => nev_any w)) ?_ | refine YF (Ev.plnEql rfl rfl) ?_) | (refine M4 ?_; refine SR ?_) | (refine M5 ?_; first | exact M7 | refine YM ?_ | refine YN ?_ ?_))
  cases h1 : (decide (c = -1) && decide (o = -1)) <;> rw [h1] at hins
  rotate_left
  · repeat (first | (refine M0 ?_; first | refine SL ?_ | refine SB fun _ _ => ?_ | refine Y4 (Ev.load_old tok rfl rfl (add_lt2 hlth) dh1) ?_ | refine Y4 (Ev.load_old tok rfl rfl (add_lt hltk) dV) ?_) | (refine M1 ?_; first | refine SC ?_ | refine SD ?_) | (refine M2 ?_; refine SE ?_) | (refine M3 ?_; first | refine SG ?_ | refine SF ?_ | refine YF (Ev.load_old tok rfl rfl (add_lt2 hlth) dh1) ?_ | refine YF (Ev.load_old tok rfl rfl (add_lt hltk) dV) ?_) | (refine M4 ?_; refine SR ?_) | (refine M5 ?_; first | exact M7 | refine YM ?_ | refine YN ?_ ?_))
    refine XE.retg tok Tryz.results60 rfl (by simp only [and_self, and_true]) (fun w' S => ?_)
    exact hgen S (.tail _ (.tail _ (.head _))) ZZHM ZZHM ⟨by rw [hins]; simp only [Bool.true_or, Bool.false_or, Bool.or_true, if_true]; rfl, rfl⟩
  repeat (first | (refine M0 ?_; first | refine SL ?_ | refine SB fun _ _ => ?_) | (refine M1 ?_; first | refine SC ?_ | refine SD ?_) | (refine M2 ?_; refine SE ?_) | (refine M3 ?_; first | refine SG ?_ | refine SF ?_) | (refine M4 ?_; refine SR ?_) | (refine M5 ?_; first | exact M7 | refine YM ?_ | refine YN ?_ ?_))
  cases h2 : decide ((i : Int) ≤ c - t.from_ + t.delay) <;> rw [h2] at hins
  rotate_left
  · repeat (first | (refine M0 ?_; first | refine SL ?_ | refine SB fun _ _ => ?_ | refine Y4 (Ev.load_old tok rfl rfl (add_lt2 hlth) dh1) ?_ | refine Y4 (Ev.load_old tok rfl rfl (add_lt hltk) dV) ?_) | (refine M1 ?_; first | refine SC ?_ | refine SD ?_) | (refine M2 ?_; refine SE ?_) | (refine M3 ?_; first | refine SG ?_ | refine SF ?_ | refine YF (Ev.load_old tok rfl rfl (add_lt2 hlth) dh1) ?_ | refine YF (Ev.load_old tok rfl rfl (add_lt hltk) dV) ?_) | (refine M4 ?_; refine SR ?_) | (refine M5 ?_; first | exact M7 | refine YM ?_ | refine YN ?_ ?_))
    refine XE.retg tok Tryz.results60 rfl (by simp only [and_self, and_true]) (fun w' S => ?_)
    exact hgen S (.tail _ (.tail _ (.head _))) ZZHM ZZHM ⟨by rw [hins]; simp only [Bool.true_or, Bool.false_or, Bool.or_true, if_true]; rfl, rfl⟩
  repeat (first | (refine M0 ?_; first | refine SL ?_ | refine SB fun _ _ => ?_) | (refine M1 ?_; first | refine SC ?_ | refine SD ?_) | (refine M2 ?_; refine SE ?_) | (refine M3 ?_; first | refine SG ?_ | refine SF ?_) | (refine M4 ?_; refine SR ?_) | (refine M5 ?_; first | exact M7 | refine YM ?_ | refine YN ?_ ?_))
  cases h3 : decide (o - t.from_ ≤ (i : Int)) <;> rw [h3] at hins
  rotate_left
  · repeat (first | (refine M0 ?_; first | refine SL ?_ | refine SB fun _ _ => ?_ | refine Y4 (Ev.load_old tok rfl rfl (add_lt2 hlth) dh1) ?_ | refine Y4 (Ev.load_old tok rfl rfl (add_lt hltk) dV) ?_) | (refine M1 ?_; first | refine SC ?_ | refine SD ?_) | (refine M2 ?_; refine SE ?_) | (refine M3 ?_; first | refine SG ?_ | refine SF ?_ | refine YF (Ev.load_old tok rfl rfl (add_lt2 hlth) dh1) ?_ | refine YF (Ev.load_old tok rfl rfl (add_lt hltk) dV) ?_) | (refine M4 ?_; refine SR ?_) | (refine M5 ?_; first | exact M7 | refine YM ?_ | refine YN ?_ ?_))
    refine XE.retg tok Tryz.results60 rfl (by simp only [and_self, and_true]) (fun w' S => ?_)
    exact hgen S (.tail _ (.tail _ (.head _))) ZZHM ZZHM ⟨by rw [hins]; simp only [Bool.true_or, Bool.false_or, Bool.or_true, if_true]; rfl, rfl⟩
  have hne : (⟨c, o⟩ : CPl) ≠ nev := fun e => by
    simp only [nev, CPl.mk.injEq] at e
    rw [decide_eq_true e.1, decide_eq_true e.2] at h1; cases h1
  have hs0 := hb3 hne
  rw [hsI] at hs0
  obtain ⟨s, hs⟩ : ∃ s : Nat, c - t.from_ + t.delay = (s : Int) := ⟨(c - t.from_ + t.delay).toNat, by omega⟩
  rw [hs] at hins ⊢
  have hsi : s < i := by have := of_decide_eq_false h2; omega
  simp only [Bool.or_self, Bool.false_eq_true, if_false, Int.toNat_natCast] at hins
  repeat (first | (refine M0 ?_; first | refine SL ?_ | refine SB fun _ _ => ?_) | (refine M1 ?_; first | refine SC ?_ | refine SD ?_) | (refine M2 ?_; refine SE ?_) | (refine M3 ?_; first | refine SG ?_ | refine SF ?_) | (refine M4 ?_; refine SR ?_) | (refine M5 ?_; first | exact M7 | refine YM ?_ | refine YN ?_ ?_))
  refine XL.callG (wE := w) (RunR5 t k s) (ck rfl) rfl rfl hG Since.refl (.tail _ (.tail _ (.head _))) (fun w5 ks2 hG5 => hrun s (by omega) w5 ks2 hG5) (fun w1 x new hR hG1 hS1 => ?_) ZZHM ZZHM
  obtain ⟨⟨qA, qn, qc⟩, rfl, rfl⟩ := hR
  have hq := hG1.fam.held (hInts ⟨qA, qn, qc⟩ (t.vols k s (t.n - s))) (.head _)
  have hql : qn = (t.vols k s (t.n - s)).length := IntsAt.len hq
  simp only [svV]
  have hz := hS1.size
  repeat (first | (refine M0 ?_; first | refine SL ?_ | refine SB fun _ _ => ?_) | (refine M1 ?_; refine SC ?_) | (refine M2 ?_; refine SE ?_))
  cases hrs : t.rs k s (i - s) with
  | none =>
    rw [hrs] at hins
    have hle : qn ≤ i - s := by
      have := vols_at (t := t) (k := k) (s := s) (m := t.n - s) (j := i - s) (by omega)
      rw [hrs] at this
      rw [hql]
      simpa using this
    rw [show decide ((qn : Int) ≤ (i : Int) - (s : Int)) = true from decide_eq_true (by omega)]
    repeat (first | (refine M0 ?_; first | refine SL ?_ | refine SB fun _ _ => ?_) | (refine M1 ?_; refine SC ?_) | (refine M2 ?_; refine SE ?_))
    refine XE.retg tok Tryz.results60 rfl (by simp only [and_self, and_true]) (fun w' S => ?_)
    exact hgen2 hG1 hS1 S (.tail _ (.tail _ (.head _))) ZZHL ZZO2 ⟨by rw [hins]; rfl, rfl⟩
  | some st =>
  rw [hrs] at hins
  have hat := vols_at (t := t) (k := k) (s := s) (m := t.n - s) (j := i - s) (by omega)
  rw [hrs] at hat
  have hlt : i - s < (t.vols k s (t.n - s)).length := (List.getElem?_eq_some_iff.1 hat).1
  rw [show decide ((qn : Int) ≤ (i : Int) - (s : Int)) = false from decide_eq_false (by omega)]
  obtain ⟨aq, rfl, hfq, hcq⟩ := IntsAt.at_ hq (by omega)
  have dq : w1.cell? (aq.add (((i : Int) - (s : Int)).toNat * 1)) = some (.int .i64 st.vol) := by
    have := hcq (i - s) hlt
    rw [show at0 (t.vols k s (t.n - s)) (i - s) = st.vol by unfold at0; rw [hat]; rfl] at this
    rw [show ((i : Int) - (s : Int)).toNat = i - s by omega]
    exact this
  have hlv := fun {L : Lo} (w5 : World) (S5 : Sys b0 w1 L w5) => hlev st.vol (hS1.below hG.bm hG.fam.base) w5 S5
  repeat (first | (refine M0 ?_; first | refine SL ?_ | refine SB fun _ _ => ?_) | (refine M1 ?_; refine SC ?_) | (refine M2 ?_; refine SE ?_))
  refine XC.cutln [6, 8, 9] rfl (fun g13 : Nat => [(13, .pointer (some ⟨g13, 0, none⟩))]) (fun g13 => [(g13, cel 114 [.int .i64 (lvlLo t.b st.vol), .int .i64 (lvlHi t.b st.vol)])]) (fun g13 => w1.heap.size ≤ g13) ?_ (fun g13 hg13 => ?_)
  · refine XC.drawR _ [0, 1, 2, 3, 4, 5, 6, 7, 8, 9, 10] [11, 12, 13, 14, 15, 16, 17] mixed (fun _ h => h) rfl (by kernel_rfl) ?_
    repeat (any_goals (first | (refine M0 ?_; first | refine SL ?_ | refine SB fun _ _ => ?_ | refine Y4 (Ev.load_far tok rfl rfl (by rw [add_block]; exact hfq.2.1) (Free.far hfq ZZHL) dq) ?_ | refine Y4 (Ev.call (f := 88) (ck rfl) rfl (fun w5 S5 => hlv w5 S5)) ?_) | (refine M1 ?_; refine SC ?_) | (refine M2 ?_; refine SE ?_) | (refine M3 ?_; first | refine SG ?_ | refine SF ?_ | refine YF (Ev.load_far tok rfl rfl (by rw [add_block]; exact hfq.2.1) (Free.far hfq ZZHL) dq) ?_ | refine YF (Ev.call (f := 88) (ck rfl) rfl (fun w5 S5 => hlv w5 S5)) ?_) | (refine M4 ?_; refine SR ?_) | (refine M5 ?_; first | exact M7 | refine YM ?_ | refine YN ?_ ?_)))
    any_goals (repeat (first | exact AnyR.nil | refine AnyR.skip rfl ?_))
    all_goals exact XE.leaf _ ZZSUB (fun _ S' => by first | exact S' | exact S'.perm (by repeat (first | exact List.Perm.refl _ | refine perm1 ?_ | refine List.Perm.cons _ ?_ | refine perm2 ?_)) | exact (S'.pop (by assumption)) | exact (S'.pop2 (by assumption))) (by assumption)
  dsimp only [List.cons_append, List.nil_append]
  refine XC.hint 13 3 ?_
  repeat (first | (refine M0 ?_; first | refine SL ?_ | refine SB fun _ _ => ?_) | (refine M1 ?_; refine SC ?_) | (refine M2 ?_; refine SE ?_))
  refine XE.retg tok Tryz.results60 rfl (by simp only [and_self, and_true]) (fun w' S => ?_)
  exact hgen2 hG1 hS1 S (.tail _ (.tail _ (.tail _ (.head _)))) ZZHL ZZO2 ⟨by rw [hins]; rfl, rfl⟩
end Go.Proofs.YtmpaiphakjogjaaGreat.X
namespace Go.Proofs.YtmpaiphakjogjaaGreat.X
open Go Go.RowKit Go.Proofs.YtmpaiphakjogjaaGreat.Bs
def BoolR (b : Bool) (x : Value) (new : List Held) : Prop := x = .bool b ∧ new = []
def IntR (n : Int) (x : Value) (new : List Held) : Prop := x = .int .i64 n ∧ new = []
set_option maxHeartbeats 8000000 in
theorem cabove_any {t : CTk} {v : CTV} {b0 g gm k i : Nat} {p : CPl} {ks : List Nat} {w : World} (hG : Gam t v b0 g gm ks [] [] w) (ho : CtOk t) (hk : k < t.m) (hi : i < t.n) (hp : t.strange p = false) :
    Calls Tryz.prog 77 #[.pointer (some ⟨g, 0, none⟩), .int .i64 (k : Nat), plnV p, .int .i64 (i : Nat)] w (GamR t b0 gm ks (BoolR (t.above k p i)) w) := by
  have hgs := hG.gin
  have hgg : g ∈ [g] := .head _
  have hml := hG.lt gm (.head _)
  have hgm : w.heap[g]? = some (gamO v t gm) := hG.game
  have S0 := Sys.start1 hG.bg hgm
  have hin := fun (w5 : World) (ks2 : List Nat) (hG5 : Gam t v b0 g gm ks2 [] [] w5) => inside_any hG5 ho hk hi hp
  have hab : t.above k p i = match t.ins k p i with
    | none => true
    | some x => decide (t.limit < t.hi x) := rfl
  obtain ⟨vp, vf, vh, vr⟩ := v
  simp only [gamO, gamC] at S0
  simp only [plnV] at hin ⊢
  refine enterL Tryz.func77 rfl Tryz.ntmps77 rfl (S0) ?_; simp only [frame, Nat.zero_add, Nat.reduceAdd]
  refine XC.hint 0 0 ?_
  repeat (first | (refine M0 ?_; first | refine SL ?_ | refine SB fun _ _ => ?_) | (refine M1 ?_; refine SC ?_) | (refine M2 ?_; refine SE ?_))
  refine XL.callG (wE := w) (InsR t k p i) (ck rfl) rfl rfl hG Since.refl (.tail _ (.head _)) (fun w5 ks2 hG5 => hin w5 ks2 hG5) (fun w1 x new hR hG1 hS1 => ?_) ZZHM ZZHM
  obtain ⟨rfl, rfl⟩ := hR
  have hz := hS1.size
  cases hx : t.ins k p i with
  | none =>
    rw [hx] at hab
    simp only [spn5]
    repeat (first | (refine M0 ?_; first | refine SL ?_ | refine SB fun _ _ => ?_) | (refine M1 ?_; first | refine SC ?_ | refine SD ?_) | (refine M2 ?_; refine SE ?_) | (refine M3 ?_; first | refine SG ?_ | refine SF ?_) | (refine M4 ?_; refine SR ?_) | (refine M5 ?_; first | exact M7 | refine YM ?_ | refine YN ?_ ?_))
    refine XE.retg tok Tryz.results77 rfl (by simp only [and_self, and_true]) (fun w' S => ?_)
    exact GamR.end_ hG1 hml hS1 S (.tail _ (.tail _ (.head _))) ⟨by rw [hab]; rfl, rfl⟩ ZZHL ZZO2
  | some y =>
    rw [hx] at hab
    simp only [spn5]
    repeat (first | (refine M0 ?_; first | refine SL ?_ | refine SB fun _ _ => ?_) | (refine M1 ?_; first | refine SC ?_ | refine SD ?_) | (refine M2 ?_; refine SE ?_) | (refine M3 ?_; first | refine SG ?_ | refine SF ?_) | (refine M4 ?_; refine SR ?_) | (refine M5 ?_; first | exact M7 | refine YM ?_ | refine YN ?_ ?_))
    refine XE.retg tok Tryz.results77 rfl (by simp only [and_self, and_true]) (fun w' S => ?_)
    exact GamR.end_ hG1 hml hS1 S (.tail _ (.tail _ (.head _))) ⟨by rw [hab]; rfl, rfl⟩ ZZHL ZZO2
set_option maxHeartbeats 8000000 in
theorem fails1_any {t : CTk} {v : CTV} {b0 g gm k i g3 g4 g5 : Nat} {z : Int} {p : CPl} {ks : List Nat} {w : World} (hG : Gam t v b0 g gm ks [] [] w) (ho : CtOk t) (hk : k < t.m) (hi : i < t.n) (hp : t.strange p = false)
    (h3 : w.heap[g3]? = some (cel 74 [.pointer (some ⟨g, 0, none⟩)])) (h4 : w.heap[g4]? = some (cel 3 [.int .i64 (k : Nat)])) (h5 : w.heap[g5]? = some (cel 42 [.int .i64 p.close, .int .i64 p.open_])) (hn3 : g3 ≠ g) (hn4 : g4 ≠ g) (hn5 : g5 ≠ g) :
    Calls Tryz.prog 76 #[.int .i64 (i : Nat), .int .i64 z, .pointer (some ⟨g3, 0, none⟩), .pointer (some ⟨g4, 0, none⟩), .pointer (some ⟨g5, 0, none⟩)] w (GamR t b0 gm ks (BoolR (t.above k p i)) w) := by
  have hgs := hG.gin
  have hgg : g ∈ [g] := .head _
  have hml := hG.lt gm (.head _)
  have hgm : w.heap[g]? = some (gamO v t gm) := hG.game
  have S0 := Sys.start1 hG.bg hgm
  have hin := fun (w5 : World) (ks2 : List Nat) (hG5 : Gam t v b0 g gm ks2 [] [] w5) => cabove_any hG5 ho hk hi hp
  have l3 := (Array.getElem?_eq_some_iff.1 h3).1
  have l4 := (Array.getElem?_eq_some_iff.1 h4).1
  have l5 := (Array.getElem?_eq_some_iff.1 h5).1
  have c3 : w.cell? ⟨g3, 0, none⟩ = some (.pointer (some ⟨g, 0, none⟩)) := by simp [World.cell?, h3]
  have c4 : w.cell? ⟨g4, 0, none⟩ = some (.int .i64 (k : Nat)) := by simp [World.cell?, h4]
  have c5 : ∀ (j : Nat) u, ([.int .i64 p.close, .int .i64 p.open_] : List Value)[j]? = some u → w.cell? ((⟨g5, 0, none⟩ : Addr).add j) = some u := fun j u hj => by
    rw [add_off]; simpa [World.cell?, h5] using hj
  obtain ⟨vp, vf, vh, vr⟩ := v
  simp only [gamO, gamC] at S0
  simp only [plnV] at hin
  refine enterL Tryz.func76 rfl Tryz.ntmps76 rfl (S0) ?_; simp only [frame, Nat.zero_add, Nat.reduceAdd]
  repeat (first | (refine M0 ?_; first | refine SL ?_ | refine SB fun _ _ => ?_ | refine Y4 (Ev.load_far tok rfl rfl l3 ZZNE c3) ?_ | refine Y4 (Ev.load_far tok rfl rfl l4 ZZNE c4) ?_ | refine Y4 (Ev.load_far_agg tok [.int .i64 p.close, .int .i64 p.open_] rfl rfl rfl l5 ZZNE c5) ?_) | (refine M1 ?_; refine SC ?_) | (refine M2 ?_; refine SE ?_))
  refine XL.callG (wE := w) (BoolR (t.above k p i)) (ck rfl) rfl rfl hG Since.refl (.head _) (fun w5 ks2 hG5 => hin w5 ks2 hG5) (fun w1 x new hR hG1 hS1 => ?_) ZZHM ZZHM
  obtain ⟨rfl, rfl⟩ := hR
  have hz := hS1.size
  repeat (first | (refine M0 ?_; first | refine SL ?_ | refine SB fun _ _ => ?_) | (refine M1 ?_; refine SC ?_) | (refine M2 ?_; refine SE ?_))
  refine XE.retg tok Tryz.results76 rfl (by simp only [and_self, and_true]) (fun w' S => ?_)
  exact GamR.end_ hG1 hml hS1 S (.head _) ⟨rfl, rfl⟩ ZZHL ZZO2
set_option maxHeartbeats 4000000 in
theorem where_inv {f : FuncId} {cap : List Value} {P : Nat → Bool} {r : SV} {ms : List Int} {w : World} (J : World → Prop) (hck : callOk Tryz.prog f = true) (h0 : J w) (hr : ∀ W, J W → IntsAt W (Lt W.heap.size) r ms) (hn : ms.length ≤ 1000) (hJ : ∀ W W', J W → Below W.heap.size W W' → J W')
    (hc : ∀ k, k < ms.length → ∀ W, J W → Calls Tryz.prog f ([] ++ [Value.int .i64 (k : Nat), Value.int .i64 (at0 ms k)] ++ cap).toArray W fun e w' => e = .returned (.bool (P k)) ∧ J w') :
    Calls Tryz.prog 75 #[svV r, .func (.func f) #[] cap.toArray] w fun e w' => e = .returned (.int .i64 (idxB P ms.length)) ∧ J w' := by
  obtain ⟨A, n, c⟩ := r
  have hln := (hr w h0).len
  simp only at hln
  subst hln
  have S0 : Sys 0 w [] w := Sys.start (Nat.zero_le _) (fun e he => by cases he) .nil
  have hB := fun {W w' : World} (S : Sys 0 W [] w') => S.toBelowG (fun e he => by cases he)
  simp only [svV]
  refine enterL Tryz.func75 rfl Tryz.ntmps75 rfl (S0) ?_; simp only [frame, Nat.zero_add, Nat.reduceAdd]
  repeat (first | (refine M0 ?_; first | refine SL ?_ | refine SB fun _ _ => ?_) | (refine M1 ?_; refine SC ?_) | (refine M2 ?_; refine SE ?_))
  refine XC.loopk [1, 7, 8] rfl (fun z : Nat × World => [(9, .int .i64 (z.1 : Nat))]) (fun _ => []) (fun z => z.2) (fun z => z.1 ≤ ms.length ∧ J z.2 ∧ ∀ j, j < z.1 → P j = false) (fun z => ms.length - z.1) (0, w) ⟨Nat.zero_le _, h0, fun j h => absurd h (by simp)⟩ ZZSUB (fun _ h => h) ?_
  rintro ⟨k, W⟩ ⟨hk, hJW, h0⟩
  simp only at hk hJW h0
  dsimp only [List.cons_append, List.nil_append]
  repeat (first | (refine M0 ?_; first | refine SL ?_ | refine SB fun _ _ => ?_) | (refine M1 ?_; refine SC ?_) | (refine M2 ?_; refine SE ?_))
  refine XC.cond _ rfl (fun h3 => ?_) (fun h3 => ?_)
  · have hkn : k < ms.length := by simpa using h3
    obtain ⟨ad, rfl, hlt, hcells⟩ := (hr W hJW).at_ (by omega)
    have hcell := hcells k hkn
    repeat (first | (refine M0 ?_; first | refine SL ?_ | refine SB fun _ _ => ?_ | refine Y4 (Ev.load_far tok rfl rfl (by rw [add_block]; exact hlt) (fun e he => by cases he) hcell) ?_) | (refine M1 ?_; refine SC ?_) | (refine M2 ?_; refine SE ?_))
    refine XL.callr (fst := []) (cap := cap) (fun _ x w2 => x = .bool (P k) ∧ J w2) hck rfl rfl rfl (fun w5 S5 => (hc k hkn w5 (hJ _ _ hJW (hB S5))).mono fun e w' ⟨e1, e2⟩ => ⟨_, e1, rfl, e2⟩) (fun w5 x w6 S5 ⟨ex, hJ6⟩ => ⟨[], w6, Sys.start (Nat.zero_le _) (fun e he => by cases he) .nil, ?_⟩)
    subst ex
    repeat (first | (refine M0 ?_; first | refine SL ?_ | refine SB fun _ _ => ?_) | (refine M1 ?_; refine SC ?_) | (refine M2 ?_; refine SE ?_))
    refine XC.cond _ rfl (fun h4 => ?_) (fun h4 => ?_)
    · repeat (first | (refine M0 ?_; first | refine SL ?_ | refine SB fun _ _ => ?_) | (refine M1 ?_; refine SC ?_) | (refine M2 ?_; refine SE ?_))
      refine XE.retg tok Tryz.results75 rfl (by simp only [and_self, and_true]) (fun w' S => ?_)
      unfold idxB
      rw [firstB_some.2 ⟨hkn, h4, h0⟩]
      exact ⟨rfl, hJ _ _ hJ6 (hB S)⟩
    · repeat (first | (refine M0 ?_; first | refine SL ?_ | refine SB fun _ _ => ?_) | (refine M1 ?_; refine SC ?_) | (refine M2 ?_; refine SE ?_))
      refine XE.roundW (s := (k, W)) (fun w9 S9 => ⟨(k + 1, w9), ⟨hkn, hJ _ _ hJ6 (hB S9), fun j hj => ?_⟩, by simp only; omega, ZZSUB, S9.rebase (List.Sublist.refl _)⟩)
      rcases Nat.lt_or_ge j k with h5 | h5
      · exact h0 j h5
      · have : j = k := by omega
        subst this
        exact h4
  · have hkn : ¬ k < ms.length := by simpa using h3
    repeat (first | (refine M0 ?_; first | refine SL ?_ | refine SB fun _ _ => ?_) | (refine M1 ?_; refine SC ?_) | (refine M2 ?_; refine SE ?_))
    refine XE.retg tok Tryz.results75 rfl (by simp only [and_self, and_true]) (fun w' S => ?_)
    unfold idxB
    rw [firstB_none.2 fun j hj => h0 j (by omega)]
    exact ⟨rfl, hJ _ _ hJW (hB S)⟩
theorem GamR.gam {t : CTk} {v : CTV} {b0 g gm : Nat} {ks : List Nat} {R : Value → List Held → Prop} {w w' : World} {e : Ending} (hG : Gam t v b0 g gm ks [] [] w) (h : GamR t b0 gm ks R w e w') : ∃ x new, e = .returned x ∧ R x new ∧ Since w gm w' ∧ Gam t v b0 g gm ks [] new w' := by
  obtain ⟨x, new, e1, e2, e3, e4, e5⟩ := h
  exact ⟨x, new, e1, e2, e3, by simpa using hG.after (kk := ks) rfl e3 e4 e5⟩
theorem Since.keep {gm g : Nat} {o : Obj} {w w' : World} (h : Since w gm w') (hg : w.heap[g]? = some o) (hne : g ≠ gm) : w'.heap[g]? = some o := (h.old g (Array.getElem?_eq_some_iff.1 hg).1 hne).trans hg
theorem Below.keep {g : Nat} {o : Obj} {w w' : World} (h : Below w.heap.size w w') (hg : w.heap[g]? = some o) : w'.heap[g]? = some o := (h.block g (Array.getElem?_eq_some_iff.1 hg).1).trans hg
set_option maxHeartbeats 8000000 in
theorem fails_any {t : CTk} {v : CTV} {b0 g gm k : Nat} {p : CPl} {ks : List Nat} {w : World} (hG : Gam t v b0 g gm ks [] [] w) (ho : CtOk t) (hk : k < t.m) (hp : t.strange p = false) :
    Calls Tryz.prog 32 #[.pointer (some ⟨g, 0, none⟩), .int .i64 (k : Nat), plnV p] w (GamR t b0 gm ks (IntR (idxB (t.above k p) t.n)) w) := by
  have hgs := hG.gin
  have hgg : g ∈ [g] := .head _
  have hml := hG.lt gm (.head _)
  have hgl := hG.lt g (List.mem_cons_of_mem _ hG.gin)
  have hgm : w.heap[g]? = some (gamO v t gm) := hG.game
  have S0 := Sys.start1 hG.bg hgm
  have hrn : t.river.length = t.n := ho.river
  have hwh := fun (g3 g4 g5 : Nat) (w5 : World) (ks2 : List Nat) (hG5 : Gam t v b0 g gm ks2 [] [] w5) (h3 : w5.heap[g3]? = some (cel 74 [.pointer (some ⟨g, 0, none⟩)])) (h4 : w5.heap[g4]? = some (cel 3 [.int .i64 (k : Nat)])) (h5 : w5.heap[g5]? = some (cel 42 [.int .i64 p.close, .int .i64 p.open_])) (hn3 : g3 ∈ ks2 ∧ g3 ≠ g) (hn4 : g4 ∈ ks2 ∧ g4 ≠ g) (hn5 : g5 ∈ ks2 ∧ g5 ≠ g) =>
    where_inv (f := 76) (cap := [.pointer (some ⟨g3, 0, none⟩), .pointer (some ⟨g4, 0, none⟩), .pointer (some ⟨g5, 0, none⟩)]) (P := t.above k p) (r := v.r) (ms := t.river) (w := w5)
      (fun W => Gam t v b0 g gm ks2 [] [] W ∧ Since w5 gm W ∧ W.heap[g3]? = some (cel 74 [.pointer (some ⟨g, 0, none⟩)]) ∧ W.heap[g4]? = some (cel 3 [.int .i64 (k : Nat)]) ∧ W.heap[g5]? = some (cel 42 [.int .i64 p.close, .int .i64 p.open_]))
      (ck rfl) ⟨hG5, Since.refl, h3, h4, h5⟩ (fun W hJ => hJ.1.task.river.mono fun j hj => Nat.lt_of_lt_of_le hj hJ.1.fam.base) (by have := ho.n60; omega)
      (fun W W' hJ hb => ⟨by simpa using hJ.1.made (new := []) hb (fun x hx => by cases hx), hJ.2.1.made hb, Below.keep hb hJ.2.2.1, Below.keep hb hJ.2.2.2.1, Below.keep hb hJ.2.2.2.2⟩)
      (fun i hi W hJ => (fails1_any (z := at0 t.river i) hJ.1 ho hk (by omega) hp hJ.2.2.1 hJ.2.2.2.1 hJ.2.2.2.2 hn3.2 hn4.2 hn5.2).mono fun e w' hR => by
        obtain ⟨x, new, e1, ⟨rfl, rfl⟩, e3, e4⟩ := hR.gam hJ.1
        exact ⟨e1, e4, hJ.2.1.trans e3, e3.keep hJ.2.2.1 (fun e => hG5.nin (e ▸ hn3.1)), e3.keep hJ.2.2.2.1 (fun e => hG5.nin (e ▸ hn4.1)), e3.keep hJ.2.2.2.2 (fun e => hG5.nin (e ▸ hn5.1))⟩)
  obtain ⟨vp, vf, vh, ⟨Ar, nr, cr⟩⟩ := v
  rw [hrn] at hwh
  simp only [gamO, gamC] at S0
  simp only [plnV]
  simp only [svV] at hwh
  refine enterL Tryz.func32 rfl Tryz.ntmps32 rfl (S0) ?_; simp only [frame, Nat.zero_add, Nat.reduceAdd]
  repeat (first | (refine M0 ?_; first | refine SL ?_ | refine SB fun _ _ => ?_ | refine Y4 (Ev.load_loc tok 3 (g := g) (o := 7) rfl rfl rfl rfl) ?_) | (refine M1 ?_; refine SC ?_) | (refine M2 ?_; refine SE ?_))
  refine XL.step _ (Ev.makeFunc rfl rfl) rfl ?_
  rename_i g3 hg3 g4 hg4 g5 hg5
  refine XL.callH (wE := w) (IntR (idxB (t.above k p) t.n)) (ck rfl) rfl rfl hG Since.refl (.tail _ (.tail _ (.tail _ (.head _)))) (fun w5 ks2 S5 hL5 hG5 => (hwh g3 g4 g5 w5 ks2 hG5 (S5.own (g3, _) (.tail _ (.tail _ (.head _)))).2 (S5.own (g4, _) (.tail _ (.head _))).2 (S5.own (g5, _) (.head _)).2 ⟨hL5 (g3, _) (.tail _ (.tail _ (.head _))), by omega⟩ ⟨hL5 (g4, _) (.tail _ (.head _)), by omega⟩ ⟨hL5 (g5, _) (.head _), by omega⟩).mono fun e w' ⟨e1, e2, e3, _⟩ => ⟨_, [], e1, ⟨rfl, rfl⟩, e3, e2.memo, fun y hy => by cases hy⟩) (fun w1 x new hR hG1 hS1 => ?_) ZZHM ZZHM
  obtain ⟨rfl, rfl⟩ := hR
  have hz := hS1.size
  repeat (first | (refine M0 ?_; first | refine SL ?_ | refine SB fun _ _ => ?_) | (refine M1 ?_; refine SC ?_) | (refine M2 ?_; refine SE ?_))
  refine XE.retg tok Tryz.results32 rfl (by simp only [and_self, and_true]) (fun w' S => ?_)
  exact GamR.end_ hG1 hml hS1 S (.tail _ (.tail _ (.tail _ (.head _)))) ⟨rfl, rfl⟩ ZZHL ZZO2
end Go.Proofs.YtmpaiphakjogjaaGreat.X
namespace Go.Proofs.YtmpaiphakjogjaaGreat.Bs
open Go Go.Proofs.YtmpaiphakjogjaaGreat.X
def hiL (l : List Int) (lim : Int) (n : Nat) : Nat := match lastB (fun i => decide (lim < at0 l i)) n with
  | none => 0
  | some i => i + 1
theorem hiL_spec (l : List Int) (lim : Int) (n : Nat) : hiL l lim n ≤ n ∧ (hiL l lim n = 0 ∨ ∃ i, hiL l lim n = i + 1 ∧ lim < at0 l i) ∧ ∀ i, hiL l lim n ≤ i → i < n → at0 l i ≤ lim := by
  unfold hiL
  cases h : lastB (fun i => decide (lim < at0 l i)) n with
  | none =>
    have := lastB_none.1 h
    exact ⟨Nat.zero_le _, .inl rfl, fun i _ hi => by have := of_decide_eq_false (this i hi); omega⟩
  | some i =>
    obtain ⟨a1, a2, a3⟩ := lastB_some.1 h
    exact ⟨a1, .inr ⟨i, rfl, of_decide_eq_true a2⟩, fun j h1 h2 => by have := of_decide_eq_false (a3 j h1 h2); omega⟩
def CTk.qH (t : CTk) : Nat → Nat
  | 0 => 0
  | k + 1 => max (t.qH k) (hiL (t.h k).vals t.limit t.n)
theorem qH_spec (t : CTk) : ∀ k, t.qH k ≤ t.n ∧ (t.qH k = 0 ∨ ∃ i j, t.qH k = i + 1 ∧ j < k ∧ t.limit < t.v j i) ∧ ∀ i j, t.qH k ≤ i → i < t.n → j < k → t.v j i ≤ t.limit := by
  intro k
  induction k with
  | zero => exact ⟨Nat.zero_le _, .inl rfl, fun i j _ _ h => by omega⟩
  | succ k ih =>
    obtain ⟨h1, h2, h3⟩ := ih
    obtain ⟨g1, g2, g3⟩ := hiL_spec (t.h k).vals t.limit t.n
    unfold CTk.qH
    refine ⟨by omega, ?_, fun i j hi hn hj => ?_⟩
    · rcases Nat.le_total (t.qH k) (hiL (t.h k).vals t.limit t.n) with hle | hle
      · rw [Nat.max_eq_right hle]
        rcases g2 with g2 | ⟨i, g2, g4⟩
        · exact .inl g2
        · exact .inr ⟨i, k, g2, by omega, g4⟩
      · rw [Nat.max_eq_left hle]
        rcases h2 with h2 | ⟨i, j, h2, h4, h5⟩
        · exact .inl h2
        · exact .inr ⟨i, j, h2, by omega, h5⟩
    · rcases Nat.lt_or_ge j k with h | h
      · exact h3 i j (by omega) hn h
      · have : j = k := by omega
        subst this
        exact g3 i (by omega) hn
theorem qH_q (t : CTk) : t.qH t.m = t.q := by
  obtain ⟨h1, h2, h3⟩ := qH_spec t t.m
  refine q_eq h1 ?_ fun i hi hn => high_f.2 fun k hk => h3 i k hi hn hk
  rcases h2 with h2 | ⟨i, j, h2, h4, h5⟩
  · exact .inl h2
  · exact .inr ⟨i, h2, high_t.2 ⟨j, h4, h5⟩⟩
end Go.Proofs.YtmpaiphakjogjaaGreat.Bs
namespace Go.Proofs.YtmpaiphakjogjaaGreat.X
open Go Go.RowKit Go.Proofs.YtmpaiphakjogjaaGreat.Bs
theorem back0_any {q : SV} {w : World} :
    Calls Tryz.prog 86 #[svV q] w fun e w' => ∃ v, e = .returned v ∧ ∃ gp, v = .func (.func 105) #[] #[.pointer (some ⟨gp, 0, none⟩)] ∧ Sys w.heap.size w [(gp, cel 26 [svV q])] w' := by
  simp only [svV]
  refine enter Tryz.func86 rfl Tryz.ntmps86 rfl ?_; simp only [frame, Nat.zero_add, Nat.reduceAdd]
  repeat (first | (refine M0 ?_; first | refine SL ?_ | refine SB fun _ _ => ?_ | refine Y4 (Ev.makeFunc rfl rfl) ?_) | (refine M1 ?_; first | refine SC ?_ | refine SD ?_) | (refine M2 ?_; refine SE ?_) | (refine M3 ?_; first | refine SG ?_ | refine SF ?_ | refine YF (Ev.makeFunc rfl rfl) ?_) | (refine M4 ?_; refine SR ?_) | (refine M5 ?_; first | exact M7 | refine YM ?_ | refine YN ?_ ?_))
  refine XE.retg tok Tryz.results86 rfl (by simp only [and_self, and_true]) (fun w' S => ?_)
  exact ⟨_, rfl, _, rfl, S⟩
set_option maxHeartbeats 8000000 in
theorem back_any {σ : Type} (Lf : σ → Lo) (W0 : World) (J : Nat → σ → Prop) (Jx : σ → Prop) {B l gp n c : Nat} {A : Option Addr} {ms : List Int} (s0 : σ) (S0 : Sys B W0 (Lf s0) W0) (h0 : J ms.length s0)
    (hgp : W0.cell? ⟨gp, 0, none⟩ = some (.slice A n c)) (hlp : gp < W0.heap.size) (hfp : ∀ s e, e ∈ Lf s → e.1 ≠ gp) (hq : IntsAt W0 (Lt B) ⟨A, n, c⟩ ms) (hn : ms.length ≤ 1000)
    (hy : ∀ i s, i < ms.length → J (i + 1) s → ∀ w1, Sys B W0 (Lf s) w1 → ∃ fn tmps assign body, (Instr.yield l (#[.int .i64 (i : Nat), .int .i64 (at0 ms i)] : Array Value)).run Tryz.prog w1 = .ok (.round l fn tmps assign body) w1 ∧
        RoundIn Fence.wide 0 Tryz.prog l fn tmps assign body w1 fun e w' => ∃ v, e = .returned v ∧ ((v = .bool true ∧ ∃ s', J i s' ∧ Sys B W0 (Lf s') w') ∨ (v = .bool false ∧ ∃ s', Jx s' ∧ Sys B W0 (Lf s') w'))) :
    Calls Tryz.prog 105 #[.func (.yield l) #[] #[], .pointer (some ⟨gp, 0, none⟩)] W0 fun e w' => ∃ v, e = .returned v ∧ ((∃ s, J 0 s ∧ Sys B W0 (Lf s) w') ∨ (∃ s, Jx s ∧ Sys B W0 (Lf s) w')) := by
  have hln := hq.len
  simp only at hln
  subst hln
  refine enterL Tryz.func105 rfl Tryz.ntmps105 rfl (S0) ?_; simp only [frame, Nat.zero_add, Nat.reduceAdd]
  repeat (first | (refine M0 ?_; first | refine SL ?_ | refine SB fun _ _ => ?_ | refine Y4 (Ev.load_far tok rfl rfl hlp (hfp s0) hgp) ?_) | (refine M1 ?_; refine SC ?_) | (refine M2 ?_; refine SE ?_))
  refine XC.loopk [0, 1] rfl (fun z : Nat × σ => [(3, .int .i64 ((z.1 : Int) - 1))]) (fun z => Lf z.2) (fun _ => W0) (fun z => z.1 ≤ ms.length ∧ J z.1 z.2) (fun z => z.1) (ms.length, s0) ⟨Nat.le_refl _, h0⟩ ZZSUB (fun _ h => h) ?_
  rintro ⟨i, s⟩ ⟨hi, hJ⟩
  simp only at hi hJ
  dsimp only [List.cons_append, List.nil_append]
  repeat (first | (refine M0 ?_; first | refine SL ?_ | refine SB fun _ _ => ?_) | (refine M1 ?_; refine SC ?_) | (refine M2 ?_; refine SE ?_))
  refine XC.cond _ rfl (fun h1 => ?_) (fun h1 => ?_)
  rotate_left
  · have him : i = 0 := by have := of_decide_eq_false h1; omega
    subst him
    repeat (first | (refine M0 ?_; first | refine SL ?_ | refine SB fun _ _ => ?_) | (refine M1 ?_; refine SC ?_) | (refine M2 ?_; refine SE ?_))
    refine XE.end0 Tryz.results105 (fun w' S => ?_)
    exact ⟨_, rfl, .inl ⟨s, hJ, S⟩⟩
  obtain ⟨j, rfl⟩ : ∃ j, i = j + 1 := ⟨i - 1, by have := of_decide_eq_true h1; omega⟩
  obtain ⟨ad, rfl, hlt, hcells⟩ := hq.at_ (by omega)
  have hcell := hcells j (by omega)
  have ej : ((j + 1 : Nat) : Int) - 1 = (j : Nat) := by omega
  rw [ej]
  repeat (first | (refine M0 ?_; first | refine SL ?_ | refine SB fun _ _ => ?_ | refine Y4 (Ev.load_far tok rfl rfl hlp (hfp s) hgp) ?_ | refine Y4 (Ev.load_old tok rfl rfl (add_lt hlt) hcell) ?_) | (refine XI.id ?_; first | refine XI.done ?_ | refine XI.one1 rfl ?_) | (refine XR'.id ?_; first | refine XR'.seq ?_ | refine XR'.region ?_ | refine XR'.block ?_ | refine XR'.skip ?_ | refine XR'.ret ?_ | refine XR'.cond_t rfl ?_ | refine XR'.cond_f rfl ?_ | refine XR'.exit ?_) | (refine M1 ?_; first | refine XC.regionI (id := 3) 1 ?_ | refine SC ?_ | refine SD ?_) | (refine M2 ?_; first | refine XE.nextI ?_ | refine XE.nextR ?_ | refine SE ?_))
  refine XI.yield (vs := [.int .i64 (j : Nat), .int .i64 (at0 ms j)]) rfl rfl rfl (fun _ v w' => (v = .bool true ∧ ∃ s', J j s' ∧ Sys B W0 (Lf s') w') ∨ (v = .bool false ∧ ∃ s', Jx s' ∧ Sys B W0 (Lf s') w')) (fun w4 S4 => hy j s (by omega) hJ w4 S4) (fun w4 v5 w5 S4 hR => ?_)
  rcases hR with ⟨rfl, s', hJ', S5⟩ | ⟨rfl, s', hJ', S5⟩
  · refine ⟨_, _, S5, ?_⟩
    repeat (first | (refine M0 ?_; first | refine SL ?_ | refine SB fun _ _ => ?_) | (refine XI.id ?_; first | refine XI.done ?_ | refine XI.one1 rfl ?_) | (refine XR'.id ?_; first | refine XR'.seq ?_ | refine XR'.region ?_ | refine XR'.block ?_ | refine XR'.skip ?_ | refine XR'.ret ?_ | refine XR'.cond_t rfl ?_ | refine XR'.cond_f rfl ?_ | refine XR'.exit ?_) | (refine M1 ?_; first | refine SC ?_ | refine SD ?_) | (refine M2 ?_; first | refine XE.nextI ?_ | refine XE.nextR ?_ | refine SE ?_))
    repeat (first | (refine M0 ?_; first | refine SL ?_ | refine SB fun _ _ => ?_) | (refine M1 ?_; refine SC ?_) | (refine M2 ?_; refine SE ?_))
    exact XE.round (s := (j + 1, s)) (j, s') ⟨by simp only; omega, hJ'⟩ (by simp only; omega) (Sub.cons (by rw [← ej]; rfl) ZZSUB) (fun _ h => h)
  · refine ⟨_, _, S5, ?_⟩
    repeat (first | (refine M0 ?_; first | refine SL ?_ | refine SB fun _ _ => ?_) | (refine XI.id ?_; first | refine XI.done ?_ | refine XI.one1 rfl ?_) | (refine XR'.id ?_; first | refine XR'.seq ?_ | refine XR'.region ?_ | refine XR'.block ?_ | refine XR'.skip ?_ | refine XR'.ret ?_ | refine XR'.cond_t rfl ?_ | refine XR'.cond_f rfl ?_ | refine XR'.exit ?_) | (refine M1 ?_; first | refine SC ?_ | refine SD ?_) | (refine M2 ?_; first | refine XE.nextI ?_ | refine XE.nextR ?_ | refine SE ?_))
    repeat (first | (refine M0 ?_; first | refine SL ?_ | refine SB fun _ _ => ?_) | (refine M1 ?_; refine SC ?_) | (refine M2 ?_; refine SE ?_))
    refine XE.ret0 Tryz.results105 (fun w' S => ?_)
    exact ⟨_, rfl, .inr ⟨s', hJ', S⟩⟩
def rfOf5 : Code → Option (Code × Code)
  | .rangeFunc _ _ a b => some (a, b)
  | .seq x y => match rfOf5 x with
    | some r => some r
    | none => rfOf5 y
  | .block _ c => rfOf5 c
  | .scope c => rfOf5 c
  | .loop c => rfOf5 c
  | _ => none
def hDef (Ds : List Nat) : Held := ⟨fun W ok => ∀ D, D ∈ Ds → ok D ∧ W.heap[D]? = some (.deferred (some [])), fun h hk D hD => ⟨(h D hD).1, (hk D (h D hD).1).trans (h D hD).2⟩, fun h hk D hD => ⟨hk D (h D hD).1, (h D hD).2⟩⟩
def gamQ (v : CTV) (t : CTk) (gm q : Nat) : List Value :=
  [.slice v.p.A v.p.n v.p.c, .int .i64 t.b.leak, .int .i64 t.b.crest, .int .i64 t.b.over, .slice v.p.A2 v.p.n2 v.p.c2, .slice v.f.A v.f.n v.f.c, .slice v.h.A v.h.n v.h.c, .slice v.r.A v.r.n v.r.c, .int .i64 t.out, .int .i64 t.limit, .int .i64 t.delay,
   .int .i64 t.from_, .int .i64 (t.n : Nat), .int .i64 (q : Nat), .map (some gm)]
def BegR (t : CTk) (v : CTV) (w : World) (e : Ending) (w' : World) : Prop :=
  Below w.heap.size w w' ∧ ((ctE t ≠ 0 ∧ e = .returned (.tuple ⟨[.pointer none, .int .i64 (ctE t)]⟩)) ∨
    (ctE t = 0 ∧ ∃ g gm, e = .returned (.tuple ⟨[.pointer (some ⟨g, 0, none⟩), .int .i64 0]⟩) ∧ Gam t v w.heap.size g gm [g] [] [] w'))
set_option maxHeartbeats 16000000 in
theorem begin_any {v : CTV} {t : CTk} {w : World} (h : CtAt w w.heap.size v t) :
    Calls Tryz.prog 58 #[ctkV v t] w (BegR t v w) := by
  have hhn := h.hn
  have hchk := fun (w5 : World) (hB : Below w.heap.size w w5) => ctCheck_any (v := v) (t := t) (w := w5) ((h.below hB).more hB.size)
  have hhis := fun k hk => h.hisAt (k := k) hk
  have hrn := h.river.len
  obtain ⟨vp, vf, ⟨Ah, nh, ch⟩, ⟨Ar, nr, cr⟩⟩ := v
  simp only at hhn hrn hhis
  subst hhn
  simp only [ctkV, ctkC] at hchk ⊢
  refine enterM Tryz.func58 rfl Tryz.ntmps58 rfl ?_; simp only [frame, Nat.zero_add, Nat.reduceAdd]
  repeat (first | (refine M0 ?_; first | refine SL ?_ | refine SB fun _ _ => ?_ | refine Y4 (Ev.call (f := 85) (ck rfl) rfl (fun w5 S5 => hchk w5 S5.toBelow)) ?_) | (refine M1 ?_; refine SC ?_) | (refine M2 ?_; refine SE ?_))
  rename_i g1 hg1
  have hcv : (chkC t).2.2 = ctE t := rfl
  simp only [hcv]
  by_cases hc : ctE t = 0
  rotate_left
  · rw [show decide (ctE t ≠ 0) = true from decide_eq_true hc]
    repeat (first | (refine M0 ?_; first | refine SL ?_ | refine SB fun _ _ => ?_) | (refine M1 ?_; refine SC ?_) | (refine M2 ?_; refine SE ?_))
    refine XE.retM0 tok Tryz.results58 rfl (by simp only [and_self, and_true]) (fun w' S => ?_)
    exact ⟨S.toBelow, .inl ⟨hc, rfl⟩⟩
  rw [show decide (ctE t ≠ 0) = false from decide_eq_false (fun h => h hc)]
  have ho := ctOk_of hc
  have hm1 := ho.m1
  have hm8 := ho.m8
  have hn60 := ho.n60
  obtain ⟨ah, ⟨A0, n0, c0⟩, rfl, hlth, hck0, hq0⟩ := hhis 0 (by omega)
  have d00 : w.cell? ((ah.add (0 * 2)).add 0) = some (.int .i64 t.from_) := hck0 0 _ rfl
  rw [ho.river] at hrn
  subst hrn
  obtain ⟨v, hv⟩ : ∃ v : CTV, v = ⟨vp, vf, ⟨some ah, t.m, ch⟩, ⟨Ar, t.n, cr⟩⟩ := ⟨_, rfl⟩
  repeat (first | (refine M0 ?_; first | refine SL ?_ | refine SB fun _ _ => ?_) | (refine M1 ?_; refine SC ?_) | (refine M2 ?_; refine SE ?_))
  refine XC.cutn [1] rfl (fun z : Nat × Nat × Nat => [(7, .pointer (some ⟨z.2.2, 0, none⟩)), (31, .pointer (some ⟨z.1, 0, none⟩)), (29, .map (some z.2.1))]) (fun z => [(z.2.2, cel 74 [.pointer (some ⟨z.1, 0, none⟩)]), (z.1, cel 84 (gamQ ⟨vp, vf, ⟨some ah, t.m, ch⟩, ⟨Ar, t.n, cr⟩⟩ t z.2.1 0)), (z.2.1, mapO []), (g1, cel 29 (ctkC ⟨vp, vf, ⟨some ah, t.m, ch⟩, ⟨Ar, t.n, cr⟩⟩ t))]) (fun _ => w) (fun z => w.heap.size ≤ z.1 ∧ w.heap.size ≤ z.2.1 ∧ w.heap.size ≤ z.2.2) ?_ ?_
  · refine XC.drawR _ [0, 1, 2, 3, 4, 5, 6, 7, 8] [9, 10, 11, 12, 13] mixed (fun _ h => h) rfl (by kernel_rfl) ?_
    repeat (any_goals (first | (refine M0 ?_; first | refine SL ?_ | refine SB fun _ _ => ?_ | refine Y4 (Ev.load_old tok rfl rfl (add_lt2 hlth) d00) ?_ | refine XL.makeMap rfl (fun _ _ => ?_)) | (refine M1 ?_; refine SC ?_) | (refine M2 ?_; refine SE ?_) | (refine M3 ?_; first | refine SG ?_ | refine SF ?_ | refine YF (Ev.load_old tok rfl rfl (add_lt2 hlth) d00) ?_) | (refine M4 ?_; refine SR ?_) | (refine M5 ?_; first | exact M7 | refine YM ?_ | refine YN ?_ ?_)))
    any_goals (repeat (first | exact AnyR.nil | refine AnyR.skip rfl ?_))
    all_goals
      refine XE.leaf (_, _, _) ZZSUB (fun _ S' => by first | exact S' | exact S'.perm (by repeat (first | exact List.Perm.refl _ | refine perm1 ?_ | refine List.Perm.cons _ ?_ | refine perm2 ?_)) | exact (S'.pop (by assumption)) | exact (S'.pop2 (by assumption))) ⟨?_, ?_, ?_⟩ <;> assumption
  rintro ⟨g, gm, g7⟩ ⟨hg, hgm, hg7⟩
  simp only at hg hgm hg7
  dsimp only [List.cons_append, List.nil_append]
  refine XC.hint 7 3 (XC.hint 1 0 ?_)
  simp only [gamQ, ctkC]
  repeat (first | (refine M0 ?_; first | refine SL ?_ | refine SB fun _ _ => ?_) | (refine M1 ?_; refine SC ?_) | (refine M2 ?_; refine SE ?_))
  refine XC.rebase (List.Sublist.refl _) (fun W0 S0 => ?_)
  have hF0 : Fam W0 w.heap.size [g7, g, gm, g1] [] [hDef []] := (Fam.start S0.size).hold (x := hDef []) (ok := fun _ => False) (fun D hD => by cases hD) (fun j hj => hj.elim)
  refine XC.loopD [1, 7, 33, 34] rfl (fun z : Nat × World × List Nat => [(35, .int .i64 (z.1 : Nat))]) (fun z => [(g7, cel 74 [.pointer (some ⟨g, 0, none⟩)]), (g, cel 84 (gamQ ⟨vp, vf, ⟨some ah, t.m, ch⟩, ⟨Ar, t.n, cr⟩⟩ t gm (t.qH z.1))), (gm, mapO []), (g1, cel 29 (ctkC ⟨vp, vf, ⟨some ah, t.m, ch⟩, ⟨Ar, t.n, cr⟩⟩ t))]) (fun z => z.2.1) (fun z => z.2.2.map markD)
    (fun z => z.1 ≤ t.m ∧ Below w.heap.size w z.2.1 ∧ Fam z.2.1 w.heap.size [g7, g, gm, g1] [] [hDef z.2.2] ∧ (∀ x, x ∈ [g7, g, gm, g1] → x < z.2.1.heap.size) ∧ z.2.2.Nodup) (fun z => t.m - z.1) (0, W0, []) ⟨Nat.zero_le _, S0.toBelow, hF0, fun x hx => S0.keyLt x hx, .nil⟩ rfl ZZSUB (fun _ h => h) ?_
  rintro ⟨k, W, Ds⟩ ⟨hk, hB, hF, hkl, hnd⟩
  simp only at hk hB hF hkl hnd
  simp only [gamQ, ctkC]
  dsimp only [List.cons_append, List.nil_append]
  repeat (first | (refine M0 ?_; first | refine SL ?_ | refine SB fun _ _ => ?_) | (refine M1 ?_; refine SC ?_) | (refine M2 ?_; refine SE ?_))
  refine XC.cond _ rfl (fun h1 => ?_) (fun h1 => ?_)
  rotate_left
  · have hkm : k = t.m := by have := of_decide_eq_false h1; omega
    subst hkm
    rw [qH_q]
    repeat (first | (refine M0 ?_; first | refine SL ?_ | refine SB fun _ _ => ?_) | (refine M1 ?_; refine SC ?_) | (refine M2 ?_; refine SE ?_))
    refine XE.retMs tok rfl Tryz.results58 rfl (by simp only [and_self, and_true]) (fun w9 S9 D hD => ((hF.sys S9 ZZHL).held (hDef Ds) (.head _) D hD).2) hnd (fun e he hm => ?_) (fun w9 w' S9 hM => ?_)
    · have h2 := (hF.held (hDef Ds) (.head _) e.1 hm).1.2.2.1
      exact h2 (List.mem_map.2 ⟨e, he, rfl⟩)
    have hDs : ∀ D, D ∈ Ds → D ∉ [g7, g, gm, g1] ∧ w.heap.size ≤ D := fun D hD => ⟨(hF.held (hDef Ds) (.head _) D hD).1.2.2.1, (hF.held (hDef Ds) (.head _) D hD).1.1⟩
    have hBw : Below w.heap.size w w' := by
      have h3 := hB.trans S9.toBelow
      exact ⟨hM.os.trans h3.os, hM.tape.trans h3.tape, hM.output.trans h3.output, by rw [hM.size]; exact h3.size, fun j hj => by rw [hM.old j fun hD => by have := (hDs j hD).2; omega]; exact h3.block j hj⟩
    have hgw : w'.heap[g]? = some (gamO ⟨vp, vf, ⟨some ah, t.m, ch⟩, ⟨Ar, t.n, cr⟩⟩ t gm) := by
      rw [hM.old g fun hD => (hDs g hD).1 (by simp)]
      exact (S9.own (g, _) (.tail _ (.head _))).2
    have hmw : w'.heap[gm]? = some (mapO []) := by
      rw [hM.old gm fun hD => (hDs gm hD).1 (by simp)]
      exact (S9.own (gm, _) (.tail _ (.tail _ (.head _)))).2
    have hne : g ≠ gm := fun e => by
      subst e
      rw [hmw] at hgw
      simp [mapO, gamO] at hgw
    refine ⟨hBw, .inr ⟨hc, g, gm, rfl, Fam.start hBw.size, by simp; exact fun e => hne e.symm, by simp, fun x hx => ?_, hg, hgm, hgw, h.below hBw, [], hmw, KeysOk.nil, fun e he => by cases he⟩⟩
    rw [hM.size]
    exact Nat.lt_of_lt_of_le (hkl x (by simp only [List.mem_cons, List.not_mem_nil, or_false] at hx ⊢; omega)) S9.size
  have hkm : k < t.m := by have := of_decide_eq_true h1; omega
  obtain ⟨ad', ⟨Ak, nk, ck1⟩, e, _, hck, hqk⟩ := hhis k hkm
  cases e
  have hlk := hqk.len
  simp only at hlk
  rw [ho.len k hkm] at hlk
  subst hlk
  have hckW : ∀ j u, (hisC ⟨Ak, t.n, ck1⟩ (t.h k))[j]? = some u → W.cell? ((ah.add (k * 2)).add j) = some u := fun j u hj => (below_cell5 hB (add_lt2 hlth)).trans (hck j u hj)
  repeat (first | (refine M0 ?_; first | refine SL ?_ | refine SB fun _ _ => ?_ | refine Y4 (Ev.load_old_agg tok (hisC ⟨Ak, t.n, ck1⟩ (t.h k)) rfl rfl rfl (add_lt hlth) hckW) ?_) | (refine M1 ?_; refine SC ?_) | (refine M2 ?_; refine SE ?_))
  rename_i g9 hg9
  refine XL.callr (fst := []) (cap := []) (fun w1 x w2 => ∃ gp, x = .func (.func 105) #[] #[.pointer (some ⟨gp, 0, none⟩)] ∧ Sys w1.heap.size w1 [(gp, cel 26 [.slice Ak t.n ck1])] w2) (ck rfl) rfl rfl rfl (fun w1 S1 => back0_any (q := ⟨Ak, t.n, ck1⟩)) (fun w1 x w2 S1 hR => ?_)
  obtain ⟨gp, rfl, S2⟩ := hR
  refine ⟨_, w2, (S1.join S2 (List.Sublist.refl _)).rebase (List.sublist_cons_self _ _), ?_⟩
  have hB2 : Below w.heap.size w w2 := hB.trans (S1.toBelow.trans (S2.toBelow.mono (Nat.le_trans S1.base S1.size)))
  have hgpL : ∀ x, x ∈ [g9, g7, g, gm, g1] → x < gp := fun x hx => Nat.lt_of_lt_of_le (S1.keyLt x hx) (S2.own _ (.head _)).1
  have hgpc : w2.cell? ⟨gp, 0, none⟩ = some (.slice Ak t.n ck1) := by
    have := (S2.own _ (.head _)).2
    simp [World.cell?, this]
  have hgpl : gp < w2.heap.size := S2.lt (.head _)
  have hF2 : Fam w2 w.heap.size [g9, g7, g, gm, g1] [] [hDef Ds] := by
    have h3 := (hF.add (ks' := [g9, g7, g, gm, g1]) (fun x hx => by
      rcases List.mem_cons.1 hx with rfl | hx
      · exact .inr hg9
      · exact .inl hx)).sys S1 ZZHL
    exact h3.below S2.toBelow
  have hkl2 : ∀ x, x ∈ [g9, g7, g, gm, g1] → x < w2.heap.size := fun x hx => Nat.lt_trans (hgpL x hx) hgpl
  clear S1 S2
  repeat (first | (refine M0 ?_; first | refine SL ?_ | refine SB fun _ _ => ?_) | (refine M1 ?_; refine SC ?_) | (refine M2 ?_; refine SE ?_))
  refine XC.rangeFuncD (cap := [.pointer (some ⟨gp, 0, none⟩)]) rfl (ck rfl) (fun fn a D w3 hD hf S3 => ?_)
  obtain ⟨Q, hQ⟩ : ∃ Q, Q = t.qH k := ⟨_, rfl⟩
  rw [← hQ] at S3
  have hfS : Fits 64 [] [(1, .pointer (some ⟨g1, 0, none⟩)), (7, .pointer (some ⟨g7, 0, none⟩)), (9, .pointer (some ⟨g9, 0, none⟩))] { tmps := a.tmps, defers := [] } := by
    have h4 := Sub.fits (G := [(1, .pointer (some ⟨g1, 0, none⟩)), (7, .pointer (some ⟨g7, 0, none⟩)), (9, .pointer (some ⟨g9, 0, none⟩))]) ZZSUB hf
    exact ⟨h4.size, rfl, h4.get⟩
  have hbk := back_any (B := w.heap.size) (l := D + 1) (gp := gp) (n := t.n) (c := ck1) (A := Ak) (ms := (t.h k).vals) (σ := Option Nat)
    (fun s => [(D + 1, .loop (recO fn a.tmps #[42, 43] _ _ D (match s with | none => .ready | some _ => .done) (match s with | none => none | some _ => some (.exit 2)))), (D, .deferred (some [])), (g9, cel 133 (hisC ⟨Ak, t.n, ck1⟩ (t.h k))), (g7, cel 74 [.pointer (some ⟨g, 0, none⟩)]),
      (g, cel 84 (gamQ ⟨vp, vf, ⟨some ah, t.m, ch⟩, ⟨Ar, t.n, cr⟩⟩ t gm (match s with | none => Q | some i => max Q (i + 1)))), (gm, mapO []), (g1, cel 29 (ctkC ⟨vp, vf, ⟨some ah, t.m, ch⟩, ⟨Ar, t.n, cr⟩⟩ t))]) w3
    (fun i s => s = none ∧ ∀ j, i ≤ j → j < t.n → at0 (t.h k).vals j ≤ t.limit) (fun s => ∃ i, s = some i ∧ hiL (t.h k).vals t.limit t.n = i + 1) none
    (S3.rebase (List.Sublist.refl _)) ⟨rfl, fun j h1 h2 => by rw [ho.len k hkm] at h1; omega⟩ ?_ ?_ ?_ ?_ ?_ ?_
  rotate_left
  · have h := S3.farCell (a := ⟨gp, 0, none⟩) hgpl (fun e he => by
      have h5 : e.1 ∈ [D + 1, D, g9, g7, g, gm, g1] := List.mem_map.2 ⟨e, he, rfl⟩
      simp only [List.mem_cons, List.not_mem_nil, or_false] at h5
      have h6 := hgpL e.1
      simp only [List.mem_cons, List.not_mem_nil, or_false] at h6
      show e.1 ≠ gp
      rcases h5 with h5 | h5 | h5
      · omega
      · omega
      · have := h6 h5; omega)
    exact h.trans hgpc
  · exact Nat.lt_of_lt_of_le hgpl S3.size
  · intro s e he
    have h5 : e.1 ∈ [D + 1, D, g9, g7, g, gm, g1] := List.mem_map.2 ⟨e, he, rfl⟩
    simp only [List.mem_cons, List.not_mem_nil, or_false] at h5
    have h6 := hgpL e.1
    simp only [List.mem_cons, List.not_mem_nil, or_false] at h6
    rcases h5 with h5 | h5 | h5
    · omega
    · omega
    · have := h6 h5; omega
  · exact hqk.below (hB2.trans S3.toBelow)
  · rw [ho.len k hkm]; omega
  · rintro i s hi ⟨rfl, hJ⟩ w1 S1
    rw [ho.len k hkm] at hi
    have hB3 : Below w.heap.size w w3 := hB2.trans S3.toBelow
    obtain ⟨ak, rfl, hltk, hvk⟩ := hqk.at_ (by rw [ho.len k hkm]; omega)
    have dV : w3.cell? (ak.add (i * 1)) = some (.int .i64 (at0 (t.h k).vals i)) := (below_cell5 hB3 (add_lt hltk)).trans (hvk i (by rw [ho.len k hkm]; exact hi))
    have hloop := (S1.own _ (.head _)).2
    refine ⟨_, _, _, _, run_yield (args := #[.int .i64 (i : Nat), .int .i64 (at0 (t.h k).vals i)]) hloop rfl, ?_⟩
    refine round_of (hfS.params2 rfl rfl) S1 ?_
    clear hloop
    simp only [gamQ, ctkC, hisC, svV]
    repeat (first | (refine M0 ?_; first | refine SL ?_ | refine SB fun _ _ => ?_) | (refine XI.id ?_; first | refine XI.done ?_ | refine XI.one1 rfl ?_) | (refine XR'.id ?_; first | refine XR'.seq ?_ | refine XR'.region ?_ | refine XR'.block ?_ | refine XR'.skip ?_ | refine XR'.ret ?_ | refine XR'.cond_t rfl ?_ | refine XR'.cond_f rfl ?_ | refine XR'.exit ?_) | (refine M1 ?_; first | refine SC ?_ | refine SD ?_) | (refine M2 ?_; first | refine XE.nextI ?_ | refine XE.nextR ?_ | refine SE ?_))
    refine XE.begin (i := 0) rfl rfl rfl ?_
    repeat (first | (refine M0 ?_; first | refine SL ?_ | refine SB fun _ _ => ?_) | (refine XI.id ?_; first | refine XI.done ?_ | refine XI.one1 rfl ?_) | (refine XR'.id ?_; first | refine XR'.seq ?_ | refine XR'.region ?_ | refine XR'.block ?_ | refine XR'.skip ?_ | refine XR'.ret ?_ | refine XR'.cond_t rfl ?_ | refine XR'.cond_f rfl ?_ | refine XR'.exit ?_) | (refine M1 ?_; first | refine SC ?_ | refine SD ?_) | (refine M2 ?_; first | refine XE.nextI ?_ | refine XE.nextR ?_ | refine SE ?_))
    refine XR'.drawRS w3 _ [0, 1, 2, 3, 4, 5, 6, 7] [] mixed (fun _ h => h) rfl rfl (by kernel_rfl) ?_
    repeat (first | (refine M0 ?_; first | refine SL ?_ | refine SB fun _ _ => ?_ | refine Y4 (Ev.load_loc tok 2 (g := g9) (o := 1) rfl rfl rfl rfl) ?_ | refine Y4 (Ev.load_old tok rfl rfl (add_lt hltk) dV) ?_ | refine Y4 (Ev.load_loc tok 6 (g := g1) (o := 9) rfl rfl rfl rfl) ?_) | (refine M2 ?_; refine SE ?_) | (refine M3 ?_; first | refine SG ?_ | refine SF ?_ | refine YF (Ev.load_loc tok 2 (g := g9) (o := 1) rfl rfl rfl rfl) ?_ | refine YF (Ev.load_old tok rfl rfl (add_lt hltk) dV) ?_ | refine YF (Ev.load_loc tok 6 (g := g1) (o := 9) rfl rfl rfl rfl) ?_) | (refine M4 ?_; refine SR ?_) | (refine M5 ?_; first | exact M7 | refine YM ?_ | refine YN ?_ ?_))
    refine XE.onlyN ?_
    repeat (first | (refine M0 ?_; first | refine SL ?_ | refine SB fun _ _ => ?_) | (refine XI.id ?_; first | refine XI.done ?_ | refine XI.one1 rfl ?_) | (refine XR'.id ?_; first | refine XR'.seq ?_ | refine XR'.region ?_ | refine XR'.block ?_ | refine XR'.skip ?_ | refine XR'.ret ?_ | refine XR'.cond_t rfl ?_ | refine XR'.cond_f rfl ?_ | refine XR'.exit ?_) | (refine M1 ?_; first | refine SC ?_ | refine SD ?_) | (refine M2 ?_; first | refine XE.nextI ?_ | refine XE.nextR ?_ | refine SE ?_))
    refine XR'.cond _ rfl (fun h2 => ?_) (fun h2 => ?_)
    · refine XR'.seq ?_
      refine XR'.drawRS (trunc w w.heap.size) [(g7, cel 74 [.pointer (some ⟨g, 0, none⟩)])] [0, 1, 2, 3, 5, 6] [4, 7, 8, 9, 10] mixed (fun _ h => Sys.anchorT hB3 h (fun e he => by rw [List.mem_singleton.1 he]; exact .tail _ (.tail _ (.tail _ (.head _)))) (by simp) (Nat.le_refl _)) rfl rfl (by kernel_rfl) ?_
      repeat (first | (refine M0 ?_; first | refine SL ?_ | refine SB fun _ _ => ?_ | refine Y4 (Ev.load_loc tok 0 (g := g7) (o := 0) rfl rfl rfl rfl) ?_ | refine Y4 (Ev.load_loc tok 4 (g := g) (o := 13) rfl rfl rfl rfl) ?_) | (refine M2 ?_; refine SE ?_) | (refine M3 ?_; first | refine SG ?_ | refine SF ?_ | refine YF (Ev.load_loc tok 0 (g := g7) (o := 0) rfl rfl rfl rfl) ?_ | refine YF (Ev.load_loc tok 4 (g := g) (o := 13) rfl rfl rfl rfl) ?_) | (refine M4 ?_; refine SR ?_) | (refine M5 ?_; first | exact M7 | refine YM ?_ | refine YN ?_ ?_))
      have hle : w.heap.size ≤ w.heap.size := Nat.le_refl _
      refine z7 ?_
      repeat (first | (refine M0 ?_; first | refine SL ?_ | refine SB fun _ _ => ?_) | (refine M2 ?_; refine SE ?_) | (refine M3 ?_; first | refine SG ?_ | refine SF ?_) | (refine M4 ?_; refine SR ?_) | (refine M5 ?_; first | exact M7 | refine YM ?_ | refine YN ?_ ?_))
      refine z7 ?_
      repeat (first | (refine M0 ?_; first | refine SL ?_ | refine SB fun _ _ => ?_) | (refine M2 ?_; refine SE ?_) | (refine M3 ?_; first | refine SG ?_ | refine SF ?_) | (refine M4 ?_; refine SR ?_) | (refine M5 ?_; first | exact M7 | refine YM ?_ | refine YN ?_ ?_))
      refine z7 ?_
      repeat (first | (refine M0 ?_; first | refine SL ?_ | refine SB fun _ _ => ?_ | refine XL.store_at tok 4 (g := g) (o := 13) (j := 0) (cs := gamQ ⟨vp, vf, ⟨some ah, t.m, ch⟩, ⟨Ar, t.n, cr⟩⟩ t gm Q) rfl rfl rfl rfl rfl (Nat.le_of_ble_eq_true rfl) rfl ?_) | (refine M2 ?_; refine SE ?_) | (refine M3 ?_; first | refine SG ?_ | refine SF ?_) | (refine M4 ?_; refine SR ?_) | (refine M5 ?_; first | exact M7 | refine YM ?_ | refine YN ?_ ?_))
      refine z7 ?_
      repeat (first | (refine M0 ?_; first | refine SL ?_ | refine SB fun _ _ => ?_) | (refine M2 ?_; refine SE ?_) | (refine M3 ?_; first | refine SG ?_ | refine SF ?_) | (refine M4 ?_; refine SR ?_) | (refine M5 ?_; first | exact M7 | refine YM ?_ | refine YN ?_ ?_))
      refine XE.onlyN ?_
      repeat (first | (refine M0 ?_; first | refine SL ?_ | refine SB fun _ _ => ?_) | (refine XI.id ?_; first | refine XI.done ?_ | refine XI.one1 rfl ?_) | (refine XR'.id ?_; first | refine XR'.seq ?_ | refine XR'.region ?_ | refine XR'.block ?_ | refine XR'.skip ?_ | refine XR'.ret ?_ | refine XR'.cond_t rfl ?_ | refine XR'.cond_f rfl ?_ | refine XR'.exit ?_) | (refine M1 ?_; first | refine SC ?_ | refine SD ?_) | (refine M2 ?_; first | refine XE.nextI ?_ | refine XE.nextR ?_ | refine SE ?_))
      refine XE.endExit (i := 0) rfl rfl (fun w' S => ?_)
      refine ⟨_, rfl, .inr ⟨rfl, some i, ⟨i, rfl, ?_⟩, ?_⟩⟩
      · have hlb : lastB (fun i => decide (t.limit < at0 (t.h k).vals i)) t.n = some i := lastB_some.2 ⟨hi, h2, fun j h3 h4 => decide_eq_false (by have := hJ j h3 h4; omega)⟩
        unfold hiL
        rw [hlb]
      · have hmx : max (Q : Int) ((i : Int) + 1) = ((max Q (i + 1) : Nat) : Int) := by omega
        rw [hmx] at S
        exact S
      any_goals (repeat (first | exact AnyR.nil | refine AnyR.skip rfl ?_))
    · repeat (first | (refine M0 ?_; first | refine SL ?_ | refine SB fun _ _ => ?_) | (refine XI.id ?_; first | refine XI.done ?_ | refine XI.one1 rfl ?_) | (refine XR'.id ?_; first | refine XR'.seq ?_ | refine XR'.region ?_ | refine XR'.block ?_ | refine XR'.skip ?_ | refine XR'.ret ?_ | refine XR'.cond_t rfl ?_ | refine XR'.cond_f rfl ?_ | refine XR'.exit ?_) | (refine M1 ?_; first | refine SC ?_ | refine SD ?_) | (refine M2 ?_; first | refine XE.nextI ?_ | refine XE.nextR ?_ | refine SE ?_))
      refine XE.endR (i := 0) rfl rfl (fun w' S => ?_)
      refine ⟨_, rfl, .inl ⟨rfl, none, ⟨rfl, fun j h3 h4 => ?_⟩, S⟩⟩
      rcases Nat.lt_or_ge i j with h5 | h5
      · exact hJ j h5 h4
      · have : i = j := by omega
        subst this
        have := of_decide_eq_false h2
        omega
  have hF3 : Fam w3 w.heap.size [D + 1, D, g9, g7, g, gm, g1] [] [hDef Ds] := (hF2.add (ks' := [D + 1, D, g9, g7, g, gm, g1]) (fun x hx => by
    rcases List.mem_cons.1 hx with rfl | hx
    · right; omega
    rcases List.mem_cons.1 hx with rfl | hx
    · right; omega
    · exact .inl hx)).sys S3 ZZHL
  have hkl3 : ∀ x, x ∈ [D + 1, D, g9, g7, g, gm, g1] → x < w3.heap.size := fun x hx => S3.keyLt x hx
  have hB3 : Below w.heap.size w w3 := hB2.trans S3.toBelow
  have hDn : D ∉ Ds := fun hm => by have := (hF2.held (hDef Ds) (.head _) D hm).1.2.1; omega
  have hDg : ∀ x, x ∈ [g7, g, gm, g1] → x < D := fun x hx => by have := hkl2 x (List.mem_cons_of_mem _ hx); omega
  have hfin := fun {L : Lo} (w9 : World) (S9 : Sys w.heap.size w3 L w9) (hm : (D, .deferred (some [])) ∈ L) (hL : ∀ e, e ∈ L → e.1 ∈ [D + 1, D, g9, g7, g, gm, g1] ∨ w3.heap.size ≤ e.1) => (show Below w.heap.size w w9 ∧ Fam w9 w.heap.size [g7, g, gm, g1] [] [hDef (D :: Ds)] ∧ (D :: Ds).Nodup from by
    have h3 := (hF3.sys S9 hL).add (ks' := [g7, g, gm, g1]) (fun x hx => by left; simp only [List.mem_cons, List.not_mem_nil, or_false] at hx ⊢; omega)
    have hDw := (S9.own _ hm).2
    have hDb := (S9.own _ hm).1
    have hDl := S9.lt hm
    have h4 := h3.hold (x := hDef (D :: Ds)) (ok := Free w9 w.heap.size [g7, g, gm, g1] []) (fun x hx => by
      rcases List.mem_cons.1 hx with rfl | hx
      · exact ⟨⟨hDb, hDl, fun h5 => by have := hDg x h5; omega, fun r hr => by cases hr⟩, hDw⟩
      · exact h3.held (hDef Ds) (.head _) x hx) (fun j hj => hj)
    exact ⟨hB3.trans S9.toBelow, h4.forget (fun x hx => by rw [List.mem_singleton.1 hx]; exact .head _), List.nodup_cons.2 ⟨hDn, hnd⟩⟩)
  refine hbk.mono fun e w4 ⟨v4, e4, hz⟩ => ⟨v4, e4, ?_⟩
  rcases hz with ⟨s, ⟨rfl, hall⟩, S4⟩ | ⟨s, ⟨i, rfl, hi⟩, S4⟩
  · refine ⟨.ready, none, _, w3, by decide, S4, ?_⟩
    have hq1 : t.qH (k + 1) = Q := by
      show max (t.qH k) (hiL (t.h k).vals t.limit t.n) = Q
      obtain ⟨a1, a2, _⟩ := hiL_spec (t.h k).vals t.limit t.n
      rcases a2 with a2 | ⟨j, a2, a3⟩
      · omega
      · have := hall j (Nat.zero_le _) (by omega); omega
    dsimp only [RFEnd]
    repeat (first | (refine M0 ?_; first | refine SL ?_ | refine SB fun _ _ => ?_) | (refine M1 ?_; refine SC ?_) | (refine M2 ?_; refine SE ?_))
    refine XE.roundD (s := (k, W, Ds)) (fun w9 S9 => ?_)
    obtain ⟨b1, b2, b3⟩ := hfin w9 S9 (.tail _ (.head _)) ZZHL
    refine ⟨(k + 1, w9, D :: Ds), ⟨hkm, b1, b2, fun x hx => Nat.lt_of_lt_of_le (hkl3 x (by simp only [List.mem_cons, List.not_mem_nil, or_false] at hx ⊢; omega)) S9.size, b3⟩, by simp only; omega, rfl, ZZSUB, ?_⟩
    simp only [hq1]
    exact S9.rebase ZZSM
  · refine ⟨.done, some (.exit 2), _, w3, by decide, S4, ?_⟩
    have hq1 : t.qH (k + 1) = max Q (i + 1) := by
      show max (t.qH k) (hiL (t.h k).vals t.limit t.n) = _
      rw [hi, hQ]
    dsimp only [RFEnd]
    repeat (first | (refine M0 ?_; first | refine SL ?_ | refine SB fun _ _ => ?_) | (refine M1 ?_; refine SC ?_) | (refine M2 ?_; refine SE ?_))
    refine XE.roundD (s := (k, W, Ds)) (fun w9 S9 => ?_)
    obtain ⟨b1, b2, b3⟩ := hfin w9 S9 (.tail _ (.head _)) ZZHL
    refine ⟨(k + 1, w9, D :: Ds), ⟨hkm, b1, b2, fun x hx => Nat.lt_of_lt_of_le (hkl3 x (by simp only [List.mem_cons, List.not_mem_nil, or_false] at hx ⊢; omega)) S9.size, b3⟩, by simp only; omega, rfl, ZZSUB, ?_⟩
    simp only [hq1]
    exact S9.rebase ZZSM
end Go.Proofs.YtmpaiphakjogjaaGreat.X
namespace Go.Proofs.YtmpaiphakjogjaaGreat.X
open Go Go.RowKit Go.Proofs.YtmpaiphakjogjaaGreat.Bs
section
variable {t : CTk} {v : CTV} {b0 b1 g gm : Nat} {ks ks' : List Nat} {rs : List RowX} {hs hs' new : List Held} {w w' wE w0 w1 w2 : World} {L : Lo} {B : Nat}
theorem Gam.lower (h : Gam t v b1 g gm ks [] [] w) (hb : b0 ≤ b1) (ht : CtAt w b0 v t) (hsub : ∀ k, k ∈ ks → k ∈ ks') (hks : ∀ k, k ∈ ks' → k ∈ ks ∨ k < b1) : Gam t v b0 g gm ks' [] [] w := by
  have hl : b1 ≤ w.heap.size := h.fam.base
  refine ⟨Fam.start (Nat.le_trans hb hl), fun hk => ?_, hsub g h.gin, fun k hk => ?_, Nat.le_trans hb h.bg, Nat.le_trans hb h.bm, h.game, ht, h.memo.mono fun j hj => ⟨Nat.le_trans hb hj.1, hj.2.1, fun hk => ?_, fun r hr => by cases hr⟩⟩
  · rcases hks gm hk with h1 | h1
    · exact h.nin h1
    · have := h.bm; omega
  · rcases List.mem_cons.1 hk with rfl | hk
    · exact h.lt k (.head _)
    · rcases hks k hk with h1 | h1
      · exact h.lt k (List.mem_cons_of_mem _ h1)
      · omega
  · rcases List.mem_cons.1 hk with rfl | hk
    · exact hj.2.2.1 (.head _)
    · rcases hks j hk with h1 | h1
      · exact hj.2.2.1 (List.mem_cons_of_mem _ h1)
      · have := hj.1; omega
theorem Gam.less (h : Gam t v b0 g gm ks rs hs w) (hsub : ∀ k, k ∈ ks' → k ∈ ks) (hg : g ∈ ks') : Gam t v b0 g gm ks' rs hs w := by
  have hs' : ∀ k, k ∈ gm :: ks' → k ∈ gm :: ks := fun k hk => by
    rcases List.mem_cons.1 hk with rfl | hk
    · exact .head _
    · exact List.mem_cons_of_mem _ (hsub k hk)
  exact ⟨h.fam.add fun k hk => .inl (hs' k hk), fun hk => h.nin (hsub gm hk), hg, fun k hk => h.lt k (hs' k hk), h.bg, h.bm, h.game, h.task, h.memo.mono fun j hj => ⟨hj.1, hj.2.1, fun hk => hj.2.2.1 (hs' j hk), hj.2.2.2⟩⟩
variable {N : Nat} {ds : List Deferred} {Q : Exit → Act → World → Prop} {F : Fr} {ops : Array Oper} {rest : List Oper} {ty : TypeId} {p : String} {af : Array Edge}
theorem XL.begin5 {d : Nat} {args : Array Operand} {ats : Array TypeId} (hT : CtAt w0 B v t) (ha : evos F args.toList = some [ctkV v t]) (hd : Nat.blt d N = true)
    (k1 : ctE t ≠ 0 → ∀ w', Below B w0 w' → XL Tryz.prog N B w' ds Q ops rest ((d, .tuple ⟨[.pointer none, .int .i64 (ctE t)]⟩) :: F) L)
    (k2 : ctE t = 0 → CtOk t → ∀ w' g gm, Gam t v B g gm (g :: L.map (·.1)) [] [] w' → Below B w0 w' → w0.heap.size ≤ g → XL Tryz.prog N B w' ds Q ops rest ((d, .tuple ⟨[.pointer (some ⟨g, 0, none⟩), .int .i64 0]⟩) :: F) ((g, gamO v t gm) :: L)) :
    XL Tryz.prog N B w0 ds Q ops ({ dst := some d, op := .call { callee := .value (.func 58), args := args, argTypes := ats }, type := ty, pos := p, after := af, guard := none } :: rest) F L := by
  refine XL.callr (fst := []) (cap := []) (fun w x w' => BegR t v w (.returned x) w') (ck rfl) rfl ha hd (fun w S => ?_) (fun w x w' S hR => ?_)
  · simp only [List.nil_append, List.append_nil]
    exact (begin_any ((hT.below S.toBelow).more (Nat.le_trans S.base S.size))).mono fun e w' hR => by
      obtain ⟨h1, h2 | h2⟩ := hR
      · exact ⟨_, h2.2, h1, .inl ⟨h2.1, rfl⟩⟩
      · obtain ⟨h3, g, gm, h4, h5⟩ := h2
        exact ⟨_, h4, h1, .inr ⟨h3, g, gm, rfl, h5⟩⟩
  · obtain ⟨h1, h2 | h2⟩ := hR
    · obtain ⟨h3, h4⟩ := h2
      cases h4
      exact ⟨L, w', S.made h1, k1 h3 w' (S.toBelow.trans (h1.mono (Nat.le_trans S.base S.size)))⟩
    · obtain ⟨h3, g, gm, h4, h5⟩ := h2
      cases h4
      have hB : Below B w0 w' := S.toBelow.trans (h1.mono (Nat.le_trans S.base S.size))
      have hgl : w.heap.size ≤ g := h5.bg
      have hlow : Gam t v B g gm (g :: L.map (·.1)) [] [] w' := h5.lower (Nat.le_trans S.base S.size) (hT.below hB) (fun k hk => by rw [List.mem_singleton.1 hk]; exact .head _) (fun k hk => by
        rcases List.mem_cons.1 hk with rfl | hk
        · exact .inl (.head _)
        · exact .inr (S.keyLt k hk))
      have S' := S.made h1
      refine ⟨(g, gamO v t gm) :: L, w', Sys.start S'.base (fun e he => ?_) ?_, k2 h3 (ctOk_of h3) w' g gm hlow hB (Nat.le_trans S.size hgl)⟩
      · rcases List.mem_cons.1 he with rfl | he
        · exact ⟨hlow.bg, hlow.game⟩
        · exact S'.own e he
      · simp only [List.map_cons, List.nodup_cons]
        refine ⟨fun hm => ?_, S.nd⟩
        have := S.keyLt g hm
        omega
variable {P : Program}
theorem XL.callJ {f : FuncId} {d : Nat} {args : Array Operand} {vs : List Value} {ats : Array TypeId} (R : Value → List Held → Prop) (h : callOk P f = true)
    (ha : evos F args.toList = some vs) (hd : Nat.blt d N = true) (hG : Gam t v b0 g gm ks rs hs w0) (hg : (g, gamO v t gm) ∈ L)
    (hc : ∀ w ks2, Sys b0 w0 L w → (∀ e, e ∈ L → e.1 ∈ ks2) → Gam t v b0 g gm ks2 [] [] w → Calls P f vs.toArray w (GamR t b0 gm ks2 R w))
    (k : ∀ w' x new, R x new → Gam t v b0 g gm (L.map (·.1) ++ ks) rs (new ++ hs) w' → Below b0 w0 w' → XL P N b0 w' ds Q ops rest ((d, x) :: F) L)
    (hL : ∀ e, e ∈ L → e.1 ∈ ks ∨ w0.heap.size ≤ e.1 := by exact ZZHM) :
    XL P N b0 w0 ds Q ops ({ dst := some d, op := .call { callee := .value (.func f), args := args, argTypes := ats }, type := ty, pos := p, after := af, guard := none } :: rest) F L := by
  refine XL.callr (fst := []) (cap := []) (fun w x w' => ∃ new, R x new ∧ Gam t v b0 g gm (L.map (·.1) ++ ks) rs (new ++ hs) w' ∧ Since w gm w') h rfl ha hd (fun w S => ?_) (fun w x w' S hR => ?_)
  · have hA := hG.add S hg hL
    have := hc w _ S (fun e he => List.mem_append_right _ (List.mem_append_left _ (List.mem_map.2 ⟨e, he, rfl⟩))) hA.down
    simp only [List.nil_append, List.append_nil]
    exact this.mono fun e w' ⟨x, new, e1, e2, e3, e4, e5⟩ => ⟨x, e1, new, e2, hA.after rfl e3 e4 e5, e3⟩
  · obtain ⟨new, e2, hG', e3⟩ := hR
    have hne : ∀ e, e ∈ L → e.1 ≠ gm := fun e he e1 => by
      rcases hL e he with h1 | h1
      · exact hG.nin (e1 ▸ h1)
      · have := hG.lt gm (.head _); omega
    have S' : Sys b0 w' L w' := Sys.start hG'.fam.base (fun e he => ⟨(S.own e he).1, by rw [e3.old e.1 (S.lt he) (hne e he)]; exact (S.own e he).2⟩) S.nd
    exact ⟨L, w', S', k w' x new e2 hG' (S.toBelow.trans (e3.below hG.bm (Nat.le_trans S.base S.size)))⟩
theorem XL.pushG {α : Type} {K : Kind α} {d tt : Nat} {x y : Operand} {vv : Value} {l : List α} {a : α} {bytes gn : Nat} (i : Nat) (he : elemOk P tt K.ty K.m bytes = true) (h0 : 0 < K.m)
    (hx : evo F x = some vv) (hy : evo F y = some (.slice (some ⟨gn, 0, none⟩) 1 1)) (hd : Nat.blt d N = true) (hG : Gam t v b0 g gm ks rs hs w0) (hg : (g, gamO v t gm) ∈ L) (hi : rs[i]? = some ⟨α, K, vv, l⟩)
    (hA : (gn, cel K.ty (K.c a)) ∈ L) (ha : K.sl a = []) (h1 : ∀ a : α, (K.c a).all Value.oneCell' = true) (h63 : l.length + 1 ≤ 10000000) (hb : bytes ≤ 10000000)
    (k : ∀ w' r', Gam t v b0 g gm (L.map (·.1) ++ ks) (rs.set i ⟨α, K, svV r', l ++ [a]⟩) hs w' → Below b0 w0 w' → XL P N b0 w' ds Q ops rest ((d, svV r') :: F) L)
    (hL : ∀ e, e ∈ L → e.1 ∈ ks ∨ w0.heap.size ≤ e.1 := by exact ZZHM) :
    XL P N b0 w0 ds Q ops ({ dst := some d, op := .call { callee := .builtin .append, args := #[x, y], argTypes := #[tt, tt] }, type := ty, pos := p, after := af, guard := none } :: rest) F L := by
  have hgmL : ∀ e, e ∈ L → e.1 ≠ gm := fun e he e1 => by
    rcases hL e he with h1 | h1
    · exact hG.nin (e1 ▸ h1)
    · have := hG.lt gm (.head _); omega
  have hri : (⟨α, K, vv, l⟩ : RowX) ∈ rs := List.mem_of_getElem? hi
  refine XL.append2 (v := vv) (m := 1) (n := l.length) (size := K.m) (bytes := bytes) (base := b0) (A := ⟨gn, 0, none⟩) (xs := l.flatMap K.c) (news := K.c a) (L' := L) he h0 hx hy hd (hG.fam.row _ hri) (fun q hq e he2 e1 => ?_) (by rw [K.len]; omega) (fun w S j u hj => ?_) (h1 a) (by unfold maxLen; omega)
    (Nat.le_trans (Nat.mul_le_mul h63 hb) (by decide)) hG.fam.base (List.Sublist.refl _) (fun w v' w' S ho hgr _ hfr => ?_)
  · rcases hL e he2 with h2 | h2
    · exact hG.fam.sep _ hri q hq (e1 ▸ List.mem_cons_of_mem _ h2)
    · have := (hG.fam.lt hri hq).2; omega
  · rw [add_off, Nat.zero_add, S.cell hA j]; exact hj
  · have hW := hG.add S hg hL
    have hsz := hgr.size
    have hsame : ∀ j, j < w.heap.size → vv.ownBlock ≠ some j → w'.heap[j]? = w.heap[j]? := fun j hj hv => hgr.block j hj fun e2 => hv e2.symm
    have hFF := hW.fam.push hi (fun x hx => by rw [ha] at hx; cases hx) ho hsz (fun j hj _ hv => hsame j hj hv) (fun q hq => by
      rcases hfr q hq with h2 | h2
      · exact .inl h2
      · exact .inr ⟨h2, fun hm => by have := hW.lt q hm; omega⟩)
    have hsep : ∀ q, q ∈ gm :: (L.map (·.1) ++ ks) → w'.heap[q]? = w.heap[q]? := fun q hq => hsame q (hW.lt q hq) fun e => hW.fam.sep _ hri q e hq
    have hBw : Below b0 w w' := ⟨hgr.os, hgr.tape, hgr.output, hsz, fun j hj => hsame j (Nat.lt_of_lt_of_le hj (Nat.le_trans S.base S.size)) fun e => by have := (hG.fam.lt hri e).1; omega⟩
    obtain ⟨r', rfl, _⟩ := hFF.sv (K := K) (l := l ++ [a]) (v := v') (List.mem_iff_getElem?.2 ⟨i, by rw [List.getElem?_set_self (List.getElem?_eq_some_iff.1 hi).1]⟩)
    refine k w' r' ⟨hFF, hW.nin, hW.gin, fun q hq => Nat.lt_of_lt_of_le (hW.lt q hq) hsz, hW.bg, hW.bm, (hsep g (List.mem_cons_of_mem _ hW.gin)).trans hW.game, hW.task.below hBw, ?_⟩ (S.toBelow.trans hBw)
    refine (hW.memo.keep (w' := w') fun j hj => ?_).mono fun j hj => ⟨hj.1, Nat.lt_of_lt_of_le hj.2.1 hsz, hj.2.2.1, fun r hr e => ?_⟩
    · rcases hj with hj | rfl
      · exact hsame j hj.2.1 fun e => hj.2.2.2 _ hri e
      · exact hsep _ (.head _)
    · rcases List.mem_or_eq_of_mem_set hr with h2 | h2
      · exact hj.2.2.2 r h2 e
      · subst h2
        rcases hfr j e with h3 | h3
        · exact hj.2.2.2 _ hri h3
        · have := hj.2.1; omega
end
end Go.Proofs.YtmpaiphakjogjaaGreat.X
namespace Go.Proofs.YtmpaiphakjogjaaGreat.Bs
open Go Go.Proofs.YtmpaiphakjogjaaGreat.X
noncomputable def CTk.quiN (t : CTk) : Int := if ctE t ≠ 0 then 0 else t.from_ + t.q
noncomputable def CTk.plnE (t : CTk) (i : Int) : Int := if ctE t ≠ 0 then ctE t else if outB i t.from_ (t.from_ + t.last) = true then 7 else 0
noncomputable def CTk.plnP (t : CTk) (i : Int) : CPl := if t.plnE i ≠ 0 then ⟨0, 0⟩ else t.plan (i - t.from_)
noncomputable def CTk.hldE (t : CTk) (p : CPl) : Int := if ctE t ≠ 0 then ctE t else if t.strange p = true then 7 else 0
noncomputable def CTk.hldL (t : CTk) (p : CPl) : List Bool := if t.hldE p ≠ 0 then [] else t.holdL p
noncomputable def CTk.spans (t : CTk) (k : Nat) (p : CPl) (n : Nat) : List (Int × Int) := (List.range n).map fun i => (t.lo (lvD (t.ins k p i)), t.hi (lvD (t.ins k p i)))
noncomputable def CTk.innE (t : CTk) (k : Int) (p : CPl) : Int :=
  if ctE t ≠ 0 then ctE t else if outB k 0 ((t.m : Int) - 1) = true then 4 else if t.strange p = true then 7 else
  if (firstB (fun i => (t.ins k.toNat p i).isNone) t.n).isSome = true then 3 else 0
noncomputable def CTk.innL (t : CTk) (k : Int) (p : CPl) : List (Int × Int) := if t.innE k p ≠ 0 then [] else t.spans k.toNat p t.n
end Go.Proofs.YtmpaiphakjogjaaGreat.Bs
namespace Go.Proofs.YtmpaiphakjogjaaGreat.X
open Go Go.RowKit Go.Proofs.YtmpaiphakjogjaaGreat.Bs
def boolK5 : Kind Bool := ⟨4, 1, fun b => [.bool b], fun _ => [], fun _ => rfl⟩
theorem bool5_el : elemOk Tryz.prog 58 boolK5.ty boolK5.m 1 = true := by kernel_rfl
def spnK5 : Kind (Int × Int) := ⟨114, 2, fun x => [.int .i64 x.1, .int .i64 x.2], fun _ => [], fun _ => rfl⟩
def HldR (t : CTk) (p : CPl) (x : Value) (new : List Held) : Prop := ∃ q : SV, x = .tuple ⟨[svV q, .int .i64 (t.hldE p)]⟩ ∧ new = [hList boolK5 q (t.hldL p)]
def InnR (t : CTk) (k : Int) (p : CPl) (x : Value) (new : List Held) : Prop := ∃ q : SV, x = .tuple ⟨[svV q, .int .i64 (t.innE k p)]⟩ ∧ new = [hList spnK5 q (t.innL k p)]
end Go.Proofs.YtmpaiphakjogjaaGreat.X
namespace Go.Proofs.YtmpaiphakjogjaaGreat.Bs
open Go Go.Proofs.YtmpaiphakjogjaaGreat.X
theorem holdL_len (t : CTk) (p : CPl) : (t.holdL p).length = t.m := by simp [CTk.holdL]
def CTk.low (t : CTk) (k : Nat) (l : List Int) : CTk := { t with his := t.his.set k ⟨(t.h k).from_, l⟩ }
end Go.Proofs.YtmpaiphakjogjaaGreat.Bs
namespace Go.Proofs.YtmpaiphakjogjaaGreat.X
open Go Go.RowKit Go.Proofs.YtmpaiphakjogjaaGreat.Bs
section
variable {P : Program} {T : TT} {N : Nat} {B : Nat} {w0 : World} {ds : List Deferred} {F : Fr} {L : Lo} {pu : Prop} {dst : Option Tmp} {ty : TypeId} {p : String} {af : Array Edge} {gd : Option (Nat × Bool)}
theorem Ev.slice_both (hT : TOK P T) {t e es : Nat} {x lo hi : Operand} {A : Option Addr} {n c : Nat} {k1 k2 : IntKind} {q1 q2 : Int} (j k : Nat) (hx : evo F x = some (.slice A n c)) (hlo : evo F lo = some (.int k1 q1)) (hhi : evo F hi = some (.int k2 q2)) (hq1 : q1 = (j : Int)) (hq2 : q2 = (k : Int))
    (hs : lkG T.sl t = some (e, es)) (h1 : j ≤ k) (h2 : k ≤ c) : Ev P N B w0 ds pu F L ⟨dst, .slice t x (some lo) (some hi) none, ty, p, af, gd⟩ (.slice (if c = j then A else A.map (·.add (j * es))) (k - j) (c - j)) :=
  .of_run fun a w hf hw => by
    have h := tab_ok hT.sl hs
    unfold slOf at h
    cases hu : P.underlying t with
    | none => rw [hu] at h; cases h
    | some d =>
      rw [hu] at h
      cases d <;> simp at h
      obtain ⟨i, hi', rfl, rfl⟩ := h
      subst hq1 hq2
      have hz := sizeOf_run hi' w
      simp [execOp, hf.eval hx, hf.eval hlo, hf.eval hhi, Instr.sliceAt, Instr.slice, run_underlying hu, Instr.sliceBounds, Instr.sliceBound, asIntOf, hz, h1, h2]
end
theorem CtAt.one {v : CTV} {t : CTk} {w : World} {B k : Nat} {ah : Addr} (h : CtAt w B v t) (hk : k < t.m) (ha : v.h.A = some ah) : CtAt w B ⟨v.p, v.f, ⟨some (ah.add (k * 2)), 1, v.h.c - k⟩, v.r⟩ (t.alone k) := by
  obtain ⟨ad, q, e1, e2, e3, e4⟩ := h.hisAt hk
  rw [ha] at e1
  cases e1
  have hc := h.cap
  rw [h.hn] at hc
  refine ⟨h.bas, h.fil, ⟨[(q, t.h k)], ⟨⟨rfl, fun _ => ⟨_, rfl, by rw [add_block]; exact e2, fun j u hj => e3 j u (by simpa [hisK] using hj)⟩⟩, by show 1 ≤ 9223372036854775807; decide, fun a ha' x hx => ?_⟩, rfl⟩, h.river, by show 1 ≤ v.h.c - k; omega⟩
  rw [List.mem_singleton.1 ha'] at hx
  rw [List.mem_singleton.1 hx]
  exact e4
noncomputable def AloE (t : CTk) (k : Int) : Int := if ctE t ≠ 0 then ctE t else if outB k 0 ((t.m : Int) - 1) = true then 4 else 0
set_option maxHeartbeats 8000000 in
theorem alone_any {v : CTV} {t : CTk} {h0 : Int} {w : World} (h : CtAt w w.heap.size v t) :
    Calls Tryz.prog 30 #[ctkV v t, .int .i64 h0] w fun e w' => Below w.heap.size w w' ∧ ((AloE t h0 ≠ 0 ∧ e = .returned (.tuple ⟨[.pointer none, .int .i64 (AloE t h0)]⟩)) ∨
      (AloE t h0 = 0 ∧ ∃ g gm v' ah, v.h.A = some ah ∧ v' = ⟨v.p, v.f, ⟨some (ah.add (h0.toNat * 2)), 1, v.h.c - h0.toNat⟩, v.r⟩ ∧ h0.toNat < t.m ∧ e = .returned (.tuple ⟨[.pointer (some ⟨g, 0, none⟩), .int .i64 0]⟩) ∧ Gam (t.alone h0.toNat) v' w.heap.size g gm [g] [] [] w' ∧ w.heap.size ≤ g)) := by
  have hhn := h.hn
  have hone := fun (k : Nat) (hk : k < t.m) (ah : Addr) (ha : v.h.A = some ah) => h.one hk ha
  have hadr := fun (k : Nat) (hk : k < t.m) => h.hisAt hk
  have hcap := h.cap
  obtain ⟨vp, vf, ⟨Ah, nh, ch⟩, vr⟩ := v
  simp only at hhn hone hadr hcap
  subst hhn
  simp only [ctkV, ctkC]
  refine enter Tryz.func30 rfl Tryz.ntmps30 rfl ?_; simp only [frame, Nat.zero_add, Nat.reduceAdd]
  repeat (first | (refine M0 ?_; first | refine SL ?_ | refine SB fun _ _ => ?_) | (refine M1 ?_; refine SC ?_) | (refine M2 ?_; refine SE ?_))
  refine XL.begin5 (v := ⟨vp, vf, ⟨Ah, t.m, ch⟩, vr⟩) (t := t) h rfl rfl (fun hc w1 hB1 => ?_) (fun hc ho w1 g gm hG hB1 hg1 => ?_)
  · repeat (first | (refine M0 ?_; first | refine SL ?_ | refine SB fun _ _ => ?_) | (refine M1 ?_; refine SC ?_) | (refine M2 ?_; refine SE ?_))
    rw [show decide (ctE t ≠ 0) = true from decide_eq_true hc]
    repeat (first | (refine M0 ?_; first | refine SL ?_ | refine SB fun _ _ => ?_) | (refine M1 ?_; refine SC ?_) | (refine M2 ?_; refine SE ?_))
    refine XE.retg tok Tryz.results30 rfl (by simp only [and_self, and_true]) (fun w' S => ?_)
    have e1 : AloE t h0 = ctE t := by unfold AloE; rw [if_pos hc]
    exact ⟨hB1.trans S.toBelow, .inl ⟨by rw [e1]; exact hc, by rw [e1]; rfl⟩⟩
  have hm8 := ho.m8
  repeat (first | (refine M0 ?_; first | refine SL ?_ | refine SB fun _ _ => ?_ | refine Y4 (Ev.call (f := 41) (ck rfl) rfl (fun w S => cout_any _ _ _ w)) ?_) | (refine M1 ?_; refine SC ?_) | (refine M2 ?_; refine SE ?_))
  cases hk0 : outB h0 0 ((t.m : Int) - 1)
  rotate_left
  · repeat (first | (refine M0 ?_; first | refine SL ?_ | refine SB fun _ _ => ?_) | (refine M1 ?_; refine SC ?_) | (refine M2 ?_; refine SE ?_))
    refine XE.retg tok Tryz.results30 rfl (by simp only [and_self, and_true]) (fun w' S => ?_)
    have e1 : AloE t h0 = 4 := by unfold AloE; rw [if_neg (by simp [hc]), if_pos hk0]
    exact ⟨hB1.trans S.toBelow, .inl ⟨by rw [e1]; decide, by rw [e1]; rfl⟩⟩
  have hkb := outB_f.1 hk0
  obtain ⟨k, rfl⟩ : ∃ k : Nat, h0 = (k : Int) := ⟨h0.toNat, by omega⟩
  have hkm : k < t.m := by omega
  have e1 : AloE t (k : Nat) = 0 := by unfold AloE; rw [if_neg (by simp [hc]), if_neg (by simp [hk0])]
  obtain ⟨ah, q, rfl, _, _, _⟩ := hadr k hkm
  have hT1 := hone k hkm ah rfl
  have hck : ¬ ch = k := by omega
  repeat (first | (refine M0 ?_; first | refine SL ?_ | refine SB fun _ _ => ?_ | refine Y4 (Ev.slice_both tok k (k + 1) rfl rfl rfl rfl (by omega) rfl (by omega) (by omega)) ?_) | (refine M1 ?_; refine SC ?_) | (refine M2 ?_; refine SE ?_))
  rw [if_neg hck, show k + 1 - k = 1 by omega]
  simp only [Option.map_some]
  repeat (first | (refine M0 ?_; first | refine SL ?_ | refine SB fun _ _ => ?_) | (refine M1 ?_; refine SC ?_) | (refine M2 ?_; refine SE ?_))
  refine XL.rebase (List.Sublist.refl _) (fun W0 S0 => ?_)
  refine XL.begin5 (v := ⟨vp, vf, ⟨some (ah.add (k * 2)), 1, ch - k⟩, vr⟩) (t := t.alone k) (hT1.below (hB1.trans S0.toBelow)) rfl rfl (fun hc2 w2 hB2 => absurd (ctE_of (alone_ok ho hkm)) hc2) (fun hc2 ho2 w2 g' gm' hG2 hB2 hg2 => ?_)
  have hB3 := hB1.trans (S0.toBelow.trans hB2)
  have hgb := hG2.bg
  repeat (first | (refine M0 ?_; first | refine SL ?_ | refine SB fun _ _ => ?_) | (refine M1 ?_; refine SC ?_) | (refine M2 ?_; refine SE ?_))
  refine XE.retg tok Tryz.results30 rfl (by simp only [and_self, and_true]) (fun w' S => ?_)
  have hG3 := (hG2.sys S (.head _) (fun e he => by
    rcases List.mem_cons.1 he with rfl | he
    · exact .inl (.head _)
    · exact .inl (List.mem_cons_of_mem _ (List.mem_map.2 ⟨e, he, rfl⟩)))).less (ks' := [g']) (fun x hx => by rw [List.mem_singleton.1 hx]; exact .head _) (.head _)
  exact ⟨hB3.trans S.toBelow, .inr ⟨e1, g', gm', ⟨vp, vf, ⟨some (ah.add (k * 2)), 1, ch - k⟩, vr⟩, ah, rfl, rfl, hkm, rfl, hG3, hgb⟩⟩
end Go.Proofs.YtmpaiphakjogjaaGreat.X
namespace Go.Proofs.YtmpaiphakjogjaaGreat.X
open Go Go.RowKit Go.Proofs.YtmpaiphakjogjaaGreat.Bs
theorem begs0_any {g : Nat} {w : World} :
    Calls Tryz.prog 31 #[.pointer (some ⟨g, 0, none⟩)] w fun e w' => ∃ v, e = .returned v ∧ ∃ gp, v = .func (.func 73) #[] #[.pointer (some ⟨gp, 0, none⟩)] ∧ Sys w.heap.size w [(gp, cel 74 [.pointer (some ⟨g, 0, none⟩)])] w' := by
  refine enter Tryz.func31 rfl Tryz.ntmps31 rfl ?_; simp only [frame, Nat.zero_add, Nat.reduceAdd]
  repeat (first | (refine M0 ?_; first | refine SL ?_ | refine SB fun _ _ => ?_ | refine Y4 (Ev.makeFunc rfl rfl) ?_) | (refine M1 ?_; first | refine SC ?_ | refine SD ?_) | (refine M2 ?_; refine SE ?_) | (refine M3 ?_; first | refine SG ?_ | refine SF ?_ | refine YF (Ev.makeFunc rfl rfl) ?_) | (refine M4 ?_; refine SR ?_) | (refine M5 ?_; first | exact M7 | refine YM ?_ | refine YN ?_ ?_))
  refine XE.retg tok Tryz.results31 rfl (by simp only [and_self, and_true]) (fun w' S => ?_)
  exact ⟨_, rfl, _, rfl, S⟩
set_option maxHeartbeats 8000000 in
theorem begs_any {σ : Type} (Lf : σ → Lo) (Wf : σ → World) (J : Nat → σ → Prop) (Jx : σ → Prop) {B l gp g gm : Nat} {v : CTV} {t : CTk} (s0 : σ) (ho : CtOk t) (S0 : Sys B (Wf s0) (Lf s0) (Wf s0)) (h0 : J t.beg s0)
    (hgp : (Wf s0).cell? ⟨gp, 0, none⟩ = some (.pointer (some ⟨g, 0, none⟩))) (hlp : gp < (Wf s0).heap.size) (hfp : ∀ e, e ∈ Lf s0 → e.1 ≠ gp) (hg : (g, gamO v t gm) ∈ Lf s0)
    (hy : ∀ i s, i < t.beg → J (i + 1) s → ∀ w1, Sys B (Wf s) (Lf s) w1 → ∃ fn tmps assign body, (Instr.yield l (#[.int .i64 (i : Nat)] : Array Value)).run Tryz.prog w1 = .ok (.round l fn tmps assign body) w1 ∧
        RoundIn Fence.wide 0 Tryz.prog l fn tmps assign body w1 fun e w' => ∃ v, e = .returned v ∧ ((v = .bool true ∧ ∃ s', J i s' ∧ Sys B (Wf s') (Lf s') w') ∨ (v = .bool false ∧ ∃ s', Jx s' ∧ Sys B (Wf s') (Lf s') w'))) :
    Calls Tryz.prog 73 #[.func (.yield l) #[] #[], .pointer (some ⟨gp, 0, none⟩)] (Wf s0) fun e w' => ∃ v, e = .returned v ∧ ((∃ s, J 0 s ∧ Sys B (Wf s) (Lf s) w') ∨ (∃ s, Jx s ∧ Sys B (Wf s) (Lf s) w')) := by
  have h1 := ho.n60
  have h2 := ho.dly
  have hl1 : -31 ≤ t.last ∧ t.last ≤ 60 := by unfold CTk.last; omega
  have hla := fun (w5 : World) (S5 : Sys B (Wf s0) (Lf s0) w5) => last_any (v := v) (t := t) (gm := gm) (S5.own _ hg).2 ho
  refine enterL Tryz.func73 rfl Tryz.ntmps73 rfl (S0) ?_; simp only [frame, Nat.zero_add, Nat.reduceAdd]
  repeat (first | (refine M0 ?_; first | refine SL ?_ | refine SB fun _ _ => ?_ | refine Y4 (Ev.load_far tok rfl rfl hlp hfp hgp) ?_ | refine Y4 (Ev.call (f := 74) (ck rfl) rfl (fun w5 S5 => hla w5 S5)) ?_) | (refine M1 ?_; refine SC ?_) | (refine M2 ?_; refine SE ?_))
  refine XC.loopk [0] rfl (fun z : Int × σ => [(3, .int .i64 z.1)]) (fun z => Lf z.2) (fun z => Wf z.2) (fun z => -31 ≤ z.1 ∧ z.1 ≤ 60 ∧ (z.1 + 1).toNat ≤ t.beg ∧ J (z.1 + 1).toNat z.2) (fun z => (z.1 + 1).toNat) (t.last, s0) ⟨hl1.1, hl1.2, Nat.le_refl _, h0⟩ ZZSUB (fun _ h => h) ?_
  rintro ⟨x, s⟩ ⟨hx1, hx2, hxb, hJ⟩
  simp only at hx1 hx2 hxb hJ
  dsimp only [List.cons_append, List.nil_append]
  repeat (first | (refine M0 ?_; first | refine SL ?_ | refine SB fun _ _ => ?_) | (refine XI.id ?_; first | refine XI.done ?_ | refine XI.one1 rfl ?_) | (refine XR'.id ?_; first | refine XR'.seq ?_ | refine XR'.region ?_ | refine XR'.block ?_ | refine XR'.skip ?_ | refine XR'.ret ?_ | refine XR'.cond_t rfl ?_ | refine XR'.cond_f rfl ?_ | refine XR'.exit ?_) | (refine M1 ?_; first | refine XC.regionI (id := 1) 1 ?_ | refine SC ?_ | refine SD ?_) | (refine M2 ?_; first | refine XE.nextI ?_ | refine XE.nextR ?_ | refine SE ?_))
  by_cases hx : 0 ≤ x
  rotate_left
  · rw [show decide (0 ≤ x) = false from decide_eq_false hx]
    repeat (first | (refine M0 ?_; first | refine SL ?_ | refine SB fun _ _ => ?_) | (refine XI.id ?_; first | refine XI.done ?_ | refine XI.one1 rfl ?_) | (refine XR'.id ?_; first | refine XR'.seq ?_ | refine XR'.region ?_ | refine XR'.block ?_ | refine XR'.skip ?_ | refine XR'.ret ?_ | refine XR'.cond_t rfl ?_ | refine XR'.cond_f rfl ?_ | refine XR'.exit ?_) | (refine M1 ?_; first | refine SC ?_ | refine SD ?_) | (refine M2 ?_; first | refine XE.nextI ?_ | refine XE.nextR ?_ | refine SE ?_))
    refine XI.guard_n rfl ?_ rfl
    repeat (first | (refine M0 ?_; first | refine SL ?_ | refine SB fun _ _ => ?_) | (refine XI.id ?_; first | refine XI.done ?_ | refine XI.one1 rfl ?_) | (refine XR'.id ?_; first | refine XR'.seq ?_ | refine XR'.region ?_ | refine XR'.block ?_ | refine XR'.skip ?_ | refine XR'.ret ?_ | refine XR'.cond_t rfl ?_ | refine XR'.cond_f rfl ?_ | refine XR'.exit ?_) | (refine M1 ?_; first | refine SC ?_ | refine SD ?_) | (refine M2 ?_; first | refine XE.nextI ?_ | refine XE.nextR ?_ | refine SE ?_))
    repeat (first | (refine M0 ?_; first | refine SL ?_ | refine SB fun _ _ => ?_) | (refine M1 ?_; refine SC ?_) | (refine M2 ?_; refine SE ?_))
    have him : (x + 1).toNat = 0 := by omega
    rw [him] at hJ
    refine XE.end0 Tryz.results73 (fun w' S => ?_)
    exact ⟨_, rfl, .inl ⟨s, hJ, S⟩⟩
  · rw [show decide (0 ≤ x) = true from decide_eq_true hx]
    obtain ⟨j, rfl⟩ : ∃ j : Nat, x = (j : Nat) := ⟨x.toNat, by omega⟩
    have ej : ((j : Int) + 1).toNat = j + 1 := by omega
    rw [ej] at hJ hxb
    repeat (first | (refine M0 ?_; first | refine SL ?_ | refine SB fun _ _ => ?_) | (refine XI.id ?_; first | refine XI.done ?_ | refine XI.one1 rfl ?_) | (refine XR'.id ?_; first | refine XR'.seq ?_ | refine XR'.region ?_ | refine XR'.block ?_ | refine XR'.skip ?_ | refine XR'.ret ?_ | refine XR'.cond_t rfl ?_ | refine XR'.cond_f rfl ?_ | refine XR'.exit ?_) | (refine M1 ?_; first | refine SC ?_ | refine SD ?_) | (refine M2 ?_; first | refine XE.nextI ?_ | refine XE.nextR ?_ | refine SE ?_))
    refine XI.guard_y rfl ?_
    refine XI.yield (vs := [.int .i64 (j : Nat)]) rfl rfl rfl (fun _ v w' => (v = .bool true ∧ ∃ s', J j s' ∧ Sys B (Wf s') (Lf s') w') ∨ (v = .bool false ∧ ∃ s', Jx s' ∧ Sys B (Wf s') (Lf s') w')) (fun w4 S4 => hy j s (by omega) hJ w4 S4) (fun w4 v5 w5 S4 hR => ?_)
    rcases hR with ⟨rfl, s', hJ', S5⟩ | ⟨rfl, s', hJ', S5⟩
    · refine ⟨_, _, S5, ?_⟩
      repeat (first | (refine M0 ?_; first | refine SL ?_ | refine SB fun _ _ => ?_) | (refine XI.id ?_; first | refine XI.done ?_ | refine XI.one1 rfl ?_) | (refine XR'.id ?_; first | refine XR'.seq ?_ | refine XR'.region ?_ | refine XR'.block ?_ | refine XR'.skip ?_ | refine XR'.ret ?_ | refine XR'.cond_t rfl ?_ | refine XR'.cond_f rfl ?_ | refine XR'.exit ?_) | (refine M1 ?_; first | refine SC ?_ | refine SD ?_) | (refine M2 ?_; first | refine XE.nextI ?_ | refine XE.nextR ?_ | refine SE ?_))
      repeat (first | (refine M0 ?_; first | refine SL ?_ | refine SB fun _ _ => ?_) | (refine M1 ?_; refine SC ?_) | (refine M2 ?_; refine SE ?_))
      have e0 : ((j : Int) - 1 + 1).toNat = j := by omega
      exact XE.round (s := ((j : Int), s)) ((j : Int) - 1, s') ⟨by simp only; omega, by simp only; omega, by simp only; omega, by simp only; rw [e0]; exact hJ'⟩ (by simp only; omega) ZZSUB (fun _ h => h)
    · refine ⟨_, _, S5, ?_⟩
      repeat (first | (refine M0 ?_; first | refine SL ?_ | refine SB fun _ _ => ?_) | (refine XI.id ?_; first | refine XI.done ?_ | refine XI.one1 rfl ?_) | (refine XR'.id ?_; first | refine XR'.seq ?_ | refine XR'.region ?_ | refine XR'.block ?_ | refine XR'.skip ?_ | refine XR'.ret ?_ | refine XR'.cond_t rfl ?_ | refine XR'.cond_f rfl ?_ | refine XR'.exit ?_) | (refine M1 ?_; first | refine SC ?_ | refine SD ?_) | (refine M2 ?_; first | refine XE.nextI ?_ | refine XE.nextR ?_ | refine SE ?_))
      repeat (first | (refine M0 ?_; first | refine SL ?_ | refine SB fun _ _ => ?_) | (refine M1 ?_; refine SC ?_) | (refine M2 ?_; refine SE ?_))
      refine XE.end0 Tryz.results73 (fun w' S => ?_)
      exact ⟨_, rfl, .inr ⟨s', hJ', S⟩⟩
theorem AloE_ok {t : CTk} {h0 : Int} (h : AloE t h0 = 0) : ctE t = 0 ∧ outB h0 0 ((t.m : Int) - 1) = false ∧ CtOk t ∧ CtOk (t.alone h0.toNat) ∧ h0.toNat < t.m ∧ (t.alone h0.toNat).beg = t.beg := by
  have hc : ctE t = 0 := Classical.byContradiction fun hc => by unfold AloE at h; rw [if_pos hc] at h; exact hc h
  unfold AloE at h
  rw [if_neg (by simp [hc])] at h
  have ho := ctOk_of hc
  have hm := ho.m1
  cases hk : outB h0 0 ((t.m : Int) - 1) with
  | true => rw [hk] at h; cases h
  | false =>
    have hb := outB_f.1 hk
    have hkm : h0.toNat < t.m := by omega
    have en : (t.alone h0.toNat).n = t.n := ho.len _ hkm
    refine ⟨hc, rfl, ho, alone_ok ho hkm, hkm, ?_⟩
    unfold CTk.beg CTk.last
    rw [en]; rfl
section
variable {t : CTk} {v : CTV} {w0 : World} {L : Lo} {B N : Nat} {ds : List Deferred} {Q : Exit → Act → World → Prop} {F : Fr} {ops : Array Oper} {rest : List Oper} {ty : TypeId} {p : String} {af : Array Edge}
theorem XL.alone5 {d : Nat} {args : Array Operand} {ats : Array TypeId} {h0 : Int} (hT : CtAt w0 B v t) (ha : evos F args.toList = some [ctkV v t, .int .i64 h0]) (hd : Nat.blt d N = true)
    (k1 : AloE t h0 ≠ 0 → ∀ w', Below B w0 w' → XL Tryz.prog N B w' ds Q ops rest ((d, .tuple ⟨[.pointer none, .int .i64 (AloE t h0)]⟩) :: F) L)
    (k2 : AloE t h0 = 0 → ∀ w' g gm v', Gam (t.alone h0.toNat) v' B g gm (g :: L.map (·.1)) [] [] w' → Below B w0 w' → w0.heap.size ≤ g → XL Tryz.prog N B w' ds Q ops rest ((d, .tuple ⟨[.pointer (some ⟨g, 0, none⟩), .int .i64 0]⟩) :: F) ((g, gamO v' (t.alone h0.toNat) gm) :: L)) :
    XL Tryz.prog N B w0 ds Q ops ({ dst := some d, op := .call { callee := .value (.func 30), args := args, argTypes := ats }, type := ty, pos := p, after := af, guard := none } :: rest) F L := by
  refine XL.callr (fst := []) (cap := []) (fun w x w' => Below w.heap.size w w' ∧ ((AloE t h0 ≠ 0 ∧ x = .tuple ⟨[.pointer none, .int .i64 (AloE t h0)]⟩) ∨
      (AloE t h0 = 0 ∧ ∃ g gm v' ah, v.h.A = some ah ∧ v' = ⟨v.p, v.f, ⟨some (ah.add (h0.toNat * 2)), 1, v.h.c - h0.toNat⟩, v.r⟩ ∧ h0.toNat < t.m ∧ x = .tuple ⟨[.pointer (some ⟨g, 0, none⟩), .int .i64 0]⟩ ∧ Gam (t.alone h0.toNat) v' w.heap.size g gm [g] [] [] w' ∧ w.heap.size ≤ g))) (ck rfl) rfl ha hd (fun w S => ?_) (fun w x w' S hR => ?_)
  · simp only [List.nil_append, List.append_nil]
    exact (alone_any (h0 := h0) ((hT.below S.toBelow).more (Nat.le_trans S.base S.size))).mono fun e w' hR => by
      obtain ⟨h1, h2 | h2⟩ := hR
      · exact ⟨_, h2.2, h1, .inl ⟨h2.1, rfl⟩⟩
      · obtain ⟨h3, g, gm, v', ah, h4, h5, h6, h7, h8⟩ := h2
        exact ⟨_, h7, h1, .inr ⟨h3, g, gm, v', ah, h4, h5, h6, rfl, h8⟩⟩
  · obtain ⟨h1, h2 | h2⟩ := hR
    · obtain ⟨h3, h4⟩ := h2
      cases h4
      exact ⟨L, w', S.made h1, k1 h3 w' (S.toBelow.trans (h1.mono (Nat.le_trans S.base S.size)))⟩
    · obtain ⟨h3, g, gm, v', ah, h4, h5, h6, h7, h8, h9⟩ := h2
      cases h7
      have hB : Below B w0 w' := S.toBelow.trans (h1.mono (Nat.le_trans S.base S.size))
      have hTo : CtAt w' B v' (t.alone h0.toNat) := by rw [h5]; exact (hT.below hB).one h6 h4
      have hlow : Gam (t.alone h0.toNat) v' B g gm (g :: L.map (·.1)) [] [] w' := h8.lower (Nat.le_trans S.base S.size) hTo (fun k hk => by rw [List.mem_singleton.1 hk]; exact .head _) (fun k hk => by
        rcases List.mem_cons.1 hk with rfl | hk
        · exact .inl (.head _)
        · exact .inr (S.keyLt k hk))
      have S' := S.made h1
      refine ⟨(g, gamO v' (t.alone h0.toNat) gm) :: L, w', Sys.start S'.base (fun e he => ?_) ?_, k2 h3 w' g gm v' hlow hB (Nat.le_trans S.size h9)⟩
      · rcases List.mem_cons.1 he with rfl | he
        · exact ⟨hlow.bg, hlow.game⟩
        · exact S'.own e he
      · simp only [List.map_cons, List.nodup_cons]
        refine ⟨fun hm => ?_, S.nd⟩
        have := S.keyLt g hm
        omega
end
end Go.Proofs.YtmpaiphakjogjaaGreat.X
namespace Go.Proofs.YtmpaiphakjogjaaGreat.X
open Go Go.RowKit Go.Proofs.YtmpaiphakjogjaaGreat.Bs
section
variable {N B : Nat} {w0 : World} {L : Lo} {Q : Exit → Act → World → Prop} {ds : List Deferred} {F : Fr}
theorem XE.blk_ret {id : Nat} (h : XE N B w0 ds Q .ret F L) : XE N B w0 ds (Exit.inBlock id Q) .ret F L := ⟨h.run⟩
theorem Fits.one5 {a : Act} {t : Nat} {v : Value} (h : Fits N ds F a) (ht : Nat.blt t N = true) :
    Fits N [] ((t, v) :: F) { tmps := ((#[t] : Array Tmp).zip #[v]).foldl (fun s (p, y) => s.setIfInBounds p y) a.tmps, defers := [] } := by
  have h1 := h.put (v := v) ht
  have e : ((#[t] : Array Tmp).zip #[v]).foldl (fun s (p, y) => s.setIfInBounds p y) a.tmps = (a.put (some t) v).tmps := by
    simp [Act.put]
  rw [e]
  exact ⟨h1.size, rfl, h1.get⟩
end
set_option maxHeartbeats 16000000 in
theorem Last_any {v : CTV} {t : CTk} {h0 : Int} {w : World} (h : CtAt w w.heap.size v t) :
    Calls Tryz.prog 10 #[ctkV v t, .int .i64 h0] w fun e w' => e = .returned (.tuple ⟨[.int .i64 (t.lasN h0), .int .i64 (t.lasE h0)]⟩) ∧ Below w.heap.size w w' := by
  simp only [ctkV, ctkC]
  refine enterM Tryz.func10 rfl Tryz.ntmps10 rfl ?_; simp only [frame, Nat.zero_add, Nat.reduceAdd]
  repeat (first | (refine M0 ?_; first | refine SL ?_ | refine SB fun _ _ => ?_) | (refine M1 ?_; refine SC ?_) | (refine M2 ?_; refine SE ?_))
  rename_i g2 hg2 g4 hg4 g5 hg5
  refine XL.alone5 (v := v) (t := t) h rfl rfl (fun hc w1 hB1 => ?_) (fun hc w1 g gm v' hG1 hB1 hgl => ?_)
  · repeat (first | (refine M0 ?_; first | refine SL ?_ | refine SB fun _ _ => ?_) | (refine M1 ?_; refine SC ?_) | (refine M2 ?_; refine SE ?_))
    rw [show decide (AloE t h0 ≠ 0) = true from decide_eq_true hc]
    repeat (first | (refine M0 ?_; first | refine SL ?_ | refine SB fun _ _ => ?_) | (refine M1 ?_; refine SC ?_) | (refine M2 ?_; refine SE ?_))
    refine XE.retM0 tok Tryz.results10 rfl (by simp only [and_self, and_true]) (fun w' S => ?_)
    refine ⟨?_, hB1.trans S.toBelow⟩
    by_cases hce : ctE t = 0
    · have hkb : outB h0 0 ((t.m : Int) - 1) = true := by
        cases hk : outB h0 0 ((t.m : Int) - 1) with
        | true => rfl
        | false => unfold AloE at hc; rw [if_neg (by simp [hce]), if_neg (by simp [hk])] at hc; exact absurd rfl hc
      have e0 : AloE t h0 = 4 := by unfold AloE; rw [if_neg (by simp [hce]), if_pos hkb]
      have e1 : t.lasN h0 = 0 := by unfold CTk.lasN; rw [if_neg (by simp [hce]), if_pos hkb]
      have e2 : t.lasE h0 = 4 := by unfold CTk.lasE; rw [if_neg (by simp [hce]), if_pos hkb]
      rw [e0, e1, e2]; rfl
    · have e0 : AloE t h0 = ctE t := by unfold AloE; rw [if_pos hce]
      have e1 : t.lasN h0 = 0 := by unfold CTk.lasN; rw [if_pos hce]
      have e2 : t.lasE h0 = ctE t := by unfold CTk.lasE; rw [if_pos hce]
      rw [e0, e1, e2]; rfl
  obtain ⟨hce, hkb, ho, ho', hkm, hbeg⟩ := AloE_ok hc
  obtain ⟨t', ht'⟩ : ∃ t', t' = t.alone h0.toNat := ⟨_, rfl⟩
  rw [← ht'] at hG1 hbeg ho' ⊢
  simp only [gamO]
  repeat (first | (refine M0 ?_; first | refine SL ?_ | refine SB fun _ _ => ?_) | (refine M1 ?_; refine SC ?_) | (refine M2 ?_; refine SE ?_))
  rename_i g6 hg6
  refine XL.callr (fst := []) (cap := []) (fun w1 x w2 => ∃ gp, x = .func (.func 73) #[] #[.pointer (some ⟨gp, 0, none⟩)] ∧ Sys w1.heap.size w1 [(gp, cel 74 [.pointer (some ⟨g, 0, none⟩)])] w2) (ck rfl) rfl rfl rfl (fun w1 S1 => begs0_any) (fun wX x w2 S1 hR => ?_)
  obtain ⟨gp, rfl, S2⟩ := hR
  refine ⟨_, w2, (S1.join S2 (List.Sublist.refl _)).rebase (List.sublist_cons_self _ _), ?_⟩
  have hz1 := hB1.size
  have hB2 : Below w.heap.size w w2 := hB1.trans (S1.toBelow.trans (S2.toBelow.mono (Nat.le_trans S1.base S1.size)))
  have hgpL : ∀ x, x ∈ [g6, g, g5, g4, g2] → x < gp := fun x hx => Nat.lt_of_lt_of_le (S1.keyLt x hx) (S2.own _ (.head _)).1
  have hgpc : w2.cell? ⟨gp, 0, none⟩ = some (.pointer (some ⟨g, 0, none⟩)) := by
    have := (S2.own _ (.head _)).2
    simp [World.cell?, this]
  have hgpl : gp < w2.heap.size := S2.lt (.head _)
  have hgs1 : g ∈ (g :: [(g5, cel 35 [.int .i64 0]), (g4, cel 3 [.int .i64 0]), (g2, cel 29 (ctkC v t))].map (·.1)) := .head _
  have hG2 : Gam t' v' w.heap.size g gm [g6, g, g5, g4, g2] [] [] w2 := by
    have h1 := (hG1.add S1 (.tail _ (.head _)) ZZHL).made (new := []) S2.toBelow (fun x hx => by cases hx)
    exact h1.less (fun x hx => List.mem_append_left _ hx) (by simp)
  clear S1 S2
  repeat (first | (refine M0 ?_; first | refine SL ?_ | refine SB fun _ _ => ?_) | (refine M1 ?_; refine SC ?_) | (refine M2 ?_; refine SE ?_))
  refine XC.rangeFuncD (cap := [.pointer (some ⟨gp, 0, none⟩)]) rfl (ck rfl) (fun fn a D w3 hD hf S3 => ?_)
  have hfS : Fits 33 [] [(6, .pointer (some ⟨g6, 0, none⟩)), (5, .pointer (some ⟨g5, 0, none⟩)), (4, .pointer (some ⟨g4, 0, none⟩))] { tmps := a.tmps, defers := [] } := by
    have h4 := Sub.fits (G := [(6, .pointer (some ⟨g6, 0, none⟩)), (5, .pointer (some ⟨g5, 0, none⟩)), (4, .pointer (some ⟨g4, 0, none⟩))]) ZZSUB hf
    exact ⟨h4.size, rfl, h4.get⟩
  have hgs2 : g ∈ [g6, g, g5, g4, g2] := by simp
  have hG3 : Gam t' v' w.heap.size g gm [D + 1, D, g6, g, g5, g4, g2] [] [] w3 := by
    have h1 := hG2.add S3 (.tail _ (.tail _ (.tail _ (.head _)))) (fun e he => by
      have h5 : e.1 ∈ [D + 1, D, g6, g, g5, g4, g2] := List.mem_map.2 ⟨e, he, rfl⟩
      rcases List.mem_cons.1 h5 with h5 | h5
      · right; omega
      rcases List.mem_cons.1 h5 with h5 | h5
      · right; omega
      · left; exact h5)
    exact h1.less (fun x hx => List.mem_append_left _ hx) (by simp)
  have hB3 : Below w.heap.size w w3 := hB2.trans S3.toBelow
  have hbg := begs_any (B := w.heap.size) (l := D + 1) (gp := gp) (g := g) (gm := gm) (v := v') (t := t') (σ := World × Option Nat)
    (fun s => [(D + 1, .loop (recO fn a.tmps #[20] _ _ D (match s.2 with | none => .ready | some _ => .done) (match s.2 with | none => none | some _ => some .ret))), (D, .deferred (some [])), (g6, cel 74 [.pointer (some ⟨g, 0, none⟩)]), (g, gamO v' t' gm), (g5, cel 35 [.int .i64 0]), (g4, cel 3 [.int .i64 (match s.2 with | none => 0 | some i => t'.from_ + (i : Nat))]), (g2, cel 29 (ctkC v t))])
    (fun s => s.1)
    (fun i s => s.2 = none ∧ Gam t' v' w.heap.size g gm [D + 1, D, g6, g, g5, g4, g2] [] [] s.1 ∧ Below w.heap.size w s.1 ∧ ∀ j, i ≤ j → j < t'.beg → t'.holds 0 (t'.plan (j : Nat)) = false)
    (fun s => ∃ i, s.2 = some i ∧ Below w.heap.size w s.1 ∧ lastB (fun i => t'.holds 0 (t'.plan (i : Nat))) t'.beg = some i)
    (w3, none) ho' (S3.rebase (List.Sublist.refl _)) ⟨rfl, hG3, hB3, fun j h1 h2 => by omega⟩ ?_ ?_ ?_ ?_ ?_
  rotate_left
  · have h := S3.farCell (a := ⟨gp, 0, none⟩) hgpl (fun e he => by
      have h5 : e.1 ∈ [D + 1, D, g6, g, g5, g4, g2] := List.mem_map.2 ⟨e, he, rfl⟩
      simp only [List.mem_cons, List.not_mem_nil, or_false] at h5
      have h6 := hgpL e.1
      simp only [List.mem_cons, List.not_mem_nil, or_false] at h6
      show e.1 ≠ gp
      rcases h5 with h5 | h5 | h5
      · omega
      · omega
      · have := h6 h5; omega)
    exact h.trans hgpc
  · exact Nat.lt_of_lt_of_le hgpl S3.size
  · intro e he
    have h5 : e.1 ∈ [D + 1, D, g6, g, g5, g4, g2] := List.mem_map.2 ⟨e, he, rfl⟩
    simp only [List.mem_cons, List.not_mem_nil, or_false] at h5
    have h6 := hgpL e.1
    simp only [List.mem_cons, List.not_mem_nil, or_false] at h6
    rcases h5 with h5 | h5 | h5
    · omega
    · omega
    · have := h6 h5; omega
  · exact .tail _ (.tail _ (.tail _ (.head _)))
  · rintro i ⟨W, s⟩ hi ⟨rfl, hGW, hBW, hJ⟩ w1' S1
    simp only at hGW hBW hJ S1
    have hloop := (S1.own _ (.head _)).2
    refine ⟨_, _, _, _, run_yield (args := #[.int .i64 (i : Nat)]) hloop rfl, ?_⟩
    refine round_of (hfS.one5 rfl) S1 ?_
    clear hloop
    simp only [gamO, gamC, ctkC]
    repeat (first | (refine M0 ?_; first | refine SL ?_ | refine SB fun _ _ => ?_) | (refine XI.id ?_; first | refine XI.done ?_ | refine XI.one1 rfl ?_) | (refine XR'.id ?_; first | refine XR'.seq ?_ | refine XR'.region ?_ | refine XR'.block ?_ | refine XR'.skip ?_ | refine XR'.ret ?_ | refine XR'.cond_t rfl ?_ | refine XR'.cond_f rfl ?_ | refine XR'.exit ?_) | (refine M1 ?_; first | refine SC ?_ | refine SD ?_) | (refine M2 ?_; first | refine XE.nextI ?_ | refine XE.nextR ?_ | refine SE ?_))
    refine XE.begin (i := 0) rfl rfl rfl ?_
    repeat (first | (refine M0 ?_; first | refine SL ?_ | refine SB fun _ _ => ?_) | (refine XI.id ?_; first | refine XI.done ?_ | refine XI.one1 rfl ?_) | (refine XR'.id ?_; first | refine XR'.seq ?_ | refine XR'.region ?_ | refine XR'.block ?_ | refine XR'.skip ?_ | refine XR'.ret ?_ | refine XR'.cond_t rfl ?_ | refine XR'.cond_f rfl ?_ | refine XR'.exit ?_) | (refine M1 ?_; first | refine SC ?_ | refine SD ?_) | (refine M2 ?_; first | refine XE.nextI ?_ | refine XE.nextR ?_ | refine SE ?_))
    have hil : (i : Int) ≤ t'.last := by unfold CTk.beg at hi; omega
    have h60 := ho'.n60
    have hdl := ho'.dly
    have hfr := ho'.frm
    have hl1 : -31 ≤ t'.last ∧ t'.last ≤ 60 := by unfold CTk.last; omega
    have hst : t'.strange (t'.plan (i : Nat)) = false := (plan_ok ho' (Int.natCast_nonneg i) hil).1
    have hm1 : 0 < t'.m := ho'.m1
    have hpl := fun {L : Lo} {B : Nat} {W1 : World} (w5 : World) (S5 : Sys B W1 L w5) (hm : (g, gamO v' t' gm) ∈ L) => plan_any (v := v') (t := t') (gm := gm) (i := (i : Nat)) (S5.own _ hm).2 ho' ⟨by omega, by omega⟩
    have hfl := fun (w5 : World) (ks2 : List Nat) (hG5 : Gam t' v' w.heap.size g gm ks2 [] [] w5) => fails_any (p := t'.plan (i : Nat)) hG5 ho' hm1 hst
    simp only [plnV] at hfl
    have hgs3 : g ∈ [D + 1, D, g6, g, g5, g4, g2] := by simp
    refine XR'.drawRS (trunc w w.heap.size) [(g6, cel 74 [.pointer (some ⟨g, 0, none⟩)])] [0, 1, 2] [3, 4, 5] mixed (fun _ h => Sys.anchorT hBW h (fun e he => by rw [List.mem_singleton.1 he]; exact .tail _ (.tail _ (.head _))) (by simp) (Nat.le_refl _)) rfl rfl (by kernel_rfl) ?_
    repeat (first | (refine M0 ?_; first | refine SL ?_ | refine SB fun _ _ => ?_ | refine Y4 (Ev.load_loc tok 0 (g := g6) (o := 0) rfl rfl rfl rfl) ?_) | (refine M2 ?_; refine SE ?_) | (refine M3 ?_; first | refine SG ?_ | refine SF ?_ | refine YF (Ev.load_loc tok 0 (g := g6) (o := 0) rfl rfl rfl rfl) ?_) | (refine M4 ?_; refine SR ?_) | (refine M5 ?_; first | exact M7 | refine YM ?_ | refine YN ?_ ?_))
    repeat (first | (refine M0 ?_; first | refine SL ?_ | refine SB fun _ _ => ?_ | refine Y4 (Ev.call (f := 33) (ck rfl) rfl (fun w5 S5 => hpl w5 S5 (.tail _ (.tail _ (.tail _ (.head _)))))) ?_) | (refine M2 ?_; refine SE ?_) | (refine M3 ?_; first | refine SG ?_ | refine SF ?_ | refine YF (Ev.call (f := 33) (ck rfl) rfl (fun w5 S5 => hpl w5 S5 (.tail _ (.tail _ (.tail _ (.head _)))))) ?_) | (refine M4 ?_; refine SR ?_) | (refine M5 ?_; first | exact M7 | refine YM ?_ | refine YN ?_ ?_))
    have hle : w.heap.size ≤ w.heap.size := Nat.le_refl _
    refine z7 ?_
    repeat (first | (refine M0 ?_; first | refine SL ?_ | refine SB fun _ _ => ?_) | (refine M2 ?_; refine SE ?_) | (refine M3 ?_; first | refine SG ?_ | refine SF ?_) | (refine M4 ?_; refine SR ?_) | (refine M5 ?_; first | exact M7 | refine YM ?_ | refine YN ?_ ?_))
    refine XL.callJ (IntR (idxB (t'.above 0 (t'.plan (i : Nat))) t'.n)) (ck rfl) rfl rfl hGW (.tail _ (.tail _ (.tail _ (.head _)))) (fun w5 ks2 _ _ hG5 => hfl w5 ks2 hG5) (fun w5 x new hR hG5 hB5 => ?_) (fun e he => by
      left
      have h5 : e.1 ∈ [D + 1, D, g6, g, g5, g4, g2] := List.mem_map.2 ⟨e, he, rfl⟩
      exact h5)
    obtain ⟨rfl, rfl⟩ := hR
    have hBW5 : Below w.heap.size w w5 := hBW.trans hB5
    repeat (first | (refine M0 ?_; first | refine SL ?_ | refine SB fun _ _ => ?_) | (refine M2 ?_; refine SE ?_) | (refine M3 ?_; first | refine SG ?_ | refine SF ?_) | (refine M4 ?_; refine SR ?_) | (refine M5 ?_; first | exact M7 | refine YM ?_ | refine YN ?_ ?_))
    refine z7 ?_
    repeat (first | (refine M0 ?_; first | refine SL ?_ | refine SB fun _ _ => ?_) | (refine M2 ?_; refine SE ?_) | (refine M3 ?_; first | refine SG ?_ | refine SF ?_) | (refine M4 ?_; refine SR ?_) | (refine M5 ?_; first | exact M7 | refine YM ?_ | refine YN ?_ ?_))
    refine z7 ?_
    repeat (first | (refine M0 ?_; first | refine SL ?_ | refine SB fun _ _ => ?_) | (refine M2 ?_; refine SE ?_) | (refine M3 ?_; first | refine SG ?_ | refine SF ?_) | (refine M4 ?_; refine SR ?_) | (refine M5 ?_; first | exact M7 | refine YM ?_ | refine YN ?_ ?_))
    refine XE.onlyN ?_
    rw [show decide (idxB (t'.above 0 (t'.plan (i : Nat))) t'.n < 0) = t'.holds 0 (t'.plan (i : Nat)) from idxB_neg]
    repeat (first | (refine M0 ?_; first | refine SL ?_ | refine SB fun _ _ => ?_) | (refine XI.id ?_; first | refine XI.done ?_ | refine XI.one1 rfl ?_) | (refine XR'.id ?_; first | refine XR'.seq ?_ | refine XR'.region ?_ | refine XR'.block ?_ | refine XR'.skip ?_ | refine XR'.ret ?_ | refine XR'.cond_t rfl ?_ | refine XR'.cond_f rfl ?_ | refine XR'.exit ?_) | (refine M1 ?_; first | refine SC ?_ | refine SD ?_) | (refine M2 ?_; first | refine XE.nextI ?_ | refine XE.nextR ?_ | refine SE ?_))
    refine XR'.cond _ rfl (fun h2 => ?_) (fun h2 => ?_)
    · repeat (first | (refine M0 ?_; first | refine SL ?_ | refine SB fun _ _ => ?_ | refine Y4 (Ev.load_loc tok 2 (g := g6) (o := 0) rfl rfl rfl rfl) ?_) | (refine XI.id ?_; first | refine XI.done ?_ | refine XI.one1 rfl ?_) | (refine XR'.id ?_; first | refine XR'.seq ?_ | refine XR'.region ?_ | refine XR'.block ?_ | refine XR'.skip ?_ | refine XR'.ret ?_ | refine XR'.cond_t rfl ?_ | refine XR'.cond_f rfl ?_ | refine XR'.exit ?_) | (refine M1 ?_; first | refine SC ?_ | refine SD ?_) | (refine M2 ?_; first | refine XE.nextI ?_ | refine XE.nextR ?_ | refine SE ?_))
      repeat (first | (refine M0 ?_; first | refine SL ?_ | refine SB fun _ _ => ?_ | refine Y4 (Ev.load_loc tok 3 (g := g) (o := 11) rfl rfl rfl rfl) ?_ | refine XL.store_at tok 5 (g := g4) (o := 0) (j := 0) (cs := [.int .i64 0]) rfl rfl rfl rfl rfl (Nat.le_of_ble_eq_true rfl) rfl ?_ | refine XL.store_at tok 4 (g := g5) (o := 0) (j := 0) (cs := [.int .i64 0]) rfl rfl rfl rfl rfl (Nat.le_of_ble_eq_true rfl) rfl ?_) | (refine XI.id ?_; first | refine XI.done ?_ | refine XI.one1 rfl ?_) | (refine XR'.id ?_; first | refine XR'.seq ?_ | refine XR'.region ?_ | refine XR'.block ?_ | refine XR'.skip ?_ | refine XR'.ret ?_ | refine XR'.cond_t rfl ?_ | refine XR'.cond_f rfl ?_ | refine XR'.exit ?_) | (refine M1 ?_; first | refine SC ?_ | refine SD ?_) | (refine M2 ?_; first | refine XE.nextI ?_ | refine XE.nextR ?_ | refine SE ?_))
      refine XE.endRet (i := 0) rfl rfl (fun w' S => ?_)
      exact ⟨_, rfl, .inr ⟨rfl, (w5, some i), ⟨i, rfl, hBW5, lastB_some.2 ⟨hi, h2, fun j h3 h4 => hJ j h3 h4⟩⟩, S⟩⟩
    · repeat (first | (refine M0 ?_; first | refine SL ?_ | refine SB fun _ _ => ?_) | (refine XI.id ?_; first | refine XI.done ?_ | refine XI.one1 rfl ?_) | (refine XR'.id ?_; first | refine XR'.seq ?_ | refine XR'.region ?_ | refine XR'.block ?_ | refine XR'.skip ?_ | refine XR'.ret ?_ | refine XR'.cond_t rfl ?_ | refine XR'.cond_f rfl ?_ | refine XR'.exit ?_) | (refine M1 ?_; first | refine SC ?_ | refine SD ?_) | (refine M2 ?_; first | refine XE.nextI ?_ | refine XE.nextR ?_ | refine SE ?_))
      refine XE.endR (i := 0) rfl rfl (fun w' S => ?_)
      refine ⟨_, rfl, .inl ⟨rfl, (w5, none), ⟨rfl, hG5.less (fun x hx => List.mem_append_right _ hx) hgs3, hBW5, fun j h3 h4 => ?_⟩, S⟩⟩
      rcases Nat.lt_or_ge i j with h5 | h5
      · exact hJ j h5 h4
      · have : i = j := by omega
        subst this
        exact h2
    any_goals (repeat (first | exact AnyR.nil | refine AnyR.skip rfl ?_))
  have eL : t.lasI h0.toNat = lastB (fun i => t'.holds 0 (t'.plan (i : Nat))) t'.beg := by unfold CTk.lasI; rw [← hbeg, ht']
  refine hbg.mono fun e w4 ⟨v4, e4, hz⟩ => ⟨v4, e4, ?_⟩
  rcases hz with ⟨⟨W, s⟩, ⟨rfl, hGW, hBW, hall⟩, S4⟩ | ⟨⟨W, s⟩, ⟨i, rfl, hBW, hi⟩, S4⟩
  · refine ⟨.ready, none, _, W, by decide, S4, ?_⟩
    dsimp only [RFEnd]
    rw [lastB_none.2 fun j hj => hall j (Nat.zero_le _) hj] at eL
    have e1 : t.lasN h0 = 0 := by unfold CTk.lasN; rw [if_neg (by simp [hce]), if_neg (by simp [hkb]), eL]
    have e2 : t.lasE h0 = 9 := by unfold CTk.lasE; rw [if_neg (by simp [hce]), if_neg (by simp [hkb]), eL]
    repeat (first | (refine M0 ?_; first | refine SL ?_ | refine SB fun _ _ => ?_) | (refine M1 ?_; refine SC ?_) | (refine M2 ?_; refine SE ?_))
    refine XE.retM (i := 1) tok Tryz.results10 rfl rfl rfl (by simp only [and_self, and_true]) (fun w' S => ?_)
    exact ⟨by rw [e1, e2]; rfl, hBW.trans S.toBelow⟩
  · refine ⟨.done, some .ret, _, W, by decide, S4, ?_⟩
    dsimp only [RFEnd]
    rw [hi] at eL
    have e1 : t.lasN h0 = t'.from_ + (i : Nat) := by unfold CTk.lasN; rw [if_neg (by simp [hce]), if_neg (by simp [hkb]), eL, ht']; exact congrArg (· + (i : Int)) (ho.from_ _ hkm).symm
    have e2 : t.lasE h0 = 0 := by unfold CTk.lasE; rw [if_neg (by simp [hce]), if_neg (by simp [hkb]), eL]
    refine XE.blk_ret (XE.then_ret ?_)
    refine XE.retM (i := 1) tok Tryz.results10 rfl rfl rfl (by simp only [and_self, and_true]) (fun w' S => ?_)
    exact ⟨by rw [e1, e2]; rfl, hBW.trans S.toBelow⟩
end Go.Proofs.YtmpaiphakjogjaaGreat.X
namespace Go.Proofs.YtmpaiphakjogjaaGreat.X
open Go Go.RowKit Go.Proofs.YtmpaiphakjogjaaGreat.Bs
def rulC (g : Nat) (r : CRu) : List Value := [.pointer (some ⟨g, 0, none⟩), .int .i64 r.count, .int .i64 r.early]
abbrev rulO (g : Nat) (r : CRu) : Obj := cel 93 (rulC g r)
def ruV (r : CRu) : Value := .agg ⟨[.int .i64 r.count, .int .i64 r.early]⟩
def WitR (t : CTk) (v : CTV) (r : CRu) (w : World) (e : Ending) (w' : World) : Prop :=
  Below w.heap.size w w' ∧ ((ruE t r ≠ 0 ∧ e = .returned (.tuple ⟨[.pointer none, .int .i64 (ruE t r)]⟩)) ∨
    (ruE t r = 0 ∧ ∃ gr g gm, e = .returned (.tuple ⟨[.pointer (some ⟨gr, 0, none⟩), .int .i64 0]⟩) ∧ Gam t v w.heap.size g gm [gr, g] [] [] w' ∧ w'.heap[gr]? = some (rulO g r) ∧ w.heap.size ≤ gr))
theorem with_any {v : CTV} {t : CTk} {r : CRu} {w : World} (h : CtAt w w.heap.size v t) :
    Calls Tryz.prog 40 #[ctkV v t, ruV r] w (WitR t v r w) := by
  simp only [ctkV, ctkC, ruV]
  refine enter Tryz.func40 rfl Tryz.ntmps40 rfl ?_; simp only [frame, Nat.zero_add, Nat.reduceAdd]
  repeat (first | (refine M0 ?_; first | refine SL ?_ | refine SB fun _ _ => ?_) | (refine M1 ?_; refine SC ?_) | (refine M2 ?_; refine SE ?_))
  refine XL.begin5 (v := v) (t := t) h rfl rfl (fun hc w1 hB1 => ?_) (fun hc ho w1 g gm hG hB1 hg1 => ?_)
  · repeat (first | (refine M0 ?_; first | refine SL ?_ | refine SB fun _ _ => ?_) | (refine M1 ?_; refine SC ?_) | (refine M2 ?_; refine SE ?_))
    rw [show decide (ctE t ≠ 0) = true from decide_eq_true hc]
    repeat (first | (refine M0 ?_; first | refine SL ?_ | refine SB fun _ _ => ?_) | (refine M1 ?_; refine SC ?_) | (refine M2 ?_; refine SE ?_))
    refine XE.retg tok Tryz.results40 rfl (by simp only [and_self, and_true]) (fun w' S => ?_)
    have e1 : ruE t r = ctE t := by unfold ruE; rw [if_pos hc]
    exact ⟨hB1.trans S.toBelow, .inl ⟨by rw [e1]; exact hc, by rw [e1]; rfl⟩⟩
  rename_i g2 hg2 g3 hg3
  repeat (first | (refine M0 ?_; first | refine SL ?_ | refine SB fun _ _ => ?_ | refine Y4 (Ev.call (f := 41) (ck rfl) rfl (fun w S => cout_any _ _ _ w)) ?_) | (refine M1 ?_; refine SC ?_) | (refine M2 ?_; refine SE ?_))
  cases hb1 : outB r.count 1 8
  rotate_left
  · repeat (first | (refine M0 ?_; first | refine SL ?_ | refine SB fun _ _ => ?_) | (refine M1 ?_; refine SC ?_) | (refine M2 ?_; refine SE ?_))
    refine XE.retg tok Tryz.results40 rfl (by simp only [and_self, and_true]) (fun w' S => ?_)
    have e1 : ruE t r = 7 := by unfold ruE; rw [if_neg (by simp [hc]), hb1]; rfl
    exact ⟨hB1.trans S.toBelow, .inl ⟨by rw [e1]; decide, by rw [e1]; rfl⟩⟩
  repeat (first | (refine M0 ?_; first | refine SL ?_ | refine SB fun _ _ => ?_ | refine Y4 (Ev.call (f := 41) (ck rfl) rfl (fun w S => cout_any _ _ _ w)) ?_) | (refine M1 ?_; refine SC ?_) | (refine M2 ?_; refine SE ?_))
  cases hb2 : outB r.early 0 60
  rotate_left
  · repeat (first | (refine M0 ?_; first | refine SL ?_ | refine SB fun _ _ => ?_) | (refine M1 ?_; refine SC ?_) | (refine M2 ?_; refine SE ?_))
    refine XE.retg tok Tryz.results40 rfl (by simp only [and_self, and_true]) (fun w' S => ?_)
    have e1 : ruE t r = 7 := by unfold ruE; rw [if_neg (by simp [hc]), hb1, hb2]; rfl
    exact ⟨hB1.trans S.toBelow, .inl ⟨by rw [e1]; decide, by rw [e1]; rfl⟩⟩
  repeat (first | (refine M0 ?_; first | refine SL ?_ | refine SB fun _ _ => ?_) | (refine M1 ?_; refine SC ?_) | (refine M2 ?_; refine SE ?_))
  rename_i gr hgr
  refine XE.retg tok Tryz.results40 rfl (by simp only [and_self, and_true]) (fun w' S => ?_)
  have e1 : ruE t r = 0 := by unfold ruE; rw [if_neg (by simp [hc]), hb1, hb2]; rfl
  have hz1 := hB1.size
  have hgs : g ∈ (g :: [(g3, cel 31 [.int .i64 r.count, .int .i64 r.early]), (g2, cel 29 (ctkC v t))].map (·.1)) := .head _
  have hG3 := (hG.add S (.tail _ (.head _)) ZZHL).less (ks' := [gr, g]) (fun x hx => by simp only [List.mem_cons, List.not_mem_nil, or_false] at hx; simp only [List.map_cons, List.map_nil, List.mem_append, List.mem_cons, List.not_mem_nil, or_false]; omega) (by simp)
  exact ⟨hB1.trans S.toBelow, .inr ⟨e1, gr, g, gm, rfl, hG3, (S.own _ (.head _)).2, by omega⟩⟩
section
variable {t : CTk} {v : CTV} {r : CRu} {g gr gm : Nat} {w : World}
theorem highs1_any {g1 : Nat} {i x : Int} (h1 : w.heap[g1]? = some (cel 89 [.pointer (some ⟨gr, 0, none⟩)])) (hr : w.heap[gr]? = some (rulO g r)) (hg : w.heap[g]? = some (gamO v t gm)) :
    Calls Tryz.prog 84 #[.int .i64 i, .int .i64 x, .pointer (some ⟨g1, 0, none⟩)] w fun e w' => e = .returned (.bool (decide (t.limit < x))) ∧ Below w.heap.size w w' := by
  have c1 : w.cell? ⟨g1, 0, none⟩ = some (.pointer (some ⟨gr, 0, none⟩)) := by simp [World.cell?, h1]
  have c2 : w.cell? ((⟨gr, 0, none⟩ : Addr).add 0) = some (.pointer (some ⟨g, 0, none⟩)) := by rw [add_off]; simp [World.cell?, hr, rulC]
  have c3 : w.cell? ((⟨g, 0, none⟩ : Addr).add 9) = some (.int .i64 t.limit) := by rw [add_off]; simp [World.cell?, hg, gamC]
  have l1 := (Array.getElem?_eq_some_iff.1 h1).1
  have l2 := (Array.getElem?_eq_some_iff.1 hr).1
  have l3 := (Array.getElem?_eq_some_iff.1 hg).1
  refine enter Tryz.func84 rfl Tryz.ntmps84 rfl ?_; simp only [frame, Nat.zero_add, Nat.reduceAdd]
  repeat (first | (refine M0 ?_; first | refine SL ?_ | refine SB fun _ _ => ?_ | refine Y4 (Ev.load_old tok rfl rfl l1 c1) ?_ | refine Y4 (Ev.load_old tok rfl rfl l2 c2) ?_ | refine Y4 (Ev.load_old tok rfl rfl l3 c3) ?_) | (refine M1 ?_; refine SC ?_) | (refine M2 ?_; refine SE ?_))
  refine XE.retg tok Tryz.results84 rfl (by simp only [and_self, and_true]) (fun w' S => ?_)
  exact ⟨rfl, S.toBelow⟩
theorem fst_idx (t : CTk) (k : Nat) (ho : CtOk t) (hk : k < t.m) : idxB (fun i => decide (t.limit < at0 (t.h k).vals i)) (t.h k).vals.length = match t.fst k with | none => -1 | some i => (i : Int) := by
  unfold idxB CTk.fst
  rw [ho.len k hk, show (fun i => decide (t.limit < at0 (t.h k).vals i)) = fun i => decide (t.limit < t.v k i) from rfl]
  cases firstB (fun i => decide (t.limit < t.v k i)) t.n <;> rfl
theorem lstTo_succ (t : CTk) (k : Nat) : t.lstTo (k + 1) = match t.fst k with | none => t.lstTo k | some i => min (t.lstTo k) i := rfl
theorem fst_lt {k i : Nat} (h : t.fst k = some i) : i < t.n := (firstB_some.1 h).1
set_option maxHeartbeats 8000000 in
theorem highs_any (hT : CtAt w w.heap.size v t) (ho : CtOk t) (hr : w.heap[gr]? = some (rulO g r)) (hg : w.heap[g]? = some (gamO v t gm)) :
    Calls Tryz.prog 54 #[.pointer (some ⟨gr, 0, none⟩)] w (Made w fun x new => ∃ q : SV, x = .tuple ⟨[svV q, .int .i64 (t.lst : Nat)]⟩ ∧ new = [hList intK5 q (t.fld.map fun k => ((k : Nat) : Int))]) := by
  have hm8 := ho.m8
  have hm1 := ho.m1
  have hn60 := ho.n60
  have hhn := hT.hn
  have hhis := fun k hk => hT.hisAt (k := k) hk
  have l2 := (Array.getElem?_eq_some_iff.1 hr).1
  have l3 := (Array.getElem?_eq_some_iff.1 hg).1
  have c2 : w.cell? ((⟨gr, 0, none⟩ : Addr).add 0) = some (.pointer (some ⟨g, 0, none⟩)) := by rw [add_off]; simp [World.cell?, hr, rulC]
  have cn : w.cell? ((⟨g, 0, none⟩ : Addr).add 12) = some (.int .i64 (t.n : Nat)) := by rw [add_off]; simp [World.cell?, hg, gamC]
  have ch : w.cell? (((⟨g, 0, none⟩ : Addr).add 0).add 6) = some (.slice v.h.A v.h.n v.h.c) := by rw [add_off, add_off]; simp [World.cell?, hg, gamC]
  obtain ⟨vp, vf, ⟨Ah, nh, ch'⟩, vr⟩ := v
  simp only at hhn hhis ch
  subst hhn
  refine enter Tryz.func54 rfl Tryz.ntmps54 rfl ?_; simp only [frame, Nat.zero_add, Nat.reduceAdd]
  repeat (first | (refine M0 ?_; first | refine SL ?_ | refine SB fun _ _ => ?_ | refine Y4 (Ev.load_old tok rfl rfl l2 c2) ?_ | refine Y4 (Ev.load_old tok rfl rfl l3 cn) ?_ | refine Y4 (Ev.load_old tok rfl rfl l3 ch) ?_) | (refine M1 ?_; refine SC ?_) | (refine M2 ?_; refine SE ?_))
  rename_i g1 hg1
  obtain ⟨ah, ⟨A0, n0, c0⟩, rfl, hlth, _, _⟩ := hhis 0 (by omega)
  refine XC.rebase (List.Sublist.refl _) (fun W0 S0 => ?_)
  have hR0 : Fam W0 w.heap.size [g1] [⟨Int, intK5, .slice none 0 0, (t.fldTo 0).map fun k => ((k : Nat) : Int)⟩] [] := Fam.nil intK5 (Fam.start S0.size)
  refine XC.loopk [1, 21, 22] rfl (fun z : Nat × World × SV => [(2, svV z.2.2), (3, .int .i64 (t.lstTo z.1 : Nat)), (23, .int .i64 (z.1 : Nat))]) (fun z => [(g1, cel 89 [.pointer (some ⟨gr, 0, none⟩)])]) (fun z => z.2.1)
    (fun z => z.1 ≤ t.m ∧ Below w.heap.size w z.2.1 ∧ Fam z.2.1 w.heap.size [g1] [⟨Int, intK5, svV z.2.2, (t.fldTo z.1).map fun k => ((k : Nat) : Int)⟩] [] ∧ g1 < z.2.1.heap.size) (fun z => t.m - z.1) (0, W0, ⟨none, 0, 0⟩) ⟨Nat.zero_le _, S0.toBelow, hR0, S0.lt (.head _)⟩ ZZSUB (fun _ h => h) ?_
  rintro ⟨k, W, q⟩ ⟨hk, hB, hF, hgl⟩
  simp only at hk hB hF hgl
  simp only [svV]
  dsimp only [List.cons_append, List.nil_append]
  repeat (first | (refine M0 ?_; first | refine SL ?_ | refine SB fun _ _ => ?_) | (refine M1 ?_; refine SC ?_) | (refine M2 ?_; refine SE ?_))
  refine XC.cond _ rfl (fun h1 => ?_) (fun h1 => ?_)
  rotate_left
  · have hkm : k = t.m := by have := of_decide_eq_false h1; omega
    subst hkm
    repeat (first | (refine M0 ?_; first | refine SL ?_ | refine SB fun _ _ => ?_) | (refine M1 ?_; refine SC ?_) | (refine M2 ?_; refine SE ?_))
    refine XE.retg tok Tryz.results54 rfl (by simp only [and_self, and_true]) (fun w' S => ?_)
    have hF9 := hF.sys S ZZHL
    obtain ⟨qA, qn, qc⟩ := q
    exact ⟨_, _, rfl, ⟨⟨qA, qn, qc⟩, rfl, rfl⟩, fun x hx => by rw [List.mem_singleton.1 hx]; exact hF9.listOf (K := intK5) (.head _), hB.trans S.toBelow⟩
  have hkm : k < t.m := by have := of_decide_eq_true h1; omega
  obtain ⟨ad', ⟨Ak, nk, ck1⟩, e, _, hck, hqk⟩ := hhis k hkm
  cases e
  have hlk := hqk.len
  simp only at hlk
  rw [ho.len k hkm] at hlk
  subst hlk
  have hckW : ∀ j u, (hisC ⟨Ak, t.n, ck1⟩ (t.h k))[j]? = some u → W.cell? ((ah.add (k * 2)).add j) = some u := fun j u hj => (below_cell5 hB (add_lt2 hlth)).trans (hck j u hj)
  have hwh := fun {L : Lo} (w5 : World) (S5 : Sys w.heap.size W L w5) (hm : (g1, cel 89 [.pointer (some ⟨gr, 0, none⟩)]) ∈ L) => where_pure (f := 84) (cap := [.pointer (some ⟨g1, 0, none⟩)]) (P := fun i => decide (t.limit < at0 (t.h k).vals i)) (r := ⟨Ak, t.n, ck1⟩) (ms := (t.h k).vals) (w := w5) (ck rfl)
    ((hqk.below (hB.trans S5.toBelow)).mono fun j hj => Nat.lt_of_lt_of_le hj (Nat.le_trans S5.base S5.size)) (by rw [ho.len k hkm]; omega) (fun i hi w' hb => highs1_any (v := ⟨vp, vf, ⟨some ah, t.m, ch'⟩, vr⟩) (Below.keep hb (S5.own _ hm).2) (by
      have := (hB.trans (S5.toBelow.trans (hb.mono (Nat.le_trans S5.base S5.size)))).block gr l2
      exact this.trans hr) (by
      have := (hB.trans (S5.toBelow.trans (hb.mono (Nat.le_trans S5.base S5.size)))).block g l3
      exact this.trans hg))
  simp only [svV, List.nil_append, List.cons_append] at hwh
  repeat (first | (refine M0 ?_; first | refine SL ?_ | refine SB fun _ _ => ?_ | refine Y4 (Ev.load_old_agg tok (hisC ⟨Ak, t.n, ck1⟩ (t.h k)) rfl rfl rfl (add_lt hlth) hckW) ?_) | (refine M1 ?_; refine SC ?_) | (refine M2 ?_; refine SE ?_))
  rename_i g5 hg5
  refine XL.step _ (Ev.makeFunc rfl rfl) rfl ?_
  repeat (first | (refine M0 ?_; first | refine SL ?_ | refine SB fun _ _ => ?_ | refine Y4 (Ev.call (f := 75) (ck rfl) rfl (fun w5 S5 => hwh w5 S5 (.tail _ (.head _)))) ?_) | (refine M1 ?_; refine SC ?_) | (refine M2 ?_; refine SE ?_))
  rw [fst_idx t k ho hkm]
  have hsu := fldTo_succ t k
  have hll := lstTo_le t k
  have hfl := fldTo_len t k
  cases hfi : t.fst k with
  | none =>
    simp only
    have e1 : t.fldTo (k + 1) = t.fldTo k := by rw [hsu, hfi, if_neg (by simp)]; simp
    have e2 : t.lstTo (k + 1) = t.lstTo k := by rw [lstTo_succ, hfi]
    repeat (first | (refine M0 ?_; first | refine SL ?_ | refine SB fun _ _ => ?_) | (refine M1 ?_; refine SC ?_) | (refine M2 ?_; refine SE ?_))
    refine XE.roundW (s := (k, W, q)) (fun w9 S9 => ⟨(k + 1, w9, q), ⟨hkm, hB.trans S9.toBelow, ?_, Nat.lt_of_lt_of_le hgl S9.size⟩, by simp only; omega, ?_, S9.rebase ZZSM⟩)
    · simp only [e1]
      exact hF.sys S9 ZZHL
    · simp only [e2]
      exact ZZSUB
  | some i =>
    simp only
    have hin := fst_lt hfi
    repeat (first | (refine M0 ?_; first | refine SL ?_ | refine SB fun _ _ => ?_ | refine XL.buildSlice tok rfl rfl rfl rfl rfl rfl rfl rfl rfl (fun _ _ => ?_)) | (refine M1 ?_; refine SC ?_) | (refine M2 ?_; refine SE ?_))
    have e1 : t.fldTo (k + 1) = t.fldTo k ++ [k] := by rw [hsu, hfi]; rfl
    have e2 : t.lstTo (k + 1) = min (t.lstTo k) i := by rw [lstTo_succ, hfi]
    rename_i gn hgn
    refine XL.push (K := intK5) (a := (k : Nat)) (wE := w) 0 int5_el (by decide) rfl rfl rfl hF rfl (fun j hj => by rw [List.mem_singleton.1 hj]; exact hgl) hB (Nat.le_refl _) rfl (by rw [List.length_map]; omega) (by decide) (fun x hx => by cases hx) (fun w2 v2 hF2 hB2 hk2 => ?_)
    have hl : (t.fldTo k).map (fun k => ((k : Nat) : Int)) ++ [((k : Nat) : Int)] = (t.fldTo (k + 1)).map fun k => ((k : Nat) : Int) := by rw [e1, List.map_append]; rfl
    simp only [List.set_cons_zero, hl] at hF2
    obtain ⟨r', rfl, _⟩ := hF2.sv (K := intK5) (l := (t.fldTo (k + 1)).map fun k => ((k : Nat) : Int)) (v := v2) (.head _)
    obtain ⟨rA, rn, rc⟩ := r'
    simp only [svV]
    repeat (first | (refine M0 ?_; first | refine SL ?_ | refine SB fun _ _ => ?_) | (refine M1 ?_; refine SC ?_) | (refine M2 ?_; refine SE ?_))
    have e3 : min (t.lstTo k : Int) (i : Int) = (t.lstTo (k + 1) : Nat) := by rw [e2]; omega
    refine XE.roundW (s := (k, W, q)) (fun w9 S9 => ⟨(k + 1, w9, ⟨rA, rn, rc⟩), ⟨hkm, hB2.trans S9.toBelow, ?_, Nat.lt_of_lt_of_le (hk2 g1 (by simp)) S9.size⟩, by simp only; omega, ?_, S9.rebase ZZSM⟩)
    · exact (hF2.sys S9 ZZHL).add fun x hx => .inl (by rw [List.mem_singleton.1 hx]; simp)
    · simp only [← e3]
      exact ZZSUB
end
end Go.Proofs.YtmpaiphakjogjaaGreat.X
namespace Go.Proofs.YtmpaiphakjogjaaGreat.Bs
open Go Go.Proofs.YtmpaiphakjogjaaGreat.X
noncomputable def CTk.alwB (t : CTk) (r : CRu) (i : Int) : Bool := if ruE t r ≠ 0 then false else t.allowed r i
end Go.Proofs.YtmpaiphakjogjaaGreat.Bs
namespace Go.Proofs.YtmpaiphakjogjaaGreat.X
open Go Go.RowKit Go.Proofs.YtmpaiphakjogjaaGreat.Bs
section
variable {t : CTk} {v : CTV} {r : CRu} {g gr gm : Nat} {w : World}
theorem allowed_any (hT : CtAt w w.heap.size v t) (ho : CtOk t) (hq : RuOk r) (hr : w.heap[gr]? = some (rulO g r)) (hg : w.heap[g]? = some (gamO v t gm)) :
    Calls Tryz.prog 45 #[.pointer (some ⟨gr, 0, none⟩)] w fun e w' => e = .returned (.tuple ⟨[.bool (t.called r), .int .i64 (t.frmI r)]⟩) ∧ Below w.heap.size w w' := by
  have h1 := ho.n60
  have h2 := hq.count
  have h3 := hq.early
  have hl : t.lst ≤ t.n := lstTo_le t t.m
  have hf : t.fld.length ≤ t.m := fldTo_len t t.m
  have hm8 := ho.m8
  have l2 := (Array.getElem?_eq_some_iff.1 hr).1
  have l3 := (Array.getElem?_eq_some_iff.1 hg).1
  have c1 : w.cell? ((⟨gr, 0, none⟩ : Addr).add (1 + 0)) = some (.int .i64 r.count) := by rw [add_off]; simp [World.cell?, hr, rulC]
  have c2 : w.cell? ((⟨gr, 0, none⟩ : Addr).add (1 + 1)) = some (.int .i64 r.early) := by rw [add_off]; simp [World.cell?, hr, rulC]
  refine enter Tryz.func45 rfl Tryz.ntmps45 rfl ?_; simp only [frame, Nat.zero_add, Nat.reduceAdd]
  repeat (first | (refine M0 ?_; first | refine SL ?_ | refine SB fun _ _ => ?_) | (refine M1 ?_; refine SC ?_) | (refine M2 ?_; refine SE ?_))
  refine XL.callr (fst := []) (cap := []) (fun w1 x w2 => ∃ q : SV, x = .tuple ⟨[svV q, .int .i64 (t.lst : Nat)]⟩ ∧ q.n = t.fld.length ∧ Below w1.heap.size w1 w2) (ck rfl) rfl rfl rfl (fun w1 S1 => ?_) (fun w1 x w2 S1 hR => ?_)
  · simp only [List.nil_append, List.append_nil]
    exact (highs_any (r := r) (hT.sys S1) ho ((S1.toBelow.block gr l2).trans hr) ((S1.toBelow.block g l3).trans hg)).mono fun e w' ⟨x, new, e1, ⟨q, e2, e3⟩, e4, e5⟩ => ⟨x, e1, q, e2, by
      have h5 := e4 (hList intK5 q (t.fld.map fun k => ((k : Nat) : Int))) (by rw [e3]; exact .head _)
      have h6 : q.n = _ := ListAt.len h5 (by decide)
      rw [h6, List.length_map], e5⟩
  obtain ⟨⟨qA, qn, qc⟩, rfl, hqn, hB⟩ := hR
  simp only at hqn
  subst hqn
  have hBw : Below w.heap.size w w2 := S1.toBelow.trans (hB.mono (Nat.le_trans S1.base S1.size))
  refine ⟨[], w2, S1.made hB, ?_⟩
  have d1 := (below_cell5 hBw (ad := (⟨gr, 0, none⟩ : Addr).add (1 + 0)) (by rw [add_block]; exact l2)).trans c1
  have d2 := (below_cell5 hBw (ad := (⟨gr, 0, none⟩ : Addr).add (1 + 1)) (by rw [add_block]; exact l2)).trans c2
  simp only [svV]
  repeat (first | (refine M0 ?_; first | refine SL ?_ | refine SB fun _ _ => ?_ | refine Y4 (Ev.load_old tok rfl rfl l2 d1) ?_ | refine Y4 (Ev.load_old tok rfl rfl l2 d2) ?_) | (refine M1 ?_; first | refine SC ?_ | refine SD ?_) | (refine M2 ?_; refine SE ?_) | (refine M3 ?_; first | refine SG ?_ | refine SF ?_ | refine YF (Ev.load_old tok rfl rfl l2 d1) ?_ | refine YF (Ev.load_old tok rfl rfl l2 d2) ?_) | (refine M4 ?_; refine SR ?_) | (refine M5 ?_; first | exact M7 | refine YM ?_ | refine YN ?_ ?_))
  refine XE.retg tok Tryz.results45 rfl (by simp only [and_self, and_true]) (fun w' S => ?_)
  exact ⟨rfl, hBw.trans S.toBelow⟩
theorem may_any {i : Int} (hT : CtAt w w.heap.size v t) (ho : CtOk t) (hq : RuOk r) (hr : w.heap[gr]? = some (rulO g r)) (hg : w.heap[g]? = some (gamO v t gm)) :
    Calls Tryz.prog 42 #[.pointer (some ⟨gr, 0, none⟩), .int .i64 i] w fun e w' => e = .returned (.bool (t.may r i)) ∧ Below w.heap.size w w' := by
  have l2 := (Array.getElem?_eq_some_iff.1 hr).1
  have l3 := (Array.getElem?_eq_some_iff.1 hg).1
  have c1 : w.cell? ((⟨gr, 0, none⟩ : Addr).add 0) = some (.pointer (some ⟨g, 0, none⟩)) := by rw [add_off]; simp [World.cell?, hr, rulC]
  have hal := fun {L : Lo} (w5 : World) (S5 : Sys w.heap.size w L w5) => allowed_any (r := r) (hT.sys S5) ho hq ((S5.toBelow.block gr l2).trans hr) ((S5.toBelow.block g l3).trans hg)
  have hla := fun {L : Lo} (w5 : World) (S5 : Sys w.heap.size w L w5) => last_any (v := v) (t := t) (gm := gm) ((S5.toBelow.block g l3).trans hg) ho
  refine enter Tryz.func42 rfl Tryz.ntmps42 rfl ?_; simp only [frame, Nat.zero_add, Nat.reduceAdd]
  repeat (first | (refine M0 ?_; first | refine SL ?_ | refine SB fun _ _ => ?_ | refine Y4 (Ev.call (f := 45) (ck rfl) rfl (fun w5 S5 => hal w5 S5)) ?_) | (refine M1 ?_; refine SC ?_) | (refine M2 ?_; refine SE ?_))
  cases hb : t.called r
  · repeat (first | (refine M0 ?_; first | refine SL ?_ | refine SB fun _ _ => ?_) | (refine M1 ?_; refine SC ?_) | (refine M2 ?_; refine SE ?_))
    refine XE.retg tok Tryz.results42 rfl (by simp only [and_self, and_true]) (fun w' S => ?_)
    exact ⟨by unfold CTk.may; rw [hb]; rfl, S.toBelow⟩
  · repeat (first | (refine M0 ?_; first | refine SL ?_ | refine SB fun _ _ => ?_ | refine Y4 (Ev.load_old tok rfl rfl l2 c1) ?_ | refine Y4 (Ev.call (f := 74) (ck rfl) rfl (fun w5 S5 => hla w5 S5)) ?_ | refine Y4 (Ev.call (f := 41) (ck rfl) rfl (fun w S => cout_any _ _ _ w)) ?_) | (refine M1 ?_; refine SC ?_) | (refine M2 ?_; refine SE ?_))
    refine XE.retg tok Tryz.results42 rfl (by simp only [and_self, and_true]) (fun w' S => ?_)
    exact ⟨by unfold CTk.may; rw [hb]; rfl, S.toBelow⟩
end
section
variable {t : CTk} {v : CTV} {r : CRu} {w0 : World} {L : Lo} {B N : Nat} {ds : List Deferred} {Q : Exit → Act → World → Prop} {F : Fr} {ops : Array Oper} {rest : List Oper} {ty : TypeId} {p : String} {af : Array Edge}
theorem XL.with5 {d : Nat} {args : Array Operand} {ats : Array TypeId} (hT : CtAt w0 B v t) (ha : evos F args.toList = some [ctkV v t, ruV r]) (hd : Nat.blt d N = true)
    (k1 : ruE t r ≠ 0 → ∀ w', Below B w0 w' → XL Tryz.prog N B w' ds Q ops rest ((d, .tuple ⟨[.pointer none, .int .i64 (ruE t r)]⟩) :: F) L)
    (k2 : ruE t r = 0 → CtOk t → RuOk r → ∀ w' gr g gm, Gam t v B g gm (gr :: g :: L.map (·.1)) [] [] w' → Below B w0 w' → w0.heap.size ≤ g → w0.heap.size ≤ gr → XL Tryz.prog N B w' ds Q ops rest ((d, .tuple ⟨[.pointer (some ⟨gr, 0, none⟩), .int .i64 0]⟩) :: F) ((gr, rulO g r) :: (g, gamO v t gm) :: L)) :
    XL Tryz.prog N B w0 ds Q ops ({ dst := some d, op := .call { callee := .value (.func 40), args := args, argTypes := ats }, type := ty, pos := p, after := af, guard := none } :: rest) F L := by
  refine XL.callr (fst := []) (cap := []) (fun w x w' => WitR t v r w (.returned x) w') (ck rfl) rfl ha hd (fun w S => ?_) (fun w x w' S hR => ?_)
  · simp only [List.nil_append, List.append_nil]
    exact (with_any (r := r) ((hT.below S.toBelow).more (Nat.le_trans S.base S.size))).mono fun e w' hR => by
      obtain ⟨h1, h2 | h2⟩ := hR
      · exact ⟨_, h2.2, h1, .inl ⟨h2.1, rfl⟩⟩
      · obtain ⟨h3, gr, g, gm, h4, h5⟩ := h2
        exact ⟨_, h4, h1, .inr ⟨h3, gr, g, gm, rfl, h5⟩⟩
  · obtain ⟨h1, h2 | h2⟩ := hR
    · obtain ⟨h3, h4⟩ := h2
      cases h4
      exact ⟨L, w', S.made h1, k1 h3 w' (S.toBelow.trans (h1.mono (Nat.le_trans S.base S.size)))⟩
    · obtain ⟨h3, gr, g, gm, h4, h5, h6, h7⟩ := h2
      cases h4
      have hB : Below B w0 w' := S.toBelow.trans (h1.mono (Nat.le_trans S.base S.size))
      have hgl : w.heap.size ≤ g := h5.bg
      have hne : gr ≠ g := fun e => by
        subst e
        rw [h5.game] at h6
        simp [rulO, gamO] at h6
      have hlow : Gam t v B g gm (gr :: g :: L.map (·.1)) [] [] w' := h5.lower (Nat.le_trans S.base S.size) (hT.below hB) (fun k hk => by
        rcases List.mem_cons.1 hk with rfl | hk
        · exact .head _
        · rw [List.mem_singleton.1 hk]; exact .tail _ (.head _)) (fun k hk => by
        rcases List.mem_cons.1 hk with rfl | hk
        · exact .inl (.head _)
        · rcases List.mem_cons.1 hk with rfl | hk
          · exact .inl (.tail _ (.head _))
          · exact .inr (S.keyLt k hk))
      have S' := S.made h1
      refine ⟨(gr, rulO g r) :: (g, gamO v t gm) :: L, w', Sys.start S'.base (fun e he => ?_) ?_, k2 h3 (ruE_0 h3).2.1 (ruE_0 h3).2.2 w' gr g gm hlow hB (Nat.le_trans S.size hgl) (Nat.le_trans S.size h7)⟩
      · rcases List.mem_cons.1 he with rfl | he
        · exact ⟨Nat.le_trans (Nat.le_trans S.base S.size) h7, h6⟩
        · rcases List.mem_cons.1 he with rfl | he
          · exact ⟨hlow.bg, hlow.game⟩
          · exact S'.own e he
      · simp only [List.map_cons, List.nodup_cons]
        refine ⟨fun hm => ?_, fun hm => ?_, S.nd⟩
        · rcases List.mem_cons.1 hm with hm | hm
          · exact hne hm
          · have := S.keyLt gr hm
            omega
        · have := S.keyLt g hm
          omega
end
end Go.Proofs.YtmpaiphakjogjaaGreat.X
namespace Go.Proofs.YtmpaiphakjogjaaGreat.X
open Go Go.RowKit Go.Proofs.YtmpaiphakjogjaaGreat.Bs
theorem own2 {w W : World} {g gr : Nat} {o o' : Obj} {L : Lo} (hg : W.heap[g]? = some o) (hr : W.heap[gr]? = some o') (hL : ∀ e, e ∈ L → e = (g, o) ∨ e = (gr, o') ∨ w.heap.size ≤ e.1) : ∀ e, e ∈ L → e.1 < w.heap.size → W.heap[e.1]? = some e.2 := fun e he hlt => by
  rcases hL e he with rfl | rfl | h
  · exact hg
  · exact hr
  · omega
theorem ZZO3 {p : Prop} (h : p := by (intro e he; repeat (first | (cases he; done) | (rcases List.mem_cons.1 he with rfl | he; · first | (left; rfl) | (right; left; rfl) | (right; right; assumption) | (right; right; simp only; omega)))) <;> fail) : p := h
section
variable {t : CTk} {v : CTV} {b0 g gm : Nat} {kk ks ks' : List Nat} {rs : List RowX} {hs hs' new : List Held} {w W w' wE w0 w1 w2 : World} {L : Lo} {B : Nat} {R : Value → List Held → Prop} {x : Value}
theorem Gam.far (hG : Gam t v b0 g gm ks rs hs W) (hL : ∀ e, e ∈ L → e.1 ∈ ks ∨ W.heap.size ≤ e.1) : ∀ e, e ∈ L → e.1 ≠ gm := fun e he e1 => by
  rcases hL e he with h1 | h1
  · exact hG.nin (e1 ▸ h1)
  · have := hG.lt gm (.head _); omega
theorem Since.end2 (hG : Gam t v b0 g gm ks rs hs W) (hS : Since w gm W) (S : Sys b0 W L w') (hL : ∀ e, e ∈ L → e.1 ∈ ks ∨ W.heap.size ≤ e.1) (hLE : ∀ e, e ∈ L → e.1 < w.heap.size → W.heap[e.1]? = some e.2) : Since w gm w' :=
  hS.sys S fun e he => ⟨hLE e he, hG.far hL e he⟩
theorem GamR.end2 (hG : Gam t v b0 g gm (kk ++ ks) [] hs W) (hS : Since w gm W) (S : Sys b0 W L w') (hg : (g, gamO v t gm) ∈ L) (hR : R x []) (hL : ∀ e, e ∈ L → e.1 ∈ kk ++ ks ∨ W.heap.size ≤ e.1) (hLE : ∀ e, e ∈ L → e.1 < w.heap.size → W.heap[e.1]? = some e.2) : GamR t b0 gm ks R w (.returned x) w' := by
  have h1 := hG.sys S hg hL
  refine ⟨x, [], rfl, hR, Since.end2 hG hS S hL hLE, h1.memo.mono fun j hj => ⟨hj.1, hj.2.1, fun h => hj.2.2.1 ?_, hj.2.2.2⟩, fun y hy => by cases hy⟩
  rcases List.mem_cons.1 h with rfl | h
  · exact .head _
  · exact List.mem_cons_of_mem _ (List.mem_append_right _ h)
variable {P : Program} {N : Nat} {ds : List Deferred} {Q : Exit → Act → World → Prop} {F : Fr} {ops : Array Oper} {rest : List Oper} {ty : TypeId} {p : String} {af : Array Edge}
theorem XL.callI {f : FuncId} {d : Nat} {args : Array Operand} {vs : List Value} {ats : Array TypeId} (R : Value → List Held → Prop) (h : callOk P f = true)
    (ha : evos F args.toList = some vs) (hd : Nat.blt d N = true) (hG : Gam t v b0 g gm ks rs hs w0) (hSn : Since wE gm w0) (hg : (g, gamO v t gm) ∈ L)
    (hc : ∀ w ks2, Sys b0 w0 L w → (∀ e, e ∈ L → e.1 ∈ ks2) → Gam t v b0 g gm ks2 [] [] w → Calls P f vs.toArray w (GamR t b0 gm ks2 R w))
    (k : ∀ w' x new, R x new → Gam t v b0 g gm (L.map (·.1) ++ ks) rs (new ++ hs) w' → Since wE gm w' → XL P N b0 w' ds Q ops rest ((d, x) :: F) L)
    (hL : ∀ e, e ∈ L → e.1 ∈ ks ∨ w0.heap.size ≤ e.1) (hLE : ∀ e, e ∈ L → e.1 < wE.heap.size → w0.heap[e.1]? = some e.2) :
    XL P N b0 w0 ds Q ops ({ dst := some d, op := .call { callee := .value (.func f), args := args, argTypes := ats }, type := ty, pos := p, after := af, guard := none } :: rest) F L := by
  refine XL.callr (fst := []) (cap := []) (fun w x w' => ∃ new, R x new ∧ Gam t v b0 g gm (L.map (·.1) ++ ks) rs (new ++ hs) w' ∧ Since w gm w') h rfl ha hd (fun w S => ?_) (fun w x w' S hR => ?_)
  · have hA := hG.add S hg hL
    have := hc w _ S (fun e he => List.mem_append_right _ (List.mem_append_left _ (List.mem_map.2 ⟨e, he, rfl⟩))) hA.down
    simp only [List.nil_append, List.append_nil]
    exact this.mono fun e w' ⟨x, new, e1, e2, e3, e4, e5⟩ => ⟨x, e1, new, e2, hA.after rfl e3 e4 e5, e3⟩
  · obtain ⟨new, e2, hG', e3⟩ := hR
    have hne := hG.far hL
    have S' : Sys b0 w' L w' := Sys.start hG'.fam.base (fun e he => ⟨(S.own e he).1, by rw [e3.old e.1 (S.lt he) (hne e he)]; exact (S.own e he).2⟩) S.nd
    exact ⟨L, w', S', k w' x new e2 hG' ((hSn.sys S fun e he => ⟨hLE e he, hne e he⟩).trans e3)⟩
end
end Go.Proofs.YtmpaiphakjogjaaGreat.X
namespace Go.Proofs.YtmpaiphakjogjaaGreat.X
open Go Go.RowKit Go.Proofs.YtmpaiphakjogjaaGreat.Bs
theorem ZZSB {p : Prop} (h : p := by (intro x hx; (try simp only [List.cons_append, List.nil_append, List.map_cons, List.map_nil] at hx); repeat (first | (cases hx; done) | (rcases List.mem_cons.1 hx with rfl | hx; · (first | simp | (simp [*]; done)))); first | done | (simp [hx]; done) | (simp only [List.mem_append, List.mem_cons] at hx ⊢; simp [hx]; done) | (simp [*]; done)) <;> fail) : p := h
theorem ZZMK {p : Prop} (h : p := by (intro e he; repeat (first | (cases he; done) | (rcases List.mem_cons.1 he with rfl | he; · first | (left; simp; done) | (right; assumption) | (left; simp [*]; done) | (right; simp only; omega)))) <;> fail) : p := h
section
variable {t : CTk} {v : CTV} {b0 g gm : Nat} {ks ks' : List Nat} {rs : List RowX} {hs hs' : List Held} {w W w' : World} {L : Lo}
theorem Gam.on (hG : Gam t v b0 g gm ks' rs hs W) (S : Sys b0 W L w') (hg : (g, gamO v t gm) ∈ L) (hL : ∀ e, e ∈ L → e.1 ∈ ks' ∨ W.heap.size ≤ e.1) (hsub : ∀ x, x ∈ ks → x ∈ L.map (·.1) ++ ks') (hgk : g ∈ ks) (hh : ∀ x, x ∈ hs' → x ∈ hs) : Gam t v b0 g gm ks rs hs' w' :=
  ((hG.add S hg hL).less hsub hgk).forget hh
end
section
variable {P : Program} {N : Nat} {B : Nat} {w0 wS : World} {ds : List Deferred} {Q : Exit → Act → World → Prop} {F : Fr} {L Ls : Lo} {ops : Array Oper} {rem : List (Nat × Oper)} {e : Exit}
theorem atHeld (k : XE N B w0 ds (heldR P B wS Q Ls ops rem) e F L) : XE N B w0 ds (heldR P B wS Q Ls ops rem) e F L := k
end
section
variable {t : CTk} {v : CTV} {b0 b1 g gm : Nat} {ks ks' : List Nat} {rs : List RowX} {hs hs' new : List Held} {w w' wE w0 w1 w2 : World} {L : Lo} {B : Nat}
variable {P : Program} {N : Nat} {ds : List Deferred} {Q : Exit → Act → World → Prop} {F : Fr} {ops : Array Oper} {rest : List Oper} {ty : TypeId} {p : String} {af : Array Edge}
theorem XL.pushI {α : Type} {K : Kind α} {d tt : Nat} {x y : Operand} {vv : Value} {l : List α} {a : α} {bytes gn : Nat} (i : Nat) (he : elemOk P tt K.ty K.m bytes = true) (h0 : 0 < K.m)
    (hx : evo F x = some vv) (hy : evo F y = some (.slice (some ⟨gn, 0, none⟩) 1 1)) (hd : Nat.blt d N = true) (hG : Gam t v b0 g gm ks rs hs w0) (hg : (g, gamO v t gm) ∈ L) (hi : rs[i]? = some ⟨α, K, vv, l⟩)
    (hSn : Since wE gm w0) (hown : ∀ q, vv.ownBlock = some q → wE.heap.size ≤ q) (hA : (gn, cel K.ty (K.c a)) ∈ L) (ha : K.sl a = []) (h1 : ∀ a : α, (K.c a).all Value.oneCell' = true) (h63 : l.length + 1 ≤ 10000000) (hb : bytes ≤ 10000000)
    (k : ∀ w' r', Gam t v b0 g gm (L.map (·.1) ++ ks) (rs.set i ⟨α, K, svV r', l ++ [a]⟩) hs w' → Since wE gm w' → (∀ q, (svV r').ownBlock = some q → wE.heap.size ≤ q) → XL P N b0 w' ds Q ops rest ((d, svV r') :: F) L)
    (hL : ∀ e, e ∈ L → e.1 ∈ ks ∨ w0.heap.size ≤ e.1) (hLE : ∀ e, e ∈ L → e.1 < wE.heap.size → w0.heap[e.1]? = some e.2) :
    XL P N b0 w0 ds Q ops ({ dst := some d, op := .call { callee := .builtin .append, args := #[x, y], argTypes := #[tt, tt] }, type := ty, pos := p, after := af, guard := none } :: rest) F L := by
  have hgmL : ∀ e, e ∈ L → e.1 ≠ gm := fun e he e1 => by
    rcases hL e he with h1 | h1
    · exact hG.nin (e1 ▸ h1)
    · have := hG.lt gm (.head _); omega
  have hri : (⟨α, K, vv, l⟩ : RowX) ∈ rs := List.mem_of_getElem? hi
  refine XL.append2 (v := vv) (m := 1) (n := l.length) (size := K.m) (bytes := bytes) (base := b0) (A := ⟨gn, 0, none⟩) (xs := l.flatMap K.c) (news := K.c a) (L' := L) he h0 hx hy hd (hG.fam.row _ hri) (fun q hq e he2 e1 => ?_) (by rw [K.len]; omega) (fun w S j u hj => ?_) (h1 a) (by unfold maxLen; omega)
    (Nat.le_trans (Nat.mul_le_mul h63 hb) (by decide)) hG.fam.base (List.Sublist.refl _) (fun w v' w' S ho hgr _ hfr => ?_)
  · rcases hL e he2 with h2 | h2
    · exact hG.fam.sep _ hri q hq (e1 ▸ List.mem_cons_of_mem _ h2)
    · have := (hG.fam.lt hri hq).2; omega
  · rw [add_off, Nat.zero_add, S.cell hA j]; exact hj
  · have hW := hG.add S hg hL
    have hsz := hgr.size
    have hsame : ∀ j, j < w.heap.size → vv.ownBlock ≠ some j → w'.heap[j]? = w.heap[j]? := fun j hj hv => hgr.block j hj fun e2 => hv e2.symm
    have hFF := hW.fam.push hi (fun x hx => by rw [ha] at hx; cases hx) ho hsz (fun j hj _ hv => hsame j hj hv) (fun q hq => by
      rcases hfr q hq with h2 | h2
      · exact .inl h2
      · exact .inr ⟨h2, fun hm => by have := hW.lt q hm; omega⟩)
    have hsep : ∀ q, q ∈ gm :: (L.map (·.1) ++ ks) → w'.heap[q]? = w.heap[q]? := fun q hq => hsame q (hW.lt q hq) fun e => hW.fam.sep _ hri q e hq
    have hBw : Below b0 w w' := ⟨hgr.os, hgr.tape, hgr.output, hsz, fun j hj => hsame j (Nat.lt_of_lt_of_le hj (Nat.le_trans S.base S.size)) fun e => by have := (hG.fam.lt hri e).1; omega⟩
    obtain ⟨r', rfl, _⟩ := hFF.sv (K := K) (l := l ++ [a]) (v := v') (List.mem_iff_getElem?.2 ⟨i, by rw [List.getElem?_set_self (List.getElem?_eq_some_iff.1 hi).1]⟩)
    refine k w' r' ⟨hFF, hW.nin, hW.gin, fun q hq => Nat.lt_of_lt_of_le (hW.lt q hq) hsz, hW.bg, hW.bm, (hsep g (List.mem_cons_of_mem _ hW.gin)).trans hW.game, hW.task.below hBw, ?_⟩ ?_ ?_
    rotate_left
    · have h1 : Since wE gm w := hSn.sys S fun e he => ⟨hLE e he, hgmL e he⟩
      exact ⟨hgr.os.trans h1.os, hgr.tape.trans h1.tape, hgr.output.trans h1.output, Nat.le_trans h1.size hsz, fun j hj hne => (hsame j (Nat.lt_of_lt_of_le hj h1.size) fun e => by have := hown j e; omega).trans (h1.old j hj hne)⟩
    · intro q hq
      rcases hfr q hq with h2 | h2
      · exact hown q h2
      · exact Nat.le_trans (Nat.le_trans hSn.size S.size) h2
    refine (hW.memo.keep (w' := w') fun j hj => ?_).mono fun j hj => ⟨hj.1, Nat.lt_of_lt_of_le hj.2.1 hsz, hj.2.2.1, fun r hr e => ?_⟩
    · rcases hj with hj | rfl
      · exact hsame j hj.2.1 fun e => hj.2.2.2 _ hri e
      · exact hsep _ (.head _)
    · rcases List.mem_or_eq_of_mem_set hr with h2 | h2
      · exact hj.2.2.2 r h2 e
      · subst h2
        rcases hfr j e with h3 | h3
        · exact hj.2.2.2 _ hri h3
        · have := hj.2.1; omega
theorem Gam.freeze {α : Type} {K : Kind α} {r : SV} {l : List α} (h : Gam t v b0 g gm ks (⟨α, K, svV r, l⟩ :: rs) hs w) : Gam t v b0 g gm ks rs (hList K r l :: hs) w :=
  ⟨h.fam.freeze, h.nin, h.gin, h.lt, h.bg, h.bm, h.game, h.task, h.memo.mono fun j hj => hj.tail⟩
theorem Gam.nil {α : Type} (K : Kind α) (h : Gam t v b0 g gm ks rs hs w) : Gam t v b0 g gm ks (⟨α, K, .slice none 0 0, []⟩ :: rs) hs w :=
  ⟨h.fam.nil K, h.nin, h.gin, h.lt, h.bg, h.bm, h.game, h.task, h.memo.mono fun j hj => ⟨hj.1, hj.2.1, hj.2.2.1, fun r hr => by
    rcases List.mem_cons.1 hr with rfl | hr
    · simp [Value.ownBlock]
    · exact hj.2.2.2 r hr⟩⟩
theorem GamR.end4 {x : Value} {R : Value → List Held → Prop} (hG : Gam t v b0 g gm ks' [] hs w0) (hS : Since w gm w0) (S : Sys b0 w0 L w') (hg : (g, gamO v t gm) ∈ L) (hR : R x new) (hnew : ∀ y, y ∈ new → y ∈ hs) (hL : ∀ e, e ∈ L → e.1 ∈ ks' ∨ w0.heap.size ≤ e.1) (hLE : ∀ e, e ∈ L → e.1 < w.heap.size → w0.heap[e.1]? = some e.2) (hsub : ∀ x, x ∈ ks → x ∈ ks') : GamR t b0 gm ks R w (.returned x) w' := by
  have h1 := hG.sys S hg hL
  have hf : ∀ j, Free w' b0 (gm :: ks') [] j → Free w' b0 (gm :: ks) [] j := fun j hj => ⟨hj.1, hj.2.1, fun h => hj.2.2.1 (by
    rcases List.mem_cons.1 h with rfl | h
    · exact .head _
    · exact List.mem_cons_of_mem _ (hsub j h)), hj.2.2.2⟩
  exact ⟨x, new, rfl, hR, Since.end2 hG hS S hL hLE, h1.memo.mono hf, fun y hy => y.mono (h1.fam.held y (hnew y hy)) hf⟩
end
end Go.Proofs.YtmpaiphakjogjaaGreat.X
namespace Go.Proofs.YtmpaiphakjogjaaGreat.X
open Go Go.RowKit
section
variable {P : Program} {N : Nat} {B : Nat} {wS w0 : World} {ds : List Deferred} {Q : Exit → Act → World → Prop} {F : Fr} {L Ls : Lo} {ops : Array Oper} {rem rem' : List (Nat × Oper)}
def reckOp2 (o : Oper) : Bool := match o.op with
  | .move _ | .assign _ | .pick .. | .extract .. | .makeInterface .. | .build .. | .fieldAddr .. | .field .. | .indexAddr .. | .binOp .. | .unOp .. | .convert .. | .load .. => true
  | .call c => match c.callee with
    | .builtin .min => true
    | .builtin .max => true
    | .builtin .len => true
    | _ => false
  | _ => false
def firstV (rem : List (Nat × Oper)) : List (Nat × Oper) → Option (Nat × Oper × List (Nat × Oper))
  | [] => none
  | (i, o) :: r => match reckOp2 o with
    | true => match readyB rem o with
      | true => match dropO rem i with
        | some rem' => some (i, o, rem')
        | none => none
      | false => firstV rem r
    | false => firstV rem r
theorem firstV_spec : ∀ {l : List (Nat × Oper)} {i : Nat} {o : Oper}, firstV rem l = some (i, o, rem') → (i, o) ∈ l ∧ readyB rem o = true ∧ dropO rem i = some rem' := by
  intro l
  induction l with
  | nil => intro i o h; cases h
  | cons e r ih =>
    intro i o h
    obtain ⟨j, p⟩ := e
    simp only [firstV] at h
    split at h
    · split at h
      · rename_i hr
        split at h
        · rename_i r2 hd
          simp only [Option.some.injEq, Prod.mk.injEq] at h
          obtain ⟨rfl, rfl, rfl⟩ := h
          exact ⟨List.mem_cons_self, hr, hd⟩
        · cases h
      · obtain ⟨h1, h2⟩ := ih h; exact ⟨List.mem_cons_of_mem _ h1, h2⟩
    · obtain ⟨h1, h2⟩ := ih h; exact ⟨List.mem_cons_of_mem _ h1, h2⟩
theorem XR.takeV {i : Nat} {o : Oper} (h1 : firstV rem rem = some (i, o, rem')) (hl : loneB ops rem i o = true) (h : Fw P N B wS ds False (fun F' => XR P N B wS w0 ds Q Ls ops rem' F' L) ops Ls [o] F) :
    XR P N B wS w0 ds Q Ls ops rem F L := by
  obtain ⟨hm, hr, hd⟩ := firstV_spec h1
  unfold loneB at hl
  simp only [Bool.and_eq_true] at hl
  obtain ⟨⟨hsel, hein⟩, hap⟩ := hl
  obtain ⟨v, hok, F', hal, hk⟩ := h.run
  refine ⟨fun D fuel a w hD hlen hf hs hS => ?_⟩
  have hrd : i ∈ Region.ready .any ops D := hD.mem_ready hm hr fun e he hb => by
    unfold edgesIn at hein
    have := List.all_eq_true.1 hein _ hm
    have := List.all_eq_true.1 this e (by simpa using he)
    simp only [hb, Bool.not_true, Bool.false_or] at this
    exact Nat.le_of_ble_eq_true this
  obtain ⟨n, rfl, hn⟩ := ready_count hrd hlen
  have hD' := hD.set hm hd
  refine wpAnyH_first (hD.at_ _ hm) (Region.noSelect_spec hsel) (fun c a w q => q.elim) n D a w (fun j oj hj hne hun hno => ?_) hrd (hok.yieldsIf hf) hS ?_
  · have hjs : j < ops.size := (Array.getElem?_eq_some_iff.1 hj).1
    have hon : on D j = false := by
      unfold on
      have hlt' : j < D.size := by rw [hD.size]; exact hjs
      rw [Array.getD_eq_getD_getElem?, Array.getElem?_eq_getElem hlt'] at hun ⊢
      exact hun
    obtain ⟨o', ho'⟩ := inRem_iff.1 ((hD.left j hjs).1 hon)
    have := hD.at_ _ ho'
    rw [hj] at this
    obtain rfl := Option.some.inj this
    have h2 := List.all_eq_true.1 hap _ ho'
    simp only [Bool.or_eq_true] at h2
    rcases h2 with (h2 | h2) | h2
    · exact absurd (Nat.eq_of_beq_eq_true h2) hne
    · obtain ⟨e, he, hb⟩ := Array.any_eq_true'.1 h2
      simp only [Bool.and_eq_true, beq_iff_eq] at hb
      exact absurd hb.2 (hno e he hb.1)
    · exact h2
  · exact hk.run _ n _ w hD' hn (hal.fits (hf.putF hok.1)) hs hS
theorem YV {i : Nat} {o : Oper} (h1 : firstV rem rem = some (i, o, rem') := by first | exact rfl | fail) (hl : loneB ops rem i o = true := by first | kernel_rfl | fail) : Step (Fw P N B wS ds False (fun F' => XR P N B wS w0 ds Q Ls ops rem' F' L) ops Ls [o] F) (XR P N B wS w0 ds Q Ls ops rem F L) := ⟨XR.takeV h1 hl⟩
theorem SRV {q : Prop} (k : q) (st : Step q (XR P N B wS w0 ds Q Ls ops rem F L) := by first | exact YJ | exact YK | exact YV | exact YL | fail) : XR P N B wS w0 ds Q Ls ops rem F L := st.run k
end
end Go.Proofs.YtmpaiphakjogjaaGreat.X
namespace Go.Proofs.YtmpaiphakjogjaaGreat.X
open Go Go.RowKit
section
variable {P : Program} {N : Nat} {B : Nat} {w0 : World} {ds : List Deferred} {Q : Exit → Act → World → Prop} {F : Fr} {L : Lo} {r : Option Nat} {n : Nat}
end
end Go.Proofs.YtmpaiphakjogjaaGreat.X
namespace Go.Proofs.YtmpaiphakjogjaaGreat.X
open Go Go.RowKit Go.Proofs.YtmpaiphakjogjaaGreat.Bs
def iiV (w : II) : Value := .agg ⟨[.int .i64 w.1, .int .i64 w.2]⟩
noncomputable def WitX (t : CTk) (i : Int) (x : Value) (new : List Held) : Prop := x = .tuple ⟨[iiV (t.witC i), .bool (t.wit i).isSome]⟩ ∧ new = []
theorem wit_first {t : CTk} {i : Int} {k a : Nat} (hk : k < t.m) (h : ∀ j, j < k → t.fails j (t.plan i) = none) (ha : t.fails k (t.plan i) = some a) : t.wit i = some (k, a) := by
  unfold CTk.wit
  rw [firstB_some.2 ⟨hk, by simp [ha], fun j hj => by simp [h j hj]⟩]
  simp [ha]
theorem wit_no {t : CTk} {i : Int} (h : ∀ j, j < t.m → t.fails j (t.plan i) = none) : t.wit i = none := by
  unfold CTk.wit
  rw [firstB_none.2 fun j hj => by simp [h j hj]]
set_option maxHeartbeats 16000000 in
theorem witness_any {t : CTk} {v : CTV} {r : CRu} {b0 g gr gm i : Nat} {ks : List Nat} {w : World} (hG : Gam t v b0 g gm ks [] [] w) (ho : CtOk t) (hr : w.heap[gr]? = some (rulO g r)) (hgr : gr ∈ ks) (hbr : b0 ≤ gr) (hi : (i : Int) ≤ t.last) :
    Calls Tryz.prog 48 #[.pointer (some ⟨gr, 0, none⟩), .int .i64 (i : Nat)] w (GamR t b0 gm ks (WitX t (i : Nat)) w) := by
  have hgs := hG.gin
  have hgm : w.heap[g]? = some (gamO v t gm) := hG.game
  have hne : gr ≠ g := fun e => by
    subst e
    rw [hgm] at hr
    simp [rulO, gamO] at hr
  have S0 := Sys.start2 hbr hG.bg hr hgm hne
  have h60 := ho.n60
  have hdl := ho.dly
  have hfr := ho.frm
  have hm8 := ho.m8
  have hb0 : b0 ≤ w.heap.size := hG.fam.base
  have hst : t.strange (t.plan (i : Nat)) = false := (plan_ok ho (Int.natCast_nonneg i) hi).1
  have hl1 : -31 ≤ t.last ∧ t.last ≤ 60 := by unfold CTk.last; omega
  have hpl := fun {L : Lo} {B : Nat} {W1 : World} (w5 : World) (S5 : Sys B W1 L w5) (hm : (g, gamO v t gm) ∈ L) => plan_any (v := v) (t := t) (gm := gm) (i := (i : Nat)) (S5.own _ hm).2 ho ⟨by omega, by omega⟩
  have hfl := fun (k : Nat) (hk : k < t.m) (w5 : World) (ks2 : List Nat) (hG5 : Gam t v b0 g gm ks2 [] [] w5) => fails_any (p := t.plan (i : Nat)) hG5 ho hk hst
  have hhn := hG.task.hn
  have hrm : gr ≠ gm := fun e => hG.nin (e ▸ hgr)
  obtain ⟨vp, vf, ⟨Ah, nh, ch'⟩, vr⟩ := v
  simp only at hhn
  subst hhn
  simp only [plnV] at hfl
  simp only [rulO, rulC, gamO, gamC] at S0
  refine enterL Tryz.func48 rfl Tryz.ntmps48 rfl (S0) ?_; simp only [frame, Nat.zero_add, Nat.reduceAdd]
  repeat (first | (refine M0 ?_; first | refine SL ?_ | refine SB fun _ _ => ?_ | refine Y4 (Ev.load_loc tok 1 (g := gr) (o := 0) rfl rfl rfl rfl) ?_ | refine Y4 (Ev.load_loc tok 2 (g := g) (o := 6) rfl rfl rfl rfl) ?_) | (refine M1 ?_; refine SC ?_) | (refine M2 ?_; refine SE ?_))
  rename_i g4 hg4
  have mg : g ∈ g4 :: ks := .tail _ hgs
  have mr : gr ∈ g4 :: ks := .tail _ hgr
  have m4 : g4 ∈ g4 :: ks := .head _
  refine XC.rebase (List.Sublist.refl _) (fun W0 S0 => ?_)
  have hG0 : Gam t ⟨vp, vf, ⟨Ah, t.m, ch'⟩, vr⟩ b0 g gm (g4 :: ks) [] [] W0 := (hG.add S0 (.tail _ (.tail _ (.head _))) ZZHM).less (fun x hx => by
    rcases List.mem_cons.1 hx with rfl | hx
    · simp
    · exact List.mem_append_right _ hx) mg
  have hS0 : Since w gm W0 := Since.end2 hG Since.refl S0 ZZHM (own2 hgm hr ZZO3)
  refine XC.loopk [0, 1, 4, 16] rfl (fun z : Nat × World => [(17, .int .i64 (z.1 : Nat))]) (fun z => [(g4, cel 70 [.int .i64 0, .int .i64 0]), (gr, rulO g r), (g, gamO ⟨vp, vf, ⟨Ah, t.m, ch'⟩, vr⟩ t gm)]) (fun z => z.2)
    (fun z => z.1 ≤ t.m ∧ Gam t ⟨vp, vf, ⟨Ah, t.m, ch'⟩, vr⟩ b0 g gm (g4 :: ks) [] [] z.2 ∧ Since w gm z.2 ∧ ∀ j, j < z.1 → t.fails j (t.plan (i : Nat)) = none) (fun z => t.m - z.1) (0, W0) ⟨Nat.zero_le _, hG0, hS0, fun j hj => absurd hj (by simp)⟩ ZZSUB (fun _ h => h) ?_
  rintro ⟨k, W⟩ ⟨hk, hGW, hSW, hno⟩
  simp only at hk hGW hSW hno
  have hrW : W.heap[gr]? = some (rulO g r) := hSW.keep hr hrm
  have hgW := hGW.game
  have hzW := hSW.size
  simp only [rulO, rulC, gamO, gamC]
  dsimp only [List.cons_append, List.nil_append]
  repeat (first | (refine M0 ?_; first | refine SL ?_ | refine SB fun _ _ => ?_) | (refine M1 ?_; refine SC ?_) | (refine M2 ?_; refine SE ?_))
  refine XC.cond _ rfl (fun h1 => ?_) (fun h1 => ?_)
  rotate_left
  · have hkm : k = t.m := by have := of_decide_eq_false h1; omega
    subst hkm
    repeat (first | (refine M0 ?_; first | refine SL ?_ | refine SB fun _ _ => ?_) | (refine M1 ?_; refine SC ?_) | (refine M2 ?_; refine SE ?_))
    refine XE.retg tok Tryz.results48 rfl (by simp only [and_self, and_true]) (fun w' S => ?_)
    have e1 := wit_no hno
    exact GamR.end2 (kk := [g4]) hGW hSW S (.tail _ (.tail _ (.head _))) ⟨by unfold CTk.witC; rw [e1]; rfl, rfl⟩ ZZHM (own2 hgW hrW ZZO3)
  have hkm : k < t.m := by have := of_decide_eq_true h1; omega
  repeat (first | (refine M0 ?_; first | refine SL ?_ | refine SB fun _ _ => ?_) | (refine M1 ?_; refine SC ?_) | (refine M2 ?_; refine SE ?_))
  have hBW : Below b0 w W := hSW.below hG.bm hb0
  refine XC.drawRS (trunc w b0) [(gr, rulO g r)] [0, 1, 2, 3, 4, 5, 6, 7, 8, 9] [10, 11, 12] mixed (fun _ h => Sys.anchorT hBW h (fun e he => by rw [List.mem_singleton.1 he]; exact .tail _ (.head _)) (by simp) hb0) rfl (by kernel_rfl) ?_
  repeat (first | (refine M0 ?_; first | refine SL ?_ | refine SB fun _ _ => ?_ | refine Y4 (Ev.load_loc tok 0 (g := gr) (o := 0) rfl rfl rfl rfl) ?_) | (refine M2 ?_; refine SE ?_) | (refine M3 ?_; first | refine SG ?_ | refine SF ?_ | refine YF (Ev.load_loc tok 0 (g := gr) (o := 0) rfl rfl rfl rfl) ?_) | (refine M4 ?_; refine SR ?_) | (refine M5 ?_; first | exact M7 | refine YM ?_ | refine YN ?_ ?_))
  repeat (first | (refine M0 ?_; first | refine SL ?_ | refine SB fun _ _ => ?_ | refine Y4 (Ev.call (f := 33) (ck rfl) rfl (fun w5 S5 => hpl w5 S5 (.tail _ (.tail _ (.head _))))) ?_) | (refine M2 ?_; refine SE ?_) | (refine M3 ?_; first | refine SG ?_ | refine SF ?_ | refine YF (Ev.call (f := 33) (ck rfl) rfl (fun w5 S5 => hpl w5 S5 (.tail _ (.tail _ (.head _))))) ?_) | (refine M4 ?_; refine SR ?_) | (refine M5 ?_; first | exact M7 | refine YM ?_ | refine YN ?_ ?_))
  refine z7 ?_
  repeat (first | (refine M0 ?_; first | refine SL ?_ | refine SB fun _ _ => ?_) | (refine M2 ?_; refine SE ?_) | (refine M3 ?_; first | refine SG ?_ | refine SF ?_) | (refine M4 ?_; refine SR ?_) | (refine M5 ?_; first | exact M7 | refine YM ?_ | refine YN ?_ ?_))
  refine XL.callI (IntR (idxB (t.above k (t.plan (i : Nat))) t.n)) (ck rfl) rfl rfl hGW hSW (.tail _ (.tail _ (.head _))) (fun w5 ks2 _ _ hG5 => hfl k hkm w5 ks2 hG5) (fun w5 x new hR hG5 hS5 => ?_) ZZHM (own2 hgW hrW ZZO3)
  obtain ⟨rfl, rfl⟩ := hR
  have hBW5 : Below b0 w w5 := hS5.below hG.bm hb0
  repeat (first | (refine M0 ?_; first | refine SL ?_ | refine SB fun _ _ => ?_) | (refine M2 ?_; refine SE ?_) | (refine M3 ?_; first | refine SG ?_ | refine SF ?_) | (refine M4 ?_; refine SR ?_) | (refine M5 ?_; first | exact M7 | refine YM ?_ | refine YN ?_ ?_))
  refine z7 ?_
  repeat (first | (refine M0 ?_; first | refine SL ?_ | refine SB fun _ _ => ?_) | (refine M2 ?_; refine SE ?_) | (refine M3 ?_; first | refine SG ?_ | refine SF ?_) | (refine M4 ?_; refine SR ?_) | (refine M5 ?_; first | exact M7 | refine YM ?_ | refine YN ?_ ?_))
  have eI : idxB (t.above k (t.plan (i : Nat))) t.n = match t.fails k (t.plan (i : Nat)) with | none => -1 | some a => (a : Int) := by
    unfold idxB CTk.fails
    cases firstB (t.above k (t.plan (i : Nat))) t.n <;> rfl
  rw [eI]
  have hz5 := hS5.size
  have hg5 := hG5.game
  have hr5 : w5.heap[gr]? = some (rulO g r) := hS5.keep hr hrm
  cases hf : t.fails k (t.plan (i : Nat)) with
  | none =>
    simp only
    repeat (first | (refine M0 ?_; first | refine SL ?_ | refine SB fun _ _ => ?_) | (refine M1 ?_; refine SC ?_) | (refine M2 ?_; refine SE ?_))
    refine XE.roundW (s := (k, W)) (fun w9 S9 => ⟨(k + 1, w9), ⟨hkm, ?_, ?_, fun j hj => ?_⟩, by simp only; omega, ZZSUB, S9.rebase ZZSM⟩)
    · exact (hG5.sys S9 (.tail _ (.tail _ (.head _))) (fun e he => .inl (List.mem_append_left _ (List.mem_map.2 ⟨e, he, rfl⟩)))).less (fun x hx => List.mem_append_right _ hx) mg
    · exact Since.end2 hG5 hS5 S9 (fun e he => .inl (List.mem_append_left _ (List.mem_map.2 ⟨e, he, rfl⟩))) (own2 hg5 hr5 ZZO3)
    · rcases Nat.lt_or_ge j k with h2 | h2
      · exact hno j h2
      · have : j = k := by omega
        subst this
        exact hf
  | some a =>
    simp only
    have hai : a < t.n := (firstB_some.1 hf).1
    have e1 := wit_first hkm hno hf
    repeat (first | (refine M0 ?_; first | refine SL ?_ | refine SB fun _ _ => ?_ | refine Y4 (Ev.load_loc tok 1 (g := gr) (o := 0) rfl rfl rfl rfl) ?_ | refine Y4 (Ev.load_loc tok 2 (g := g) (o := 11) rfl rfl rfl rfl) ?_) | (refine M1 ?_; refine SC ?_) | (refine M2 ?_; refine SE ?_))
    refine XE.retg tok Tryz.results48 rfl (by simp only [and_self, and_true]) (fun w' S => ?_)
    refine GamR.end2 (kk := g4 :: gr :: g :: [g4]) hG5 hS5 S (.tail _ (.tail _ (.head _))) ⟨by unfold CTk.witC; rw [e1]; rfl, rfl⟩ (fun e he => .inl ?_) (own2 hg5 hr5 ZZO3)
    simp only [List.mem_cons, List.not_mem_nil, or_false] at he
    rcases he with rfl | rfl | rfl <;> simp
  any_goals (repeat (first | exact AnyR.nil | refine AnyR.skip rfl ?_))
end Go.Proofs.YtmpaiphakjogjaaGreat.X
namespace Go.Proofs.YtmpaiphakjogjaaGreat.X
open Go Go.RowKit Go.Proofs.YtmpaiphakjogjaaGreat.Bs
set_option maxHeartbeats 8000000 in
theorem open_any {t : CTk} {v : CTV} {r : CRu} {g gr gm g3 g5 g9 i : Nat} {p : CPl} {w : World} (ho : CtOk t) (hp : t.strange p = false) (hg : w.heap[g]? = some (gamO v t gm)) (hr : w.heap[gr]? = some (rulO g r))
    (h3 : w.heap[g3]? = some (cel 89 [.pointer (some ⟨gr, 0, none⟩)])) (h5 : w.heap[g5]? = some (cel 42 [.int .i64 p.close, .int .i64 p.open_])) (h9 : w.heap[g9]? = some (cel 3 [.int .i64 (t.shutI p)])) :
    Calls Tryz.prog 99 #[.int .i64 (i : Nat), .pointer (some ⟨g5, 0, none⟩), .pointer (some ⟨g9, 0, none⟩), .pointer (some ⟨g3, 0, none⟩)] w fun e w' => e = .returned (.bool (t.isOpen p i)) ∧ Below w.heap.size w w' := by
  obtain ⟨hb1, hb2, hb3⟩ := plan_bd ho hp
  have hn60 := ho.n60
  have hfr := ho.frm
  have l3 := (Array.getElem?_eq_some_iff.1 h3).1
  have l5 := (Array.getElem?_eq_some_iff.1 h5).1
  have l9 := (Array.getElem?_eq_some_iff.1 h9).1
  have lr := (Array.getElem?_eq_some_iff.1 hr).1
  have lg := (Array.getElem?_eq_some_iff.1 hg).1
  have c3 : w.cell? ⟨g3, 0, none⟩ = some (.pointer (some ⟨gr, 0, none⟩)) := by simp [World.cell?, h3]
  have c9 : w.cell? ⟨g9, 0, none⟩ = some (.int .i64 (t.shutI p)) := by simp [World.cell?, h9]
  have c5 : ∀ (j : Nat) u, ([.int .i64 p.close, .int .i64 p.open_] : List Value)[j]? = some u → w.cell? ((⟨g5, 0, none⟩ : Addr).add j) = some u := fun j u hj => by
    rw [add_off]; simpa [World.cell?, h5] using hj
  have c51 := c5 1 _ rfl
  have cr : w.cell? ((⟨gr, 0, none⟩ : Addr).add 0) = some (.pointer (some ⟨g, 0, none⟩)) := by rw [add_off]; simp [World.cell?, hr, rulC]
  have cf : w.cell? ((⟨g, 0, none⟩ : Addr).add 11) = some (.int .i64 t.from_) := by rw [add_off]; simp [World.cell?, hg, gamC]
  obtain ⟨c, o⟩ := p
  have hop : t.isOpen ⟨c, o⟩ i = (decide (c = -1) && decide (o = -1) || (decide ((i : Int) ≤ t.shutI ⟨c, o⟩) || decide (o - t.from_ ≤ (i : Int)))) := by
    unfold CTk.isOpen; rw [nev_b]
  simp only at hb1 hb2 c5 c51
  rw [hop]
  refine enter Tryz.func99 rfl Tryz.ntmps99 rfl ?_; simp only [frame, Nat.zero_add, Nat.reduceAdd]
  repeat (any_goals (first | (refine M0 ?_; first | refine SL ?_ | refine SB fun _ _ => ?_ | (refine XL.split _ _ rfl (fun h => ?_) (fun h => ?_) <;> rw [h]) | refine Y4 (Ev.load_old_agg tok [.int .i64 c, .int .i64 o] rfl rfl rfl l5 c5) ?_ | refine Y4 (Ev.call (f := 46) (ck rfl) rfl (fun w S => nev_any w)) ?_ | refine Y4 (Ev.plnEql rfl rfl) ?_ | refine Y4 (Ev.load_old tok rfl rfl l9 c9) ?_ | refine Y4 (Ev.load_old tok rfl rfl l5 c51) ?_ | refine Y4 (Ev.load_old tok rfl rfl l3 c3) ?_ | refine Y4 (Ev.load_old tok rfl rfl lr cr) ?_ | refine Y4 (Ev.load_old tok rfl rfl lg cf) ?_) | (refine M1 ?_; first | refine SC ?_ | refine SD ?_ | refine XC.cond _ rfl (fun h => ?_) (fun h => ?_)) | (refine M2 ?_; refine SE ?_) | (refine M3 ?_; first | refine SG ?_ | refine SF ?_ | (refine Fw.split _ _ rfl (fun h => ?_) (fun h => ?_) <;> rw [h]) | refine YF (Ev.load_old_agg tok [.int .i64 c, .int .i64 o] rfl rfl rfl l5 c5) ?_ | refine YF (Ev.call (f := 46) (ck rfl) rfl (fun w S => nev_any w)) ?_ | refine YF (Ev.plnEql rfl rfl) ?_ | refine YF (Ev.load_old tok rfl rfl l9 c9) ?_ | refine YF (Ev.load_old tok rfl rfl l5 c51) ?_ | refine YF (Ev.load_old tok rfl rfl l3 c3) ?_ | refine YF (Ev.load_old tok rfl rfl lr cr) ?_ | refine YF (Ev.load_old tok rfl rfl lg cf) ?_) | (refine M4 ?_; refine SR ?_) | (refine M5 ?_; first | exact M7 | refine YM ?_ | refine YN ?_ ?_)))
  all_goals
    refine XE.retg tok Tryz.results99 rfl (by simp only [and_self, and_true]) (fun w' S => ?_)
    exact ⟨rfl, S.toBelow⟩
end Go.Proofs.YtmpaiphakjogjaaGreat.X
