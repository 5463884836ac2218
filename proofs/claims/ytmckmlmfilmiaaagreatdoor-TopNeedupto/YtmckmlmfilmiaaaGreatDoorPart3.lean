/-
  The rounds of all: what yield does with a moment, and with a fault.
-/
import Derived.Test.YtmckmlmfilmiaaaGreatDoorPart2
import Derived.Test.YtmckmlmfilmiaaaGreatDoorPart1
import Derived.Laws.MakeOwn
import Derived.Scope
import Derived.Laws.Small
import Derived.DeepKeys3
import Derived.Laws.CopyRow
import Derived.Laws.IdiomCopy
import Derived.OrdersIn
import Derived.Test.YtmckmlmfilmiaaaGreatDoorProg
import Derived.WalkKit
import Derived.LaidEql
import Derived.Stop.Asserts
import Derived.RowKitTokens
import Derived.KernelRfl
import Derived.Laws.StructEq
set_option linter.unusedVariables false
set_option linter.unusedSimpArgs false
namespace Go.Proofs.YtmckmlmfilmiaaaGreatDoor.X
open Go Go.RowKit Go.Proofs.YtmckmlmfilmiaaaGreatDoor.Bs
set_option linter.unusedVariables false
theorem err_if : isIf (Tryz.prog.underlying 118) = true := by kernel_rfl
def rfOf : Code → Option (Code × Code)
  | .rangeFunc _ _ a b => some (a, b)
  | .seq x y => match rfOf x with
    | some r => some r
    | none => rfOf y
  | .block _ c => rfOf c
  | _ => none
theorem mom_el : elemOk Tryz.prog 89 138 7 88 = true := by kernel_rfl
structure Mom where
  s : Sta
  f : Flo
  q : SV
  r : SV
def Mom.c (m : Mom) : List Value := momC m.q m.r m.s m.f
def Mom.p (m : Mom) : Sta × Flo := (m.s, m.f)
theorem Mom.c_len (m : Mom) : m.c.length = 7 := rfl
/-- the blocks from base on that are none of these. -/
def Own (base : Nat) (ks : List Nat) (row : Option Nat) (W : World) : Nat → Prop := fun j => base ≤ j ∧ j < W.heap.size ∧ j ∉ ks ∧ row ≠ some j
structure MomsAt (W : World) (base : Nat) (ks : List Nat) (v : Value) (ms : List Mom) : Prop where
  row : W.ownsRow base 138 7 v ms.length (ms.flatMap Mom.c)
  sep : ∀ k, v.ownBlock = some k → k ∉ ks
  lt : ∀ k, v.ownBlock = some k → base ≤ k ∧ k < W.heap.size
  ins : ∀ m, m ∈ ms → IntsAt W (Own base ks v.ownBlock W) m.q m.s.fil ∧ IntsAt W (Own base ks v.ownBlock W) m.r m.f.taken
/-- what no one of these holds stands as it stood. -/
structure Grew (ks : List Nat) (row : Option Nat) (W W' : World) : Prop where
  size : W.heap.size ≤ W'.heap.size
  old : ∀ j, j < W.heap.size → j ∉ ks → row ≠ some j → W'.heap[j]? = W.heap[j]?
/-- the own blocks in a round. -/
abbrev L8 (l D gl gs gb g8 g7 g6 : Nat) (r : Loop) (ol os ob : Obj) (v e x : Value) : Lo := [(l, .loop r), (D, .deferred (some [])), (gl, ol), (gs, os), (gb, ob), (g8, cel 89 [v]), (g7, cel 118 [e]), (g6, cel 89 [x])]
abbrev K8 (l D gl gs gb g8 g7 g6 : Nat) : List Nat := [l, D, gl, gs, gb, g8, g7, g6]
/-- the loop variables set. -/
abbrev twoV (tmps : Array Value) (v x : Value) : Array Value := ((#[15, 16] : Array Tmp).zip #[v, x]).foldl (fun s (p, y) => s.setIfInBounds p y) tmps
set_option maxHeartbeats 4000000 in
set_option maxRecDepth 10000 in
theorem round_ok {base B D l gl gs gb g8 g7 g6 : Nat} {W w : World} {fn : FuncId} {a : Act} {assign body : Code} {ol os ob : Obj} {v e x : Value} {ms : List Mom} {m : Mom} {c : Code} {n : Nat}
    (hc : Tryz.f44.body = some c) (hr : rfOf c = some (assign, body))
    (hf : Fits 25 [] [(6, .pointer (some ⟨g6, 0, none⟩)), (7, .pointer (some ⟨g7, 0, none⟩)), (8, .pointer (some ⟨g8, 0, none⟩))] a)
    (hs : Sys B W (L8 l D gl gs gb g8 g7 g6 (recO fn a.tmps #[15, 16] assign body D .ready none) ol os ob v e x) w)
    (hm : MomsAt W base (K8 l D gl gs gb g8 g7 g6) v ms) (hb : base ≤ W.heap.size) (hBb : B ≤ base) (hlen : ms.length < 1000) :
    (Instr.yield l (#[.agg ⟨m.c⟩, .nilIface] : Array Value)).run Tryz.prog w = .ok (.round l fn (twoV a.tmps (.agg ⟨m.c⟩) .nilIface) assign body) w ∧
    RoundIn Fence.wide n Tryz.prog l fn (twoV a.tmps (.agg ⟨m.c⟩) .nilIface) assign body w fun e1 w' => ∃ u, e1 = .returned u ∧ u = .bool true ∧ ∃ v' W', Sys B W' (L8 l D gl gs gb g8 g7 g6 (recO fn a.tmps #[15, 16] assign body D .ready none) ol os ob v' e x) w' ∧
      W'.ownsRow base 138 7 v' (ms.length + 1) (ms.flatMap Mom.c ++ m.c) ∧ (∀ k, v'.ownBlock = some k → v.ownBlock = some k ∨ W.heap.size ≤ k ∧ k ∉ K8 l D gl gs gb g8 g7 g6) ∧ Grew (K8 l D gl gs gb g8 g7 g6) v.ownBlock W W' ∧ Below B W W' := by
  have hloop := (hs.own _ List.mem_cons_self).2
  refine ⟨run_yield (args := #[.agg ⟨m.c⟩, .nilIface]) hloop rfl, ?_⟩
  obtain ⟨r0, hr0, hr1, hr2⟩ : ∃ r0, recO fn a.tmps #[15, 16] assign body D .ready none = r0 ∧ r0.state = .ready ∧ r0.pending = none := ⟨_, rfl, rfl, rfl⟩
  rw [hr0] at hs ⊢
  clear hloop hr0
  have hr3 : { { r0 with state := .busy } with state := .ready, pending := none } = r0 := by
    cases r0; simp only at hr1 hr2; subst hr1 hr2; rfl
  have e1 : Tryz.f44.body = some _ := rfl
  rw [e1] at hc
  cases hc
  simp only [rfOf, Option.some.injEq, Prod.mk.injEq] at hr
  obtain ⟨rfl, rfl⟩ := hr
  clear e1
  refine round_of (hf.params2 rfl rfl) hs ?_
  simp only [Mom.c, momC, staC, floC, List.cons_append, List.nil_append]
  repeat (first | (refine M0 ?_; first | refine SL ?_ | refine SB fun _ _ => ?_) | (refine XI.id ?_; first | refine XI.done ?_ | refine XI.one1 rfl ?_) | (refine XR'.id ?_; first | refine XR'.seq ?_ | refine XR'.region ?_ | refine XR'.block ?_ | refine XR'.skip ?_ | refine XR'.ret ?_ | refine XR'.cond_t rfl ?_ | refine XR'.cond_f rfl ?_ | refine XR'.exit ?_) | (refine M1 ?_; first | refine SC ?_ | refine SD ?_) | (refine M2 ?_; first | refine XE.nextI ?_ | refine XE.nextR ?_ | refine SE ?_))
  refine XE.begin (i := 1) rfl hr1 rfl ?_
  repeat (first | (refine M0 ?_; first | refine SL ?_ | refine SB fun _ _ => ?_ | refine Y4 (Ev.ifNeq rfl rfl err_if) ?_) | (refine XI.id ?_; first | refine XI.done ?_ | refine XI.one1 rfl ?_) | (refine XR'.id ?_; first | refine XR'.seq ?_ | refine XR'.region ?_ | refine XR'.block ?_ | refine XR'.skip ?_ | refine XR'.ret ?_ | refine XR'.cond_t rfl ?_ | refine XR'.cond_f rfl ?_ | refine XR'.exit ?_) | (refine M1 ?_; first | refine SC ?_ | refine SD ?_) | (refine M2 ?_; first | refine XE.nextI ?_ | refine XE.nextR ?_ | refine SE ?_))
  refine XL.step _ (Ev.load_at tok 6 (v := v) (j := 0) rfl rfl rfl rfl) rfl ?_
  repeat (first | (refine M0 ?_; first | refine SL ?_ | refine SB fun _ _ => ?_) | (refine XI.id ?_; first | refine XI.done ?_ | refine XI.one1 rfl ?_) | (refine XR'.id ?_; first | refine XR'.seq ?_ | refine XR'.region ?_ | refine XR'.block ?_ | refine XR'.skip ?_ | refine XR'.ret ?_ | refine XR'.cond_t rfl ?_ | refine XR'.cond_f rfl ?_ | refine XR'.exit ?_) | (refine M1 ?_; first | refine SC ?_ | refine SD ?_) | (refine M2 ?_; first | refine XE.nextI ?_ | refine XE.nextR ?_ | refine SE ?_))
  refine XL.buildSlice tok rfl rfl rfl rfl rfl rfl rfl rfl rfl (fun gn hgn => ?_)
  repeat (first | (refine M0 ?_; first | refine SL ?_ | refine SB fun _ _ => ?_) | (refine XI.id ?_; first | refine XI.done ?_ | refine XI.one1 rfl ?_) | (refine XR'.id ?_; first | refine XR'.seq ?_ | refine XR'.region ?_ | refine XR'.block ?_ | refine XR'.skip ?_ | refine XR'.ret ?_ | refine XR'.cond_t rfl ?_ | refine XR'.cond_f rfl ?_ | refine XR'.exit ?_) | (refine M1 ?_; first | refine SC ?_ | refine SD ?_) | (refine M2 ?_; first | refine XE.nextI ?_ | refine XE.nextR ?_ | refine SE ?_))
  obtain ⟨hrow, hsep, hlt, hins⟩ := hm
  have hks : ∀ e', e' ∈ L8 l D gl gs gb g8 g7 g6 { r0 with state := .busy } ol os ob v e x → e'.1 ∈ K8 l D gl gs gb g8 g7 g6 := by
    intro e' he'
    have : e'.1 ∈ (L8 l D gl gs gb g8 g7 g6 { r0 with state := .busy } ol os ob v e x).map (·.1) := List.mem_map.2 ⟨e', he', rfl⟩
    simpa using this
  refine XL.append2 (v := v) (m := 1) (n := ms.length) (size := 7) (bytes := 88) (base := base) (A := ⟨gn, 0, none⟩) (xs := ms.flatMap Mom.c) (news := m.c) (L' := L8 l D gl gs gb g8 g7 g6 { r0 with state := .busy } ol os ob v e x) mom_el (by decide) rfl rfl rfl
    hrow (fun k hk e' he' => ?_) rfl (fun w2 S2 j u hj => ?_) (by simp [Mom.c, momC, staC, floC, Value.oneCell']) (by unfold maxLen; omega) (by omega) hb ((List.sublist_cons_self _ _).trans (List.sublist_cons_self _ _)) (fun w2 v' w3 S2 ho hg _ hfr => ?_)
  · rcases List.mem_cons.1 he' with rfl | he'
    · have := (hlt k hk).2; intro e2; simp only at e2; omega
    rcases List.mem_cons.1 he' with rfl | he'
    · have := (hlt k hk).2; intro e2; simp only at e2; omega
    · intro e2; exact hsep k hk (e2 ▸ hks e' he')
  · have := S2.cell (g := gn) List.mem_cons_self j
    rw [add_off, Nat.zero_add, this]; exact hj
  obtain ⟨r, rfl, hrn⟩ := owns_sv ho
  repeat (first | (refine M0 ?_; first | refine SL ?_ | refine SB fun _ _ => ?_) | (refine XI.id ?_; first | refine XI.done ?_ | refine XI.one1 rfl ?_) | (refine XR'.id ?_; first | refine XR'.seq ?_ | refine XR'.region ?_ | refine XR'.block ?_ | refine XR'.skip ?_ | refine XR'.ret ?_ | refine XR'.cond_t rfl ?_ | refine XR'.cond_f rfl ?_ | refine XR'.exit ?_) | (refine M1 ?_; first | refine SC ?_ | refine SD ?_) | (refine M2 ?_; first | refine XE.nextI ?_ | refine XE.nextR ?_ | refine SE ?_))
  refine XL.store_at tok 5 (o := 0) (j := 0) (cs := [v]) rfl rfl rfl rfl rfl (Nat.zero_lt_succ 0) rfl ?_
  repeat (first | (refine M0 ?_; first | refine SL ?_ | refine SB fun _ _ => ?_) | (refine XI.id ?_; first | refine XI.done ?_ | refine XI.one1 rfl ?_) | (refine XR'.id ?_; first | refine XR'.seq ?_ | refine XR'.region ?_ | refine XR'.block ?_ | refine XR'.skip ?_ | refine XR'.ret ?_ | refine XR'.cond_t rfl ?_ | refine XR'.cond_f rfl ?_ | refine XR'.exit ?_) | (refine M1 ?_; first | refine SC ?_ | refine SD ?_) | (refine M2 ?_; first | refine XE.nextI ?_ | refine XE.nextR ?_ | refine SE ?_))
  refine XE.endR (i := 0) rfl rfl (fun w' S => ?_)
  have hr3' := hr3
  simp only at hr3'
  simp only [List.set_cons_zero, Nat.zero_add, hr3'] at S
  have hK : ∀ k, k ∈ K8 l D gl gs gb g8 g7 g6 → k < w2.heap.size := fun k hk => by
    obtain ⟨e', he', e2⟩ := List.mem_map.1 (show k ∈ (L8 l D gl gs gb g8 g7 g6 { r0 with state := .busy } ol os ob v e x).map (·.1) from hk)
    have := S2.lt (List.mem_cons_of_mem _ (List.mem_cons_of_mem _ he'))
    omega
  refine ⟨_, rfl, rfl, svV r, w3, S, ho, fun k hk => ?_, ⟨Nat.le_trans S2.size hg.size, fun j hj hjk hjr => ?_⟩, grown_below S2 hg fun k hk => Nat.le_trans hBb (hlt k hk).1⟩
  · rcases hfr k hk with h | h
    · exact .inl h
    · exact .inr ⟨Nat.le_trans S2.size h, fun hk' => by have := hK k hk'; omega⟩
  · rw [hg.block j (Nat.lt_of_lt_of_le hj S2.size) (fun e2 => hjr e2.symm)]
    refine S2.old j hj fun e' he' e2 => ?_
    rcases List.mem_cons.1 he' with rfl | he'
    · simp only at e2; omega
    rcases List.mem_cons.1 he' with rfl | he'
    · simp only at e2; omega
    · exact hjk (e2 ▸ hks e' he')
def zmC : List Value := [.int .i64 0, .slice none 0 0, .int .i64 0, .int .i64 0, .int .i64 0, .int .i64 0, .slice none 0 0]
set_option maxHeartbeats 4000000 in
set_option maxRecDepth 10000 in
theorem round_err {B D l gl gs gb g8 g7 g6 gf : Nat} {W w : World} {fn : FuncId} {a : Act} {assign body : Code} {ol os ob : Obj} {v e x : Value} {c : Code} {n : Nat}
    (hc : Tryz.f44.body = some c) (hr : rfOf c = some (assign, body))
    (hf : Fits 25 [] [(6, .pointer (some ⟨g6, 0, none⟩)), (7, .pointer (some ⟨g7, 0, none⟩)), (8, .pointer (some ⟨g8, 0, none⟩))] a)
    (hs : Sys B W (L8 l D gl gs gb g8 g7 g6 (recO fn a.tmps #[15, 16] assign body D .ready none) ol os ob v e x) w) :
    (Instr.yield l (#[.agg ⟨zmC⟩, .iface 129 (.pointer (some ⟨gf, 0, none⟩))] : Array Value)).run Tryz.prog w = .ok (.round l fn (twoV a.tmps (.agg ⟨zmC⟩) (.iface 129 (.pointer (some ⟨gf, 0, none⟩)))) assign body) w ∧
    RoundIn Fence.wide n Tryz.prog l fn (twoV a.tmps (.agg ⟨zmC⟩) (.iface 129 (.pointer (some ⟨gf, 0, none⟩)))) assign body w fun e1 w' => ∃ u, e1 = .returned u ∧ u = .bool false ∧
      Sys B W (L8 l D gl gs gb g8 g7 g6 (recO fn a.tmps #[15, 16] assign body D .done (some .ret)) ol os ob v (.iface 129 (.pointer (some ⟨gf, 0, none⟩))) (.slice none 0 0)) w' := by
  have hloop := (hs.own _ List.mem_cons_self).2
  refine ⟨run_yield (args := #[.agg ⟨zmC⟩, .iface 129 (.pointer (some ⟨gf, 0, none⟩))]) hloop rfl, ?_⟩
  obtain ⟨r0, hr0, hr1, r1, hr4, hr3⟩ : ∃ r0, recO fn a.tmps #[15, 16] assign body D .ready none = r0 ∧ r0.state = .ready ∧ ∃ r1, recO fn a.tmps #[15, 16] assign body D .done (some .ret) = r1 ∧ { { r0 with state := .busy } with state := .done, pending := some .ret } = r1 := ⟨_, rfl, rfl, _, rfl, rfl⟩
  rw [hr0] at hs
  rw [hr4]
  clear hloop hr0 hr4
  have e1 : Tryz.f44.body = some _ := rfl
  rw [e1] at hc
  cases hc
  simp only [rfOf, Option.some.injEq, Prod.mk.injEq] at hr
  obtain ⟨rfl, rfl⟩ := hr
  clear e1
  refine round_of (hf.params2 rfl rfl) hs ?_
  simp only [zmC]
  repeat (first | (refine M0 ?_; first | refine SL ?_ | refine SB fun _ _ => ?_) | (refine XI.id ?_; first | refine XI.done ?_ | refine XI.one1 rfl ?_) | (refine XR'.id ?_; first | refine XR'.seq ?_ | refine XR'.region ?_ | refine XR'.block ?_ | refine XR'.skip ?_ | refine XR'.ret ?_ | refine XR'.cond_t rfl ?_ | refine XR'.cond_f rfl ?_ | refine XR'.exit ?_) | (refine M1 ?_; first | refine SC ?_ | refine SD ?_) | (refine M2 ?_; first | refine XE.nextI ?_ | refine XE.nextR ?_ | refine SE ?_))
  refine XE.begin (i := 1) rfl hr1 rfl ?_
  repeat (first | (refine M0 ?_; first | refine SL ?_ | refine SB fun _ _ => ?_ | refine Y4 (Ev.ifNeq rfl rfl err_if) ?_) | (refine XI.id ?_; first | refine XI.done ?_ | refine XI.one1 rfl ?_) | (refine XR'.id ?_; first | refine XR'.seq ?_ | refine XR'.region ?_ | refine XR'.block ?_ | refine XR'.skip ?_ | refine XR'.ret ?_ | refine XR'.cond_t rfl ?_ | refine XR'.cond_f rfl ?_ | refine XR'.exit ?_) | (refine M1 ?_; first | refine SC ?_ | refine SD ?_) | (refine M2 ?_; first | refine XE.nextI ?_ | refine XE.nextR ?_ | refine SE ?_))
  refine XL.store_at tok 8 (o := 0) (j := 0) (cs := [x]) rfl rfl rfl rfl rfl (Nat.zero_lt_succ 0) rfl ?_
  repeat (first | (refine M0 ?_; first | refine SL ?_ | refine SB fun _ _ => ?_) | (refine XI.id ?_; first | refine XI.done ?_ | refine XI.one1 rfl ?_) | (refine XR'.id ?_; first | refine XR'.seq ?_ | refine XR'.region ?_ | refine XR'.block ?_ | refine XR'.skip ?_ | refine XR'.ret ?_ | refine XR'.cond_t rfl ?_ | refine XR'.cond_f rfl ?_ | refine XR'.exit ?_) | (refine M1 ?_; first | refine SC ?_ | refine SD ?_) | (refine M2 ?_; first | refine XE.nextI ?_ | refine XE.nextR ?_ | refine SE ?_))
  refine XL.store_at tok 7 (o := 0) (j := 0) (cs := [e]) rfl rfl rfl rfl rfl (Nat.zero_lt_succ 0) rfl ?_
  repeat (first | (refine M0 ?_; first | refine SL ?_ | refine SB fun _ _ => ?_) | (refine XI.id ?_; first | refine XI.done ?_ | refine XI.one1 rfl ?_) | (refine XR'.id ?_; first | refine XR'.seq ?_ | refine XR'.region ?_ | refine XR'.block ?_ | refine XR'.skip ?_ | refine XR'.ret ?_ | refine XR'.cond_t rfl ?_ | refine XR'.cond_f rfl ?_ | refine XR'.exit ?_) | (refine M1 ?_; first | refine SC ?_ | refine SD ?_) | (refine M2 ?_; first | refine XE.nextI ?_ | refine XE.nextR ?_ | refine SE ?_))
  refine XE.endRet (i := 1) rfl rfl (fun w' S => ?_)
  simp only at hr3
  simp only [List.set_cons_zero, Nat.zero_add, hr3] at S
  exact ⟨_, rfl, rfl, S.pop (by assumption)⟩
end Go.Proofs.YtmckmlmfilmiaaaGreatDoor.X
/-
  Rows of the call's own that grow, and what else was made in the call: one word for all of it.
-/
namespace Go.Proofs.YtmckmlmfilmiaaaGreatDoor.X
open Go Go.RowKit
set_option linter.unusedVariables false
/-- something in memory, told of some blocks alone. -/
structure Held where
  p : World → (Nat → Prop) → Prop
  keep : ∀ {w w' : World} {ok : Nat → Prop}, p w ok → (∀ k, ok k → w'.heap[k]? = w.heap[k]?) → p w' ok
  mono : ∀ {w : World} {ok ok' : Nat → Prop}, p w ok → (∀ k, ok k → ok' k) → p w ok'
/-- a kind of elements: their type, how many cells they take, which; and what they point to. -/
structure Kind (α : Type) where
  ty : TypeId
  m : Nat
  c : α → List Value
  sl : α → List Held
  len : ∀ a, (c a).length = m
/-- a slice that is read. -/
structure ListAt {α : Type} (K : Kind α) (W : World) (ok : Nat → Prop) (r : SV) (l : List α) : Prop where
  rd : ReadsP W ok K.m r.A r.n (l.flatMap K.c)
  max : r.n ≤ 9223372036854775807
  ins : ∀ a, a ∈ l → ∀ h, h ∈ K.sl a → h.p W ok
section
variable {α : Type} {K : Kind α} {w w' w0 W : World} {ok ok' : Nat → Prop} {B : Nat} {r : SV} {l : List α} {L : Lo}
theorem ListAt.keep (h : ListAt K w ok r l) (hk : ∀ k, ok k → w'.heap[k]? = w.heap[k]?) : ListAt K w' ok r l := ⟨h.rd.keep hk, h.max, fun a ha x hx => x.keep (h.ins a ha x hx) hk⟩
theorem ListAt.mono (h : ListAt K w ok r l) (hk : ∀ k, ok k → ok' k) : ListAt K w ok' r l := ⟨h.rd.mono hk, h.max, fun a ha x hx => x.mono (h.ins a ha x hx) hk⟩
theorem ListAt.sys (h : ListAt K w0 ok r l) (S : Sys B w0 L w) (hk : Keep ok w0 L) : ListAt K w (Lt w.heap.size) r l := (h.keep (hk.sys S)).mono (hk.lt S)
theorem ListAt.arg (h : ListAt K w0 (Lt B) r l) (S : Sys B w0 L w) : ListAt K w (Lt w.heap.size) r l := h.sys S (Keep.arg S)
theorem ListAt.below (h : ListAt K w (Lt B) r l) (hb : Below B w w') : ListAt K w' (Lt B) r l := h.keep fun k hk => hb.block k hk
theorem ListAt.len (h : ListAt K w ok r l) (h0 : 0 < K.m) : r.n = l.length := by
  have := h.rd.len
  rw [flat_len K.c K.m K.len] at this
  exact (Nat.eq_of_mul_eq_mul_right h0 this).symm
theorem ListAt.nil : ListAt K w ok ⟨none, 0, 0⟩ [] := ⟨ReadsP.nil, Nat.zero_le _, fun a ha => by cases ha⟩
/-- an element's cells. -/
theorem ListAt.elem {ad : Addr} {n c : Nat} (h : ListAt K w ok ⟨some ad, n, c⟩ l) {k : Nat} {a : α} (hk : l[k]? = some a) : ∀ j u, (K.c a)[j]? = some u → w.cell? ((ad.add (k * K.m)).add j) = some u := fun j u hj => by
  have hj3 : j < K.m := by have := (List.getElem?_eq_some_iff.1 hj).1; rwa [K.len] at this
  have hn := h.len (by omega)
  have hkl := (List.getElem?_eq_some_iff.1 hk).1
  obtain ⟨ad', e, _, h1⟩ := h.rd.at_ (by simp only at hn ⊢; omega)
  cases e
  have e2 := flat_at K.c K.m K.len l k j a hk hj3
  have := h1 (k * K.m + j) u (e2.trans hj)
  rw [add_add]
  exact this
/-- its block. -/
theorem ListAt.addr {A : Option Addr} {n c : Nat} (h : ListAt K w ok ⟨A, n, c⟩ l) (h0 : 0 < K.m) (hn : 0 < l.length) : ∃ ad, A = some ad ∧ ok ad.block := by
  have := h.len h0
  obtain ⟨ad, e, h1, _⟩ := h.rd.at_ (by simp only at this ⊢; omega)
  exact ⟨ad, e, h1⟩
end
theorem owns_move' {W W' : World} {v : Value} {base e size n : Nat} {xs : List Value} (h : W.ownsRow base e size v n xs) (hk : ∀ k, v.ownBlock = some k → W'.heap[k]? = W.heap[k]?) : W'.ownsRow base e size v n xs := by
  refine ⟨h.1, ?_⟩
  rcases h.2 with h1 | ⟨g, cap, cur, rfl, hb, hg, h1⟩
  · exact .inl h1
  · exact .inr ⟨g, cap, cur, rfl, hb, by rw [hk g rfl]; exact hg, h1⟩
def hList {α : Type} (K : Kind α) (r : SV) (l : List α) : Held := ⟨fun w ok => ListAt K w ok r l, ListAt.keep, ListAt.mono⟩
def hInts (q : SV) (l : List Int) : Held := ⟨fun w ok => IntsAt w ok q l, IntsAt.keep, IntsAt.mono⟩
/-- a row that grows. -/
structure RowX where
  α : Type
  K : Kind α
  v : Value
  l : List α
/-- made in the call, and none of these. -/
def Free (W : World) (b0 : Nat) (ks : List Nat) (rs : List RowX) (j : Nat) : Prop := b0 ≤ j ∧ j < W.heap.size ∧ j ∉ ks ∧ ∀ r, r ∈ rs → r.v.ownBlock ≠ some j
/-- THE ROWS rs AND WHAT ELSE WAS MADE SINCE b0 (hs); ks: blocks that are none of theirs. -/
structure Fam (W : World) (b0 : Nat) (ks : List Nat) (rs : List RowX) (hs : List Held) : Prop where
  base : b0 ≤ W.heap.size
  row : ∀ r, r ∈ rs → W.ownsRow b0 r.K.ty r.K.m r.v r.l.length (r.l.flatMap r.K.c)
  sep : ∀ r, r ∈ rs → ∀ k, r.v.ownBlock = some k → k ∉ ks
  two : rs.Pairwise fun r s => ∀ k, r.v.ownBlock = some k → s.v.ownBlock ≠ some k
  ins : ∀ r, r ∈ rs → ∀ a, a ∈ r.l → ∀ h, h ∈ r.K.sl a → h.p W (Free W b0 ks rs)
  held : ∀ h, h ∈ hs → h.p W (Free W b0 ks rs)
section
variable {W W' w w0 w1 w2 : World} {b0 B : Nat} {ks ks' : List Nat} {rs : List RowX} {hs hs' : List Held} {L : Lo}
theorem Fam.start (h : b0 ≤ W.heap.size) : Fam W b0 ks [] [] := ⟨h, fun _ h => (by cases h), fun _ h => (by cases h), .nil, fun _ h => (by cases h), fun _ h => (by cases h)⟩
theorem Fam.lt (h : Fam W b0 ks rs hs) {r : RowX} (hr : r ∈ rs) {k : Nat} (hk : r.v.ownBlock = some k) : b0 ≤ k ∧ k < W.heap.size := (h.row r hr).lt k hk
theorem Fam.nil {α : Type} (K : Kind α) (h : Fam W b0 ks rs hs) : Fam W b0 ks (⟨α, K, .slice none 0 0, []⟩ :: rs) hs := by
  have hf : ∀ j, Free W b0 ks rs j → Free W b0 ks (⟨α, K, .slice none 0 0, []⟩ :: rs) j := fun j hj => ⟨hj.1, hj.2.1, hj.2.2.1, fun r hr => by
    rcases List.mem_cons.1 hr with rfl | hr
    · simp [Value.ownBlock]
    · exact hj.2.2.2 r hr⟩
  refine ⟨h.base, fun r hr => ?_, fun r hr k hk => ?_, .cons (fun s hs k hk => by cases hk) h.two, fun r hr a ha x hx => ?_, fun x hx => x.mono (h.held x hx) hf⟩
  · rcases List.mem_cons.1 hr with rfl | hr
    · exact World.ownsRow_nil _ _ _ _
    · exact h.row r hr
  · rcases List.mem_cons.1 hr with rfl | hr
    · cases hk
    · exact h.sep r hr k hk
  · rcases List.mem_cons.1 hr with rfl | hr
    · cases ha
    · exact x.mono (h.ins r hr a ha x hx) hf
theorem Fam.hold (h : Fam W b0 ks rs hs) {x : Held} {ok : Nat → Prop} (hx : x.p W ok) (hk : ∀ j, ok j → Free W b0 ks rs j) : Fam W b0 ks rs (x :: hs) :=
  ⟨h.base, h.row, h.sep, h.two, h.ins, fun y hy => by
    rcases List.mem_cons.1 hy with rfl | hy
    · exact y.mono hx hk
    · exact h.held y hy⟩
theorem Fam.forget (h : Fam W b0 ks rs hs) (hh : ∀ x, x ∈ hs' → x ∈ hs) : Fam W b0 ks rs hs' := ⟨h.base, h.row, h.sep, h.two, h.ins, fun y hy => h.held y (hh y hy)⟩
/-- the own blocks may be others. -/
theorem Fam.add (h : Fam W b0 ks rs hs) (hk : ∀ k, k ∈ ks' → k ∈ ks ∨ W.heap.size ≤ k) : Fam W b0 ks' rs hs := by
  have hf : ∀ j, Free W b0 ks rs j → Free W b0 ks' rs j := fun j hj => ⟨hj.1, hj.2.1, fun h1 => by
    rcases hk j h1 with h2 | h2
    · exact hj.2.2.1 h2
    · have := hj.2.1; omega, hj.2.2.2⟩
  exact ⟨h.base, h.row, fun r hr k h1 h2 => by
    rcases hk k h2 with h3 | h3
    · exact h.sep r hr k h1 h3
    · have := (h.lt hr h1).2; omega, h.two, fun r hr a ha x hx => x.mono (h.ins r hr a ha x hx) hf, fun x hx => x.mono (h.held x hx) hf⟩
theorem Fam.move (h : Fam W b0 ks rs hs) (hsz : W.heap.size ≤ W'.heap.size) (ho : ∀ j, j < W.heap.size → j ∉ ks → W'.heap[j]? = W.heap[j]?) : Fam W' b0 ks rs hs := by
  have hf : ∀ j, Free W b0 ks rs j → Free W' b0 ks rs j := fun j hj => ⟨hj.1, by have := hj.2.1; omega, hj.2.2⟩
  have hk : ∀ j, Free W b0 ks rs j → W'.heap[j]? = W.heap[j]? := fun j hj => ho j hj.2.1 hj.2.2.1
  exact ⟨Nat.le_trans h.base hsz, fun r hr => owns_move' (h.row r hr) fun k h1 => ho k (h.lt hr h1).2 (h.sep r hr k h1), h.sep, h.two, fun r hr a ha x hx => x.mono (x.keep (h.ins r hr a ha x hx) hk) hf, fun x hx => x.mono (x.keep (h.held x hx) hk) hf⟩
theorem Fam.sys (h : Fam w0 b0 ks rs hs) (S : Sys B w0 L w) (hL : ∀ e, e ∈ L → e.1 ∈ ks ∨ w0.heap.size ≤ e.1) : Fam w b0 ks rs hs :=
  h.move S.size fun j hj hn => S.old j hj fun e he e1 => by
    rcases hL e he with h2 | h2
    · exact hn (e1 ▸ h2)
    · omega
theorem Fam.below (h : Fam w b0 ks rs hs) (hb : Below w.heap.size w w2) : Fam w2 b0 ks rs hs := h.move hb.size fun j hj _ => hb.block j hj
/-- what a call made. -/
theorem Fam.made (h : Fam w1 b0 ks rs hs) (hb : Below w1.heap.size w1 w2) {x : Held} (hx : x.p w2 (Btw w1.heap.size w2.heap.size)) (hk : ∀ k, k ∈ ks → k < w1.heap.size) : Fam w2 b0 ks rs (x :: hs) :=
  (h.below hb).hold hx fun j hj => ⟨Nat.le_trans h.base hj.1, hj.2, fun h1 => by have := hk j h1; have := hj.1; omega, fun r hr h1 => by have := (h.lt hr h1).2; have := hj.1; omega⟩
/-- a row grows. -/
theorem Fam.push {α : Type} {K : Kind α} {v v' : Value} {l : List α} {a : α} {i : Nat} (h : Fam W b0 ks rs hs) (hi : rs[i]? = some ⟨α, K, v, l⟩) (ha : ∀ x, x ∈ K.sl a → x ∈ hs) (hrow : W'.ownsRow b0 K.ty K.m v' (l.length + 1) (l.flatMap K.c ++ K.c a))
    (hsz : W.heap.size ≤ W'.heap.size) (ho : ∀ j, j < W.heap.size → j ∉ ks → v.ownBlock ≠ some j → W'.heap[j]? = W.heap[j]?) (hfr : ∀ k, v'.ownBlock = some k → v.ownBlock = some k ∨ (W.heap.size ≤ k ∧ k ∉ ks)) :
    Fam W' b0 ks (rs.set i ⟨α, K, v', l ++ [a]⟩) hs := by
  have hm : ∀ r, r ∈ rs.set i ⟨α, K, v', l ++ [a]⟩ → r = ⟨α, K, v', l ++ [a]⟩ ∨ (r ∈ rs ∧ ∀ k, r.v.ownBlock = some k → v.ownBlock ≠ some k) := fun r hr => by
    obtain ⟨j, hj, rfl⟩ := List.mem_iff_getElem.1 hr
    by_cases hij : i = j
    · subst hij; left; simp
    · right
      rw [List.getElem_set_ne hij]
      simp at hj
      refine ⟨List.getElem_mem _, fun k hk h2 => ?_⟩
      obtain ⟨hil, hie⟩ := List.getElem?_eq_some_iff.1 hi
      have hp := List.pairwise_iff_getElem.1 h.two
      rcases Nat.lt_or_gt_of_ne hij with h3 | h3
      · have := hp i j hil hj h3 k (by rw [hie]; exact h2)
        exact this hk
      · have := hp j i hj hil h3 k hk
        rw [hie] at this
        exact this h2
  have hri : (⟨α, K, v, l⟩ : RowX) ∈ rs := List.mem_of_getElem? hi
  have hf : ∀ j, Free W b0 ks rs j → Free W' b0 ks (rs.set i ⟨α, K, v', l ++ [a]⟩) j := fun j hj => ⟨hj.1, by have := hj.2.1; omega, hj.2.2.1, fun r hr h1 => by
    rcases hm r hr with rfl | ⟨h2, _⟩
    · rcases hfr j h1 with h3 | h3
      · exact hj.2.2.2 _ hri h3
      · have := hj.2.1; omega
    · exact hj.2.2.2 r h2 h1⟩
  have hk : ∀ j, Free W b0 ks rs j → W'.heap[j]? = W.heap[j]? := fun j hj => ho j hj.2.1 hj.2.2.1 fun h1 => hj.2.2.2 _ hri h1
  refine ⟨Nat.le_trans h.base hsz, fun r hr => ?_, fun r hr k h1 => ?_, ?_, fun r hr b hb x hx => ?_, fun x hx => x.mono (x.keep (h.held x hx) hk) hf⟩
  · rcases hm r hr with rfl | ⟨h2, h3⟩
    · simpa using hrow
    · exact owns_move' (h.row r h2) fun k h4 => ho k (h.lt h2 h4).2 (h.sep r h2 k h4) (h3 k h4)
  · rcases hm r hr with rfl | ⟨h2, h3⟩
    · rcases hfr k h1 with h4 | h4
      · exact h.sep _ hri k h4
      · exact h4.2
    · exact h.sep r h2 k h1
  · rw [List.pairwise_iff_getElem]
    have hp := List.pairwise_iff_getElem.1 h.two
    obtain ⟨hil, hie⟩ := List.getElem?_eq_some_iff.1 hi
    intro p q hpl hql hpq k hk1 hk2
    simp at hpl hql
    by_cases h1 : i = p
    · subst h1
      have h2 : i ≠ q := by omega
      rw [List.getElem_set_ne h2] at hk2
      simp at hk1
      rcases hfr k hk1 with h4 | h4
      · exact hp i q hpl hql hpq k (by rw [hie]; exact h4) hk2
      · have := (h.lt (List.getElem_mem hql) hk2).2; omega
    · by_cases h2 : i = q
      · subst h2
        rw [List.getElem_set_ne h1] at hk1
        simp at hk2
        rcases hfr k hk2 with h4 | h4
        · have := hp p i hpl hql hpq k hk1
          rw [hie] at this
          exact this h4
        · have := (h.lt (List.getElem_mem hpl) hk1).2; omega
      · rw [List.getElem_set_ne h1] at hk1
        rw [List.getElem_set_ne h2] at hk2
        exact hp p q hpl hql hpq k hk1 hk2
  · rcases hm r hr with rfl | ⟨h2, h3⟩
    · rcases List.mem_append.1 hb with h4 | h4
      · exact x.mono (x.keep (h.ins _ hri b h4 x hx) hk) hf
      · have h5 : b = a := List.mem_singleton.1 h4
        have h6 : x ∈ K.sl b := hx
        rw [h5] at h6
        exact x.mono (x.keep (h.held x (ha x h6)) hk) hf
    · exact x.mono (x.keep (h.ins r h2 b hb x hx) hk) hf
/-- a row is read. -/
theorem Fam.list {α : Type} {K : Kind α} {v : Value} {l : List α} (h : Fam W b0 ks rs hs) (hr : (⟨α, K, v, l⟩ : RowX) ∈ rs) : ∃ r : SV, v = svV r ∧ ListAt K W (Btw b0 W.heap.size) r l := by
  have h1 := h.row _ hr
  obtain ⟨r, rfl, hrn⟩ := owns_sv h1
  obtain ⟨a1, a2, _, a4⟩ := ReadsP.own h1
  refine ⟨r, rfl, by rw [a2]; exact a1, by simp only [maxLen] at a4 hrn; omega, fun a ha x hx => x.mono (h.ins _ hr a ha x hx) fun j hj => ⟨hj.1, hj.2.1⟩⟩
theorem Fam.get {x : Held} (h : Fam W b0 ks rs hs) (hx : x ∈ hs) : x.p W (Btw b0 W.heap.size) := x.mono (h.held x hx) fun j hj => ⟨hj.1, hj.2.1⟩
end
section
variable {P : Program} {T : TT} {N : Nat} {B : Nat} {w0 : World} {ds : List Deferred} {Q : Exit → Act → World → Prop} {F : Fr} {L : Lo} {ops : Array Oper} {rest : List Oper} {ty : TypeId} {p : String} {af : Array Edge}
/-- append(row, one element). -/
theorem XL.push {α : Type} {K : Kind α} {d : Nat} {t : TypeId} {x y : Operand} {v : Value} {l : List α} {a : α} {c bytes b0 : Nat} {A : Addr} {ks : List Nat} {rs : List RowX} {hs : List Held} {wE : World} (i : Nat) (he : elemOk P t K.ty K.m bytes = true) (h0 : 0 < K.m)
    (hx : evo F x = some v) (hy : evo F y = some (.slice (some A) 1 c)) (hd : Nat.blt d N = true) (hF : Fam w0 b0 ks rs hs) (hi : rs[i]? = some ⟨α, K, v, l⟩) (hks : ∀ k, k ∈ ks → k < w0.heap.size) (hbl : Below B wE w0) (hB : B ≤ b0) (h1 : (K.c a).all Value.oneCell' = true) (h63 : l.length + 1 ≤ 10000000) (hb : bytes ≤ 10000000) (ha : ∀ x, x ∈ K.sl a → x ∈ hs)
    (k : ∀ w' v', Fam w' b0 (L.map (·.1) ++ ks) (rs.set i ⟨α, K, v', l ++ [a]⟩) hs → Below B wE w' → (∀ k, k ∈ L.map (·.1) ++ ks → k < w'.heap.size) → XL P N B w' ds Q ops rest ((d, v') :: F) L)
    (hL : ∀ e, e ∈ L → e.1 ∈ ks ∨ w0.heap.size ≤ e.1 := by (intro e he; repeat (first | (cases he; done) | (rcases List.mem_cons.1 he with rfl | he; · first | (right; assumption) | (left; simp <;> fail)))) <;> fail) (hnews : ∀ w, Sys B w0 L w → ∀ j u, (K.c a)[j]? = some u → w.cell? (A.add j) = some u := by (intro w S j u hj; first | (rw [add_off, Nat.zero_add, S.cell List.mem_cons_self j]; exact hj) | (rw [add_off, Nat.zero_add, S.cell (List.mem_cons_of_mem _ List.mem_cons_self) j]; exact hj) | (rw [add_off, Nat.zero_add, S.cell (List.mem_cons_of_mem _ (List.mem_cons_of_mem _ List.mem_cons_self)) j]; exact hj))) :
    XL P N B w0 ds Q ops ({ dst := some d, op := .call { callee := .builtin .append, args := #[x, y], argTypes := #[t, t] }, type := ty, pos := p, after := af, guard := none } :: rest) F L := by
  have hri : (⟨α, K, v, l⟩ : RowX) ∈ rs := List.mem_of_getElem? hi
  have hk2 : ∀ k, k ∈ L.map (·.1) ++ ks → k ∈ ks ∨ w0.heap.size ≤ k := fun k hk => by
    rcases List.mem_append.1 hk with h | h
    · obtain ⟨e, he, rfl⟩ := List.mem_map.1 h
      exact hL e he
    · exact .inl h
  have hk3 : ∀ w, Sys B w0 L w → ∀ k, k ∈ L.map (·.1) ++ ks → k < w.heap.size := fun w S k hk => by
    rcases List.mem_append.1 hk with h | h
    · obtain ⟨e, he, rfl⟩ := List.mem_map.1 h
      exact S.lt he
    · exact Nat.lt_of_lt_of_le (hks k h) S.size
  refine XL.append2 (v := v) (m := 1) (n := l.length) (size := K.m) (bytes := bytes) (base := b0) (A := A) (xs := l.flatMap K.c) (news := K.c a) (L' := L) he h0 hx hy hd (hF.row _ hri) (fun k hk e he e1 => ?_) (by rw [K.len]; omega) hnews h1 (by unfold maxLen; omega)
    (Nat.le_trans (Nat.mul_le_mul h63 hb) (by decide)) hF.base (List.Sublist.refl _) (fun w v' w' S ho hg _ hfr => ?_)
  · rcases hL e he with h | h
    · exact hF.sep _ hri k hk (e1 ▸ h)
    · have := (hF.lt hri hk).2; omega
  · have hsz := hg.size
    have hS := S.size
    refine k w' v' ?_ (hbl.trans (grown_below S hg fun k hk => Nat.le_trans hB (hF.lt hri hk).1)) fun q hq => Nat.lt_of_lt_of_le (hk3 w S q hq) hsz
    refine (hF.add (ks' := L.map (·.1) ++ ks) hk2).push hi ha ho (Nat.le_trans hS hsz) (fun j hj hn hv => ?_) (fun k hk => ?_)
    · exact grown_old S hg hj (fun e he e1 => hn (List.mem_append_left _ (List.mem_map.2 ⟨e, he, e1⟩))) fun e1 => hv e1.symm
    · rcases hfr k hk with h | h
      · exact .inl h
      · exact .inr ⟨Nat.le_trans hS h, fun h2 => by have := hk3 w S k h2; omega⟩
/-- what a call made: its value, and new things in memory. -/
def Made (w : World) (R : Value → List Held → Prop) (e : Ending) (w' : World) : Prop := ∃ v new, e = .returned v ∧ R v new ∧ (∀ x, x ∈ new → x.p w' (Btw w.heap.size w'.heap.size)) ∧ Below w.heap.size w w'
theorem Fam.call {w0 w1 w2 : World} {b0 : Nat} {ks : List Nat} {rs : List RowX} {hs new : List Held} (hF : Fam w0 b0 ks rs hs) (S : Sys B w0 L w1) (hb : Below w1.heap.size w1 w2) (hL : ∀ e, e ∈ L → e.1 ∈ ks ∨ w0.heap.size ≤ e.1) (hks : ∀ k, k ∈ ks → k < w0.heap.size)
    (hx : ∀ x, x ∈ new → x.p w2 (Btw w1.heap.size w2.heap.size)) : Fam w2 b0 (L.map (·.1) ++ ks) rs (new ++ hs) ∧ ∀ k, k ∈ L.map (·.1) ++ ks → k < w2.heap.size := by
  have hk3 : ∀ k, k ∈ L.map (·.1) ++ ks → k < w1.heap.size := fun k hk => by
    rcases List.mem_append.1 hk with h | h
    · obtain ⟨e, he, rfl⟩ := List.mem_map.1 h
      exact S.lt he
    · exact Nat.lt_of_lt_of_le (hks k h) S.size
  have h1 : Fam w0 b0 (L.map (·.1) ++ ks) rs hs := hF.add fun k hk => by
    rcases List.mem_append.1 hk with h | h
    · obtain ⟨e, he, rfl⟩ := List.mem_map.1 h
      exact hL e he
    · exact .inl h
  have h2 : Fam w1 b0 (L.map (·.1) ++ ks) rs hs := h1.sys S fun e he => .inl (List.mem_append_left _ (List.mem_map.2 ⟨e, he, rfl⟩))
  refine ⟨?_, fun k hk => Nat.lt_of_lt_of_le (hk3 k hk) hb.size⟩
  clear hL hks h1
  induction new with
  | nil => exact h2.below hb
  | cons x new ih =>
    have := ih fun y hy => hx y (List.mem_cons_of_mem _ hy)
    exact this.hold (hx x List.mem_cons_self) fun j hj => ⟨Nat.le_trans h2.base hj.1, hj.2, fun h3 => by have := hk3 j h3; have := hj.1; omega, fun r hr h3 => by have := (h2.lt hr h3).2; have := hj.1; omega⟩
theorem XL.at_call {N : Nat} {ds : List Deferred} {F : Fr} {d : Nat} (f : FuncId) {args : Array Operand} {ats : Array TypeId} (k : XL P N B w0 ds Q ops ({ dst := some d, op := .call { callee := .value (.func f), args := args, argTypes := ats }, type := ty, pos := p, after := af, guard := none } :: rest) F L) :
    XL P N B w0 ds Q ops ({ dst := some d, op := .call { callee := .value (.func f), args := args, argTypes := ats }, type := ty, pos := p, after := af, guard := none } :: rest) F L := k
/-- a call that makes new things; the world behind it is the new base. -/
theorem XL.callF {f : FuncId} {d : Nat} {args : Array Operand} {vs : List Value} {ats : Array TypeId} {b0 : Nat} {ks : List Nat} {rs : List RowX} {hs : List Held} {wE : World} (R : Value → List Held → Prop) (h : callOk P f = true)
    (ha : evos F args.toList = some vs) (hd : Nat.blt d N = true) (hF : Fam w0 b0 ks rs hs) (hks : ∀ k, k ∈ ks → k < w0.heap.size) (hbl : Below B wE w0)
    (hc : ∀ w, Sys B w0 L w → Fam w b0 (L.map (·.1) ++ ks) rs hs → Below B wE w → Calls P f vs.toArray w (Made w R))
    (k : ∀ w' v new, R v new → Fam w' b0 (L.map (·.1) ++ ks) rs (new ++ hs) → Below B wE w' → (∀ k, k ∈ L.map (·.1) ++ ks → k < w'.heap.size) → XL P N B w' ds Q ops rest ((d, v) :: F) L)
    (hL : ∀ e, e ∈ L → e.1 ∈ ks ∨ w0.heap.size ≤ e.1 := by (intro e he; repeat (first | (cases he; done) | (rcases List.mem_cons.1 he with rfl | he; · first | (right; assumption) | (left; simp <;> fail)))) <;> fail) :
    XL P N B w0 ds Q ops ({ dst := some d, op := .call { callee := .value (.func f), args := args, argTypes := ats }, type := ty, pos := p, after := af, guard := none } :: rest) F L := by
  refine XL.call (fst := []) (cap := []) (vs := vs) h rfl ha hd (List.Sublist.refl _) (fun w v w' => ∃ new, R v new ∧ (∀ x, x ∈ new → x.p w' (Btw w.heap.size w'.heap.size)) ∧ Below w.heap.size w w') (fun w S => ?_) (fun w v w' S hR hb S' => ?_)
  · have h1 := hF.call S (Below.refl _ _) hL hks (new := []) fun _ h => by cases h
    simp only [List.nil_append, List.append_nil] at h1 ⊢
    exact (hc w S h1.1 (hbl.trans S.toBelow)).mono fun e w' ⟨v, new, e1, e2, e3, e4⟩ => ⟨v, e1, ⟨new, e2, e3, e4⟩, e4⟩
  · obtain ⟨new, e2, e3, e4⟩ := hR
    have h1 := hF.call S hb hL hks e3
    exact k w' v new e2 h1.1 (hbl.trans S'.toBelow) h1.2
/-- a cut's end; the state may be told by the world. -/
theorem XE.leafW {N : Nat} {ds : List Deferred} {F : Fr} {σ : Type} {G0 : Fr} {G : σ → Fr} {M : σ → Lo} {W : σ → World} {pre : σ → Prop} (h : ∀ w, Sys B w0 L w → ∃ s, pre s ∧ Sub (G s ++ G0) F ∧ Sys B (W s) (M s) w) :
    XE N B w0 ds (cutQ N B ds Q G0 G M W pre) .normal F L := ⟨fun a w hf hs => by
  obtain ⟨s, hp, hG, hS⟩ := h w hs
  exact ⟨s, hp, hG.fits hf, hS⟩⟩
end
theorem Held.lt {x : Held} {w : World} {b0 : Nat} (h : x.p w (Btw b0 w.heap.size)) : x.p w (Lt w.heap.size) := x.mono h fun k hk => hk.2
end Go.Proofs.YtmckmlmfilmiaaaGreatDoor.X
/-
  Rows that take whole lists; rows that are built or made; a slice from a place on.
-/
namespace Go.Proofs.YtmckmlmfilmiaaaGreatDoor.X
open Go Go.RowKit
set_option linter.unusedVariables false
section
variable {W W' w w0 w1 w2 : World} {b0 B : Nat} {ks ks' : List Nat} {rs : List RowX} {hs hs' : List Held} {L : Lo}
/-- a row takes a list. -/
theorem Fam.pushL {α : Type} {K : Kind α} {v v' : Value} {l l2 : List α} {i : Nat} (h : Fam W b0 ks rs hs) (hi : rs[i]? = some ⟨α, K, v, l⟩) (ha : ∀ a, a ∈ l2 → ∀ x, x ∈ K.sl a → x.p W (Free W b0 ks rs)) (hrow : W'.ownsRow b0 K.ty K.m v' (l.length + l2.length) (l.flatMap K.c ++ l2.flatMap K.c))
    (hsz : W.heap.size ≤ W'.heap.size) (ho : ∀ j, j < W.heap.size → j ∉ ks → v.ownBlock ≠ some j → W'.heap[j]? = W.heap[j]?) (hfr : ∀ k, v'.ownBlock = some k → v.ownBlock = some k ∨ (W.heap.size ≤ k ∧ k ∉ ks)) :
    Fam W' b0 ks (rs.set i ⟨α, K, v', l ++ l2⟩) hs := by
  have hm : ∀ r, r ∈ rs.set i ⟨α, K, v', l ++ l2⟩ → r = ⟨α, K, v', l ++ l2⟩ ∨ (r ∈ rs ∧ ∀ k, r.v.ownBlock = some k → v.ownBlock ≠ some k) := fun r hr => by
    obtain ⟨j, hj, rfl⟩ := List.mem_iff_getElem.1 hr
    by_cases hij : i = j
    · subst hij; left; simp
    · right
      rw [List.getElem_set_ne hij]
      simp at hj
      refine ⟨List.getElem_mem _, fun k hk h2 => ?_⟩
      obtain ⟨hil, hie⟩ := List.getElem?_eq_some_iff.1 hi
      have hp := List.pairwise_iff_getElem.1 h.two
      rcases Nat.lt_or_gt_of_ne hij with h3 | h3
      · have := hp i j hil hj h3 k (by rw [hie]; exact h2)
        exact this hk
      · have := hp j i hj hil h3 k hk
        rw [hie] at this
        exact this h2
  have hri : (⟨α, K, v, l⟩ : RowX) ∈ rs := List.mem_of_getElem? hi
  have hf : ∀ j, Free W b0 ks rs j → Free W' b0 ks (rs.set i ⟨α, K, v', l ++ l2⟩) j := fun j hj => ⟨hj.1, by have := hj.2.1; omega, hj.2.2.1, fun r hr h1 => by
    rcases hm r hr with rfl | ⟨h2, _⟩
    · rcases hfr j h1 with h3 | h3
      · exact hj.2.2.2 _ hri h3
      · have := hj.2.1; omega
    · exact hj.2.2.2 r h2 h1⟩
  have hk : ∀ j, Free W b0 ks rs j → W'.heap[j]? = W.heap[j]? := fun j hj => ho j hj.2.1 hj.2.2.1 fun h1 => hj.2.2.2 _ hri h1
  refine ⟨Nat.le_trans h.base hsz, fun r hr => ?_, fun r hr k h1 => ?_, ?_, fun r hr b hb x hx => ?_, fun x hx => x.mono (x.keep (h.held x hx) hk) hf⟩
  · rcases hm r hr with rfl | ⟨h2, h3⟩
    · simpa using hrow
    · exact owns_move' (h.row r h2) fun k h4 => ho k (h.lt h2 h4).2 (h.sep r h2 k h4) (h3 k h4)
  · rcases hm r hr with rfl | ⟨h2, h3⟩
    · rcases hfr k h1 with h4 | h4
      · exact h.sep _ hri k h4
      · exact h4.2
    · exact h.sep r h2 k h1
  · rw [List.pairwise_iff_getElem]
    have hp := List.pairwise_iff_getElem.1 h.two
    obtain ⟨hil, hie⟩ := List.getElem?_eq_some_iff.1 hi
    intro p q hpl hql hpq k hk1 hk2
    simp at hpl hql
    by_cases h1 : i = p
    · subst h1
      have h2 : i ≠ q := by omega
      rw [List.getElem_set_ne h2] at hk2
      simp at hk1
      rcases hfr k hk1 with h4 | h4
      · exact hp i q hpl hql hpq k (by rw [hie]; exact h4) hk2
      · have := (h.lt (List.getElem_mem hql) hk2).2; omega
    · by_cases h2 : i = q
      · subst h2
        rw [List.getElem_set_ne h1] at hk1
        simp at hk2
        rcases hfr k hk2 with h4 | h4
        · have := hp p i hpl hql hpq k hk1
          rw [hie] at this
          exact this h4
        · have := (h.lt (List.getElem_mem hpl) hk1).2; omega
      · rw [List.getElem_set_ne h1] at hk1
        rw [List.getElem_set_ne h2] at hk2
        exact hp p q hpl hql hpq k hk1 hk2
  · rcases hm r hr with rfl | ⟨h2, h3⟩
    · rcases List.mem_append.1 hb with h4 | h4
      · exact x.mono (x.keep (h.ins _ hri b h4 x hx) hk) hf
      · exact x.mono (x.keep (ha b h4 x hx) hk) hf
    · exact x.mono (x.keep (h.ins r h2 b hb x hx) hk) hf
/-- a new row. -/
theorem Fam.fresh {α : Type} {K : Kind α} {v : Value} {l : List α} (h : Fam W b0 ks rs hs) (hsz : W.heap.size ≤ W'.heap.size) (ho : ∀ j, j < W.heap.size → j ∉ ks → W'.heap[j]? = W.heap[j]?) (hrow : W'.ownsRow b0 K.ty K.m v l.length (l.flatMap K.c))
    (hv : ∀ k, v.ownBlock = some k → W.heap.size ≤ k ∧ k ∉ ks) (ha : ∀ a, a ∈ l → ∀ x, x ∈ K.sl a → x.p W (Free W b0 ks rs)) : Fam W' b0 ks (⟨α, K, v, l⟩ :: rs) hs := by
  have h1 := h.move hsz ho
  have hf : ∀ j, Free W b0 ks rs j → Free W' b0 ks (⟨α, K, v, l⟩ :: rs) j := fun j hj => ⟨hj.1, by have := hj.2.1; omega, hj.2.2.1, fun r hr h2 => by
    rcases List.mem_cons.1 hr with rfl | hr
    · have := (hv j h2).1; have := hj.2.1; omega
    · exact hj.2.2.2 r hr h2⟩
  have hk : ∀ j, Free W b0 ks rs j → W'.heap[j]? = W.heap[j]? := fun j hj => ho j hj.2.1 hj.2.2.1
  refine ⟨h1.base, fun r hr => ?_, fun r hr k h2 => ?_, .cons (fun r hr k h2 h3 => ?_) h.two, fun r hr a hb x hx => ?_, fun x hx => x.mono (x.keep (h.held x hx) hk) hf⟩
  · rcases List.mem_cons.1 hr with rfl | hr
    · exact hrow
    · exact h1.row r hr
  · rcases List.mem_cons.1 hr with rfl | hr
    · exact (hv k h2).2
    · exact h.sep r hr k h2
  · have := (hv k h2).1; have := (h.lt hr h3).2; omega
  · rcases List.mem_cons.1 hr with rfl | hr
    · exact x.mono (x.keep (ha a hb x hx) hk) hf
    · exact x.mono (x.keep (h.ins r hr a hb x hx) hk) hf
end
section
variable {P : Program} {T : TT} {N : Nat} {B : Nat} {w0 : World} {ds : List Deferred} {Q : Exit → Act → World → Prop} {F : Fr} {L : Lo} {pu : Prop} {ops : Array Oper} {rest : List Oper} {ty : TypeId} {p : String} {af : Array Edge}
variable {dst : Option Tmp} {gd : Option (Nat × Bool)}
theorem append_none_run {w : World} {base t e size bytes n c : Nat} {v : Value} {xs : List Value} (he : elemOk P t e size bytes = true) (hown : w.ownsRow base e size v n xs) : (Builtin.append_ #[t, t] ty #[v, .slice none 0 c]).run P w = .ok v w := by
  obtain ⟨hu, i, z, hi, hz, e1, e2, e3⟩ := elemOk_spec he
  rcases hown.2 with ⟨rfl, rfl⟩ | ⟨g, cap, cur, rfl, hb, hg, hc, hm, h⟩
  · simp [Builtin.append_, run_underlying hu, sizeOf_run hi, Builtin.lenOf, Builtin.firstCells]
  · have : ¬ cap < n := by omega
    simp [Builtin.append_, run_underlying hu, sizeOf_run hi, Builtin.lenOf, Builtin.firstCells, storeCells, hc, this]
/-- append(row, a whole list). -/
theorem XL.pushL {α : Type} {K : Kind α} {d : Nat} {t : TypeId} {x y : Operand} {v : Value} {l l2 : List α} {r2 : SV} {bytes b0 : Nat} {ks : List Nat} {rs : List RowX} {hs : List Held} {wE : World} (i : Nat) (he : elemOk P t K.ty K.m bytes = true) (h0 : 0 < K.m)
    (hx : evo F x = some v) (hy : evo F y = some (.slice r2.A r2.n r2.c)) (hd : Nat.blt d N = true) (hF : Fam w0 b0 ks rs hs) (hi : rs[i]? = some ⟨α, K, v, l⟩) (hks : ∀ k, k ∈ ks → k < w0.heap.size) (hbl : Below B wE w0) (hB : B ≤ b0)
    (hr : ∀ w, Sys B w0 L w → ListAt K w (Lt w.heap.size) r2 l2) (ha : ∀ a, a ∈ l2 → ∀ x, x ∈ K.sl a → x.p w0 (Free w0 b0 ks rs)) (h1 : ∀ a : α, (K.c a).all Value.oneCell' = true) (h63 : l.length + l2.length ≤ 10000000) (hb : bytes ≤ 10000000)
    (k : ∀ w' v', Fam w' b0 (L.map (·.1) ++ ks) (rs.set i ⟨α, K, v', l ++ l2⟩) hs → Below B wE w' → (∀ k, k ∈ L.map (·.1) ++ ks → k < w'.heap.size) → XL P N B w' ds Q ops rest ((d, v') :: F) L)
    (hL : ∀ e, e ∈ L → e.1 ∈ ks ∨ w0.heap.size ≤ e.1 := by (intro e he; repeat (first | (cases he; done) | (rcases List.mem_cons.1 he with rfl | he; · first | (right; assumption) | (left; simp <;> fail)))) <;> fail) :
    XL P N B w0 ds Q ops ({ dst := some d, op := .call { callee := .builtin .append, args := #[x, y], argTypes := #[t, t] }, type := ty, pos := p, after := af, guard := none } :: rest) F L := by
  obtain ⟨A, m, c⟩ := r2
  have hri : (⟨α, K, v, l⟩ : RowX) ∈ rs := List.mem_of_getElem? hi
  have hk2 : ∀ k, k ∈ L.map (·.1) ++ ks → k ∈ ks ∨ w0.heap.size ≤ k := fun k hk => by
    rcases List.mem_append.1 hk with h | h
    · obtain ⟨e, he, rfl⟩ := List.mem_map.1 h
      exact hL e he
    · exact .inl h
  have hk3 : ∀ w, Sys B w0 L w → ∀ k, k ∈ L.map (·.1) ++ ks → k < w.heap.size := fun w S k hk => by
    rcases List.mem_append.1 hk with h | h
    · obtain ⟨e, he, rfl⟩ := List.mem_map.1 h
      exact S.lt he
    · exact Nat.lt_of_lt_of_le (hks k h) S.size
  have hsepL : ∀ k, v.ownBlock = some k → ∀ e, e ∈ L → e.1 ≠ k := fun k hk e he e1 => by
    rcases hL e he with h | h
    · exact hF.sep _ hri k hk (e1 ▸ h)
    · have := (hF.lt hri hk).2; omega
  cases A with
  | none =>
    refine ⟨fun a w hf S => ?_⟩
    refine wpList_plain rfl fun Kk hK => ?_
    unfold Oper.wp
    have hl := hr w S
    have hm := hl.len h0
    simp only at hm
    have hm0 : m = 0 := by
      rcases Nat.eq_zero_or_pos m with h | h
      · exact h
      · obtain ⟨ad, e, _⟩ := hl.rd.at_ (by simpa using h)
        cases e
    subst hm0
    have hl2 : l2 = [] := List.length_eq_zero_iff.1 hm.symm
    subst hl2
    have hrun := append_none_run (ty := ty) (c := c) he (owns_sys (hF.row _ hri) S hsepL)
    have : (execOp a.eval { dst := some d, op := .call { callee := .builtin .append, args := #[x, y], argTypes := #[t, t] }, type := ty, pos := p, after := af, guard := none }).run P w = .ok (.value v) w := by
      have hm : (#[x, y] : Array Operand).map a.eval = #[v, .slice none 0 c] := by simp [hf.eval hx, hf.eval hy]
      simp only [execOp, resolve, Sem.run_bind, Sem.run_pure, Result.andThen_ok, invoke, builtin, hm, hrun]
    rw [this]
    refine hK _ _ ((k w v ?_ (hbl.trans S.toBelow) (hk3 w S)).run _ _ (hf.put hd) (S.rebase (List.Sublist.refl _)))
    have h2 := (hF.add (ks' := L.map (·.1) ++ ks) hk2).sys S fun e he => .inl (List.mem_append_left _ (List.mem_map.2 ⟨e, he, rfl⟩))
    obtain ⟨hil, hie⟩ := List.getElem?_eq_some_iff.1 hi
    have h3 : rs.set i ⟨α, K, v, l ++ []⟩ = rs := by
      rw [List.append_nil, ← hie]
      exact List.set_getElem_self hil
    rw [h3]
    exact h2
  | some A =>
    by_cases hex : ∃ w, Sys B w0 L w
    · obtain ⟨wx, Sx⟩ := hex
      have hm := (hr wx Sx).len h0
      simp only at hm
      subst hm
      refine XL.append2 (v := v) (m := l2.length) (n := l.length) (size := K.m) (bytes := bytes) (base := b0) (A := A) (xs := l.flatMap K.c) (news := l2.flatMap K.c) (L' := L) he h0 hx hy hd (hF.row _ hri) hsepL (by rw [flat_len K.c K.m K.len])
        (fun w S j u hj => ?_) ?_ (by unfold maxLen; omega) (Nat.le_trans (Nat.mul_le_mul h63 hb) (by decide)) hF.base (List.Sublist.refl _) (fun w v' w' S ho hg _ hfr => ?_)
      · have h2 := hr w S
        have hjl := (List.getElem?_eq_some_iff.1 hj).1
        rw [flat_len K.c K.m K.len] at hjl
        have hpos : 0 < l2.length := by
          rcases Nat.eq_zero_or_pos l2.length with h | h
          · rw [h] at hjl; omega
          · exact h
        obtain ⟨ad, e, _, h3⟩ := h2.rd.at_ hpos
        cases e
        exact h3 j u hj
      · rw [List.all_eq_true]
        intro u hu
        obtain ⟨a, ha', hu'⟩ := List.mem_flatMap.1 hu
        exact List.all_eq_true.1 (h1 a) u hu'
      · have hsz := hg.size
        have hS := S.size
        refine k w' v' ?_ (hbl.trans (grown_below S hg fun k hk => Nat.le_trans hB (hF.lt hri hk).1)) fun q hq => Nat.lt_of_lt_of_le (hk3 w S q hq) hsz
        have hfa : ∀ j, Free w0 b0 ks rs j → Free w0 b0 (L.map (·.1) ++ ks) rs j := fun j hj => ⟨hj.1, hj.2.1, fun h => by
          rcases hk2 j h with h4 | h4
          · exact hj.2.2.1 h4
          · have := hj.2.1; omega, hj.2.2.2⟩
        refine (hF.add (ks' := L.map (·.1) ++ ks) hk2).pushL hi (fun a h4 x hx => x.mono (ha a h4 x hx) hfa) ho (Nat.le_trans hS hsz) (fun j hj hn hv => ?_) (fun k hk => ?_)
        · exact grown_old S hg hj (fun e he e1 => hn (List.mem_append_left _ (List.mem_map.2 ⟨e, he, e1⟩))) fun e1 => hv e1.symm
        · rcases hfr k hk with h | h
          · exact .inl h
          · exact .inr ⟨Nat.le_trans hS h, fun h2 => by have := hk3 w S k h2; omega⟩
    · exact ⟨fun a w hf S => absurd ⟨w, S⟩ hex⟩
theorem XL.weak1 {t : Nat} {u : Value} (h : XL P N B w0 ds Q ops rest F L) : XL P N B w0 ds Q ops rest ((1000000 + t, u) :: F) L :=
  ⟨fun a w hf hs => h.run a w ⟨hf.size, hf.defers, fun t' v ht hv => hf.get t' v ht (by
    unfold lk
    have : Nat.beq (1000000 + t) t' = false := by
      cases hb : Nat.beq (1000000 + t) t' with
      | false => rfl
      | true => have := Nat.eq_of_beq_eq_true hb; omega
    rw [this]
    exact hv)⟩ hs⟩
/-- a slice literal is a new row. -/
theorem XL.newRow (hT : TOK P T) {α : Type} {K : Kind α} {l : List α} {d : Nat} {t e : TypeId} {n size b0 : Nat} {ps : List (Nat × Operand)} {z : Value} {zs cs : List Value} {ks : List Nat} {rs : List RowX} {hs : List Held} {wE : World}
    (hs' : lkG T.sl t = some (e, size)) (hz : lkG T.zero e = some z) (hzs : cellsO z = some zs) (hsz : Nat.beq zs.length size = true) (h0 : Nat.blt 0 size = true) (hbig : Nat.ble (n * size) 16777216 = true) {zl : List Value} (hzl : zerosO zs n = some zl) (hc : fillS F size zl ps = some cs) (hd : Nat.blt d N = true)
    (hK : K.ty = e ∧ K.m = size) (hcs : cs = l.flatMap K.c) (hn : l.length = n) (hF : Fam w0 b0 ks rs hs) (hks : ∀ k, k ∈ ks → k < w0.heap.size) (hbl : Below B wE w0) (hb0 : b0 ≤ w0.heap.size) (ha : ∀ a, a ∈ l → ∀ x, x ∈ K.sl a → x.p w0 (Free w0 b0 ks rs))
    (k : ∀ w' g, Fam w' b0 (L.map (·.1) ++ ks) (⟨α, K, .slice (some ⟨g, 0, none⟩) n n, l⟩ :: rs) hs → Below B wE w' → (∀ k, k ∈ L.map (·.1) ++ ks → k < w'.heap.size) → XL P N B w' ds Q ops rest ((d, .slice (some ⟨g, 0, none⟩) n n) :: F) L)
    (hL : ∀ e, e ∈ L → e.1 ∈ ks ∨ w0.heap.size ≤ e.1 := by (intro e he; repeat (first | (cases he; done) | (rcases List.mem_cons.1 he with rfl | he; · first | (right; assumption) | (left; simp <;> fail)))) <;> fail) :
    XL P N B w0 ds Q ops ({ dst := some d, op := .buildSlice t n ps.toArray, type := ty, pos := p, after := af, guard := none } :: rest) F L := by
  refine XL.buildSlice hT hs' hz hzs hsz h0 hbig hzl hc hd fun g hg => ?_
  refine XL.rebase (List.sublist_cons_self _ _) fun w1 S => ?_
  have hk2 : ∀ k, k ∈ L.map (·.1) ++ ks → k ∈ ks ∨ w0.heap.size ≤ k := fun k hk => by
    rcases List.mem_append.1 hk with h | h
    · obtain ⟨e, he, rfl⟩ := List.mem_map.1 h
      exact hL e he
    · exact .inl h
  have hk3 : ∀ k, k ∈ L.map (·.1) ++ ks → k < w1.heap.size := fun k hk => by
    rcases List.mem_append.1 hk with h | h
    · obtain ⟨e, he, rfl⟩ := List.mem_map.1 h
      exact S.lt (List.mem_cons_of_mem _ he)
    · exact Nat.lt_of_lt_of_le (hks k h) S.size
  have hgL : g ∉ L.map (·.1) := by have := S.nd; simp only [List.map_cons, List.nodup_cons] at this; exact this.1
  have hfa : ∀ j, Free w0 b0 ks rs j → Free w0 b0 (L.map (·.1) ++ ks) rs j := fun j hj => ⟨hj.1, hj.2.1, fun h => by
    rcases hk2 j h with h4 | h4
    · exact hj.2.2.1 h4
    · have := hj.2.1; omega, hj.2.2.2⟩
  obtain ⟨hK1, hK2⟩ := hK
  have hrow : w1.ownsRow b0 K.ty K.m (.slice (some ⟨g, 0, none⟩) n n) l.length (l.flatMap K.c) := by
    have h5 := (S.own (g, _) List.mem_cons_self).2
    have h6 : (l.flatMap K.c).length = n * K.m := by rw [flat_len K.c K.m K.len, hn]
    have hsz' : 0 < K.m := by rw [hK2]; exact Nat.le_of_ble_eq_true h0
    have hbig' : n * K.m ≤ 16777216 := by rw [hK2]; exact Nat.le_of_ble_eq_true hbig
    have hnm : n ≤ n * K.m := Nat.le_mul_of_pos_right n hsz'
    refine ⟨by rw [h6, hn], .inr ⟨g, n, ⟨l.flatMap K.c⟩, by rw [hn], Nat.le_trans hb0 hg, ?_, by omega, by unfold maxLen; omega, by simpa using h6, ?_⟩⟩
    · rw [hK1, ← hcs]; exact h5
    · rw [hn, ← h6]
      simp only [List.take_length]
  refine XL.weak1 (k w1 g ((hF.add (ks' := L.map (·.1) ++ ks) hk2).fresh S.size (fun j hj hn' => ?_) hrow (fun q hq => ?_) fun a h4 x hx => x.mono (ha a h4 x hx) hfa) (hbl.trans S.toBelow) hk3)
  · exact S.old j hj fun e he e1 => by
      rcases List.mem_cons.1 he with rfl | he
      · simp only at e1; omega
      · exact hn' (List.mem_append_left _ (List.mem_map.2 ⟨e, he, e1⟩))
  · simp only [Value.ownBlock, Option.some.injEq] at hq
    subst hq
    refine ⟨hg, fun h7 => ?_⟩
    rcases List.mem_append.1 h7 with h8 | h8
    · exact hgL h8
    · have := hks _ h8; omega
end
end Go.Proofs.YtmckmlmfilmiaaaGreatDoor.X
/-
  A walk by lemmas (J): in a region that draws its order, reckonings too may be taken first, not only copies and addresses.
-/
namespace Go.Proofs.YtmckmlmfilmiaaaGreatDoor.X
open Go Go.RowKit
set_option linter.unusedVariables false
section
variable {P : Program} {N : Nat} {B : Nat} {wS w0 : World} {ds : List Deferred} {Q : Exit → Act → World → Prop} {F : Fr} {L Ls : Lo} {ops : Array Oper} {rem rem' : List (Nat × Oper)}
/-- operations of slots alone, reckonings among them. -/
def reckOp (o : Oper) : Bool := match o.guard with
  | some _ => false
  | none => match o.op with
    | .move _ | .assign _ | .extract .. | .makeInterface .. | .build .. | .fieldAddr .. | .indexAddr .. | .binOp .. | .convert .. => true
    | .call c => match c.callee with
      | .builtin .min => true
      | .builtin .max => true
      | _ => false
    | _ => false
/-- the first of these that may come up. -/
def firstR (rem : List (Nat × Oper)) : List (Nat × Oper) → Option (Nat × Oper × List (Nat × Oper))
  | [] => none
  | (i, o) :: r => match reckOp o with
    | true => match readyB rem o with
      | true => match dropO rem i with
        | some rem' => some (i, o, rem')
        | none => none
      | false => firstR rem r
    | false => firstR rem r
theorem firstR_spec : ∀ {l : List (Nat × Oper)} {i : Nat} {o : Oper}, firstR rem l = some (i, o, rem') → (i, o) ∈ l ∧ readyB rem o = true ∧ dropO rem i = some rem' := by
  intro l
  induction l with
  | nil => intro i o h; cases h
  | cons e r ih =>
    intro i o h
    obtain ⟨j, p⟩ := e
    simp only [firstR] at h
    split at h
    · split at h
      · rename_i hr
        split at h
        · rename_i r2 hd
          simp only [Option.some.injEq, Prod.mk.injEq] at h
          obtain ⟨rfl, rfl, rfl⟩ := h
          exact ⟨List.mem_cons_self, hr, hd⟩
        · cases h
      · obtain ⟨h1, h2⟩ := ih h; exact ⟨List.mem_cons_of_mem _ h1, h2⟩
    · obtain ⟨h1, h2⟩ := ih h; exact ⟨List.mem_cons_of_mem _ h1, h2⟩
theorem XR.take2 {i : Nat} {o : Oper} (h1 : firstR rem rem = some (i, o, rem')) (hl : loneB ops rem i o = true) (h : Fw P N B wS ds False (fun F' => XR P N B wS w0 ds Q Ls ops rem' F' L) ops Ls [o] F) :
    XR P N B wS w0 ds Q Ls ops rem F L := by
  obtain ⟨hm, hr, hd⟩ := firstR_spec h1
  unfold loneB at hl
  simp only [Bool.and_eq_true] at hl
  obtain ⟨⟨hsel, hein⟩, hap⟩ := hl
  obtain ⟨v, hok, F', hal, hk⟩ := h.run
  refine ⟨fun D fuel a w hD hlen hf hs hS => ?_⟩
  have hrd : i ∈ Region.ready .any ops D := hD.mem_ready hm hr fun e he hb => by
    unfold edgesIn at hein
    have := List.all_eq_true.1 hein _ hm
    have := List.all_eq_true.1 this e (by simpa using he)
    simp only [hb, Bool.not_true, Bool.false_or] at this
    exact Nat.le_of_ble_eq_true this
  obtain ⟨n, rfl, hn⟩ := ready_count hrd hlen
  have hD' := hD.set hm hd
  refine wpAnyH_first (hD.at_ _ hm) (Region.noSelect_spec hsel) (fun c a w q => q.elim) n D a w (fun j oj hj hne hun hno => ?_) hrd (hok.yieldsIf hf) hS ?_
  · have hjs : j < ops.size := (Array.getElem?_eq_some_iff.1 hj).1
    have hon : on D j = false := by
      unfold on
      have hlt' : j < D.size := by rw [hD.size]; exact hjs
      rw [Array.getD_eq_getD_getElem?, Array.getElem?_eq_getElem hlt'] at hun ⊢
      exact hun
    obtain ⟨o', ho'⟩ := inRem_iff.1 ((hD.left j hjs).1 hon)
    have := hD.at_ _ ho'
    rw [hj] at this
    obtain rfl := Option.some.inj this
    have h2 := List.all_eq_true.1 hap _ ho'
    simp only [Bool.or_eq_true] at h2
    rcases h2 with (h2 | h2) | h2
    · exact absurd (Nat.eq_of_beq_eq_true h2) hne
    · obtain ⟨e, he, hb⟩ := Array.any_eq_true'.1 h2
      simp only [Bool.and_eq_true, beq_iff_eq] at hb
      exact absurd hb.2 (hno e he hb.1)
    · exact h2
  · exact hk.run _ n _ w hD' hn (hal.fits (hf.putF hok.1)) hs hS
theorem YO {i : Nat} {o : Oper} (h1 : firstR rem rem = some (i, o, rem') := by first | exact rfl | fail) (hl : loneB ops rem i o = true := by first | kernel_rfl | fail) : Step (Fw P N B wS ds False (fun F' => XR P N B wS w0 ds Q Ls ops rem' F' L) ops Ls [o] F) (XR P N B wS w0 ds Q Ls ops rem F L) := ⟨XR.take2 h1 hl⟩
theorem SRJ {q : Prop} (k : q) (st : Step q (XR P N B wS w0 ds Q Ls ops rem F L) := by first | exact YJ | exact YK | exact YO | exact YL | fail) : XR P N B wS w0 ds Q Ls ops rem F L := st.run k
end
end Go.Proofs.YtmckmlmfilmiaaaGreatDoor.X
/-
  A walk by lemmas (K): bools compared, bits, scopes and labels, type assertions, slices of bools that are made, maps with struct keys.
-/
namespace Go.Proofs.YtmckmlmfilmiaaaGreatDoor.X
open Go
set_option linter.unusedVariables false
section
variable {P : Program} {T : TT} {N : Nat} {B : Nat} {w0 : World} {ds : List Deferred} {Q : Exit → Act → World → Prop} {F : Fr} {L : Lo} {pu : Prop} {ops : Array Oper} {rest : List Oper}
variable {dst : Option Tmp} {ty : TypeId} {p : String} {af : Array Edge} {gd : Option (Nat × Bool)}
theorem eqGuard_bool {op : BinOp} {t : TypeId} {x y : Operand} {a b : Bool} (w : World) : (eqGuard op t x y (.bool a) (.bool b)).run P w = .ok () w := by
  unfold eqGuard
  cases op <;> simp
theorem Ev.eqlB {x y : Operand} {t u : TypeId} {a b : Bool} (ht : P.underlying t = some .bool) (hx : evo F x = some (.bool a)) (hy : evo F y = some (.bool b)) :
    Ev P N B w0 ds pu F L ⟨dst, .binOp .eql t x y u, ty, p, af, gd⟩ (.bool (a == b)) :=
  .of_run fun c w hf hw => by
    have h1 := run_equal_bool (P := P) w t a b ht
    simp [execOp, hf.eval hx, hf.eval hy, Sem.run_bind, eqGuard_bool, binOp, h1] <;> (cases a <;> cases b <;> rfl)
theorem Ev.neqB {x y : Operand} {t u : TypeId} {a b : Bool} (ht : P.underlying t = some .bool) (hx : evo F x = some (.bool a)) (hy : evo F y = some (.bool b)) :
    Ev P N B w0 ds pu F L ⟨dst, .binOp .neq t x y u, ty, p, af, gd⟩ (.bool (a != b)) :=
  .of_run fun c w hf hw => by
    have h1 := run_equal_bool (P := P) w t a b ht
    simp [execOp, hf.eval hx, hf.eval hy, Sem.run_bind, eqGuard_bool, binOp, h1] <;> (cases a <;> cases b <;> rfl)
/-! ### bits -/
theorem Ev.shrN {x y : Operand} {t u : TypeId} {j : IntKind} {m n : Nat} (hx : evo F x = some (.int .i64 (m : Nat))) (hy : evo F y = some (.int j (n : Nat))) (hn : n ≤ 64) :
    Ev P N B w0 ds pu F L ⟨dst, .binOp .shr t x y u, ty, p, af, gd⟩ (.int .i64 ((m >>> n : Nat) : Int)) := by
  refine Ev.shr hx hy (by omega) ?_
  have h1 : Nat.min (n : Int).toNat IntKind.i64.bits = n := by
    show Min.min n 64 = n
    omega
  rw [h1, Nat.shiftRight_eq_div_pow, Int.fdiv_eq_ediv_of_nonneg _ (by exact Int.le_of_lt (Int.pow_pos (by decide)))]
  rw [Int.natCast_ediv, Int.natCast_pow]
  rfl
theorem eqGuard_int {op : BinOp} {t : TypeId} {x y : Operand} {k j : IntKind} {a b : Int} (w : World) (h : op = .and ∨ op = .or ∨ op = .shl) : (eqGuard op t x y (.int k a) (.int j b)).run P w = .ok () w := by
  unfold eqGuard
  rcases h with rfl | rfl | rfl <;> simp
theorem Ev.and1 {x : Operand} {t u : TypeId} {m : Nat} (hx : evo F x = some (.int .i64 (m : Nat))) (hm : m < 4611686018427387904) :
    Ev P N B w0 ds pu F L ⟨dst, .binOp .and t x (.const (.int .i64 1)) u, ty, p, af, gd⟩ (.int .i64 ((m % 2 : Nat) : Int)) :=
  .of_run fun c w hf hw => by
    have h1 : (BitVec.ofInt 64 (m : Int) &&& BitVec.ofInt 64 1).toNat = m % 2 := by
      rw [BitVec.toNat_and]
      have a1 : (BitVec.ofInt 64 (m : Int)).toNat = m := by
        rw [BitVec.toNat_ofInt, Int.emod_eq_of_lt (by omega) (by omega)]; simp
      rw [a1, show (BitVec.ofInt 64 1).toNat = 1 by decide, Nat.and_one_is_mod]
    have h2 : IntKind.i64.wrap ((m % 2 : Nat) : Int) = ((m % 2 : Nat) : Int) := wrap_in (by unfold i64in; omega)
    have h3 : (Op.intBits .and .i64 (m : Int) 1).run P w = .ok (.int .i64 ((m % 2 : Nat) : Int)) w := by
      show (pure (.int .i64 (IntKind.i64.wrap ((BitVec.ofInt 64 (m : Int) &&& BitVec.ofInt 64 1).toNat : Int))) : Sem Value).run P w = _
      rw [h1, h2]; simp
    simp only [execOp, hf.eval hx, hf.eval (x := .const (.int .i64 1)) rfl, Sem.run_bind, eqGuard_int w (.inl rfl), Result.andThen_ok, binOp, ne_eq, not_true_eq_false, if_false, h3, Sem.run_pure]
theorem Ev.shl1 {y : Operand} {t u : TypeId} {j : IntKind} {n : Nat} (hy : evo F y = some (.int j (n : Nat))) (hn : n ≤ 60) :
    Ev P N B w0 ds pu F L ⟨dst, .binOp .shl t (.const (.int .i64 1)) y u, ty, p, af, gd⟩ (.int .i64 ((2 ^ n : Nat) : Int)) :=
  .of_run fun c w hf hw => by
    have h4 : (2 : Nat) ^ n ≤ 2 ^ 60 := Nat.pow_le_pow_right (by decide) hn
    have h2 : IntKind.i64.wrap ((2 ^ n : Nat) : Int) = ((2 ^ n : Nat) : Int) := by
      generalize (2 : Nat) ^ n = q at h4
      exact wrap_in (by unfold i64in; omega)
    have h3 : (Op.shift .shl .i64 1 j (n : Int)).run P w = .ok (.int .i64 ((2 ^ n : Nat) : Int)) w := by
      unfold Op.shift
      rw [if_neg (by omega)]
      show (pure (.int .i64 (IntKind.i64.wrap (1 * 2 ^ (Min.min (n : Int).toNat 64)))) : Sem Value).run P w = _
      rw [Int.toNat_natCast, show Min.min n 64 = n by omega, Int.one_mul, show ((2 : Int) ^ n) = ((2 ^ n : Nat) : Int) by rw [Int.natCast_pow]; rfl, h2]
      simp
    simp only [execOp, hf.eval hy, hf.eval (x := .const (.int .i64 1)) rfl, Sem.run_bind, eqGuard_int w (.inr (.inr rfl)), Result.andThen_ok, binOp, ne_eq, not_true_eq_false, if_false, h3, Sem.run_pure]
theorem Ev.orN {x y : Operand} {t u : TypeId} {a b : Nat} (hx : evo F x = some (.int .i64 (a : Nat))) (hy : evo F y = some (.int .i64 (b : Nat))) (ha : a < 4611686018427387904) (hb : b < 4611686018427387904) :
    Ev P N B w0 ds pu F L ⟨dst, .binOp .or t x y u, ty, p, af, gd⟩ (.int .i64 ((a ||| b : Nat) : Int)) :=
  .of_run fun c w hf hw => by
    have hlt : a ||| b < 2 ^ 62 := Nat.or_lt_two_pow (by simpa using ha) (by simpa using hb)
    have e1 : ∀ m : Nat, m < 4611686018427387904 → (BitVec.ofInt 64 (m : Int)).toNat = m := fun m hm => by
      rw [BitVec.toNat_ofInt, Int.emod_eq_of_lt (by omega) (by omega)]; simp
    have h1 : (BitVec.ofInt 64 (a : Int) ||| BitVec.ofInt 64 (b : Int)).toNat = a ||| b := by
      rw [BitVec.toNat_or, e1 a ha, e1 b hb]
    have h2 : IntKind.i64.wrap ((a ||| b : Nat) : Int) = ((a ||| b : Nat) : Int) := wrap_in (by unfold i64in; omega)
    have h3 : (Op.intBits .or .i64 (a : Int) (b : Int)).run P w = .ok (.int .i64 ((a ||| b : Nat) : Int)) w := by
      show (pure (.int .i64 (IntKind.i64.wrap ((BitVec.ofInt 64 (a : Int) ||| BitVec.ofInt 64 (b : Int)).toNat : Int))) : Sem Value).run P w = _
      rw [h1, h2]; simp
    simp only [execOp, hf.eval hx, hf.eval hy, Sem.run_bind, eqGuard_int w (.inr (.inl rfl)), Result.andThen_ok, binOp, ne_eq, not_true_eq_false, if_false, h3, Sem.run_pure]
/-! ### scopes and labels -/
theorem XC.scope {c : Code} (h : XC P N B w0 ds (Exit.noGoto Q) c F L) : XC P N B w0 ds Q (.scope c) F L := ⟨fun a w hf hw => wp_scope_straight (h.run a w hf hw)⟩
theorem XC.label {l : Nat} (h : XE N B w0 ds Q .normal F L) : XC P N B w0 ds Q (.label l) F L := ⟨fun a w hf hw => wp_label (h.run a w hf hw)⟩
theorem XE.noGoto_ret (h : XE N B w0 ds Q .ret F L) : XE N B w0 ds (Exit.noGoto Q) .ret F L := ⟨fun a w hf hw => h.run a w hf hw⟩
/-! ### type assertions -/
theorem Ev.assertOk {x : Operand} {t u : TypeId} {s : Nat} {v z : Value} (hx : evo F x = some (.iface s v)) (hu : conB (P.underlying u) = true) (hT : TOK P T) (hz : lkG T.zero u = some z) (r : Value) (hr : r = if s = u then .tuple ⟨[v, .bool true]⟩ else .tuple ⟨[z, .bool false]⟩) :
    Ev P N B w0 ds pu F L ⟨dst, .typeAssert x t u true, ty, p, af, gd⟩ r :=
  .of_run fun c w hf hw => by
    subst hr
    have hzr := zero_run hT hz w
    cases h : P.underlying u with
    | none => rw [h] at hu; cases hu
    | some d =>
      rw [h] at hu
      by_cases e : s = u
      · subst e
        cases d <;> first | (simp [execOp, Instr.typeAssert, hf.eval hx, run_underlying h]; done) | cases hu
      · cases d <;> first | (simp [execOp, Instr.typeAssert, hf.eval hx, run_underlying h, e, hzr]; done) | cases hu
/-! ### make([]bool, n) -/
def bools (l : List Bool) : List Value := l.map .bool
theorem bools_len (l : List Bool) : (bools l).length = l.length := by simp [bools]
theorem XL.makeBools {d : Nat} {t e : TypeId} {x y : Operand} {n : Nat} (he : elemOk P t e 1 1 = true) (hz : (P.info? e).bind (·.zero) = some (.bool false)) (hx : evo F x = some (.int .i64 (n : Nat))) (hy : evo F y = some (.int .i64 (n : Nat))) (hd : Nat.blt d N = true) (hn : n ≤ 1000000)
    (k : ∀ g, w0.heap.size ≤ g → XL P N B w0 ds Q ops rest ((1000000 + d, .slice none L.length 0) :: (d, .slice (some ⟨g, 0, none⟩) n n) :: F) ((g, cel e (bools (List.replicate n false))) :: L)) :
    XL P N B w0 ds Q ops ({ dst := some d, op := .makeSlice t x y, type := ty, pos := p, after := af, guard := none } :: rest) F L := by
  refine ⟨fun a w hf hw => ?_⟩
  refine wpList_plain rfl fun Kk hK => ?_
  unfold Oper.wp
  obtain ⟨hu, i, z, hi, hz', e1, e2, e3⟩ := elemOk_spec he
  rw [hi] at hz
  simp only [Option.bind_some] at hz
  have hz2 : z = .bool false := by rw [hz'] at hz; exact Option.some.inj hz
  subst hz2
  have hrun := run_makeSlice (P := P) w t e i (.bool false) hu hi hz' .i64 .i64 (n : Int) (n : Int) (by omega) (Int.le_refl _) (by rw [e1]; simp; omega) (by rw [e2]; omega) (by omega)
  have hmc : madeCells (Value.bool false).cells ((n : Int).toNat * i.size) = ⟨bools (List.replicate n false)⟩ := by
    rw [e1]
    apply Array.ext
    · simp [madeCells, bools]
    · intro j h1 h2
      simp [madeCells, bools, Value.cells, Nat.mod_one]
  rw [hmc] at hrun
  simp only [Int.toNat_natCast] at hrun
  have : (execOp a.eval { dst := some d, op := .makeSlice t x y, type := ty, pos := p, after := af, guard := none }).run P w = .ok (.value (.slice (some ⟨w.heap.size, 0, none⟩) n n)) (w.alloc (cel e (bools (List.replicate n false)))) := by
    simp [execOp, hf.eval hx, hf.eval hy, hrun]
  rw [this]
  exact hK _ _ ((k w.heap.size hw.size).run _ _ ((hf.put hd).hint d _) (hw.box _))
end
end Go.Proofs.YtmckmlmfilmiaaaGreatDoor.X
/-
  A walk by lemmas (L): small words that many walks share.
-/
namespace Go.Proofs.YtmckmlmfilmiaaaGreatDoor.X
open Go Go.RowKit
set_option linter.unusedVariables false
def idxL {α : Type} (l : List α) (P : α → Bool) : Int := match l.findIdx? P with
  | some i => ((i : Nat) : Int)
  | none => -1
theorem idxL_any {α : Type} (l : List α) (P : α → Bool) : decide (0 ≤ idxL l P) = l.any P := by
  unfold idxL
  cases h : l.findIdx? P with
  | none =>
    rw [List.findIdx?_eq_none_iff] at h
    have : l.any P = false := List.any_eq_false.2 fun x hx => by simp [h x hx]
    rw [this]; rfl
  | some i =>
    obtain ⟨hi, h1, _⟩ := List.findIdx?_eq_some_iff_getElem.1 h
    have : l.any P = true := List.any_eq_true.2 ⟨_, List.getElem_mem hi, h1⟩
    rw [this]
    simp
theorem Sys.keyLt {B : Nat} {w0 w : World} {L : Lo} (S : Sys B w0 L w) : ∀ j, j ∈ L.map (·.1) → j < w.heap.size := fun j hj => by
  obtain ⟨e, he, rfl⟩ := List.mem_map.1 hj
  exact S.lt he
theorem Sys.join {B : Nat} {w0 w w' : World} {L L2 L3 : Lo} (S : Sys B w0 L w) (S' : Sys w.heap.size w L2 w') (hs : List.Sublist L3 L) : Sys B w (L2 ++ L3) w' := by
  have hlt : ∀ e, e ∈ L3 → e.1 < w.heap.size := fun e he => S.lt (hs.subset he)
  refine ⟨S'.os, S'.tape, S'.output, S'.size, Nat.le_trans S.base S.size, fun k hk hn => S'.old k hk fun e he => hn e (List.mem_append_left _ he), fun e he => ?_, ?_⟩
  · rcases List.mem_append.1 he with h | h
    · exact ⟨Nat.le_trans (Nat.le_trans S.base S.size) (S'.own e h).1, (S'.own e h).2⟩
    · refine ⟨(S.own e (hs.subset h)).1, ?_⟩
      rw [S'.old e.1 (hlt e h) fun e' he' e1 => by have := (S'.own e' he').1; have := hlt e h; omega]
      exact (S.own e (hs.subset h)).2
  · rw [List.map_append]
    refine List.nodup_append.2 ⟨S'.nd, S.nd.sublist (hs.map _), fun x hx y hy e => ?_⟩
    obtain ⟨e1, he1, rfl⟩ := List.mem_map.1 hx
    obtain ⟨e2, he2, rfl⟩ := List.mem_map.1 hy
    have := (S'.own e1 he1).1
    have := hlt e2 he2
    omega
/-- a block that is known becomes one of the own ones. -/
theorem XC.seize {P : Program} {N B : Nat} {w0 : World} {ds : List Deferred} {Q : Exit → Act → World → Prop} {F : Fr} {c : Code} {g : Nat} {o : Obj} (hg : w0.heap[g]? = some o) (hB : B ≤ g) (k : ∀ w1, Sys B w0 [] w1 → XC P N B w1 ds Q c F [(g, o)]) : XC P N B w0 ds Q c F [] :=
  ⟨fun a w hf h => (k w h).run a w hf (Sys.start1 hB ((h.old g (Array.getElem?_eq_some_iff.1 hg).1 (fun e he => by cases he)).trans hg))⟩
theorem Sys.ofBelow {w w1 : World} (h : Below w.heap.size w w1) : Sys w.heap.size w [] w1 := ⟨h.os, h.tape, h.output, h.size, Nat.le_refl _, fun k hk _ => h.block k hk, (fun e he => (by cases he)), List.nodup_nil⟩
theorem Free.far {W : World} {b0 : Nat} {ks : List Nat} {rs : List RowX} {L : Lo} {ad : Addr} {j : Nat} (h : Free W b0 ks rs ad.block) (hs : ∀ e, e ∈ L → e.1 ∈ ks ∨ W.heap.size ≤ e.1) : ∀ e, e ∈ L → e.1 ≠ (ad.add j).block := fun e he e1 => by
  rw [add_block] at e1
  rcases hs e he with h1 | h1
  · exact h.2.2.1 (e1 ▸ h1)
  · have := h.2.1; omega
theorem Fam.cap {W : World} {b0 : Nat} {ks : List Nat} {rs : List RowX} {hs : List Held} {α : Type} {K : Kind α} {r : SV} {l : List α} (h : Fam W b0 ks rs hs) (hr : (⟨α, K, svV r, l⟩ : RowX) ∈ rs) (h0 : 0 < l.length) : l.length ≤ r.c := (ReadsP.own (h.row _ hr)).2.2.1 h0
theorem Free.tail {W : World} {b0 : Nat} {ks : List Nat} {x : RowX} {rs : List RowX} {j : Nat} (h : Free W b0 ks (x :: rs) j) : Free W b0 ks rs j := ⟨h.1, h.2.1, h.2.2.1, fun r hr => h.2.2.2 r (.tail _ hr)⟩
/-- a row that grows no more is held. -/
theorem Fam.freeze {W : World} {b0 : Nat} {ks : List Nat} {rs : List RowX} {hs : List Held} {α : Type} {K : Kind α} {r : SV} {l : List α} (h : Fam W b0 ks (⟨α, K, svV r, l⟩ :: rs) hs) : Fam W b0 ks rs (hList K r l :: hs) := by
  refine ⟨h.base, fun x hx => h.row x (.tail _ hx), fun x hx => h.sep x (.tail _ hx), (List.pairwise_cons.1 h.two).2, fun x hx a ha y hy => y.mono (h.ins x (.tail _ hx) a ha y hy) fun j hj => hj.tail, fun y hy => ?_⟩
  rcases List.mem_cons.1 hy with rfl | hy
  · obtain ⟨A, n, c⟩ := r
    have h1 := h.row _ (.head _)
    obtain ⟨a1, a2, a3, a4⟩ := ReadsP.own h1
    simp only at a2 a4
    subst a2
    refine ⟨⟨a1.1, fun h0 => ?_⟩, by simp only [maxLen] at a4; exact a4, fun a ha x hx => x.mono (h.ins _ (.head _) a ha x hx) fun j hj => hj.tail⟩
    obtain ⟨ad, rfl, hb, hc⟩ := a1.2 h0
    exact ⟨ad, rfl, ⟨hb.1, hb.2, h.sep _ (.head _) _ rfl, fun x hx e => (List.pairwise_cons.1 h.two).1 x hx _ rfl e⟩, hc⟩
  · exact y.mono (h.held y hy) fun j hj => hj.tail
theorem Fam.sv {W : World} {b0 : Nat} {ks : List Nat} {rs : List RowX} {hs : List Held} {α : Type} {K : Kind α} {v : Value} {l : List α} (h : Fam W b0 ks rs hs) (hr : (⟨α, K, v, l⟩ : RowX) ∈ rs) : ∃ r : SV, v = svV r ∧ r.n = l.length := owns_sv (h.row _ hr)
theorem ListAt.take {α : Type} {K : Kind α} {w : World} {ok : Nat → Prop} {A : Option Addr} {n c : Nat} {l : List α} (h : ListAt K w ok ⟨A, n, c⟩ l) {k : Nat} (hk : k ≤ l.length) (h0 : 0 < K.m) : ListAt K w ok ⟨A, k, c⟩ (l.take k) := by
  have hn := h.len h0
  simp only at hn
  subst hn
  have e : (l.take k).flatMap K.c = (l.flatMap K.c).take (k * K.m) := by
    have h1 : l.flatMap K.c = (l.take k).flatMap K.c ++ (l.drop k).flatMap K.c := by rw [← List.flatMap_append, List.take_append_drop]
    have h2 : ((l.take k).flatMap K.c).length = k * K.m := by rw [flat_len K.c K.m K.len, List.length_take, Nat.min_eq_left hk]
    conv => rhs; rw [h1, ← h2]
    exact List.take_left.symm
  refine ⟨?_, by have := h.max; simp only at this ⊢; omega, fun a ha => h.ins a (List.mem_of_mem_take ha)⟩
  obtain ⟨h1, h2⟩ := h.rd
  refine ⟨by rw [flat_len K.c K.m K.len, List.length_take, Nat.min_eq_left hk], fun h3 => ?_⟩
  obtain ⟨ad, e1, e2, e3⟩ := h2 (by simp only at h3 ⊢; omega)
  refine ⟨ad, e1, e2, fun j u hj => ?_⟩
  rw [e, List.getElem?_take] at hj
  split at hj
  · exact e3 j u hj
  · cases hj
section
variable {α : Type} {C : α → List Value} {m : Nat} (hC : ∀ a, (C a).length = m)
include hC
end
section
variable {P : Program} {T : TT} {N B : Nat} {w0 : World} {ds : List Deferred} {Q : Exit → Act → World → Prop} {F : Fr} {L : Lo} {ops : Array Oper} {rest : List Oper} {ty : TypeId} {p : String} {af : Array Edge}
theorem Ev.load_at_agg {pu : Prop} {dst : Option Tmp} {gd : Option (Nat × Bool)} (hT : TOK P T) (i : Nat) {t : TypeId} {x : Operand} {g o j n : Nat} {tg : TypeId} {cs vs : List Value} (hx : evo F x = some (.pointer (some ((⟨g, o, none⟩ : Addr).add j)))) (hL : L[i]? = some (g, cel tg cs)) (h1 : lkG T.agg t = some n) (hlen : vs.length = n)
    (hv : ∀ k u, vs[k]? = some u → cs[o + j + k]? = some u) : Ev P N B w0 ds pu F L ⟨dst, .load t x, ty, p, af, gd⟩ (.agg vs.toArray) :=
  .of_run fun a w hf hw => by
    have hc : ∀ k u, vs[k]? = some u → w.cell? (((⟨g, o, none⟩ : Addr).add j).add k) = some u := fun k u hk => by
      rw [add_off, add_off, hw.cell (List.mem_of_getElem? hL)]
      exact hv k u hk
    simp [execOp, Instr.loadAt, Instr.sureAddr, hf.eval hx, run_loadVar_agg (tab_ok hT.agg h1) hlen hc]
end
end Go.Proofs.YtmckmlmfilmiaaaGreatDoor.X
/-
  A walk by lemmas (M): maps whose keys are structs.
-/
namespace Go.Proofs.YtmckmlmfilmiaaaGreatDoor.X
open Go Go.RowKit
set_option linter.unusedVariables false
theorem Fam.atEnd {w w0 : World} {B b0 : Nat} {ks : List Nat} {rs : List RowX} {hs : List Held} {L : Lo} (hF : Fam w0 b0 ks rs hs) (S : Sys B w0 L w) (hL : ∀ e, e ∈ L → e.1 ∈ ks ∨ w0.heap.size ≤ e.1) : Fam w b0 (L.map (·.1) ++ ks) rs hs :=
  (hF.add (fun k hk => by
    rcases List.mem_append.1 hk with h | h
    · obtain ⟨e, he, rfl⟩ := List.mem_map.1 h
      exact hL e he
    · exact .inl h)).sys S fun e he => .inl (List.mem_append_left _ (List.mem_map.2 ⟨e, he, rfl⟩))
theorem ReadsP.block {w : World} {g lo n size : Nat} {ty : TypeId} {cs : List Value} (h : w.heap[g]? = some (cel ty cs)) (hg : lo ≤ g) (hl : cs.length = n * size) : ReadsP w (Btw lo w.heap.size) size (some ⟨g, 0, none⟩) n cs :=
  ⟨hl, fun _ => ⟨_, rfl, ⟨hg, (Array.getElem?_eq_some_iff.1 h).1⟩, fun j u hj => by rw [add_off]; simpa [World.cell?, h] using hj⟩⟩
/-- the entries of a map's block. -/
def entO (kvs : List (Value × Value)) : List MapEntry := kvs.zipIdx.map fun x => ({ key := x.1.1, val := x.1.2, born := x.2 } : MapEntry)
theorem entO_at {kvs : List (Value × Value)} {j : Nat} {e : MapEntry} (h : (entO kvs)[j]? = some e) : kvs[j]? = some (e.key, e.val) := by
  unfold entO at h
  rw [List.getElem?_map, List.getElem?_zipIdx] at h
  cases hk : kvs[j]? with
  | none => rw [hk] at h; cases h
  | some x => rw [hk] at h; simp only [Option.map_some, Option.some.injEq] at h; subst h; rfl
theorem entO_mem {kvs : List (Value × Value)} {e : MapEntry} (h : e ∈ entO kvs) : (e.key, e.val) ∈ kvs := by
  obtain ⟨j, hj, rfl⟩ := List.mem_iff_getElem.1 h
  exact List.mem_of_getElem? (entO_at (List.getElem?_eq_getElem hj))
theorem entO_of {kvs : List (Value × Value)} {x : Value × Value} (h : x ∈ kvs) : ∃ e, e ∈ entO kvs ∧ e.key = x.1 ∧ e.val = x.2 := by
  obtain ⟨j, hj, rfl⟩ := List.mem_iff_getElem.1 h
  refine ⟨{ key := kvs[j].1, val := kvs[j].2, born := j }, List.mem_of_getElem? (i := j) ?_, rfl, rfl⟩
  unfold entO
  rw [List.getElem?_map, List.getElem?_zipIdx, List.getElem?_eq_getElem hj]
  simp
/-- all keys can be looked for, and no two are equal. -/
structure KeysOk (P : Program) (kt : TypeId) (kvs : List (Value × Value)) : Prop where
  key : ∀ e, e ∈ kvs → ∃ l, keyOf P kt e.1 = some l
  one : ∀ a b c, (a, b) ∈ kvs → (a, c) ∈ kvs → b = c
theorem KeysOk.nil {P : Program} {kt : TypeId} : KeysOk P kt [] := ⟨fun _ h => (by cases h), fun _ _ _ h => (by cases h)⟩
theorem KeysOk.push {P : Program} {kt : TypeId} {kvs : List (Value × Value)} {k v : Value} (h : KeysOk P kt kvs) (hk : ∃ l, keyOf P kt k = some l) (hn : ∀ e, e ∈ kvs → e.1 ≠ k) : KeysOk P kt (kvs ++ [(k, v)]) := by
  refine ⟨fun e he => ?_, fun a b c h1 h2 => ?_⟩
  · rcases List.mem_append.1 he with h1 | h1
    · exact h.key e h1
    · rw [List.mem_singleton.1 h1]; exact hk
  · rcases List.mem_append.1 h1 with h1 | h1 <;> rcases List.mem_append.1 h2 with h2 | h2
    · exact h.one a b c h1 h2
    · rw [List.mem_singleton, Prod.mk.injEq] at h2; exact absurd h2.1 (hn _ h1)
    · rw [List.mem_singleton, Prod.mk.injEq] at h1; exact absurd h1.1 (hn _ h2)
    · rw [List.mem_singleton, Prod.mk.injEq] at h1 h2; rw [h1.2, h2.2]
def arrB (d : Option TypeDesc) : Option (Nat × TypeId) := match d with
  | some (.array n e) => some (n, e)
  | _ => none
section
variable {P : Program} {T : TT} {N : Nat} {B : Nat} {w0 : World} {ds : List Deferred} {Q : Exit → Act → World → Prop} {F : Fr} {L : Lo} {pu : Prop}
variable {dst : Option Tmp} {ty : TypeId} {p : String} {af : Array Edge} {gd : Option (Nat × Bool)}
theorem findK {kt : TypeId} (K : WideMaps.KeyLaw P kt) {kvs : List (Value × Value)} (hk : KeysOk P kt kvs) {k : Value} (h : ∃ l, keyOf P kt k = some l) (w : World) :
    ((Instr.findKey kt k (entO kvs)).run P w = .ok none w ∧ ∀ e, e ∈ kvs → e.1 ≠ k) ∨ ∃ j v, (Instr.findKey kt k (entO kvs)).run P w = .ok (some (j, v)) w ∧ (k, v) ∈ kvs := by
  obtain ⟨l, hl⟩ := h
  rcases K.find w hl (entO kvs) (fun e he => hk.key _ (entO_mem he)) with ⟨h1, h2⟩ | ⟨j, e, h1, h2, h3⟩
  · refine .inl ⟨h1, fun x hx => ?_⟩
    obtain ⟨e, he, e1, _⟩ := entO_of hx
    rw [← e1]
    exact h2 e he
  · refine .inr ⟨j, e.val, h1, ?_⟩
    rw [← h3]
    exact List.mem_of_getElem? (entO_at h2)
/-- a key that is not there. -/
theorem Ev.lookupNo (hT : TOK P T) (i : Nat) {t kt et : TypeId} {x y : Operand} {z k : Value} (kvs : List (Value × Value)) {r : Nat} (K : WideMaps.KeyLaw P kt) (hx : evo F x = some (.map (some r))) (hy : evo F y = some k) (hL : L[i]? = some (r, mapO kvs))
    (ht : P.underlying t = some (.map kt et)) (hz : lkG T.zero et = some z) (hk : KeysOk P kt kvs) (h : ∃ l, keyOf P kt k = some l) (hn : ∀ e, e ∈ kvs → e.1 ≠ k) :
    Ev P N B w0 ds pu F L ⟨dst, .lookup t x y true, ty, p, af, gd⟩ (.tuple ⟨[z, .bool false]⟩) :=
  .of_run fun a w hf hw => by
    have h2 := getObj_run (P := P) (show w.heap[r]? = some (.map (entO kvs).toArray kvs.length) from hw.obj hL)
    obtain ⟨l, hl⟩ := h
    have hc := fun em => K.check w em hl
    rcases findK K hk ⟨l, hl⟩ w with ⟨h1, _⟩ | ⟨j, v, _, h3⟩
    · simp [execOp, hf.eval hx, hf.eval hy, Instr.lookup, run_underlying ht, h2, hc, h1, zero_run hT hz]
    · exact absurd rfl (hn _ h3)
/-- a key that is there. -/
theorem Ev.lookupYes (i : Nat) {t kt et : TypeId} {x y : Operand} {k v : Value} (kvs : List (Value × Value)) {r : Nat} (K : WideMaps.KeyLaw P kt) (hx : evo F x = some (.map (some r))) (hy : evo F y = some k) (hL : L[i]? = some (r, mapO kvs))
    (ht : P.underlying t = some (.map kt et)) (hk : KeysOk P kt kvs) (h : ∃ l, keyOf P kt k = some l) (hv : (k, v) ∈ kvs) :
    Ev P N B w0 ds pu F L ⟨dst, .lookup t x y true, ty, p, af, gd⟩ (.tuple ⟨[v, .bool true]⟩) :=
  .of_run fun a w hf hw => by
    have h2 := getObj_run (P := P) (show w.heap[r]? = some (.map (entO kvs).toArray kvs.length) from hw.obj hL)
    obtain ⟨l, hl⟩ := h
    have hc := fun em => K.check w em hl
    rcases findK K hk ⟨l, hl⟩ w with ⟨_, h3⟩ | ⟨j, v2, h1, h3⟩
    · exact absurd rfl (h3 _ hv)
    · have := hk.one _ _ _ h3 hv
      subst this
      simp [execOp, hf.eval hx, hf.eval hy, Instr.lookup, run_underlying ht, h2, hc, h1]
/-- a key that is not there yet is set. -/
theorem XL.updateK (i : Nat) {ops : Array Oper} {rest : List Oper} {t kt et : TypeId} {x y u : Operand} (kvs : List (Value × Value)) {r : Nat} {k v : Value} {L' : Lo} (K : WideMaps.KeyLaw P kt) (hx : evo F x = some (.map (some r))) (hy : evo F y = some k)
    (hu : evo F u = some v) (hL : L[i]? = some (r, mapO kvs)) (ht : P.underlying t = some (.map kt et)) (hk : KeysOk P kt kvs) (h : ∃ l, keyOf P kt k = some l) (hn : ∀ e, e ∈ kvs → e.1 ≠ k) (hL' : setN L i (r, mapO (kvs ++ [(k, v)])) = some L')
    (c : XL P N B w0 ds Q ops rest F L') :
    XL P N B w0 ds Q ops ({ dst := none, op := .mapUpdate t x y u, type := ty, pos := p, after := af, guard := none } :: rest) F L := by
  refine ⟨fun a w hf hs => ?_⟩
  refine wpList_plain rfl fun Kk hK => ?_
  unfold Oper.wp
  have hh := hs.obj hL
  have h2 := getObj_run (P := P) (show w.heap[r]? = some (.map (entO kvs).toArray kvs.length) from hh)
  obtain ⟨l, hl⟩ := h
  have hc := fun em => K.check w em hl
  rcases findK K hk ⟨l, hl⟩ w with ⟨h1, _⟩ | ⟨j, v2, _, h3⟩
  · have e1 : mapO (kvs ++ [(k, v)]) = .map ((entO kvs).toArray.push { key := k, val := v, born := kvs.length }) (kvs.length + 1) := mapO_push kvs k v
    have h3 := setObj_run (P := P) (o := mapO (kvs ++ [(k, v)])) (show w.heap[r]? = some (.map (entO kvs).toArray kvs.length) from hh)
    have : (execOp a.eval { dst := none, op := .mapUpdate t x y u, type := ty, pos := p, after := af, guard := none }).run P w = .ok .skip { w with heap := w.heap.setIfInBounds r (mapO (kvs ++ [(k, v)])) } := by
      rw [e1] at h3 ⊢
      simp only [execOp, hf.eval hx, hf.eval hy, hf.eval hu, Instr.mapUpdate, Sem.run_bind, run_underlying ht, Result.andThen_ok, h2, hc, h1, h3, Sem.run_pure]
    rw [this]
    exact hK _ _ (c.run _ _ hf (hs.setObj hL (setN_spec _ _ _ _ hL').1))
  · exact absurd rfl (hn _ h3)
/-! ### arrays -/
/-- a[:], of an array with n > 0 elements of one cell. -/
theorem Ev.sliceArr {t e : TypeId} {x : Operand} {ad : Addr} {m : Nat} {sz : Nat} (hx : evo F x = some (.pointer (some ad))) (ht : arrB (P.underlying t) = some (m, e)) (he : (P.info? e).map (·.size) = some sz) (h0 : 0 < m) :
    Ev P N B w0 ds pu F L ⟨dst, .slice t x none none none, ty, p, af, gd⟩ (.slice (some ad) m m) :=
  .of_run fun a w hf hw => by
    have hu : P.underlying t = some (.array m e) := by
      unfold arrB at ht
      split at ht
      · rename_i h; simp only [Option.some.injEq, Prod.mk.injEq] at ht; obtain ⟨rfl, rfl⟩ := ht; exact h
      · cases ht
    cases hi : P.info? e with
    | none => rw [hi] at he; cases he
    | some i =>
      have h1 : ad.add 0 = ad := by cases ad; rfl
      simp [execOp, hf.eval hx, Instr.sliceAt, Instr.sureAddr, run_underlying hu, Instr.sliceBounds, Instr.sliceBound, sizeOf_run hi, h1]
theorem setRow_obj {w : World} {g : Nat} {cs vs : List Value} {t : TypeId} (h : w.heap[g]? = some (cel t cs)) : w.setRow g vs.toArray = { w with heap := w.heap.setIfInBounds g (cel t vs) } := by
  unfold World.setRow
  congr 1
  obtain ⟨hlt, he⟩ := Array.getElem?_eq_some_iff.1 h
  apply Array.ext (by simp)
  intro j h1 h2
  rw [Array.getElem_modify, Array.getElem_setIfInBounds (by simpa using h2)]
  by_cases e : g = j
  · subst e
    simp [he]
  · simp [e]
/-- copy(own row, a slice that is not longer). -/
theorem XL.copyIn (i : Nat) {ops : Array Oper} {rest : List Oper} {d : Nat} {dT sT el : TypeId} {x y : Operand} {g o dLen dCap sLen sCap bytes : Nat} {A : Option Addr} {tg : TypeId} {cs vs : List Value} {L' : Lo} (he : elemOk P dT el 1 bytes = true)
    (hx : evo F x = some (.slice (some ⟨g, o, none⟩) dLen dCap)) (hy : evo F y = some (.slice A sLen sCap)) (hd : Nat.blt d N = true) (hL : L[i]? = some (g, cel tg cs)) (hrd : ∀ w, Sys B w0 L w → ReadsP w (Lt w.heap.size) 1 A sLen vs) (hle : sLen ≤ dLen) (hfit : o + sLen ≤ cs.length)
    (h1 : ∀ v, v ∈ vs → v.oneCell' = true) (hL' : setN L i (g, cel tg (cs.take o ++ vs ++ cs.drop (o + sLen))) = some L') (k : XL P N B w0 ds Q ops rest ((d, .int .i64 (sLen : Nat)) :: F) L') :
    XL P N B w0 ds Q ops ({ dst := some d, op := .call { callee := .builtin .copy, args := #[x, y], argTypes := #[dT, sT] }, type := ty, pos := p, after := af, guard := none } :: rest) F L := by
  refine ⟨fun a w hf hs => ?_⟩
  refine wpList_plain rfl fun Kk hK => ?_
  unfold Oper.wp
  obtain ⟨hu, q, z, hi, hz, e1, e2, e3⟩ := elemOk_spec he
  have hr := hrd w hs
  have hlen : sLen = vs.length := by have := hr.1; omega
  subst hlen
  have hsz : (P.info? el).map (·.size) = some 1 := by rw [hi]; simp [e1]
  have hg := hs.obj hL
  have hset := hs.setObj hL (setN_spec _ _ _ _ hL').1
  have hmn : Nat.min vs.length dLen = vs.length := Nat.min_eq_left hle
  have hrun : (Builtin.copy_ #[dT, sT] ty #[.slice (some ⟨g, o, none⟩) dLen dCap, .slice A vs.length sCap]).run P w = .ok (.int .i64 (vs.length : Nat)) { w with heap := w.heap.setIfInBounds g (cel tg (cs.take o ++ vs ++ cs.drop (o + vs.length))) } := by
    rcases Nat.eq_zero_or_pos vs.length with h0 | h0
    · have hv : vs = [] := List.length_eq_zero_iff.1 h0
      subst hv
      have h2 := run_copy_none (P := P) w dT sT ty el (some ⟨g, o, none⟩) A dLen dCap 0 sCap hu hsz (by omega)
      have h4 : cs.take o ++ [] ++ cs.drop (o + ([] : List Value).length) = cs := by simp
      have h5 : w.heap.setIfInBounds g (cel tg cs) = w.heap := by
        obtain ⟨hlt, he⟩ := Array.getElem?_eq_some_iff.1 hg
        rw [← he]
        apply Array.ext (by simp)
        intro j h1 h2
        rw [Array.getElem_setIfInBounds (by simpa using h2)]
        split
        · rename_i e; subst e; rfl
        · rfl
      rw [h4, h5]
      exact h2
    · obtain ⟨ad, rfl, _, hc⟩ := hr.at_ h0
      have h2 := run_copy_row (P := P) w dT sT ty el g o dLen dCap ad vs.length sCap cs.toArray tg vs hu hsz hg hmn.symm hc (by simpa using hfit) h1
      simp only [List.toList_toArray] at h2
      rw [setRow_obj hg] at h2
      exact h2
  have : (execOp a.eval { dst := some d, op := .call { callee := .builtin .copy, args := #[x, y], argTypes := #[dT, sT] }, type := ty, pos := p, after := af, guard := none }).run P w = .ok (.value (.int .i64 (vs.length : Nat))) { w with heap := w.heap.setIfInBounds g (cel tg (cs.take o ++ vs ++ cs.drop (o + vs.length))) } := by
    have hm : (#[x, y] : Array Operand).map a.eval = #[.slice (some ⟨g, o, none⟩) dLen dCap, .slice A vs.length sCap] := by simp [hf.eval hx, hf.eval hy]
    simp only [execOp, resolve, Sem.run_bind, Sem.run_pure, Result.andThen_ok, invoke, builtin, hm, hrun]
  rw [this]
  exact hK _ _ (k.run _ _ (hf.put hd) hset)
end
end Go.Proofs.YtmckmlmfilmiaaaGreatDoor.X
/-
  A walk by lemmas (N): a function that holds a range over a function and is handed own blocks; its early returns; one loop variable.
-/
namespace Go.Proofs.YtmckmlmfilmiaaaGreatDoor.X
open Go Go.RowKit
set_option linter.unusedVariables false
section
variable {P : Program} {T : TT} {N : Nat} {B : Nat} {w0 : World} {ds : List Deferred} {Q : Exit → Act → World → Prop} {F : Fr} {L L' : Lo}
theorem enterML {f : FuncId} {fn : Func} {c : Code} {vs : List Value} {w : World} {R : Ending → World → Prop} {n : Nat} (hf : P.funcs[f]? = some fn) (hb : fn.body = some c) (hN : fn.ntmps = n)
    (hn : Nat.ble vs.length n = true) (S : Sys B w L w) (h : XC P n B w [] (bodyPostM Fence.wide 0 P fn R) c (frame 0 vs) L) : Calls P f vs.toArray w R := by
  subst hN
  have hn' := Nat.le_of_ble_eq_true hn
  refine (callsIn_wide (n := 0)).1 (callsIn_of_wp_marks (F := Fence.wide) hf hb trivial ((wpIn_wide (n := 0)).2 (h.run _ w ⟨?_, rfl, fun t v _ hv => ?_⟩ S)))
  · simp; omega
  · obtain ⟨_, h2⟩ := lk_frame vs 0 t v hv
    have hlt : t < vs.length := (List.getElem?_eq_some_iff.1 h2).1
    simp only [Array.getD_eq_getD_getElem?]
    rw [Array.getElem?_append_left (by simpa using hlt)]
    simp at h2 ⊢
    rw [h2]; rfl
theorem XE.retM0 (hT : TOK P T) {fn : Func} {R : Ending → World → Prop} {rs : List ResultVar} {vs : List Value} {c : Prop} (h : fn.results = ⟨rs⟩) (hv : resO T F L rs = some (vs, c)) (hc : c)
    (hR : ∀ w, Sys B w0 L w → R (.returned (tupV vs)) w) : XE N B w0 [] (bodyPostM Fence.wide 0 P fn R) .ret F L :=
  ⟨fun a w hf hw => by
    show LeavesInM Fence.wide 0 P fn a.tmps R a.defers .returning w
    rw [hf.defers]
    exact ⟨_, by
      have h1 := resO_run hT hf hw hv hc
      have h2 : (results fn a.tmps).run P w = .ok (tupV vs) w := by
        unfold results
        rw [h, Array.mapM_eq_mapM_toList]
        simp only [Sem.run_bind, Sem.run_map]
        refine (congrArg (fun r : Result (List Value) => (r.andThen fun a w' => Result.ok a.toArray w').andThen fun a w' => Sem.run P (pure (if h : a.size = 1 then a[0] else Value.tuple a)) w') h1).trans ?_
        simp only [Result.andThen_ok, Sem.run_pure]
        cases vs with
        | nil => rfl
        | cons v vs => cases vs with
          | nil => rfl
          | cons u vs => simp [tupV]
      exact h2, hR w hw⟩⟩
/-- one of the own blocks alone; the others are new. -/
theorem Sys.only {g : Nat} {o : Obj} {w : World} (S : Sys B w0 L w) (hm : (g, o) ∈ L) (h : ∀ e, e ∈ L → e.1 ∈ [g] ∨ w0.heap.size ≤ e.1) : Sys B w0 [(g, o)] w :=
  ⟨S.os, S.tape, S.output, S.size, S.base, fun k hk hn => S.old k hk fun e he e1 => by
    rcases h e he with h1 | h1
    · exact hn _ (.head _) (by rw [← e1]; exact (List.mem_singleton.1 h1).symm)
    · omega, fun e he => by rw [List.mem_singleton.1 he]; exact S.own _ hm, by simp⟩
/-- what stands, gm aside. -/
def Ng' (gm : Nat) (w : World) : Nat → Prop := fun j => j < w.heap.size ∧ j ≠ gm
/-- what was there at w stands, gm aside. -/
structure Kp (gm : Nat) (w W : World) : Prop where
  below : Below gm w W
  old : ∀ j, Ng' gm w j → W.heap[j]? = w.heap[j]?
theorem Kp.refl {gm : Nat} {w : World} : Kp gm w w := ⟨Below.refl _ _, fun _ _ => rfl⟩
theorem Kp.mono {gm : Nat} {w W : World} (h : Kp gm w W) : ∀ k, Ng' gm w k → Ng' gm W k := fun k hk => ⟨Nat.lt_of_lt_of_le hk.1 h.below.size, hk.2⟩
theorem Kp.lt {gm : Nat} {w W : World} (h : Kp gm w W) : ∀ k, Ng' gm w k → Lt W.heap.size k := fun k hk => Nat.lt_of_lt_of_le hk.1 h.below.size
theorem Kp.sys {gm : Nat} {w W w' : World} (h : Kp gm w W) (S : Sys gm W L w') (hL : ∀ e, e ∈ L → e.1 ∈ [gm] ∨ w.heap.size ≤ e.1) : Kp gm w w' :=
  ⟨h.below.trans S.toBelow, fun j hj => by
    rw [S.old j (Nat.lt_of_lt_of_le hj.1 h.below.size) fun e he e1 => by
      rcases hL e he with h1 | h1
      · exact hj.2 (by rw [← e1]; exact List.mem_singleton.1 h1)
      · have := hj.1; omega]
    exact h.old j hj⟩
theorem Kp.made {gm : Nat} {w W w' : World} (h : Kp gm w W) (hb : Below W.heap.size W w') (hg : gm ≤ W.heap.size) : Kp gm w w' :=
  ⟨h.below.trans ⟨hb.os, hb.tape, hb.output, hb.size, fun k hk => hb.block k (by omega)⟩, fun j hj => (hb.block j (Nat.lt_of_lt_of_le hj.1 h.below.size)).trans (h.old j hj)⟩
theorem Kp.grow {gm : Nat} {w W W' : World} (h : Kp gm w W) (hB : Below gm W W') (ho : ∀ j, j < W.heap.size → (∀ e, e ∈ L → e.1 ≠ j) → W'.heap[j]? = W.heap[j]?) (hL : ∀ e, e ∈ L → e.1 ∈ [gm] ∨ w.heap.size ≤ e.1) : Kp gm w W' :=
  ⟨h.below.trans hB, fun j hj => (ho j (Nat.lt_of_lt_of_le hj.1 h.below.size) fun e he e1 => by
    rcases hL e he with h1 | h1
    · exact hj.2 (by rw [← e1]; exact List.mem_singleton.1 h1)
    · have := hj.1; omega).trans (h.old j hj)⟩
/-- the blocks below B alone. -/
def trunc (w : World) (n : Nat) : World := { w with heap := w.heap.extract 0 n }
theorem Sys.anchorT {wE W w' : World} {L' : Lo} (hB : Below B wE W) (S : Sys B W L w') (hs : ∀ e, e ∈ L' → e ∈ L) (hn : (L'.map (·.1)).Nodup) (hle : B ≤ wE.heap.size) : Sys B (trunc wE B) L' w' := by
  have hsz : (trunc wE B).heap.size = B := by simp [trunc]; omega
  refine ⟨S.os.trans hB.os, S.tape.trans hB.tape, S.output.trans hB.output, ?_, ?_, fun k hk _ => ?_, fun e he => S.own e (hs e he), hn⟩
  · rw [hsz]; exact Nat.le_trans S.base S.size
  · rw [hsz]; exact Nat.le_refl _
  · rw [hsz] at hk
    have h1 := S.toBelow.block k hk
    have h2 := hB.block k hk
    rw [h1, h2]
    simp [trunc, Array.getElem?_extract]
    omega
/-- at the call's end: nothing but gm has changed. -/
theorem Kp.end_ {gm : Nat} {w W w' : World} {o : Obj} (h : Kp gm w W) (S : Sys gm W L w') (hm : (gm, o) ∈ L) (hL : ∀ e, e ∈ L → e.1 ∈ [gm] ∨ w.heap.size ≤ e.1) (h0 : gm ≤ w.heap.size) : Sys gm w [(gm, o)] w' :=
  have h1 := h.sys S hL
  ⟨h1.below.os, h1.below.tape, h1.below.output, h1.below.size, h0, fun k hk hn => h1.old k ⟨hk, fun e => hn (gm, o) (.head _) e.symm⟩, fun e he => by rw [List.mem_singleton.1 he]; exact S.own _ hm, by simp⟩
/-- behind a call that only makes new things. -/
theorem Sys.made {w w' : World} (S : Sys B w0 L w) (hb : Below w.heap.size w w') : Sys B w' L w' :=
  ⟨rfl, rfl, rfl, Nat.le_refl _, Nat.le_trans S.base (Nat.le_trans S.size hb.size), fun _ _ _ => rfl, fun e he => ⟨(S.own e he).1, (hb.block e.1 (S.lt he)).trans (S.own e he).2⟩, S.nd⟩
/-- what another call, that may have changed gm, left: what was held is still held. -/
theorem Fam.after {w w' : World} {gm b : Nat} {o : Obj} {ks : List Nat} {hs hs' : List Held} (h : Fam w gm ks [] hs) (S : Sys b w [(gm, o)] w') (hk : gm ∈ ks) (h' : Fam w' gm ks [] hs') : Fam w' gm ks [] (hs' ++ hs) := by
  have h1 := h.sys S fun e he => .inl (by rw [List.mem_singleton.1 he]; exact hk)
  exact ⟨h1.base, h1.row, h1.sep, h1.two, h1.ins, fun x hx => by
    rcases List.mem_append.1 hx with h2 | h2
    · exact h'.held x h2
    · exact h1.held x h2⟩
end
section
variable {P : Program} {T : TT} {N : Nat} {B : Nat} {w0 : World} {ds : List Deferred} {Q : Exit → Act → World → Prop} {F : Fr} {L : Lo} {pu : Prop} {ops : Array Oper} {rest : List Oper} {ty : TypeId} {p : String} {af : Array Edge}
/-- append(row, a whole list). -/
theorem XL.pushLW {α : Type} {K : Kind α} {d : Nat} {t : TypeId} {x y : Operand} {v : Value} {l l2 : List α} {r2 : SV} {bytes b0 : Nat} {ks : List Nat} {rs : List RowX} {hs : List Held} {wE : World} (i : Nat) (he : elemOk P t K.ty K.m bytes = true) (h0 : 0 < K.m)
    (hx : evo F x = some v) (hy : evo F y = some (.slice r2.A r2.n r2.c)) (hd : Nat.blt d N = true) (hF : Fam w0 b0 ks rs hs) (hi : rs[i]? = some ⟨α, K, v, l⟩) (hks : ∀ k, k ∈ ks → k < w0.heap.size) (hbl : Below B wE w0) (hB : B ≤ b0)
    (hr : ∀ w, Sys B w0 L w → ListAt K w (Lt w.heap.size) r2 l2) (ha : ∀ a, a ∈ l2 → ∀ x, x ∈ K.sl a → x.p w0 (Free w0 b0 ks rs)) (h1 : ∀ a : α, (K.c a).all Value.oneCell' = true) (h63 : l.length + l2.length ≤ 10000000) (hb : bytes ≤ 10000000)
    (k : ∀ w' v', w0.heap.size ≤ w'.heap.size → (∀ j, j < w0.heap.size → (∀ e, e ∈ L → e.1 ≠ j) → v.ownBlock ≠ some j → w'.heap[j]? = w0.heap[j]?) → Fam w' b0 (L.map (·.1) ++ ks) (rs.set i ⟨α, K, v', l ++ l2⟩) hs → Below B wE w' → (∀ k, k ∈ L.map (·.1) ++ ks → k < w'.heap.size) → XL P N B w' ds Q ops rest ((d, v') :: F) L)
    (hL : ∀ e, e ∈ L → e.1 ∈ ks ∨ w0.heap.size ≤ e.1 := by (intro e he; repeat (first | (cases he; done) | (rcases List.mem_cons.1 he with rfl | he; · first | (right; assumption) | (left; simp <;> fail)))) <;> fail) :
    XL P N B w0 ds Q ops ({ dst := some d, op := .call { callee := .builtin .append, args := #[x, y], argTypes := #[t, t] }, type := ty, pos := p, after := af, guard := none } :: rest) F L := by
  obtain ⟨A, m, c⟩ := r2
  have hri : (⟨α, K, v, l⟩ : RowX) ∈ rs := List.mem_of_getElem? hi
  have hk2 : ∀ k, k ∈ L.map (·.1) ++ ks → k ∈ ks ∨ w0.heap.size ≤ k := fun k hk => by
    rcases List.mem_append.1 hk with h | h
    · obtain ⟨e, he, rfl⟩ := List.mem_map.1 h
      exact hL e he
    · exact .inl h
  have hk3 : ∀ w, Sys B w0 L w → ∀ k, k ∈ L.map (·.1) ++ ks → k < w.heap.size := fun w S k hk => by
    rcases List.mem_append.1 hk with h | h
    · obtain ⟨e, he, rfl⟩ := List.mem_map.1 h
      exact S.lt he
    · exact Nat.lt_of_lt_of_le (hks k h) S.size
  have hsepL : ∀ k, v.ownBlock = some k → ∀ e, e ∈ L → e.1 ≠ k := fun k hk e he e1 => by
    rcases hL e he with h | h
    · exact hF.sep _ hri k hk (e1 ▸ h)
    · have := (hF.lt hri hk).2; omega
  cases A with
  | none =>
    refine ⟨fun a w hf S => ?_⟩
    refine wpList_plain rfl fun Kk hK => ?_
    unfold Oper.wp
    have hl := hr w S
    have hm := hl.len h0
    simp only at hm
    have hm0 : m = 0 := by
      rcases Nat.eq_zero_or_pos m with h | h
      · exact h
      · obtain ⟨ad, e, _⟩ := hl.rd.at_ (by simpa using h)
        cases e
    subst hm0
    have hl2 : l2 = [] := List.length_eq_zero_iff.1 hm.symm
    subst hl2
    have hrun := append_none_run (ty := ty) (c := c) he (owns_sys (hF.row _ hri) S hsepL)
    have : (execOp a.eval { dst := some d, op := .call { callee := .builtin .append, args := #[x, y], argTypes := #[t, t] }, type := ty, pos := p, after := af, guard := none }).run P w = .ok (.value v) w := by
      have hm : (#[x, y] : Array Operand).map a.eval = #[v, .slice none 0 c] := by simp [hf.eval hx, hf.eval hy]
      simp only [execOp, resolve, Sem.run_bind, Sem.run_pure, Result.andThen_ok, invoke, builtin, hm, hrun]
    rw [this]
    refine hK _ _ ((k w v S.size (fun j h1 h2 _ => S.old j h1 h2) ?_ (hbl.trans S.toBelow) (hk3 w S)).run _ _ (hf.put hd) (S.rebase (List.Sublist.refl _)))
    have h2 := (hF.add (ks' := L.map (·.1) ++ ks) hk2).sys S fun e he => .inl (List.mem_append_left _ (List.mem_map.2 ⟨e, he, rfl⟩))
    obtain ⟨hil, hie⟩ := List.getElem?_eq_some_iff.1 hi
    have h3 : rs.set i ⟨α, K, v, l ++ []⟩ = rs := by
      rw [List.append_nil, ← hie]
      exact List.set_getElem_self hil
    rw [h3]
    exact h2
  | some A =>
    by_cases hex : ∃ w, Sys B w0 L w
    · obtain ⟨wx, Sx⟩ := hex
      have hm := (hr wx Sx).len h0
      simp only at hm
      subst hm
      refine XL.append2 (v := v) (m := l2.length) (n := l.length) (size := K.m) (bytes := bytes) (base := b0) (A := A) (xs := l.flatMap K.c) (news := l2.flatMap K.c) (L' := L) he h0 hx hy hd (hF.row _ hri) hsepL (by rw [flat_len K.c K.m K.len])
        (fun w S j u hj => ?_) ?_ (by unfold maxLen; omega) (Nat.le_trans (Nat.mul_le_mul h63 hb) (by decide)) hF.base (List.Sublist.refl _) (fun w v' w' S ho hg _ hfr => ?_)
      · have h2 := hr w S
        have hjl := (List.getElem?_eq_some_iff.1 hj).1
        rw [flat_len K.c K.m K.len] at hjl
        have hpos : 0 < l2.length := by
          rcases Nat.eq_zero_or_pos l2.length with h | h
          · rw [h] at hjl; omega
          · exact h
        obtain ⟨ad, e, _, h3⟩ := h2.rd.at_ hpos
        cases e
        exact h3 j u hj
      · rw [List.all_eq_true]
        intro u hu
        obtain ⟨a, ha', hu'⟩ := List.mem_flatMap.1 hu
        exact List.all_eq_true.1 (h1 a) u hu'
      · have hsz := hg.size
        have hS := S.size
        refine k w' v' (Nat.le_trans hS hsz) (fun j h1 h2 h3 => grown_old S hg h1 h2 fun e1 => h3 e1.symm) ?_ (hbl.trans (grown_below S hg fun k hk => Nat.le_trans hB (hF.lt hri hk).1)) fun q hq => Nat.lt_of_lt_of_le (hk3 w S q hq) hsz
        have hfa : ∀ j, Free w0 b0 ks rs j → Free w0 b0 (L.map (·.1) ++ ks) rs j := fun j hj => ⟨hj.1, hj.2.1, fun h => by
          rcases hk2 j h with h4 | h4
          · exact hj.2.2.1 h4
          · have := hj.2.1; omega, hj.2.2.2⟩
        refine (hF.add (ks' := L.map (·.1) ++ ks) hk2).pushL hi (fun a h4 x hx => x.mono (ha a h4 x hx) hfa) ho (Nat.le_trans hS hsz) (fun j hj hn hv => ?_) (fun k hk => ?_)
        · exact grown_old S hg hj (fun e he e1 => hn (List.mem_append_left _ (List.mem_map.2 ⟨e, he, e1⟩))) fun e1 => hv e1.symm
        · rcases hfr k hk with h | h
          · exact .inl h
          · exact .inr ⟨Nat.le_trans hS h, fun h2 => by have := hk3 w S k h2; omega⟩
    · exact ⟨fun a w hf S => absurd ⟨w, S⟩ hex⟩
/-- a slice literal is a new row. -/
theorem XL.newRowW (hT : TOK P T) {α : Type} {K : Kind α} {l : List α} {d : Nat} {t e : TypeId} {n size b0 : Nat} {ps : List (Nat × Operand)} {z : Value} {zs cs : List Value} {ks : List Nat} {rs : List RowX} {hs : List Held} {wE : World}
    (hs' : lkG T.sl t = some (e, size)) (hz : lkG T.zero e = some z) (hzs : cellsO z = some zs) (hsz : Nat.beq zs.length size = true) (h0 : Nat.blt 0 size = true) (hbig : Nat.ble (n * size) 16777216 = true) {zl : List Value} (hzl : zerosO zs n = some zl) (hc : fillS F size zl ps = some cs) (hd : Nat.blt d N = true)
    (hK : K.ty = e ∧ K.m = size) (hcs : cs = l.flatMap K.c) (hn : l.length = n) (hF : Fam w0 b0 ks rs hs) (hks : ∀ k, k ∈ ks → k < w0.heap.size) (hbl : Below B wE w0) (hb0 : b0 ≤ w0.heap.size) (ha : ∀ a, a ∈ l → ∀ x, x ∈ K.sl a → x.p w0 (Free w0 b0 ks rs))
    (k : ∀ w' g, w0.heap.size ≤ w'.heap.size → w0.heap.size ≤ g → (∀ j, j < w0.heap.size → (∀ e, e ∈ L → e.1 ≠ j) → w'.heap[j]? = w0.heap[j]?) → Fam w' b0 (L.map (·.1) ++ ks) (⟨α, K, .slice (some ⟨g, 0, none⟩) n n, l⟩ :: rs) hs → Below B wE w' → (∀ k, k ∈ L.map (·.1) ++ ks → k < w'.heap.size) → XL P N B w' ds Q ops rest ((d, .slice (some ⟨g, 0, none⟩) n n) :: F) L)
    (hL : ∀ e, e ∈ L → e.1 ∈ ks ∨ w0.heap.size ≤ e.1 := by (intro e he; repeat (first | (cases he; done) | (rcases List.mem_cons.1 he with rfl | he; · first | (right; assumption) | (left; simp <;> fail)))) <;> fail) :
    XL P N B w0 ds Q ops ({ dst := some d, op := .buildSlice t n ps.toArray, type := ty, pos := p, after := af, guard := none } :: rest) F L := by
  refine XL.buildSlice hT hs' hz hzs hsz h0 hbig hzl hc hd fun g hg => ?_
  refine XL.rebase (List.sublist_cons_self _ _) fun w1 S => ?_
  have hk2 : ∀ k, k ∈ L.map (·.1) ++ ks → k ∈ ks ∨ w0.heap.size ≤ k := fun k hk => by
    rcases List.mem_append.1 hk with h | h
    · obtain ⟨e, he, rfl⟩ := List.mem_map.1 h
      exact hL e he
    · exact .inl h
  have hk3 : ∀ k, k ∈ L.map (·.1) ++ ks → k < w1.heap.size := fun k hk => by
    rcases List.mem_append.1 hk with h | h
    · obtain ⟨e, he, rfl⟩ := List.mem_map.1 h
      exact S.lt (List.mem_cons_of_mem _ he)
    · exact Nat.lt_of_lt_of_le (hks k h) S.size
  have hgL : g ∉ L.map (·.1) := by have := S.nd; simp only [List.map_cons, List.nodup_cons] at this; exact this.1
  have hfa : ∀ j, Free w0 b0 ks rs j → Free w0 b0 (L.map (·.1) ++ ks) rs j := fun j hj => ⟨hj.1, hj.2.1, fun h => by
    rcases hk2 j h with h4 | h4
    · exact hj.2.2.1 h4
    · have := hj.2.1; omega, hj.2.2.2⟩
  obtain ⟨hK1, hK2⟩ := hK
  have hrow : w1.ownsRow b0 K.ty K.m (.slice (some ⟨g, 0, none⟩) n n) l.length (l.flatMap K.c) := by
    have h5 := (S.own (g, _) List.mem_cons_self).2
    have h6 : (l.flatMap K.c).length = n * K.m := by rw [flat_len K.c K.m K.len, hn]
    have hsz' : 0 < K.m := by rw [hK2]; exact Nat.le_of_ble_eq_true h0
    have hbig' : n * K.m ≤ 16777216 := by rw [hK2]; exact Nat.le_of_ble_eq_true hbig
    have hnm : n ≤ n * K.m := Nat.le_mul_of_pos_right n hsz'
    refine ⟨by rw [h6, hn], .inr ⟨g, n, ⟨l.flatMap K.c⟩, by rw [hn], Nat.le_trans hb0 hg, ?_, by omega, by unfold maxLen; omega, by simpa using h6, ?_⟩⟩
    · rw [hK1, ← hcs]; exact h5
    · rw [hn, ← h6]
      simp only [List.take_length]
  refine XL.weak1 (k w1 g S.size hg (fun j h1 h2 => S.old j h1 fun e he e1 => by
    rcases List.mem_cons.1 he with rfl | he
    · simp only at e1; omega
    · exact h2 e he e1) ((hF.add (ks' := L.map (·.1) ++ ks) hk2).fresh S.size (fun j hj hn' => ?_) hrow (fun q hq => ?_) fun a h4 x hx => x.mono (ha a h4 x hx) hfa) (hbl.trans S.toBelow) hk3)
  · exact S.old j hj fun e he e1 => by
      rcases List.mem_cons.1 he with rfl | he
      · simp only at e1; omega
      · exact hn' (List.mem_append_left _ (List.mem_map.2 ⟨e, he, e1⟩))
  · simp only [Value.ownBlock, Option.some.injEq] at hq
    subst hq
    refine ⟨hg, fun h7 => ?_⟩
    rcases List.mem_append.1 h7 with h8 | h8
    · exact hgL h8
    · have := hks _ h8; omega
end
section
variable {P : Program} {N B : Nat} {wS w0 : World} {ds : List Deferred} {Q : Exit → Act → World → Prop} {F : Fr} {L Ls : Lo} {ops : Array Oper} {rem : List (Nat × Oper)} {r : Option Nat} {n : Nat}
theorem XH.ofRS {l : List Oper} (wS : World) (Ls : Lo) (p q : List Nat) (hr : pickR l q = some rem)
    (hp : (pureOk l.toArray (Array.replicate l.length false) p && partB l.length p q) = true)
    (h : Fw P N B wS ds False (fun F' => XR P N B wS w0 ds Q Ls l.toArray rem F' L) l.toArray Ls (pickO l.toArray p) F) : XH P N B wS w0 ds Q Ls l.toArray (Array.replicate l.toArray.size false) F L := by
  simp only [Bool.and_eq_true] at hp
  refine XH.pure p (by simpa using hp.1) ?_
  have key : ∀ F', XR P N B wS w0 ds Q Ls l.toArray rem F' L → XH P N B wS w0 ds Q Ls l.toArray (setAll (Array.replicate l.toArray.size false) p) F' L := by
    intro F' hx
    have hset : ∀ (p : List Nat) (D : Array Bool) (i : Nat), i < D.size → on (setAll D p) i = (on D i || p.contains i) := by
      intro p
      induction p with
      | nil => intro D i _; simp [setAll]
      | cons j r ih =>
        intro D i hi
        rw [setAll, ih _ _ (by simpa using hi)]
        by_cases hj : j < D.size
        · rw [on_set hj]
          simp only [List.contains_cons]
          cases on D i <;> simp
        · have : D.setIfInBounds j true = D := Array.setIfInBounds_eq_of_size_le (by omega)
          rw [this]
          have hne : ¬ i = j := by omega
          simp [List.contains_cons, hne]
    have hsz : ∀ (p : List Nat) (D : Array Bool), (setAll D p).size = D.size := by
      intro p
      induction p with
      | nil => intro D; rfl
      | cons j r ih => intro D; rw [setAll, ih]; simp
    obtain ⟨h1, h2⟩ := pickR_spec hr
    have hpart := hp.2
    unfold partB at hpart
    simp only [Bool.and_eq_true, List.all_eq_true, List.mem_range, decide_eq_true_eq] at hpart
    obtain ⟨⟨h3, h4⟩, h5⟩ := hpart
    have hD : RemOk l.toArray (setAll (Array.replicate l.toArray.size false) p) rem := by
      refine ⟨by rw [hsz]; simp, fun e he => by simpa using h2 e he, fun i hi => ?_, by rw [h1]; exact h5⟩
      have hi' : i < l.length := by simpa using hi
      rw [hset _ _ _ (by simpa using hi')]
      have h6 : on (Array.replicate l.toArray.size false) i = false := by unfold on; simp [hi']
      rw [h6, Bool.false_or]
      have h7 := h3 i hi'
      have h8 : inRem rem i = q.contains i := by
        rw [Bool.eq_iff_iff, inRem_iff, List.contains_iff_mem, ← h1]
        simp only [List.mem_map, Prod.exists, exists_and_right, exists_eq_right]
      rw [h8]
      cases h9 : p.contains i <;> cases h10 : q.contains i <;> rw [h9, h10] at h7 <;> simp_all
    exact ⟨fun fuel a w hc hf hs hS => hx.run _ fuel a w hD hc hf hs hS⟩
  exact ⟨by
    have := h.run
    exact (show ∀ (ops : List Oper) (F : Fr) (K K' : Fr → Prop), (∀ F', K F' → K' F') → Fw0 P N B wS ds False l.toArray Ls K ops F → Fw0 P N B wS ds False l.toArray Ls K' ops F from by
      intro ops
      induction ops with
      | nil => intro F K K' hk h; exact hk _ h
      | cons o r ih => rintro F K K' hk ⟨v, h1, h2⟩; exact ⟨v, h1, ih _ _ _ hk h2⟩) _ _ _ _ (fun F' ⟨G', h1, h2⟩ => ⟨G', h1, key _ h2⟩) this⟩
/-- a region that draws its order, in a round's frame. -/
theorem wpAnyIn_of {md : Region.Mode} {K : Act → World → Prop} {Q' : Exit → Act → World → Prop} (hd : ∀ (i : Nat) (o : Oper), ops[i]? = some o → notDefer o = true) (hK : ∀ a w, K a w → Q' .normal a w) : ∀ (fuel : Nat) (listed : Array Bool) (a : Act) (w : World), wpAny P md ops (only K) fuel listed a w → wpAnyIn (fen r) n P md ops Q' fuel listed a w := by
  intro fuel
  induction fuel with
  | zero => intro listed a w h; exact ⟨h.1, hK _ _ h.2⟩
  | succ fuel ih =>
    intro listed a w h
    refine ⟨fun h0 => hK _ _ (h.1 h0), fun i hi => ?_⟩
    have h1 := h.2 i hi
    unfold wpOp at h1
    unfold wpOpIn
    split
    · rename_i ho
      rw [ho] at h1
      exact ih _ _ _ h1
    · rename_i o ho
      rw [ho] at h1
      simp only at h1
      split
      · rename_i hw
        rw [if_pos hw] at h1
        rcases h1 with h1 | ⟨_, a0, w0, q⟩
        · refine ⟨fun f _ => fen_fn r f, ?_⟩
          rw [fen_round]
          rw [Oper.semAt_eq r a.eval o (fun c e => by have := hd i o ho; simp [notDefer, e] at this)]
          refine upon_in (Q := only K) only_normal ?_
          have h2 : o.wp P a w (wpAnyIn (fen r) n P md ops Q' fuel (listed.setIfInBounds i true)) (only K) := Oper.wp_mono (fun a w h => ih _ _ _ h) h1
          exact h2
        · exact q.elim
      · rename_i hw
        rw [if_neg hw] at h1
        exact ⟨fun f _ => fen_fn r f, ih _ _ _ h1⟩
theorem XR'.drawRS {id : Nat} {l : List Oper} (wS : World) (Ls : Lo) (p q : List Nat) (hm : P.follows .mixedOrders = true) (hL : ∀ w, Sys B w0 L w → Sys B wS Ls w) (hr : pickR l q = some rem) (hnd : l.all notDefer = true)
    (hp : (pureOk l.toArray (Array.replicate l.length false) p && partB l.length p q) = true)
    (h : Fw P N B wS ds False (fun F' => XR P N B wS w0 ds (only fun a w => Q .normal a w) Ls l.toArray rem F' L) l.toArray Ls (pickO l.toArray p) F) : XR' P N B w0 ds Q r n (.region id l.toArray true) F L :=
  ⟨fun a w hf hs => by
    have h1 := (XH.ofRS (Q := only fun a w => Q .normal a w) wS Ls p q hr hp h).run l.toArray.size a { w with drawn := w.drawn + 1 } (by simp) hf hs.drew (hL _ hs.drew)
    refine wpIn_region_any hm (wpAnyIn_of (K := fun a w => Q .normal a w) (fun i o ho => ?_) (fun _ _ h => h) _ _ _ _ (wpAny_of_held _ _ _ _ h1))
    exact List.all_eq_true.1 hnd o (List.mem_of_getElem? (by simpa using ho))⟩
theorem XR'.exit {id : Nat} (h : XE N B w0 ds Q (.exit id) F L) : XR' P N B w0 ds Q r n (.exit id) F L := ⟨fun a w hf hs => wpIn_exit (h.run a w hf hs)⟩
theorem XE.onlyN (h : XE N B w0 ds Q .normal F L) : XE N B w0 ds (only fun a w => Q .normal a w) .normal F L := ⟨h.run⟩
end
end Go.Proofs.YtmckmlmfilmiaaaGreatDoor.X
/-
  The walk of the iterator of all.
-/
namespace Go.Proofs.YtmckmlmfilmiaaaGreatDoor.X
open Go Go.RowKit Go.Proofs.YtmckmlmfilmiaaaGreatDoor.Bs
set_option linter.unusedVariables false
section
variable {base B : Nat} {ks : List Nat} {row : Option Nat} {W W' W2 : World} {v : Value} {ms : List Mom} {L : Lo}
/-- all of L's blocks that W knows are among these. -/
theorem Grew.sys {w : World} (S : Sys B W L w) (hL : ∀ e, e ∈ L → e.1 ∈ ks ∨ W.heap.size ≤ e.1) : Grew ks row W w := ⟨S.size, fun j h1 h2 h3 => S.old j h1 fun e he e1 => by
  rcases hL e he with h | h
  · exact h2 (e1 ▸ h)
  · omega⟩
/-- what stands but for L's blocks (no row among what is kept). -/
theorem Own.move (h : Grew ks row W W') : ∀ j, Own base ks row W j → W'.heap[j]? = W.heap[j]? := fun j hj => h.old j hj.2.1 hj.2.2.1 hj.2.2.2
theorem Own.le (h : W.heap.size ≤ W'.heap.size) : ∀ j, Own base ks row W j → Own base ks row W' j := fun j hj => ⟨hj.1, Nat.lt_of_lt_of_le hj.2.1 h, hj.2.2⟩
/-- the row stays, no block of ks is written but those that are not the row. -/
theorem MomsAt.move (hm : MomsAt W base ks v ms) (h : Grew ks none W W') : MomsAt W' base ks v ms := by
  have h' : Grew ks v.ownBlock W W' := ⟨h.size, fun j h1 h2 _ => h.old j h1 h2 (by simp)⟩
  refine ⟨⟨hm.row.1, ?_⟩, hm.sep, fun k hk => ⟨(hm.lt k hk).1, Nat.lt_of_lt_of_le (hm.lt k hk).2 h.size⟩, fun m hmm => ?_⟩
  · rcases hm.row.2 with h1 | ⟨g, cap, cur, rfl, hb, hg, h1⟩
    · exact .inl h1
    · refine .inr ⟨g, cap, cur, rfl, hb, ?_, h1⟩
      rw [h.old g (Array.getElem?_eq_some_iff.1 hg).1 (hm.sep g rfl) (by simp)]
      exact hg
  · obtain ⟨h1, h2⟩ := hm.ins m hmm
    exact ⟨(h1.keep (Own.move h')).mono (Own.le h.size), (h2.keep (Own.move h')).mono (Own.le h.size)⟩
theorem MomsAt.nil : MomsAt W base ks (.slice none 0 0) [] := ⟨World.ownsRow_nil _ _ _ _, fun k hk => by simp [Value.ownBlock] at hk, fun k hk => by simp [Value.ownBlock] at hk, fun m hm => by cases hm⟩
/-- one more. -/
theorem MomsAt.more {v' : Value} {m : Mom} (hm : MomsAt W base ks v ms) (hb : base ≤ W.heap.size) (hrow : W'.ownsRow base 138 7 v' (ms.length + 1) (ms.flatMap Mom.c ++ m.c)) (hv : ∀ k, v'.ownBlock = some k → v.ownBlock = some k ∨ W.heap.size ≤ k ∧ k ∉ ks)
    (h : Grew ks v.ownBlock W W') (h1 : IntsAt W (Own base ks v.ownBlock W) m.q m.s.fil) (h2 : IntsAt W (Own base ks v.ownBlock W) m.r m.f.taken) : MomsAt W' base ks v' (ms ++ [m]) := by
  have hcl : ∀ j, Own base ks v.ownBlock W j → Own base ks v'.ownBlock W' j := fun j hj => ⟨hj.1, Nat.lt_of_lt_of_le hj.2.1 h.size, hj.2.2.1, fun e => by
    rcases hv j e with h3 | h3
    · exact hj.2.2.2 h3
    · have := hj.2.1; omega⟩
  refine ⟨by simpa using hrow, fun k hk => ?_, fun k hk => hrow.lt k hk, fun m' hm' => ?_⟩
  · rcases hv k hk with h3 | h3
    · exact hm.sep k h3
    · exact h3.2
  · rcases List.mem_append.1 hm' with h3 | h3
    · obtain ⟨a1, a2⟩ := hm.ins m' h3
      exact ⟨(a1.keep (Own.move h)).mono hcl, (a2.keep (Own.move h)).mono hcl⟩
    · rw [List.mem_singleton] at h3
      subst h3
      exact ⟨(h1.keep (Own.move h)).mono hcl, (h2.keep (Own.move h)).mono hcl⟩
end
theorem grew3 {B : Nat} {ks : List Nat} {row : Option Nat} {W w1 w2 w3 : World} {L1 L3 : Lo} (S1 : Sys B W L1 w1) (hB : Below w1.heap.size w1 w2) (S3 : Sys B w2 L3 w3) (h1 : ∀ k, k ∈ L1.map (·.1) → k ∈ ks ∨ W.heap.size ≤ k) (h3 : ∀ k, k ∈ L3.map (·.1) → k ∈ ks ∨ W.heap.size ≤ k) : Grew ks row W w3 :=
  ⟨Nat.le_trans S1.size (Nat.le_trans hB.size S3.size), fun j hj hk _ => by
    have a1 : w1.heap[j]? = W.heap[j]? := S1.old j hj fun e he e1 => by
      rcases h1 e.1 (List.mem_map.2 ⟨e, he, rfl⟩) with h | h
      · exact hk (e1 ▸ h)
      · omega
    have hj1 := Nat.lt_of_lt_of_le hj S1.size
    rw [S3.old j (Nat.lt_of_lt_of_le hj1 hB.size) fun e he e1 => by
      rcases h3 e.1 (List.mem_map.2 ⟨e, he, rfl⟩) with h | h
      · exact hk (e1 ▸ h)
      · omega, hB.block j hj1, a1]⟩
theorem fail_con : conB (Tryz.prog.underlying 129) = true := by kernel_rfl
/-- what the iterator leaves. -/
def IterR (B l D gl gs gb g8 g7 g6 : Nat) (r1 r2 : Loop) (ol ob : Obj) (b : Bas) (s : Sta) (ts : List Tick) (e x : Value) (w w' : World) : Prop :=
  (badAt b s ts = none ∧ ∃ W v ms os, Sys B W (L8 l D gl gs gb g8 g7 g6 r1 ol os ob v e x) w' ∧ Below B w W ∧ MomsAt W B (K8 l D gl gs gb g8 g7 g6) v ms ∧ ms.map Mom.p = momsAt b s ts ts.length) ∨
  (∃ k, badAt b s ts = some k ∧ ∃ W v os gf, Sys B W (L8 l D gl gs gb g8 g7 g6 r2 ol os ob v (.iface 129 (.pointer (some ⟨gf, 0, none⟩))) (.slice none 0 0)) w' ∧ Below B w W ∧ B ≤ gf ∧ gf ∉ K8 l D gl gs gb g8 g7 g6 ∧ W.heap[gf]? = some (cel 133 [.int .i64 (k : Nat), .int .i64 (errAt b s ts k)]))
set_option maxHeartbeats 8000000 in
theorem iter_any {B l D gl gs gb g8 g7 g6 : Nat} {w : World} {fn : FuncId} {a : Act} {assign body : Code} {c : Code} {e x : Value} {p : BV} {b : Bas} {q r : SV} {s : Sta} {ts : List Tick}
    (hc : Tryz.f44.body = some c) (hr : rfOf c = some (assign, body))
    (hf : Fits 25 [] [(6, .pointer (some ⟨g6, 0, none⟩)), (7, .pointer (some ⟨g7, 0, none⟩)), (8, .pointer (some ⟨g8, 0, none⟩))] a)
    (S0 : Sys B w (L8 l D gl gs gb g8 g7 g6 (recO fn a.tmps #[15, 16] assign body D .ready none) (cel 44 [svV r]) (cel 28 (staC q s)) (cel 25 (basC p b)) (.slice none 0 0) e x) w)
    (hb : BasAt w B p b) (hq : IntsAt w (Lt B) q s.fil) (ht : TksAt w (Lt B) r ts) (ho : Ok b) (hs : StaOk b s) (hn : ts.length ≤ 300) :
    Calls Tryz.prog 67 #[.func (.yield l) #[] #[], .pointer (some ⟨gl, 0, none⟩), .pointer (some ⟨gb, 0, none⟩), .pointer (some ⟨gs, 0, none⟩)] w fun e1 w' => ∃ u, e1 = .returned u ∧
      IterR B l D gl gs gb g8 g7 g6 (recO fn a.tmps #[15, 16] assign body D .ready none) (recO fn a.tmps #[15, 16] assign body D .done (some .ret)) (cel 44 [svV r]) (cel 25 (basC p b)) b s ts e x w w' := by
  obtain ⟨A, n, cc⟩ := r
  have hn1 := ht.len
  simp only at hn1
  subst hn1
  simp only [staC, basC, svV] at S0 ⊢
  have hlits : ∃ r1, recO fn a.tmps #[15, 16] assign body D .ready none = r1 ∧ ∃ r2, recO fn a.tmps #[15, 16] assign body D .done (some .ret) = r2 := ⟨_, rfl, _, rfl⟩
  obtain ⟨r1, hr1, r2, hr2⟩ := hlits
  rw [hr1] at S0
  rw [hr1, hr2]
  refine enterL Tryz.func67 rfl Tryz.ntmps67 rfl (S0) ?_; simp only [frame, Nat.zero_add, Nat.reduceAdd]
  refine XC.hint 1 5 ?_
  refine XC.hint 2 3 ?_
  refine XC.hint 3 4 ?_
  repeat (first | (refine M0 ?_; first | refine SL ?_ | refine SB fun _ _ => ?_) | (refine M1 ?_; first | refine SC ?_ | refine SD ?_) | (refine M2 ?_; refine SE ?_) | (refine M3 ?_; first | refine SG ?_ | refine SF ?_) | (refine M4 ?_; refine SR ?_) | (refine M5 ?_; first | exact M7 | refine YM ?_ | refine YN ?_ ?_))
  refine XC.loopk [0, 2, 3, 10, 11] rfl (fun s' : Nat × World × Value × List Mom × SV => [(12, .int .i64 (s'.1 : Nat))])
    (fun s' => L8 l D gl gs gb g8 g7 g6 r1 (cel 44 [.slice A ts.length cc]) (cel 28 (staC s'.2.2.2.2 (staAt b s ts s'.1))) (cel 25 (basC p b)) s'.2.2.1 e x) (fun s' => s'.2.1)
    (fun s' => s'.1 ≤ ts.length ∧ (∀ j, j < s'.1 → errAt b s ts j = 0) ∧ Below B w s'.2.1 ∧ B ≤ s'.2.1.heap.size ∧ MomsAt s'.2.1 B (K8 l D gl gs gb g8 g7 g6) s'.2.2.1 s'.2.2.2.1 ∧ s'.2.2.2.1.map Mom.p = momsAt b s ts s'.1 ∧
      IntsAt s'.2.1 (Own 0 (K8 l D gl gs gb g8 g7 g6) s'.2.2.1.ownBlock s'.2.1) s'.2.2.2.2 (staAt b s ts s'.1).fil)
    (fun s' => ts.length - s'.1) (0, w, .slice none 0 0, [], q) ⟨Nat.zero_le _, fun j hj => absurd hj (by simp), Below.refl _ _, S0.base, MomsAt.nil, rfl, ?_⟩ ZZSUB (fun _ h => h) ?_
  · refine hq.mono fun j hj => ⟨Nat.zero_le _, Nat.lt_of_lt_of_le hj S0.base, fun hk => ?_, by simp [Value.ownBlock]⟩
    have hj' : j < B := hj
    have : ∀ e', e' ∈ L8 l D gl gs gb g8 g7 g6 r1 (cel 44 [.slice A ts.length cc]) (cel 28 (staC q s)) (cel 25 (basC p b)) (.slice none 0 0) e x → B ≤ e'.1 := fun e' he' => (S0.own e' he').1
    obtain ⟨e', he', e2⟩ := List.mem_map.1 (show j ∈ (L8 l D gl gs gb g8 g7 g6 r1 (cel 44 [.slice A ts.length cc]) (cel 28 (staC q s)) (cel 25 (basC p b)) (.slice none 0 0) e x).map (·.1) from hk)
    have := this e' he'
    omega
  rintro ⟨k, W, v, ms, qk⟩ ⟨hk, h0, hBW, hBsz, hm, hmp, hqk⟩
  simp only at hk h0 hBW hBsz hm hmp hqk
  simp only [staC, basC]
  dsimp only [List.cons_append, List.nil_append]
  repeat (first | (refine M0 ?_; first | refine SL ?_ | refine SB fun _ _ => ?_) | (refine M1 ?_; first | refine SC ?_ | refine SD ?_) | (refine M2 ?_; refine SE ?_) | (refine M3 ?_; first | refine SG ?_ | refine SF ?_) | (refine M4 ?_; refine SR ?_) | (refine M5 ?_; first | exact M7 | refine YM ?_ | refine YN ?_ ?_))
  refine XC.cond _ rfl (fun h1 => ?_) (fun h1 => ?_)
  · have hkn : k < ts.length := by simpa using h1
    obtain ⟨ad, rfl, hlt, _⟩ := ht.rd.at_ (by simp only; omega)
    have hcell := (ht.below hBW).tick hkn
    have hbW := hb.below hBW
    have hsk := staAt_ok ho hs k h0
    repeat (first | (refine M0 ?_; first | refine SL ?_ | refine SB fun _ _ => ?_ | refine Y4 (Ev.load_old_agg tok (tickC (tk ts k)) rfl rfl rfl (add_lt hlt) hcell) ?_) | (refine M1 ?_; first | refine SC ?_ | refine SD ?_) | (refine M2 ?_; refine SE ?_) | (refine M3 ?_; first | refine SG ?_ | refine SF ?_ | refine YF (Ev.load_old_agg tok (tickC (tk ts k)) rfl rfl rfl (add_lt hlt) hcell) ?_) | (refine M4 ?_; refine SR ?_) | (refine M5 ?_; first | exact M7 | refine YM ?_ | refine YN ?_ ?_))
    rename_i gt hgt
    have hk1 : ∀ j, j ∈ (gt :: K8 l D gl gs gb g8 g7 g6) → j ∈ K8 l D gl gs gb g8 g7 g6 ∨ W.heap.size ≤ j := fun j hj => by
      rcases List.mem_cons.1 hj with rfl | hj
      · exact .inr hgt
      · exact .inl hj
    refine XL.call (fst := []) (cap := []) (ck rfl) rfl rfl rfl (List.Sublist.refl _) (fun w1 v w2 => StepR b (staAt b s ts k) (tk ts k) w1 v w2)
      (fun w1 S1 => (step_any (p := p) (q := qk) (hbW.sys S1) (hqk.sys S1 ?_) ho hsk).mono fun e w' ⟨v, h, h4⟩ => ⟨v, h, h4, h4.choose_spec.choose_spec.2.2.2⟩) (fun w1 v2 w2 S1 hR hB S2 => ?_)
    · exact fun j hj => ⟨hj.2.1, fun e' he' e2 => by
        rcases hk1 e'.1 (List.mem_map.2 ⟨e', he', rfl⟩) with h | h
        · exact hj.2.2.1 (e2 ▸ h)
        · have := hj.2.1; omega⟩
    obtain ⟨q2, rf, rfl, hq2, hrf, _⟩ := hR
    simp only [staV, staC, floV, floC]
    repeat (first | (refine M0 ?_; first | refine SL ?_ | refine SB fun _ _ => ?_) | (refine M1 ?_; first | refine SC ?_ | refine SD ?_) | (refine M2 ?_; refine SE ?_) | (refine M3 ?_; first | refine SG ?_ | refine SF ?_) | (refine M4 ?_; refine SR ?_) | (refine M5 ?_; first | exact M7 | refine YM ?_ | refine YN ?_ ?_))
    rename_i gc hgc ga hga
    have hBB : Below B w w2 := hBW.trans S2.toBelow
    refine XC.cond _ rfl (fun h2 => ?_) (fun h2 => ?_)
    · repeat (first | (refine M0 ?_; first | refine SL ?_ | refine SB fun _ _ => ?_ | refine Y4 (Ev.makeI fail_con rfl) ?_) | (refine XI.id ?_; first | refine XI.done ?_ | refine XI.one1 rfl ?_) | (refine XR'.id ?_; first | refine XR'.seq ?_ | refine XR'.region ?_ | refine XR'.block ?_ | refine XR'.skip ?_ | refine XR'.ret ?_ | refine XR'.cond_t rfl ?_ | refine XR'.cond_f rfl ?_ | refine XR'.exit ?_) | (refine M1 ?_; first | refine XC.regionI (id := 5) 1 ?_ | refine SC ?_ | refine SD ?_) | (refine M2 ?_; first | refine XE.nextI ?_ | refine XE.nextR ?_ | refine SE ?_))
      refine XI.rebase (L' := L8 l D gl gs gb g8 g7 g6 r1 (cel 44 [.slice (some ad) ts.length cc]) (cel 28 (staC qk (staAt b s ts k))) (cel 25 (basC p b)) v e x) ?_ (fun w3 S3 => ?_)
      · simp only [staC, basC]
        repeat (first | exact List.Sublist.refl _ | refine List.Sublist.cons _ ?_)
      rename_i gf hgf
      have hgfK : gf ∉ K8 l D gl gs gb g8 g7 g6 := fun h => by
        have := S1.keyLt gf (List.mem_cons_of_mem gt h)
        have := hB.size
        omega
      have hgfo := (S3.own _ List.mem_cons_self).2
      refine XI.yield (vs := [.agg ⟨zmC⟩, .iface 129 (.pointer (some ⟨gf, 0, none⟩))]) rfl rfl rfl (fun _ v5 w5 => v5 = .bool false ∧ Sys B w3 (L8 l D gl gs gb g8 g7 g6 r2 (cel 44 [.slice (some ad) ts.length cc]) (cel 28 (staC qk (staAt b s ts k))) (cel 25 (basC p b)) v (.iface 129 (.pointer (some ⟨gf, 0, none⟩))) (.slice none 0 0)) w5)
        (fun w4 S4 => ?_) (fun w4 v5 w5 S4 ⟨e5, S5⟩ => ⟨_, _, S5, ?_⟩)
      · rw [← hr1] at S4
        obtain ⟨a1, a2⟩ := round_err (n := 0) (gf := gf) hc hr hf S4
        rw [hr2] at a2
        exact ⟨_, _, _, _, a1, a2⟩
      subst e5
      repeat (first | (refine M0 ?_; first | refine SL ?_ | refine SB fun _ _ => ?_) | (refine XI.id ?_; first | refine XI.done ?_ | refine XI.one1 rfl ?_) | (refine XR'.id ?_; first | refine XR'.seq ?_ | refine XR'.region ?_ | refine XR'.block ?_ | refine XR'.skip ?_ | refine XR'.ret ?_ | refine XR'.cond_t rfl ?_ | refine XR'.cond_f rfl ?_ | refine XR'.exit ?_) | (refine M1 ?_; first | refine SC ?_ | refine SD ?_) | (refine M2 ?_; first | refine XE.nextI ?_ | refine XE.nextR ?_ | refine SE ?_))
      refine XE.ret0 Tryz.results67 (fun w' S => ?_)
      exact ⟨_, rfl, .inr ⟨k, badAt_some hkn h0 (of_decide_eq_true h2), w3, v, _, gf, S, hBB.trans S3.toBelow, (S3.own _ List.mem_cons_self).1, hgfK, hgfo⟩⟩
    · repeat (first | (refine M0 ?_; first | refine SL ?_ | refine SB fun _ _ => ?_) | (refine XI.id ?_; first | refine XI.done ?_ | refine XI.one1 rfl ?_) | (refine XR'.id ?_; first | refine XR'.seq ?_ | refine XR'.region ?_ | refine XR'.block ?_ | refine XR'.skip ?_ | refine XR'.ret ?_ | refine XR'.cond_t rfl ?_ | refine XR'.cond_f rfl ?_ | refine XR'.exit ?_) | (refine M1 ?_; first | refine XC.regionI (id := 7) 1 ?_ | refine SC ?_ | refine SD ?_) | (refine M2 ?_; first | refine XE.nextI ?_ | refine XE.nextR ?_ | refine SE ?_))
      refine XI.rebase (L' := L8 l D gl gs gb g8 g7 g6 r1 (cel 44 [.slice (some ad) ts.length cc]) (cel 28 (staC q2 (outS b (staAt b s ts k) (tk ts k)))) (cel 25 (basC p b)) v e x) ?_ (fun w3 S3 => ?_)
      · simp only [staC, basC]
        repeat (first | exact List.Sublist.refl _ | refine List.Sublist.cons _ ?_)
      have hk3 : ∀ j, j ∈ (ga :: gc :: gt :: K8 l D gl gs gb g8 g7 g6) → j ∈ K8 l D gl gs gb g8 g7 g6 ∨ W.heap.size ≤ j := fun j hj => by
        have := S1.size
        have := hB.size
        rcases List.mem_cons.1 hj with rfl | hj
        · exact .inr (by omega)
        rcases List.mem_cons.1 hj with rfl | hj
        · exact .inr (by omega)
        exact hk1 j hj
      have hE : errAt b s ts k = 0 := show stepE b (staAt b s ts k) (tk ts k) = 0 by simpa using h2
      have hG : Grew (K8 l D gl gs gb g8 g7 g6) none W w3 := grew3 S1 hB S3 hk1 hk3
      have hm3 := hm.move hG
      have hmade : ∀ j, Btw w1.heap.size w2.heap.size j → Own B (K8 l D gl gs gb g8 g7 g6) v.ownBlock w3 j ∧ w3.heap[j]? = w2.heap[j]? := fun j hj => by
        have a1 := S1.size
        have a3 := S3.size
        refine ⟨⟨Nat.le_trans hBsz (Nat.le_trans a1 hj.1), Nat.lt_of_lt_of_le hj.2 a3, fun h => ?_, fun h => ?_⟩, S3.old j hj.2 fun e' he' e2 => ?_⟩
        · have := S1.keyLt j (List.mem_cons_of_mem gt h)
          have := hj.1
          omega
        · have := (hm.lt j h).2
          have := hj.1
          omega
        · have hj3 : j ∈ (ga :: gc :: gt :: K8 l D gl gs gb g8 g7 g6) := List.mem_map.2 ⟨e', he', e2⟩
          have := hj.1
          have := hj.2
          rcases List.mem_cons.1 hj3 with rfl | hj3
          · omega
          rcases List.mem_cons.1 hj3 with rfl | hj3
          · omega
          have := S1.keyLt j hj3
          omega
      have hq3 : IntsAt w3 (Own B (K8 l D gl gs gb g8 g7 g6) v.ownBlock w3) q2 (outS b (staAt b s ts k) (tk ts k)).fil := (hq2.keep fun j hj => (hmade j hj).2).mono fun j hj => (hmade j hj).1
      have hf3 : IntsAt w3 (Own B (K8 l D gl gs gb g8 g7 g6) v.ownBlock w3) rf (outF b (staAt b s ts k) (tk ts k)).taken := (hrf.keep fun j hj => (hmade j hj).2).mono fun j hj => (hmade j hj).1
      have hml : ms.length = k := by
        have := congrArg List.length hmp
        simpa [momsAt] using this
      have hB3 : B ≤ w3.heap.size := Nat.le_trans hBsz hG.size
      obtain ⟨m, hmd⟩ : ∃ m : Mom, m = ⟨outS b (staAt b s ts k) (tk ts k), outF b (staAt b s ts k) (tk ts k), q2, rf⟩ := ⟨_, rfl⟩
      refine XI.yield (vs := [.agg ⟨m.c⟩, .nilIface]) rfl (by subst hmd; rfl) rfl (fun _ v5 w5 => v5 = .bool true ∧ ∃ v' W', Sys B W' (L8 l D gl gs gb g8 g7 g6 r1 (cel 44 [.slice (some ad) ts.length cc]) (cel 28 (staC q2 (outS b (staAt b s ts k) (tk ts k)))) (cel 25 (basC p b)) v' e x) w5 ∧
          W'.ownsRow B 138 7 v' (ms.length + 1) (ms.flatMap Mom.c ++ m.c) ∧ (∀ k, v'.ownBlock = some k → v.ownBlock = some k ∨ w3.heap.size ≤ k ∧ k ∉ K8 l D gl gs gb g8 g7 g6) ∧ Grew (K8 l D gl gs gb g8 g7 g6) v.ownBlock w3 W' ∧ Below B w3 W')
        (fun w4 S4 => ?_) (fun w4 v5 w5 S4 ⟨e5, v', W', S5, hrow, hv', hG', hBel⟩ => ⟨_, _, S5, ?_⟩)
      · rw [← hr1] at S4 ⊢
        obtain ⟨a1, a2⟩ := round_ok (n := 0) (m := m) hc hr hf S4 hm3 hB3 (Nat.le_refl _) (by omega)
        exact ⟨_, _, _, _, a1, a2⟩
      subst e5
      repeat (first | (refine M0 ?_; first | refine SL ?_ | refine SB fun _ _ => ?_) | (refine XI.id ?_; first | refine XI.done ?_ | refine XI.one1 rfl ?_) | (refine XR'.id ?_; first | refine XR'.seq ?_ | refine XR'.region ?_ | refine XR'.block ?_ | refine XR'.skip ?_ | refine XR'.ret ?_ | refine XR'.cond_t rfl ?_ | refine XR'.cond_f rfl ?_ | refine XR'.exit ?_) | (refine M1 ?_; first | refine SC ?_ | refine SD ?_) | (refine M2 ?_; first | refine XE.nextI ?_ | refine XE.nextR ?_ | refine SE ?_))
      refine XE.roundW (s := (k, W, v, ms, qk)) (fun w6 S6 => ⟨(k + 1, W', v', ms ++ [m], q2), ⟨hkn, fun j hj => ?_, hBB.trans (S3.toBelow.trans hBel), Nat.le_trans hB3 hG'.size, ?_, ?_, ?_⟩, ?_, ZZSUB, S6⟩)
      · rcases Nat.lt_or_ge j k with h | h
        · exact h0 j h
        · have : j = k := by omega
          rw [this]; exact hE
      · subst hmd
        exact hm3.more hB3 hrow hv' hG' hq3 hf3
      · subst hmd
        rw [List.map_append, hmp, momsAt_succ]
        rfl
      · refine (hq3.keep (Own.move hG')).mono fun j hj => ⟨Nat.zero_le _, Nat.lt_of_lt_of_le hj.2.1 hG'.size, hj.2.2.1, fun h => ?_⟩
        rcases hv' j h with h3 | h3
        · exact hj.2.2.2 h3
        · have := hj.2.1; omega
      · simp only
        omega
  · repeat (first | (refine M0 ?_; first | refine SL ?_ | refine SB fun _ _ => ?_) | (refine M1 ?_; first | refine SC ?_ | refine SD ?_) | (refine M2 ?_; refine SE ?_) | (refine M3 ?_; first | refine SG ?_ | refine SF ?_) | (refine M4 ?_; refine SR ?_) | (refine M5 ?_; first | exact M7 | refine YM ?_ | refine YN ?_ ?_))
    have hkn : k = ts.length := by have : ¬ (k < ts.length) := by simpa using h1
                                   omega
    subst hkn
    refine XE.end0 Tryz.results67 (fun w' S => ?_)
    refine ⟨_, rfl, .inl ⟨badAt_none h0, W, v, ms, _, S, hBW, hm, hmp⟩⟩
end Go.Proofs.YtmckmlmfilmiaaaGreatDoor.X
/-
  The walk of all.
-/
namespace Go.Proofs.YtmckmlmfilmiaaaGreatDoor.X
open Go Go.RowKit Go.Proofs.YtmckmlmfilmiaaaGreatDoor.Bs
set_option linter.unusedVariables false
/-- a list of moments in memory. -/
structure MomRow (w : World) (ok : Nat → Prop) (r : SV) (ms : List Mom) : Prop where
  rd : ReadsP w ok 7 r.A r.n (ms.flatMap Mom.c)
  max : r.n ≤ 1000
  ins : ∀ m, m ∈ ms → IntsAt w ok m.q m.s.fil ∧ IntsAt w ok m.r m.f.taken
/-- what all answers. -/
def AllR (b : Bas) (s : Sta) (ts : List Tick) (w : World) (v : Value) (w' : World) : Prop :=
  ((badAt b s ts = none ∧ ∃ r ms, v = .tuple ⟨[svV r, .nilIface]⟩ ∧ MomRow w' (Btw w.heap.size w'.heap.size) r ms ∧ ms.map Mom.p = momsAt b s ts ts.length) ∨
   (∃ k gf, badAt b s ts = some k ∧ v = .tuple ⟨[.slice none 0 0, .iface 129 (.pointer (some ⟨gf, 0, none⟩))]⟩ ∧ w.heap.size ≤ gf ∧ w'.heap[gf]? = some (cel 133 [.int .i64 (k : Nat), .int .i64 (errAt b s ts k)]))) ∧ Below w.heap.size w w'
set_option maxHeartbeats 8000000 in
set_option maxRecDepth 10000 in
theorem all_any {p : BV} {b : Bas} {q r : SV} {s : Sta} {ts : List Tick} {w : World} (hb : BasAt w w.heap.size p b) (hq : IntsAt w (Lt w.heap.size) q s.fil) (ht : TksAt w (Lt w.heap.size) r ts) (ho : Ok b) (hs : StaOk b s) (hn : ts.length ≤ 300) :
    Calls Tryz.prog 44 #[basV p b, staV q s, svV r] w fun e w' => ∃ v, e = .returned v ∧ AllR b s ts w v w' := by
  simp only [basV, basC, staV, staC, svV]
  refine enterM Tryz.func44 rfl Tryz.ntmps44 rfl ?_; simp only [frame, Nat.zero_add, Nat.reduceAdd]
  repeat (first | (refine M0 ?_; first | refine SL ?_ | refine SB fun _ _ => ?_) | (refine M1 ?_; first | refine SC ?_ | refine SD ?_) | (refine M2 ?_; refine SE ?_) | (refine M3 ?_; first | refine SG ?_ | refine SF ?_) | (refine M4 ?_; refine SR ?_) | (refine M5 ?_; first | exact M7 | refine YM ?_ | refine YN ?_ ?_))
  rename_i g3 hg3 g4 hg4 g6 hg6 g7 hg7 g8 hg8
  refine XL.callr (fst := []) (cap := []) (fun w1 v w2 => ∃ gb gs gl, v = .func (.func 67) #[] #[.pointer (some ⟨gl, 0, none⟩), .pointer (some ⟨gb, 0, none⟩), .pointer (some ⟨gs, 0, none⟩)] ∧
      Sys w1.heap.size w1 [(gl, cel 44 [svV r]), (gs, cel 28 (staC q s)), (gb, cel 25 (basC p b))] w2) (ck rfl) rfl rfl rfl
    (fun w1 S1 => moments_any (p := p) (b := b) (q := q) (r := r) (s := s) (x := .nilIface) (y := .nilIface) (z := .nilIface)) (fun w1 v w2 S1 hR => ?_)
  obtain ⟨gb, gs, gl, rfl, S2⟩ := hR
  refine ⟨[(gl, cel 44 [svV r]), (gs, cel 28 (staC q s)), (gb, cel 25 (basC p b)), (g8, cel 89 [.slice none 0 0]), (g7, cel 118 [.nilIface]), (g6, cel 89 [.slice none 0 0])], w1, ?_, ?_⟩
  · exact S1.join (L3 := [(g8, cel 89 [.slice none 0 0]), (g7, cel 118 [.nilIface]), (g6, cel 89 [.slice none 0 0])]) S2 (by repeat (first | exact List.nil_sublist _ | refine List.Sublist.cons_cons _ ?_))
  refine XL.done (XE.next (XC.hint 6 0 (XC.hint 7 1 (XC.hint 8 2 ?_))))
  refine XC.block ?_
  have hB1 := S1.toBelow
  refine XC.rangeFunc (cap := [.pointer (some ⟨gl, 0, none⟩), .pointer (some ⟨gb, 0, none⟩), .pointer (some ⟨gs, 0, none⟩)]) rfl (ck rfl) (fun fn a D w3 hD hf S3 => ?_)
  have hB3 : Below w.heap.size w w3 := hB1.trans S3.toBelow
  have hf3 : Fits 25 [] [(6, .pointer (some ⟨g6, 0, none⟩)), (7, .pointer (some ⟨g7, 0, none⟩)), (8, .pointer (some ⟨g8, 0, none⟩))] a := Sub.fits ZZSUB hf
  refine (iter_any (p := p) (b := b) (q := q) (r := r) (s := s) (ts := ts) (c := _) rfl rfl hf3 (S3.rebase (List.Sublist.refl _)) (hb.below hB3) (hq.below hB3) (ht.below hB3) ho hs hn).mono fun e w4 ⟨u, hu, hI⟩ => ⟨u, hu, ?_⟩
  rcases hI with ⟨hbad, W, v, ms, os, S4, hBW, hm, hmp⟩ | ⟨k, hbad, W, v, os, gf, S4, hBW, hgB, hgK, hgf⟩
  · refine .inl ⟨_, W, S4, ?_⟩
    obtain ⟨rv, rfl, hrn⟩ := owns_sv hm.row
    simp only [svV]
    repeat (first | (refine M0 ?_; first | refine SL ?_ | refine SB fun _ _ => ?_) | (refine M1 ?_; first | refine SC ?_ | refine SD ?_) | (refine M2 ?_; refine SE ?_) | (refine M3 ?_; first | refine SG ?_ | refine SF ?_) | (refine M4 ?_; refine SR ?_) | (refine M5 ?_; first | exact M7 | refine YM ?_ | refine YN ?_ ?_))
    refine XE.retM tok (D := D) (i := 1) Tryz.results44 rfl rfl rfl (by simp only [and_self, and_true]) (fun w' S => ?_)
    have hm' := hm.move (Grew.sys S fun e' he' => .inl (show e'.1 ∈ K8 (D + 1) D gl gs gb g8 g7 g6 from List.mem_map.2 ⟨e', he', rfl⟩))
    obtain ⟨a1, a2, _, _⟩ := ReadsP.own hm'.row
    have hml : ms.length = ts.length := by
      have := congrArg List.length hmp
      simpa [momsAt] using this
    refine ⟨_, rfl, .inl ⟨hbad, rv, ms, rfl, ⟨by rw [a2]; exact a1, by omega, fun m hmm => ?_⟩, hmp⟩, hB3.trans (hBW.trans S.toBelow)⟩
    obtain ⟨i1, i2⟩ := hm'.ins m hmm
    exact ⟨i1.mono fun j hj => ⟨hj.1, hj.2.1⟩, i2.mono fun j hj => ⟨hj.1, hj.2.1⟩⟩
  · refine .inr ⟨_, W, S4, ?_⟩
    repeat (first | (refine M0 ?_; first | refine SL ?_ | refine SB fun _ _ => ?_) | (refine M1 ?_; first | refine SC ?_ | refine SD ?_) | (refine M2 ?_; refine SE ?_) | (refine M3 ?_; first | refine SG ?_ | refine SF ?_) | (refine M4 ?_; refine SR ?_) | (refine M5 ?_; first | exact M7 | refine YM ?_ | refine YN ?_ ?_))
    refine XE.retM tok (D := D) (i := 1) Tryz.results44 rfl rfl rfl (by simp only [and_self, and_true]) (fun w' S => ?_)
    refine ⟨_, rfl, .inr ⟨k, gf, hbad, rfl, hgB, ?_⟩, hB3.trans (hBW.trans S.toBelow)⟩
    rw [S.old gf (Array.getElem?_eq_some_iff.1 hgf).1 fun e' he' e2 => hgK (e2 ▸ (show e'.1 ∈ K8 (D + 1) D gl gs gb g8 g7 g6 from List.mem_map.2 ⟨e', he', rfl⟩))]
    exact hgf
end Go.Proofs.YtmckmlmfilmiaaaGreatDoor.X
/-
  errors.As at a target of type **basin.failure (the lines of the worked proof ToyasAs, turned to this program): as_nil, as_hit.
-/
namespace Go.Proofs.YtmckmlmfilmiaaaGreatDoor.As
open Go Go.RowKit Go.Extern.Stop Go.Stop Go.Extern

/-- errors.As(nil, target). -/
theorem as_nil (t : Value) (w : World) :
    Calls Tryz.prog 47 #[.nilIface, t] w fun e w' => e = .returned (.bool false) ∧ w' = w := by
  go_enter Tryz.func47, Tryz.ntmps47
  go_wp2
  go_ret
  exact ⟨rfl, rfl⟩

/-! ### CLOSED FACTS ON THE MODEL's ENTRIES FOR internal/reflectlite, at this program's types: 25: *p.E · 27: **p.E · 23: error · 45: reflectlite's rtype · 1: how many package-level variables the dump has -/
theorem Fa.valueOf27 (t : Addr) (w : World) : (ReflectliteValue.unpack (.iface 131 (.pointer (some t)))).run Tryz.prog w
    = .ok (.agg #[.pointer (some ⟨1, 131, none⟩), .pointer (some ⟨w.heap.size, 0, none⟩), .int .u64 150]) (w.alloc (.cells #[.pointer (some t)] 131)) := by kernel_rfl
theorem Fa.type27 (a : Addr) (w : World) : (ReflectliteValue.methodAny (ReflectliteValue.valueError "reflectlite.Value.Type" 0) (fun t _ _ _ => ReflectliteType.toType t) #[.agg #[.pointer (some ⟨1, 131, none⟩), .pointer (some a), .int .u64 150]]).run Tryz.prog w
    = .ok (.iface 173 (.agg #[.pointer (some ⟨1, 131, none⟩)])) w := by kernel_rfl
theorem Fa.methodKind (n : Nat) (h : Value) (w : World) : (Go.method (n + 1) 173 (.agg #[h]) "Kind").run Tryz.prog w = .ok (96, h) w := by kernel_rfl
theorem Fa.kind27 (w : World) : ((ReflectliteType.abiMethod fun t => (fun a : Nat => Value.int IntKind.u8 (a : Int)) <$> Rtype.kind t) #[.pointer (some ⟨1, 131, none⟩)]).run Tryz.prog w = .ok (.int .u8 22) w := by kernel_rfl
theorem Fa.kind25 (w : World) : ((ReflectliteType.abiMethod fun t => (fun a : Nat => Value.int IntKind.u8 (a : Int)) <$> Rtype.kind t) #[.pointer (some ⟨1, 129, none⟩)]).run Tryz.prog w = .ok (.int .u8 22) w := by kernel_rfl

/-! ### THE ENTRIES THAT READ OR WRITE MEMORY: laws with a premise on the cell (after Derived/Lib/ReflectliteSlice.lean's manner: each unfolding a lemma of its own, by rfl) -/
theorem rlm (z : Sem Value) (f : TypeId → Addr → Nat → Nat → Sem Value) (v : Value) :
    ReflectliteValue.method z f #[v] = (do match ← ReflectliteValue.parts v with | none => z | some (t, a, fl) => f t a fl (fl % 32)) := rfl
theorem Fa.parts27 (a : Addr) (w : World) : (ReflectliteValue.parts (.agg #[.pointer (some ⟨1, 131, none⟩), .pointer (some a), .int .u64 150])).run Tryz.prog w = .ok (some (131, a, 150)) w := by kernel_rfl
/-- (Value).IsNil at the Value of a **p.E that is not nil. -/
theorem Fa.isNil27 (a p : Addr) (W : World) (ha : W.cell? a = some (.pointer (some p))) :
    (ReflectliteValue.method (ReflectliteValue.valueError "reflectlite.Value.IsNil" 0) ReflectliteValue.isNil #[.agg #[.pointer (some ⟨1, 131, none⟩), .pointer (some a), .int .u64 150]]).run Tryz.prog W = .ok (.bool false) W := by
  rw [rlm]
  simp only [Sem.run_bind, Fa.parts27, Result.andThen]
  simp [ReflectliteValue.isNil, loadVar, isAgg, underlying, Tryz.underlying131, ha, Result.andThen]

theorem Fa.methodElem (n : Nat) (h : Value) (w : World) : (Go.method (n + 1) 173 (.agg #[h]) "Elem").run Tryz.prog w = .ok (117, .agg #[h]) w := by kernel_rfl
theorem Fa.methodImplements (n : Nat) (h : Value) (w : World) : (Go.method (n + 1) 173 (.agg #[h]) "Implements").run Tryz.prog w = .ok (118, .agg #[h]) w := by kernel_rfl
theorem Fa.methodAssignableTo (n : Nat) (h : Value) (w : World) : (Go.method (n + 1) 173 (.agg #[h]) "AssignableTo").run Tryz.prog w = .ok (115, .agg #[h]) w := by kernel_rfl
theorem Fa.elem27 (w : World) : (ReflectliteType.method ReflectliteType.elem #[.agg #[.pointer (some ⟨1, 131, none⟩)]]).run Tryz.prog w = .ok (.iface 173 (.agg #[.pointer (some ⟨1, 129, none⟩)])) w := by kernel_rfl
theorem Fa.implements25 (w : World) : (ReflectliteType.relation "Implements" ReflectliteType.implements_ #[.agg #[.pointer (some ⟨1, 129, none⟩)], .iface 173 (.agg #[.pointer (some ⟨1, 118, none⟩)])]).run Tryz.prog w = .ok (.bool true) w := by kernel_rfl
theorem Fa.typeOf25 (v : Value) (w : World) : (ReflectliteType.typeOf #[.iface 129 v]).run Tryz.prog w = .ok (.iface 173 (.agg #[.pointer (some ⟨1, 129, none⟩)])) w := by kernel_rfl
theorem Fa.assignable25 (w : World) : (ReflectliteType.relation "AssignableTo" ReflectliteType.assignableTo #[.agg #[.pointer (some ⟨1, 129, none⟩)], .iface 173 (.agg #[.pointer (some ⟨1, 129, none⟩)])]).run Tryz.prog w = .ok (.bool true) w := by kernel_rfl
theorem Fa.valueOf25 (e : Addr) (w : World) : (ReflectliteValue.unpack (.iface 129 (.pointer (some e)))).run Tryz.prog w
    = .ok (.agg #[.pointer (some ⟨1, 129, none⟩), .pointer (some ⟨w.heap.size, 0, none⟩), .int .u64 150]) (w.alloc (.cells #[.pointer (some e)] 129)) := by kernel_rfl

theorem Fa.elemOf27 (w : World) : (Rtype.elem? 131).run Tryz.prog w = .ok (some 129) w := by kernel_rfl
theorem Fa.mk25 (p : Addr) (w : World) : (ReflectliteValue.mk 129 p ReflectliteValue.flagAddr).run Tryz.prog w = .ok (.agg #[.pointer (some ⟨1, 129, none⟩), .pointer (some p), .int .u64 406]) w := by kernel_rfl
/-- (Value).Elem at the Value of a **p.E that is not nil: the Value of the *p.E variable that it points to, addressable. -/
theorem Fa.elemV27 (a p : Addr) (W : World) (ha : W.cell? a = some (.pointer (some p))) :
    (ReflectliteValue.method (ReflectliteValue.valueError "reflectlite.Value.Elem" 0) ReflectliteValue.elem #[.agg #[.pointer (some ⟨1, 131, none⟩), .pointer (some a), .int .u64 150]]).run Tryz.prog W
      = .ok (.agg #[.pointer (some ⟨1, 129, none⟩), .pointer (some p), .int .u64 406]) W := by
  rw [rlm]
  simp only [Sem.run_bind, Fa.parts27, Result.andThen]
  simp [ReflectliteValue.elem, loadVar, isAgg, underlying, Tryz.underlying131, ha, Result.andThen, Fa.elemOf27, Fa.mk25]
theorem rls (v x : Value) : ReflectliteValue.set #[v, x] = (do
    let (some (dst, a, fl), some (src, b, _)) := (← ReflectliteValue.parts v, ← ReflectliteValue.parts x)
      | unsupported (.noEntry "extern/(internal/reflectlite.Value).Set.zeroValue")
    if fl / ReflectliteValue.flagAddr % 2 == 0 then unsupported (.noEntry "extern/(internal/reflectlite.Value).Set.unaddressable")
    let val ← loadVar src b
    if ← Rtype.directlyAssignable dst src then storeVar dst a val
    else if ← Rtype.implements dst src then
      if (← Rtype.kind src) == 20 then
        match val with
        | .nilIface => unsupported (.noEntry "extern/reflectlite: a nil value of one interface type handed on as a value of another")
        | _ => storeVar dst a val
      else storeVar dst a (.iface src val)
    else panicString ("reflectlite.Set: value of type " ++ (← Rtype.spelt src) ++ " is not assignable to type " ++ (← Rtype.spelt dst))
    pure (.tuple #[])) := rfl
theorem Fa.parts25a (a : Addr) (w : World) : (ReflectliteValue.parts (.agg #[.pointer (some ⟨1, 129, none⟩), .pointer (some a), .int .u64 406])).run Tryz.prog w = .ok (some (129, a, 406)) w := by kernel_rfl
theorem Fa.parts25 (a : Addr) (w : World) : (ReflectliteValue.parts (.agg #[.pointer (some ⟨1, 129, none⟩), .pointer (some a), .int .u64 150])).run Tryz.prog w = .ok (some (129, a, 150)) w := by kernel_rfl
theorem Fa.direct25 (w : World) : (Rtype.directlyAssignable 129 129).run Tryz.prog w = .ok true w := by kernel_rfl
/-- (Value).Set: the *p.E variable at 'ta' gets what the Value's own variable 'b' holds. -/
theorem Fa.set25 (ta b e : Addr) (old : Value) (W : World) (hb : W.cell? b = some (.pointer (some e))) (ht : W.cell? ta = some old) (hf : W.frozen? ta = false) :
    (ReflectliteValue.set #[.agg #[.pointer (some ⟨1, 129, none⟩), .pointer (some ta), .int .u64 406], .agg #[.pointer (some ⟨1, 129, none⟩), .pointer (some b), .int .u64 150]]).run Tryz.prog W
      = .ok (.tuple #[]) (W.setCell ta (.pointer (some e))) := by
  rw [rls]
  simp only [Sem.run_bind, Fa.parts25a, Fa.parts25, Result.andThen]
  simp [ReflectliteValue.flagAddr, loadVar, isAgg, underlying, Tryz.underlying129, hb, Result.andThen, Fa.direct25, storeVar, Value.cells, storeCells, Addr.add]
  rw [run_store Tryz.prog W ta _ _ (by rfl)]
  simp [ht, hf]

set_option maxHeartbeats 4000000 in
theorem as_hit (e t : Addr) (old : Value) (w : World) (hg : w.cell? ⟨0, 0, none⟩ = some (.iface 173 (.agg #[.pointer (some ⟨1, 118, none⟩)]))) (ht0 : w.cell? t = some old) (hf0 : w.frozen? t = false) :
    Calls Tryz.prog 47 #[.iface 129 (.pointer (some e)), .iface 131 (.pointer (some t))] w fun ev w' => ev = .returned (.bool true) ∧ w' = ((((w.alloc (.cells #[.pointer (some t)] 131)).alloc (.cells #[.pointer (some ⟨1, 131, none⟩), .pointer (some ⟨w.heap.size, 0, none⟩), .int .u64 150] 157)).alloc (.cells #[.pointer (some ⟨1, 131, none⟩), .pointer (some ⟨w.heap.size, 0, none⟩), .int .u64 150] 157)).alloc (.cells #[.pointer (some e)] 129)).setCell t (.pointer (some e)) := by
  have h6 := @run_callFunc_extern Tryz.prog 58 _ (fun args => ReflectliteValue.unpack (args.getD 0 (.tuple #[]))) Tryz.func58 (by kernel_rfl) (by kernel_rfl) (by kernel_rfl) (by kernel_rfl)
  have h7 := @run_callFunc_extern Tryz.prog 59 _ (ReflectliteValue.methodAny (ReflectliteValue.valueError "reflectlite.Value.Type" 0) (fun t _ _ _ => ReflectliteType.toType t)) Tryz.func59 (by kernel_rfl) (by kernel_rfl) (by kernel_rfl) (by kernel_rfl)
  have h8 := @run_callFunc_extern Tryz.prog 60 _ (ReflectliteValue.method (ReflectliteValue.valueError "reflectlite.Value.IsNil" 0) ReflectliteValue.isNil) Tryz.func60 (by kernel_rfl) (by kernel_rfl) (by kernel_rfl) (by kernel_rfl)
  have h27 := @run_callFunc_extern Tryz.prog 96 _ (ReflectliteType.abiMethod fun t => do pure (.int .u8 (← Rtype.kind t))) Tryz.func96 (by kernel_rfl) (by kernel_rfl) (by kernel_rfl) (by kernel_rfl)
  have h37 := @run_callFunc_extern Tryz.prog 117 _ (ReflectliteType.method ReflectliteType.elem) Tryz.func117 (by kernel_rfl) (by kernel_rfl) (by kernel_rfl) (by kernel_rfl)
  have h38 := @run_callFunc_extern Tryz.prog 118 _ (ReflectliteType.relation "Implements" ReflectliteType.implements_) Tryz.func118 (by kernel_rfl) (by kernel_rfl) (by kernel_rfl) (by kernel_rfl)
  have h10 := @run_callFunc_extern Tryz.prog 69 _ ReflectliteType.typeOf Tryz.func69 (by kernel_rfl) (by kernel_rfl) (by kernel_rfl) (by kernel_rfl)
  have h35 := @run_callFunc_extern Tryz.prog 115 _ (ReflectliteType.relation "AssignableTo" ReflectliteType.assignableTo) Tryz.func115 (by kernel_rfl) (by kernel_rfl) (by kernel_rfl) (by kernel_rfl)
  have h11 := @run_callFunc_extern Tryz.prog 70 _ (ReflectliteValue.method (ReflectliteValue.valueError "reflectlite.Value.Elem" 0) ReflectliteValue.elem) Tryz.func70 (by kernel_rfl) (by kernel_rfl) (by kernel_rfl) (by kernel_rfl)
  have h12 := @run_callFunc_extern Tryz.prog 71 _ ReflectliteValue.set Tryz.func71 (by kernel_rfl) (by kernel_rfl) (by kernel_rfl) (by kernel_rfl)
  have tO := Fa.typeOf25
  have mA := Fa.methodAssignableTo
  have a25 := Fa.assignable25
  have v25 := Fa.valueOf25
  have f6 := Fa.valueOf27
  have f7 := Fa.type27
  have mK := Fa.methodKind
  have mE := Fa.methodElem
  have mI := Fa.methodImplements
  have k27 := Fa.kind27
  have k25 := Fa.kind25
  have e27 := Fa.elem27
  have i25 := Fa.implements25
  have n8 := Fa.isNil27 ⟨w.heap.size, 0, none⟩ t ((w.alloc (.cells #[.pointer (some t)] 131)).alloc (.cells #[.pointer (some ⟨1, 131, none⟩), .pointer (some ⟨w.heap.size, 0, none⟩), .int .u64 150] 157)) (by simp)
  have hlt : 0 < w.heap.size := by
    rcases Nat.eq_zero_or_pos w.heap.size with h0 | h
    · simp [World.cell?, h0] at hg
    · exact h
  have hg2 : ((w.alloc (.cells #[.pointer (some t)] 131)).alloc (.cells #[.pointer (some ⟨1, 131, none⟩), .pointer (some ⟨w.heap.size, 0, none⟩), .int .u64 150] 157)).cell? ⟨0, 0, none⟩ = some (.iface 173 (.agg #[.pointer (some ⟨1, 118, none⟩)])) := by
    rw [World.cell?_alloc_lt _ _ ⟨0, 0, none⟩ (by simp), World.cell?_alloc_lt _ _ ⟨0, 0, none⟩ hlt]; exact hg
  have htl : t.block < w.heap.size := by
    rcases Nat.lt_or_ge t.block w.heap.size with h | h
    · exact h
    · simp [World.cell?, Array.getElem?_eq_none h] at ht0
  have el := Fa.elemV27 ⟨w.heap.size, 0, none⟩ t (((w.alloc (.cells #[.pointer (some t)] 131)).alloc (.cells #[.pointer (some ⟨1, 131, none⟩), .pointer (some ⟨w.heap.size, 0, none⟩), .int .u64 150] 157)).alloc (.cells #[.pointer (some ⟨1, 131, none⟩), .pointer (some ⟨w.heap.size, 0, none⟩), .int .u64 150] 157)) (by rw [World.cell?_alloc_lt _ _ ⟨w.heap.size, 0, none⟩ (by simp; omega)]; simp)
  have st := Fa.set25 t ⟨w.heap.size + 1 + 1 + 1, 0, none⟩ e old ((((w.alloc (.cells #[.pointer (some t)] 131)).alloc (.cells #[.pointer (some ⟨1, 131, none⟩), .pointer (some ⟨w.heap.size, 0, none⟩), .int .u64 150] 157)).alloc (.cells #[.pointer (some ⟨1, 131, none⟩), .pointer (some ⟨w.heap.size, 0, none⟩), .int .u64 150] 157)).alloc (.cells #[.pointer (some e)] 129))
    (by rw [World.cell?_alloc_at _ _ _ _ (by simp)]; rfl)
    (by rw [World.cell?_alloc_lt _ _ t (by simp; omega), World.cell?_alloc_lt _ _ t (by simp; omega), World.cell?_alloc_lt _ _ t (by simp; omega), World.cell?_alloc_lt _ _ t htl]; exact ht0)
    (by rw [World.frozen?_alloc_old _ _ t (by simp; omega), World.frozen?_alloc_old _ _ t (by simp; omega), World.frozen?_alloc_old _ _ t (by simp; omega), World.frozen?_alloc_old _ _ t (Nat.ne_of_lt htl)]; exact hf0)
  go_enter Tryz.func47, Tryz.ntmps47
  go_wp2
  refine wp_loop_rounds 1 ?_
  rw [rounds_succ]
  go_wp2
  go_ret
  exact ⟨rfl, rfl⟩
end Go.Proofs.YtmckmlmfilmiaaaGreatDoor.As
/-
  errors.As by its contracts; the walk of run.
-/
namespace Go.Proofs.YtmckmlmfilmiaaaGreatDoor.X
open Go Go.RowKit Go.Proofs.YtmckmlmfilmiaaaGreatDoor.Bs
set_option linter.unusedVariables false
/-- the library's variable stands laid. -/
def Laid (w : World) : Prop := w.cell? ⟨0, 0, none⟩ = some (.iface 173 (.agg #[.pointer (some ⟨1, 118, none⟩)]))
theorem Laid.pos {w : World} (h : Laid w) : 0 < w.heap.size := by
  rcases Nat.eq_zero_or_pos w.heap.size with h0 | h1
  · unfold Laid at h; simp [World.cell?, h0] at h
  · exact h1
theorem Laid.below {w w' : World} (h : Laid w) (hb : Below w.heap.size w w') : Laid w' := (World.cell?_of_block (a := ⟨0, 0, none⟩) (hb.block 0 h.pos)).trans h
theorem Laid.sys {B : Nat} {w0 w : World} {L : Lo} (h : Laid w0) (S : Sys B w0 L w) (hB : 0 < B) : Laid w := (World.cell?_of_block (a := ⟨0, 0, none⟩) (S.toBelow.block 0 hB)).trans h
theorem asNil_any (t : Value) (w : World) : Calls Tryz.prog 47 #[.nilIface, t] w fun e w' => e = .returned (.bool false) ∧ Below w.heap.size w w' :=
  (As.as_nil t w).mono fun e w' ⟨h1, h2⟩ => ⟨h1, by subst h2; exact Below.refl _ _⟩
theorem asHit_any {gf gt : Nat} {v0 : Value} {w : World} (hg : Laid w) (ht : w.heap[gt]? = some (cel 129 [v0])) :
    Calls Tryz.prog 47 #[.iface 129 (.pointer (some ⟨gf, 0, none⟩)), .iface 131 (.pointer (some ⟨gt, 0, none⟩))] w fun e w' => e = .returned (.bool true) ∧ Sys gt w [(gt, cel 129 [.pointer (some ⟨gf, 0, none⟩)])] w' := by
  have hlt := (Array.getElem?_eq_some_iff.1 ht).1
  refine (As.as_hit ⟨gf, 0, none⟩ ⟨gt, 0, none⟩ v0 w hg (by simp [World.cell?, ht]) (by simp [World.frozen?, ht])).mono fun e w' ⟨h1, h2⟩ => ⟨h1, ?_⟩
  subst h2
  have S0 := Sys.start1 (Nat.le_refl gt) ht
  have S1 := S0.box (.cells #[.pointer (some ⟨gt, 0, none⟩)] 131)
  have S2 := S1.box (.cells #[.pointer (some ⟨1, 131, none⟩), .pointer (some ⟨w.heap.size, 0, none⟩), .int .u64 150] 157)
  have S3 := S2.box (.cells #[.pointer (some ⟨1, 131, none⟩), .pointer (some ⟨w.heap.size, 0, none⟩), .int .u64 150] 157)
  have S4 := S3.box (.cells #[.pointer (some ⟨gf, 0, none⟩)] 129)
  generalize hW : (((w.alloc (.cells #[.pointer (some ⟨gt, 0, none⟩)] 131)).alloc (.cells #[.pointer (some ⟨1, 131, none⟩), .pointer (some ⟨w.heap.size, 0, none⟩), .int .u64 150] 157)).alloc (.cells #[.pointer (some ⟨1, 131, none⟩), .pointer (some ⟨w.heap.size, 0, none⟩), .int .u64 150] 157)).alloc (.cells #[.pointer (some ⟨gf, 0, none⟩)] 129) = W at S4 ⊢
  have hWg : W.heap[gt]? = some (cel 129 [v0]) := (S4.own (gt, cel 129 [v0]) (by simp)).2
  have S5 := S4.drop (L' := [(gt, cel 129 [v0])]) (by repeat (first | exact List.Sublist.refl _ | refine List.Sublist.cons _ ?_)) (fun e he => by
    simp only [List.mem_cons, List.not_mem_nil, or_false] at he ⊢
    rcases he with rfl | rfl | rfl | rfl | rfl <;> first | (left; rfl) | (right; simp; done) | (right; simp; omega))
  refine S5.turn (i := 0) (o := cel 129 [v0]) rfl rfl rfl rfl rfl ?_ ?_ ?_
  · simp [World.setCell]
  · simp [World.setCell, Array.getElem?_modify, hWg]
  · intro k hk hne
    exact Below.heap_setCell _ _ _ _ hne
/-- what run answers. -/
def RunR (b : Bas) (s : Sta) (ts : List Tick) (w : World) (v : Value) (w' : World) : Prop :=
  ((runE b s ts ≠ 0 ∧ v = .tuple ⟨[.slice none 0 0, .int .i64 (runE b s ts)]⟩) ∨
   (runE b s ts = 0 ∧ staErr b s = 0 ∧ ts.length ≤ 300 ∧ (∀ k, k < ts.length → errAt b s ts k = 0) ∧ ∃ r ms, v = .tuple ⟨[svV r, .int .i64 0]⟩ ∧ MomRow w' (Btw w.heap.size w'.heap.size) r ms ∧ ms.map Mom.p = momsAt b s ts ts.length)) ∧ Below w.heap.size w w'
theorem badAt_errs {b : Bas} {s : Sta} {ts : List Tick} (h : badAt b s ts = none) : ∀ k, k < ts.length → errAt b s ts k = 0 := by
  unfold badAt at h
  rw [List.find?_eq_none] at h
  intro k hk
  simpa using h k (by simpa using hk)
theorem badAt_err {b : Bas} {s : Sta} {ts : List Tick} {k : Nat} (h : badAt b s ts = some k) : errAt b s ts k ≠ 0 := by
  unfold badAt at h
  rw [List.find?_range_eq_some] at h
  simpa using h.1
theorem runE_bad {b : Bas} {s : Sta} {ts : List Tick} (h : staErr b s ≠ 0) : runE b s ts = staErr b s := by unfold runE; rw [if_pos h]
theorem runE_long {b : Bas} {s : Sta} {ts : List Tick} (h : staErr b s = 0) (h1 : 300 < ts.length) : runE b s ts = 3 := by unfold runE; rw [if_neg (by simp [h]), if_pos h1]
theorem runE_some {b : Bas} {s : Sta} {ts : List Tick} {k : Nat} (h : staErr b s = 0) (h1 : ¬ 300 < ts.length) (h2 : badAt b s ts = some k) : runE b s ts = errAt b s ts k := by unfold runE; rw [if_neg (by simp [h]), if_neg h1, h2]
theorem runE_none {b : Bas} {s : Sta} {ts : List Tick} (h : staErr b s = 0) (h1 : ¬ 300 < ts.length) (h2 : badAt b s ts = none) : runE b s ts = 0 := by unfold runE; rw [if_neg (by simp [h]), if_neg h1, h2]
theorem targ_con : conB (Tryz.prog.underlying 131) = true := by kernel_rfl
set_option maxHeartbeats 8000000 in
theorem run_any {p : BV} {b : Bas} {q r : SV} {s : Sta} {ts : List Tick} {w : World} (hL : Laid w) (hb : BasAt w w.heap.size p b) (hq : IntsAt w (Lt w.heap.size) q s.fil) (ht : TksAt w (Lt w.heap.size) r ts) :
    Calls Tryz.prog 30 #[basV p b, staV q s, svV r] w fun e w' => ∃ v, e = .returned v ∧ RunR b s ts w v w' := by
  obtain ⟨A, n, c⟩ := r
  have hn := ht.len
  have hmax := ht.max
  simp only at hn hmax
  subst hn
  simp only [basV, basC, staV, staC, svV]
  refine enter Tryz.func30 rfl Tryz.ntmps30 rfl ?_; simp only [frame, Nat.zero_add, Nat.reduceAdd]
  repeat (first | (refine M0 ?_; first | refine SL ?_ | refine SB fun _ _ => ?_ | refine Y4 (Ev.call (f := 11) (ck rfl) rfl (fun w S => (checkState_any (hb.sys S) (hq.arg S) :))) ?_) | (refine M1 ?_; first | refine SC ?_ | refine SD ?_) | (refine M2 ?_; refine SE ?_) | (refine M3 ?_; first | refine SG ?_ | refine SF ?_ | refine YF (Ev.call (f := 11) (ck rfl) rfl (fun w S => (checkState_any (hb.sys S) (hq.arg S) :))) ?_) | (refine M4 ?_; refine SR ?_) | (refine M5 ?_; first | exact M7 | refine YM ?_ | refine YN ?_ ?_))
  rename_i g3 hg3 g4 hg4
  refine XL.split _ _ rfl (fun h0 => ?_) (fun h0 => ?_) <;> rw [h0]
  rotate_left
  · have hE : staErr b s ≠ 0 := by simpa using h0
    repeat (first | (refine M0 ?_; first | refine SL ?_ | refine SB fun _ _ => ?_) | (refine M1 ?_; first | refine SC ?_ | refine SD ?_) | (refine M2 ?_; refine SE ?_) | (refine M3 ?_; first | refine SG ?_ | refine SF ?_) | (refine M4 ?_; refine SR ?_) | (refine M5 ?_; first | exact M7 | refine YM ?_ | refine YN ?_ ?_))
    refine XC.cond _ rfl (fun h1 => ?_) (fun h1 => absurd hE (by simpa using h1))
    repeat (first | (refine M0 ?_; first | refine SL ?_ | refine SB fun _ _ => ?_) | (refine M1 ?_; first | refine SC ?_ | refine SD ?_) | (refine M2 ?_; refine SE ?_) | (refine M3 ?_; first | refine SG ?_ | refine SF ?_) | (refine M4 ?_; refine SR ?_) | (refine M5 ?_; first | exact M7 | refine YM ?_ | refine YN ?_ ?_))
    refine XE.retg tok Tryz.results30 rfl (by simp only [and_self, and_true]) (fun w' S => ?_)
    exact ⟨_, rfl, .inl ⟨by rw [runE_bad hE]; exact hE, by rw [runE_bad hE]; rfl⟩, S.toBelow⟩
  have hE : staErr b s = 0 := by simpa using h0
  obtain ⟨ho, hs⟩ := staOk_of hE
  repeat (first | (refine M0 ?_; first | refine SL ?_ | refine SB fun _ _ => ?_) | (refine M1 ?_; first | refine SC ?_ | refine SD ?_) | (refine M2 ?_; refine SE ?_) | (refine M3 ?_; first | refine SG ?_ | refine SF ?_) | (refine M4 ?_; refine SR ?_) | (refine M5 ?_; first | exact M7 | refine YM ?_ | refine YN ?_ ?_))
  refine XC.cond _ rfl (fun h1 => ?_) (fun h1 => ?_)
  · have h3 : 300 < ts.length := by
      have : (300 : Int) < ts.length := by simpa using h1
      omega
    repeat (first | (refine M0 ?_; first | refine SL ?_ | refine SB fun _ _ => ?_) | (refine M1 ?_; first | refine SC ?_ | refine SD ?_) | (refine M2 ?_; refine SE ?_) | (refine M3 ?_; first | refine SG ?_ | refine SF ?_) | (refine M4 ?_; refine SR ?_) | (refine M5 ?_; first | exact M7 | refine YM ?_ | refine YN ?_ ?_))
    refine XE.retg tok Tryz.results30 rfl (by simp only [and_self, and_true]) (fun w' S => ?_)
    exact ⟨_, rfl, .inl ⟨by rw [runE_long hE h3]; decide, by rw [runE_long hE h3]; rfl⟩, S.toBelow⟩
  have h3 : ¬ 300 < ts.length := by
    have : ¬ (300 : Int) < ts.length := by simpa using h1
    omega
  repeat (first | (refine M0 ?_; first | refine SL ?_ | refine SB fun _ _ => ?_) | (refine M1 ?_; first | refine SC ?_ | refine SD ?_) | (refine M2 ?_; refine SE ?_) | (refine M3 ?_; first | refine SG ?_ | refine SF ?_) | (refine M4 ?_; refine SR ?_) | (refine M5 ?_; first | exact M7 | refine YM ?_ | refine YN ?_ ?_))
  refine XC.cond _ rfl (fun h2 => absurd hE (by simpa using h2)) (fun h2 => ?_)
  repeat (first | (refine M0 ?_; first | refine SL ?_ | refine SB fun _ _ => ?_) | (refine M1 ?_; first | refine SC ?_ | refine SD ?_) | (refine M2 ?_; refine SE ?_) | (refine M3 ?_; first | refine SG ?_ | refine SF ?_) | (refine M4 ?_; refine SR ?_) | (refine M5 ?_; first | exact M7 | refine YM ?_ | refine YN ?_ ?_))
  refine XL.call (fst := []) (cap := []) (ck rfl) rfl rfl rfl (List.Sublist.refl _) (fun w1 v w2 => AllR b s ts w1 v w2)
    (fun w1 S1 => (all_any (p := p) (q := q) (r := ⟨A, ts.length, c⟩) (hb.sys S1) (hq.arg S1) (ht.arg S1) ho hs (by omega)).mono fun e w' ⟨v, h, h4⟩ => ⟨v, h, h4, h4.2⟩) (fun w1 v w2 S1 hR hB S2 => ?_)
  rcases hR.1 with ⟨hbad, rm, ms, rfl, hrow, hms⟩ | ⟨k, gf, hbad, rfl, hgf, hcell⟩
  · simp only [svV]
    repeat (first | (refine M0 ?_; first | refine SL ?_ | refine SB fun _ _ => ?_ | refine Y4 (Ev.makeI targ_con rfl) ?_ | refine Y4 (Ev.call (f := 47) (ck rfl) rfl (fun w S => asNil_any _ w)) ?_) | (refine M1 ?_; first | refine SC ?_ | refine SD ?_) | (refine M2 ?_; refine SE ?_) | (refine M3 ?_; first | refine SG ?_ | refine SF ?_ | refine YF (Ev.makeI targ_con rfl) ?_ | refine YF (Ev.call (f := 47) (ck rfl) rfl (fun w S => asNil_any _ w)) ?_) | (refine M4 ?_; refine SR ?_) | (refine M5 ?_; first | exact M7 | refine YM ?_ | refine YN ?_ ?_))
    refine XE.retg tok Tryz.results30 rfl (by simp only [and_self, and_true]) (fun w' S => ?_)
    have hk : Keep (Btw w1.heap.size w2.heap.size) w2 _ := Keep.made S1 (Nat.le_refl _)
    have hcl : ∀ j, Btw w1.heap.size w2.heap.size j → Btw w.heap.size w'.heap.size j := fun j hj => ⟨Nat.le_trans S1.size hj.1, Nat.lt_of_lt_of_le hj.2 S.size⟩
    have hkk := (hk.new (g := _) (o := _) (by assumption)).sysT S rfl
    refine ⟨_, rfl, .inr ⟨runE_none hE h3 hbad, hE, by omega, badAt_errs hbad, rm, ms, rfl, ⟨(hrow.rd.keep hkk).mono hcl, hrow.max, fun m hm => ?_⟩, hms⟩, S2.toBelow.trans S.toBelow⟩
    obtain ⟨i1, i2⟩ := hrow.ins m hm
    exact ⟨(i1.keep hkk).mono hcl, (i2.keep hkk).mono hcl⟩
  · repeat (first | (refine M0 ?_; first | refine SL ?_ | refine SB fun _ _ => ?_ | refine Y4 (Ev.makeI targ_con rfl) ?_) | (refine M1 ?_; first | refine SC ?_ | refine SD ?_) | (refine M2 ?_; refine SE ?_) | (refine M3 ?_; first | refine SG ?_ | refine SF ?_ | refine YF (Ev.makeI targ_con rfl) ?_) | (refine M4 ?_; refine SR ?_) | (refine M5 ?_; first | exact M7 | refine YM ?_ | refine YN ?_ ?_))
    rename_i gt hgt
    have hgf2 : gf < w2.heap.size := (Array.getElem?_eq_some_iff.1 hcell).1
    have hL2 : Laid w2 := hL.below S2.toBelow
    refine XL.callT (fst := []) (cap := []) (B' := gt) 0 (ck rfl) rfl rfl rfl rfl rfl (fun w3 S3 => asHit_any (gf := gf) (hL2.sys S3 hL.pos) (S3.own _ List.mem_cons_self).2) ?_
    have hnk : ∀ j, j ∈ [gt, g4, g3] → j ≠ gf := fun j hj e2 => by
      rcases List.mem_cons.1 hj with rfl | hj
      · omega
      · have := S1.keyLt j hj
        omega
    have hcv : w2.cell? ((⟨gf, 0, none⟩ : Addr).add 1) = some (.int .i64 (errAt b s ts k)) := by
      rw [add_off]; simp [World.cell?, hcell]
    repeat (first | (refine M0 ?_; first | refine SL ?_ | refine SB fun _ _ => ?_ | refine Y4 (Ev.load_far tok (ad := (⟨gf, 0, none⟩ : Addr).add 1) rfl rfl hgf2 (fun e he => hnk e.1 (List.mem_map.2 ⟨e, he, rfl⟩)) hcv) ?_) | (refine M1 ?_; first | refine SC ?_ | refine SD ?_) | (refine M2 ?_; refine SE ?_) | (refine M3 ?_; first | refine SG ?_ | refine SF ?_ | refine YF (Ev.load_far tok (ad := (⟨gf, 0, none⟩ : Addr).add 1) rfl rfl hgf2 (fun e he => hnk e.1 (List.mem_map.2 ⟨e, he, rfl⟩)) hcv) ?_) | (refine M4 ?_; refine SR ?_) | (refine M5 ?_; first | exact M7 | refine YM ?_ | refine YN ?_ ?_))
    refine XE.retg tok Tryz.results30 rfl (by simp only [and_self, and_true]) (fun w' S => ?_)
    exact ⟨_, rfl, .inl ⟨by rw [runE_some hE h3 hbad]; exact badAt_err hbad, by rw [runE_some hE h3 hbad]; rfl⟩, S2.toBelow.trans S.toBelow⟩
end Go.Proofs.YtmckmlmfilmiaaaGreatDoor.X
/-
  The walks of passed and of Stay.
-/
namespace Go.Proofs.YtmckmlmfilmiaaaGreatDoor.X
open Go Go.RowKit Go.Proofs.YtmckmlmfilmiaaaGreatDoor.Bs
set_option linter.unusedVariables false
/-- the level of volume v is above lim. -/
def overB (b : Bas) (lim v : Int) : Bool := decide (lim * den b v < num b v)
theorem lim_in {b : Bas} (ho : Ok b) {lim : Int} (hl : -20000 ≤ lim ∧ lim ≤ 20000) (v : Int) : i64in (lim * den b v) := by
  have hd := den_pos ho.rowsOk v
  unfold i64in
  have h1 : -(20000 * den b v) ≤ lim * den b v := by
    have := Int.mul_le_mul_of_nonneg_right hl.1 (show 0 ≤ den b v by omega)
    omega
  have h2 : lim * den b v ≤ 20000 * den b v := Int.mul_le_mul_of_nonneg_right hl.2 (show 0 ≤ den b v by omega)
  omega
section
variable {p : BV} {b : Bas} {lim : Int} {w : World} {gb gl : Nat}
set_option maxHeartbeats 4000000 in
theorem passed1_any {m : Mom} (h1 : w.heap[gb]? = some (cel 25 (basC p b))) (h2 : w.heap[gl]? = some (cel 3 [.int .i64 lim])) (hb : BasAt w w.heap.size p b) (ho : Ok b) (hv : (b.row 0).vol ≤ m.s.vol ∧ m.s.vol ≤ 1000000000) (hl : -20000 ≤ lim ∧ lim ≤ 20000) :
    Calls Tryz.prog 49 #[.agg ⟨m.c⟩, .pointer (some ⟨gb, 0, none⟩), .pointer (some ⟨gl, 0, none⟩)] w fun e w' => e = .returned (.bool (overB b lim m.s.vol)) ∧ Below w.heap.size w w' := by
  have hl1 := (Array.getElem?_eq_some_iff.1 h1).1
  have hl2 := (Array.getElem?_eq_some_iff.1 h2).1
  have hk := lim_in ho hl m.s.vol
  simp only [basC] at h1
  have hc1 : ∀ j u, (basC p b)[j]? = some u → w.cell? ((⟨gb, 0, none⟩ : Addr).add j) = some u := fun j u hj => by
    rw [add_off]; simpa [World.cell?, h1, basC] using hj
  have hc2 : w.cell? ⟨gl, 0, none⟩ = some (.int .i64 lim) := by simp [World.cell?, h2]
  simp only [Mom.c, momC, staC, floC, List.cons_append, List.nil_append]
  refine enter Tryz.func49 rfl Tryz.ntmps49 rfl ?_; simp only [frame, Nat.zero_add, Nat.reduceAdd]
  repeat (first | (refine M0 ?_; first | refine SL ?_ | refine SB fun _ _ => ?_ | refine Y4 (Ev.load_old_agg tok (basC p b) rfl rfl rfl hl1 hc1) ?_ | refine Y4 (Ev.load_old tok rfl rfl hl2 hc2) ?_ | refine Y4 (Ev.call (f := 50) (ck rfl) rfl (fun w S => (exact_any (hb.sys S) ho.rowsOk hv :))) ?_ | refine Y4 (Ev.call (f := 51) (ck rfl) rfl (fun w S => (above_any (n := num b m.s.vol) (d := den b m.s.vol) hk w :))) ?_) | (refine M1 ?_; first | refine SC ?_ | refine SD ?_) | (refine M2 ?_; refine SE ?_) | (refine M3 ?_; first | refine SG ?_ | refine SF ?_ | refine YF (Ev.load_old_agg tok (basC p b) rfl rfl rfl hl1 hc1) ?_ | refine YF (Ev.load_old tok rfl rfl hl2 hc2) ?_ | refine YF (Ev.call (f := 50) (ck rfl) rfl (fun w S => (exact_any (hb.sys S) ho.rowsOk hv :))) ?_ | refine YF (Ev.call (f := 51) (ck rfl) rfl (fun w S => (above_any (n := num b m.s.vol) (d := den b m.s.vol) hk w :))) ?_) | (refine M4 ?_; refine SR ?_) | (refine M5 ?_; first | exact M7 | refine YM ?_ | refine YN ?_ ?_))
  refine XE.retg tok Tryz.results49 rfl (by simp only [and_self, and_true]) (fun w' S => ?_)
  exact ⟨rfl, S.toBelow⟩
theorem MomRow.len {ok : Nat → Prop} {r : SV} {ms : List Mom} (h : MomRow w ok r ms) : r.n = ms.length := by
  have := h.rd.len
  rw [flat_len Mom.c 7 Mom.c_len] at this
  omega
theorem MomRow.mom {ok : Nat → Prop} {ad : Addr} {n c : Nat} {ms : List Mom} (h : MomRow w ok ⟨some ad, n, c⟩ ms) {k : Nat} {m : Mom} (hk : ms[k]? = some m) : ∀ j u, m.c[j]? = some u → w.cell? ((ad.add (k * 7)).add j) = some u := fun j u hj => by
  have hn := h.len
  have hkl := (List.getElem?_eq_some_iff.1 hk).1
  obtain ⟨ad', e, _, h1⟩ := h.rd.at_ (by simp only at hn ⊢; omega)
  cases e
  have hj3 : j < 7 := (List.getElem?_eq_some_iff.1 hj).1
  have e2 := flat_at Mom.c 7 Mom.c_len ms k j m hk hj3
  have := h1 (k * 7 + j) u (e2.trans hj)
  rw [add_add]
  exact this
set_option maxHeartbeats 4000000 in
theorem index_any {r : SV} {ms : List Mom} (hr : MomRow w (Lt w.heap.size) r ms) (h1 : w.heap[gb]? = some (cel 25 (basC p b))) (h2 : w.heap[gl]? = some (cel 3 [.int .i64 lim])) (hb : BasAt w w.heap.size p b) (ho : Ok b)
    (hv : ∀ m, m ∈ ms → (b.row 0).vol ≤ m.s.vol ∧ m.s.vol ≤ 1000000000) (hl : -20000 ≤ lim ∧ lim ≤ 20000) :
    Calls Tryz.prog 48 #[svV r, .func (.func 49) #[] #[.pointer (some ⟨gb, 0, none⟩), .pointer (some ⟨gl, 0, none⟩)]] w fun e w' => e = .returned (.int .i64 (match ms.findIdx? fun m => overB b lim m.s.vol with | some i => ((i : Nat) : Int) | none => -1)) ∧ Below w.heap.size w w' := by
  obtain ⟨A, n, c⟩ := r
  have hn := hr.len
  simp only at hn
  subst hn
  have hmax := hr.max
  simp only at hmax
  simp only [svV]
  refine enter Tryz.func48 rfl Tryz.ntmps48 rfl ?_; simp only [frame, Nat.zero_add, Nat.reduceAdd]
  repeat (first | (refine M0 ?_; first | refine SL ?_ | refine SB fun _ _ => ?_) | (refine M1 ?_; first | refine SC ?_ | refine SD ?_) | (refine M2 ?_; refine SE ?_) | (refine M3 ?_; first | refine SG ?_ | refine SF ?_) | (refine M4 ?_; refine SR ?_) | (refine M5 ?_; first | exact M7 | refine YM ?_ | refine YN ?_ ?_))
  refine XC.loopk [0, 1, 7] rfl (fun k : Nat => [(8, .int .i64 (k : Nat))]) (fun _ => []) (fun _ => w) (fun k => k ≤ ms.length ∧ ∀ j m, j < k → ms[j]? = some m → overB b lim m.s.vol = false) (fun k => ms.length - k) 0 ⟨Nat.zero_le _, fun j m h => absurd h (by omega)⟩ ZZSUB (fun _ h => h) ?_
  rintro k ⟨hk, h0⟩
  dsimp only [List.cons_append, List.nil_append]
  repeat (first | (refine M0 ?_; first | refine SL ?_ | refine SB fun _ _ => ?_) | (refine M1 ?_; first | refine SC ?_ | refine SD ?_) | (refine M2 ?_; refine SE ?_) | (refine M3 ?_; first | refine SG ?_ | refine SF ?_) | (refine M4 ?_; refine SR ?_) | (refine M5 ?_; first | exact M7 | refine YM ?_ | refine YN ?_ ?_))
  refine XC.cond _ rfl (fun h3 => ?_) (fun h3 => ?_)
  · have hkn : k < ms.length := by simpa using h3
    obtain ⟨ad, rfl, hlt, _⟩ := hr.rd.at_ (by simp only; omega)
    have hmk : ms[k]? = some ms[k] := List.getElem?_eq_getElem hkn
    have hcell := hr.mom hmk
    have hvk := hv ms[k] (List.getElem_mem hkn)
    repeat (first | (refine M0 ?_; first | refine SL ?_ | refine SB fun _ _ => ?_ | refine Y4 (Ev.load_old_agg tok ms[k].c rfl rfl rfl (add_lt hlt) hcell) ?_ | refine Y4 (Ev.callv (f := 49) (fst := []) (cap := [.pointer (some ⟨gb, 0, none⟩), .pointer (some ⟨gl, 0, none⟩)]) (ck rfl) rfl rfl (fun w S => (passed1_any (p := p) (b := b) (lim := lim) (m := ms[k]) ((S.toBelow.block gb (Array.getElem?_eq_some_iff.1 h1).1).trans h1) ((S.toBelow.block gl (Array.getElem?_eq_some_iff.1 h2).1).trans h2) (hb.sys S) ho hvk hl :))) ?_) | (refine M1 ?_; first | refine SC ?_ | refine SD ?_) | (refine M2 ?_; refine SE ?_) | (refine M3 ?_; first | refine SG ?_ | refine SF ?_ | refine YF (Ev.load_old_agg tok ms[k].c rfl rfl rfl (add_lt hlt) hcell) ?_ | refine YF (Ev.callv (f := 49) (fst := []) (cap := [.pointer (some ⟨gb, 0, none⟩), .pointer (some ⟨gl, 0, none⟩)]) (ck rfl) rfl rfl (fun w S => (passed1_any (p := p) (b := b) (lim := lim) (m := ms[k]) ((S.toBelow.block gb (Array.getElem?_eq_some_iff.1 h1).1).trans h1) ((S.toBelow.block gl (Array.getElem?_eq_some_iff.1 h2).1).trans h2) (hb.sys S) ho hvk hl :))) ?_) | (refine M4 ?_; refine SR ?_) | (refine M5 ?_; first | exact M7 | refine YM ?_ | refine YN ?_ ?_))
    refine XC.cond _ rfl (fun h4 => ?_) (fun h4 => ?_)
    · repeat (first | (refine M0 ?_; first | refine SL ?_ | refine SB fun _ _ => ?_) | (refine M1 ?_; first | refine SC ?_ | refine SD ?_) | (refine M2 ?_; refine SE ?_) | (refine M3 ?_; first | refine SG ?_ | refine SF ?_) | (refine M4 ?_; refine SR ?_) | (refine M5 ?_; first | exact M7 | refine YM ?_ | refine YN ?_ ?_))
      refine XE.retg tok Tryz.results48 rfl (by simp only [and_self, and_true]) (fun w' S => ?_)
      have : ms.findIdx? (fun m => overB b lim m.s.vol) = some k := by
        rw [List.findIdx?_eq_some_iff_getElem]
        exact ⟨hkn, h4, fun j hj => by simpa using h0 j _ hj (List.getElem?_eq_getElem (by omega))⟩
      rw [this]
      exact ⟨rfl, S.toBelow⟩
    · repeat (first | (refine M0 ?_; first | refine SL ?_ | refine SB fun _ _ => ?_) | (refine M1 ?_; first | refine SC ?_ | refine SD ?_) | (refine M2 ?_; refine SE ?_) | (refine M3 ?_; first | refine SG ?_ | refine SF ?_) | (refine M4 ?_; refine SR ?_) | (refine M5 ?_; first | exact M7 | refine YM ?_ | refine YN ?_ ?_))
      refine XE.round (k + 1) ⟨hkn, fun j m hj hm => ?_⟩ (by omega) ZZSUB (fun _ h => h)
      rcases Nat.lt_or_ge j k with h5 | h5
      · exact h0 j m h5 hm
      · have : j = k := by omega
        subst this
        rw [hmk] at hm
        cases hm
        exact h4
  · have hkn : ¬ k < ms.length := by simpa using h3
    repeat (first | (refine M0 ?_; first | refine SL ?_ | refine SB fun _ _ => ?_) | (refine M1 ?_; first | refine SC ?_ | refine SD ?_) | (refine M2 ?_; refine SE ?_) | (refine M3 ?_; first | refine SG ?_ | refine SF ?_) | (refine M4 ?_; refine SR ?_) | (refine M5 ?_; first | exact M7 | refine YM ?_ | refine YN ?_ ?_))
    refine XE.retg tok Tryz.results48 rfl (by simp only [and_self, and_true]) (fun w' S => ?_)
    have : ms.findIdx? (fun m => overB b lim m.s.vol) = none := by
      rw [List.findIdx?_eq_none_iff]
      intro m hm
      obtain ⟨j, hj, e⟩ := List.mem_iff_getElem.1 hm
      exact h0 j m (by omega) (by rw [List.getElem?_eq_getElem hj, e])
    rw [this]
    exact ⟨rfl, S.toBelow⟩
/-- the first moment whose level is above lim. -/
def firstOver (b : Bas) (lim : Int) (ms : List Mom) : Nat := ms.findIdx fun m => overB b lim m.s.vol
theorem first_some {b : Bas} {lim : Int} {ms : List Mom} {i : Nat} (h : ms.findIdx? (fun m => overB b lim m.s.vol) = some i) : firstOver b lim ms = i ∧ i < ms.length := by
  have h1 := List.findIdx?_eq_some_iff_getElem.1 h
  obtain ⟨hi, h2, h3⟩ := h1
  refine ⟨?_, hi⟩
  unfold firstOver
  rw [List.findIdx_eq hi]
  exact ⟨h2, fun j hj => by simpa using h3 j hj⟩
theorem first_none {b : Bas} {lim : Int} {ms : List Mom} (h : ms.findIdx? (fun m => overB b lim m.s.vol) = none) : firstOver b lim ms = ms.length := by
  rw [List.findIdx?_eq_none_iff] at h
  unfold firstOver
  exact List.findIdx_eq_length.2 fun m hm => by simpa using h m hm
set_option maxHeartbeats 4000000 in
theorem passed_any {r : SV} {ms : List Mom} (hr : MomRow w (Lt w.heap.size) r ms) (hb : BasAt w w.heap.size p b) (ho : Ok b)
    (hv : ∀ m, m ∈ ms → (b.row 0).vol ≤ m.s.vol ∧ m.s.vol ≤ 1000000000) (hl : -20000 ≤ lim ∧ lim ≤ 20000) :
    Calls Tryz.prog 32 #[basV p b, svV r, .int .i64 lim] w fun e w' => e = .returned (.int .i64 ((firstOver b lim ms : Nat) : Int)) ∧ Below w.heap.size w w' := by
  have hmax := hr.max
  have hn := hr.len
  simp only [basV, basC, svV]
  refine enter Tryz.func32 rfl Tryz.ntmps32 rfl ?_; simp only [frame, Nat.zero_add, Nat.reduceAdd]
  repeat (first | (refine M0 ?_; first | refine SL ?_ | refine SB fun _ _ => ?_ | refine Y4 (Ev.makeFunc rfl rfl) ?_) | (refine M1 ?_; first | refine SC ?_ | refine SD ?_) | (refine M2 ?_; refine SE ?_) | (refine M3 ?_; first | refine SG ?_ | refine SF ?_ | refine YF (Ev.makeFunc rfl rfl) ?_) | (refine M4 ?_; refine SR ?_) | (refine M5 ?_; first | exact M7 | refine YM ?_ | refine YN ?_ ?_))
  rename_i g3 hg3 g5 hg5
  repeat (first | (refine M0 ?_; first | refine SL ?_ | refine SB fun _ _ => ?_ | refine Y4 (Ev.callv (f := 48) (fst := []) (cap := []) (ck rfl) rfl rfl (fun w S => (index_any (p := p) (b := b) (lim := lim) (gb := g3) (gl := g5) (r := r) (ms := ms) ⟨hr.rd.arg S, hr.max, fun m hm => ⟨(hr.ins m hm).1.arg S, (hr.ins m hm).2.arg S⟩⟩ (S.own (g3, _) (List.mem_cons_of_mem _ List.mem_cons_self)).2 (S.own (g5, _) List.mem_cons_self).2 (hb.sys S) ho hv hl :))) ?_) | (refine M1 ?_; first | refine SC ?_ | refine SD ?_) | (refine M2 ?_; refine SE ?_) | (refine M3 ?_; first | refine SG ?_ | refine SF ?_ | refine YF (Ev.callv (f := 48) (fst := []) (cap := []) (ck rfl) rfl rfl (fun w S => (index_any (p := p) (b := b) (lim := lim) (gb := g3) (gl := g5) (r := r) (ms := ms) ⟨hr.rd.arg S, hr.max, fun m hm => ⟨(hr.ins m hm).1.arg S, (hr.ins m hm).2.arg S⟩⟩ (S.own (g3, _) (List.mem_cons_of_mem _ List.mem_cons_self)).2 (S.own (g5, _) List.mem_cons_self).2 (hb.sys S) ho hv hl :))) ?_) | (refine M4 ?_; refine SR ?_) | (refine M5 ?_; first | exact M7 | refine YM ?_ | refine YN ?_ ?_))
  cases hx : ms.findIdx? fun m => overB b lim m.s.vol with
  | none =>
    refine XC.cond_t rfl ?_
    repeat (first | (refine M0 ?_; first | refine SL ?_ | refine SB fun _ _ => ?_) | (refine M1 ?_; first | refine SC ?_ | refine SD ?_) | (refine M2 ?_; refine SE ?_) | (refine M3 ?_; first | refine SG ?_ | refine SF ?_) | (refine M4 ?_; refine SR ?_) | (refine M5 ?_; first | exact M7 | refine YM ?_ | refine YN ?_ ?_))
    refine XE.retg tok Tryz.results32 rfl (by simp only [and_self, and_true]) (fun w' S => ?_)
    rw [first_none hx, ← hn]
    exact ⟨rfl, S.toBelow⟩
  | some i =>
    obtain ⟨e1, e2⟩ := first_some hx
    refine XC.cond _ rfl (fun h4 => absurd h4 (by simp)) (fun h4 => ?_)
    repeat (first | (refine M0 ?_; first | refine SL ?_ | refine SB fun _ _ => ?_) | (refine M1 ?_; first | refine SC ?_ | refine SD ?_) | (refine M2 ?_; refine SE ?_) | (refine M3 ?_; first | refine SG ?_ | refine SF ?_) | (refine M4 ?_; refine SR ?_) | (refine M5 ?_; first | exact M7 | refine YM ?_ | refine YN ?_ ?_))
    refine XE.retg tok Tryz.results32 rfl (by simp only [and_self, and_true]) (fun w' S => ?_)
    rw [e1]
    exact ⟨rfl, S.toBelow⟩
end
/-- what Stay answers: the hour and the fault. -/
noncomputable def stayE (b : Bas) (s : Sta) (ts : List Tick) (lim : Int) : Int := if runE b s ts ≠ 0 then runE b s ts else if outB lim (b.row 0).level 20000 = true then 7 else 0
noncomputable def stayN (b : Bas) (s : Sta) (ts : List Tick) (lim : Int) : Int := if stayE b s ts lim ≠ 0 then 0 else (((momsAt b s ts ts.length).findIdx fun x => overB b lim x.1.vol : Nat) : Int)
theorem stay_run {b : Bas} {s : Sta} {ts : List Tick} {lim : Int} (h : runE b s ts ≠ 0) : stayE b s ts lim = runE b s ts ∧ stayN b s ts lim = 0 := by
  have : stayE b s ts lim = runE b s ts := by unfold stayE; rw [if_pos h]
  exact ⟨this, by unfold stayN; rw [this, if_pos h]⟩
theorem stay_out {b : Bas} {s : Sta} {ts : List Tick} {lim : Int} (h : runE b s ts = 0) (h1 : outB lim (b.row 0).level 20000 = true) : stayE b s ts lim = 7 ∧ stayN b s ts lim = 0 := by
  have : stayE b s ts lim = 7 := by unfold stayE; rw [if_neg (by simp [h]), if_pos h1]
  exact ⟨this, by unfold stayN; rw [this, if_pos (by decide)]⟩
theorem stay_in {b : Bas} {s : Sta} {ts : List Tick} {lim : Int} (h : runE b s ts = 0) (h1 : outB lim (b.row 0).level 20000 = false) : stayE b s ts lim = 0 ∧ stayN b s ts lim = (((momsAt b s ts ts.length).findIdx fun x => overB b lim x.1.vol : Nat) : Int) := by
  have : stayE b s ts lim = 0 := by unfold stayE; rw [if_neg (by simp [h]), if_neg (by simp [h1])]
  exact ⟨this, by unfold stayN; rw [this, if_neg (by simp)]⟩
theorem momsAt_ok {b : Bas} {s : Sta} {ts : List Tick} (ho : Ok b) (hs : StaOk b s) (h : ∀ k, k < ts.length → errAt b s ts k = 0) {ms : List Mom} (hms : ms.map Mom.p = momsAt b s ts ts.length) : ∀ m, m ∈ ms → (b.row 0).vol ≤ m.s.vol ∧ m.s.vol ≤ 1000000000 := by
  intro m hm
  have h1 : m.p ∈ momsAt b s ts ts.length := by rw [← hms]; exact List.mem_map.2 ⟨m, hm, rfl⟩
  unfold momsAt at h1
  obtain ⟨i, hi, e⟩ := List.mem_map.1 h1
  have hi' : i < ts.length := by simpa using hi
  have := (staAt_ok ho hs (ts := ts) (i + 1) fun j hj => h j (by omega)).vol
  have e2 : staAt b s ts (i + 1) = m.s := congrArg Prod.fst e
  rw [e2] at this
  exact this
theorem first_moms {b : Bas} {s : Sta} {ts : List Tick} {lim : Int} {ms : List Mom} (hms : ms.map Mom.p = momsAt b s ts ts.length) : firstOver b lim ms = (momsAt b s ts ts.length).findIdx fun x => overB b lim x.1.vol := by
  rw [← hms, List.findIdx_map]
  rfl
set_option maxHeartbeats 8000000 in
theorem Stay_any {p : BV} {b : Bas} {q r : SV} {s : Sta} {ts : List Tick} {lim : Int} {w : World} (hL : Laid w) (hb : BasAt w w.heap.size p b) (hq : IntsAt w (Lt w.heap.size) q s.fil) (ht : TksAt w (Lt w.heap.size) r ts) :
    Calls Tryz.prog 9 #[basV p b, staV q s, svV r, .int .i64 lim] w fun e w' => e = .returned (.tuple ⟨[.int .i64 (stayN b s ts lim), .int .i64 (stayE b s ts lim)]⟩) ∧ Below w.heap.size w w' := by
  simp only [basV, basC, staV, staC, svV]
  refine enter Tryz.func9 rfl Tryz.ntmps9 rfl ?_; simp only [frame, Nat.zero_add, Nat.reduceAdd]
  repeat (first | (refine M0 ?_; first | refine SL ?_ | refine SB fun _ _ => ?_) | (refine M1 ?_; first | refine SC ?_ | refine SD ?_) | (refine M2 ?_; refine SE ?_) | (refine M3 ?_; first | refine SG ?_ | refine SF ?_) | (refine M4 ?_; refine SR ?_) | (refine M5 ?_; first | exact M7 | refine YM ?_ | refine YN ?_ ?_))
  refine XL.call (fst := []) (cap := []) (ck rfl) rfl rfl rfl (List.Sublist.refl _) (fun w1 v w2 => RunR b s ts w1 v w2)
    (fun w1 S1 => (run_any (p := p) (q := q) (r := r) (hL.below S1.toBelow) (hb.sys S1) (hq.arg S1) (ht.arg S1)).mono fun e w' ⟨v, h, h4⟩ => ⟨v, h, h4, h4.2⟩) (fun w1 v w2 S1 hR hB S2 => ?_)
  rcases hR.1 with ⟨h1, rfl⟩ | ⟨h1, hE, h3, h4, rm, ms, rfl, hrow, hms⟩
  · repeat (first | (refine M0 ?_; first | refine SL ?_ | refine SB fun _ _ => ?_) | (refine M1 ?_; first | refine SC ?_ | refine SD ?_) | (refine M2 ?_; refine SE ?_) | (refine M3 ?_; first | refine SG ?_ | refine SF ?_) | (refine M4 ?_; refine SR ?_) | (refine M5 ?_; first | exact M7 | refine YM ?_ | refine YN ?_ ?_))
    refine XC.cond _ rfl (fun h5 => ?_) (fun h5 => absurd h1 (by simpa using h5))
    repeat (first | (refine M0 ?_; first | refine SL ?_ | refine SB fun _ _ => ?_) | (refine M1 ?_; first | refine SC ?_ | refine SD ?_) | (refine M2 ?_; refine SE ?_) | (refine M3 ?_; first | refine SG ?_ | refine SF ?_) | (refine M4 ?_; refine SR ?_) | (refine M5 ?_; first | exact M7 | refine YM ?_ | refine YN ?_ ?_))
    refine XE.retg tok Tryz.results9 rfl (by simp only [and_self, and_true]) (fun w' S => ?_)
    obtain ⟨e1, e2⟩ := stay_run (lim := lim) h1
    rw [e1, e2]
    exact ⟨rfl, S2.toBelow.trans S.toBelow⟩
  · obtain ⟨ho, hs⟩ := staOk_of hE
    have hbb := hb.below S2.toBelow
    simp only [svV]
    repeat (first | (refine M0 ?_; first | refine SL ?_ | refine SB fun _ _ => ?_ | refine Y4 (Ev.call (f := 31) (ck rfl) rfl (fun w S => (beyond_any (p := p) (hbb.sys S) ho.rowsOk lim :))) ?_) | (refine M1 ?_; first | refine SC ?_ | refine SD ?_) | (refine M2 ?_; refine SE ?_) | (refine M3 ?_; first | refine SG ?_ | refine SF ?_ | refine YF (Ev.call (f := 31) (ck rfl) rfl (fun w S => (beyond_any (p := p) (hbb.sys S) ho.rowsOk lim :))) ?_) | (refine M4 ?_; refine SR ?_) | (refine M5 ?_; first | exact M7 | refine YM ?_ | refine YN ?_ ?_))
    refine XC.cond _ rfl (fun h5 => ?_) (fun h5 => ?_)
    · repeat (first | (refine M0 ?_; first | refine SL ?_ | refine SB fun _ _ => ?_) | (refine M1 ?_; first | refine SC ?_ | refine SD ?_) | (refine M2 ?_; refine SE ?_) | (refine M3 ?_; first | refine SG ?_ | refine SF ?_) | (refine M4 ?_; refine SR ?_) | (refine M5 ?_; first | exact M7 | refine YM ?_ | refine YN ?_ ?_))
      refine XE.retg tok Tryz.results9 rfl (by simp only [and_self, and_true]) (fun w' S => ?_)
      obtain ⟨e1, e2⟩ := stay_out h1 h5
      rw [e1, e2]
      exact ⟨rfl, S2.toBelow.trans S.toBelow⟩
    · have h6 := outB_f.1 h5
      have h7 := ho.rowsOk.level 0 (by have := ho.rowsOk.n2; omega)
      have hl : -20000 ≤ lim ∧ lim ≤ 20000 := by omega
      have hk : Keep (Btw w1.heap.size w2.heap.size) w2 _ := Keep.made S1 (Nat.le_refl _)
      repeat (first | (refine M0 ?_; first | refine SL ?_ | refine SB fun _ _ => ?_ | refine Y4 (Ev.call (f := 32) (ck rfl) rfl (fun w S => (passed_any (p := p) (r := rm) (ms := ms) ⟨hrow.rd.sys S hk, hrow.max, fun m hm => ⟨(hrow.ins m hm).1.sys S hk, (hrow.ins m hm).2.sys S hk⟩⟩ (hbb.sys S) ho (momsAt_ok ho hs h4 hms) hl :))) ?_) | (refine M1 ?_; first | refine SC ?_ | refine SD ?_) | (refine M2 ?_; refine SE ?_) | (refine M3 ?_; first | refine SG ?_ | refine SF ?_ | refine YF (Ev.call (f := 32) (ck rfl) rfl (fun w S => (passed_any (p := p) (r := rm) (ms := ms) ⟨hrow.rd.sys S hk, hrow.max, fun m hm => ⟨(hrow.ins m hm).1.sys S hk, (hrow.ins m hm).2.sys S hk⟩⟩ (hbb.sys S) ho (momsAt_ok ho hs h4 hms) hl :))) ?_) | (refine M4 ?_; refine SR ?_) | (refine M5 ?_; first | exact M7 | refine YM ?_ | refine YN ?_ ?_))
      refine XE.retg tok Tryz.results9 rfl (by simp only [and_self, and_true]) (fun w' S => ?_)
      obtain ⟨e1, e2⟩ := stay_in h1 h5
      rw [e1, e2, ← first_moms hms]
      exact ⟨rfl, S2.toBelow.trans S.toBelow⟩
end Go.Proofs.YtmckmlmfilmiaaaGreatDoor.X
/-
  The example's basin in plain words.
-/
namespace Go.Proofs.YtmckmlmfilmiaaaGreatDoor.Bs
open Go.Proofs.YtmckmlmfilmiaaaGreatDoor.X
def exB : Bas := ⟨[⟨-1000, 0⟩, ⟨0, 1000000⟩, ⟨2000, 5000000⟩], 100, 3000, 500, [⟨⟨#[108, 111, 119]⟩, 200, 300, 50000⟩, ⟨⟨#[104, 105, 103, 104]⟩, 1000, 200, 400000⟩]⟩
def exS : Sta := ⟨1000000, [0, 0]⟩
def exT : Tick := ⟨2500, 60000, 0⟩
def exTs : List Tick := [exT, exT, exT]
end Go.Proofs.YtmckmlmfilmiaaaGreatDoor.Bs
/-
  The examples' functions; Volume at a level that is out of the basin; Awake.
-/
namespace Go.Proofs.YtmckmlmfilmiaaaGreatDoor.X
open Go Go.RowKit Go.Proofs.YtmckmlmfilmiaaaGreatDoor.Bs
set_option linter.unusedVariables false
structure BasAtP (w : World) (ok : Nat → Prop) (p : BV) (b : Bas) : Prop where
  rows : ReadsP w ok 2 p.A p.n (b.rows.flatMap rowC)
  pols : ReadsP w ok 4 p.A2 p.n2 (b.pols.flatMap polC)
  cap : p.n ≤ p.c
  len : p.n ≤ 9223372036854775807
  len2 : p.n2 ≤ 9223372036854775807
  names : ∀ q, q ∈ b.pols → q.name.size ≤ 9223372036854775807
section
variable {w w' w0 : World} {ok ok' : Nat → Prop} {B : Nat} {p : BV} {b : Bas} {L : Lo}
end
end Go.Proofs.YtmckmlmfilmiaaaGreatDoor.X
/-
  The law BasinSteps.
-/
namespace Go.Proofs.YtmckmlmfilmiaaaGreatDoor.X
open Go Go.RowKit Go.Proofs.YtmckmlmfilmiaaaGreatDoor.Bs
set_option linter.unusedVariables false
end Go.Proofs.YtmckmlmfilmiaaaGreatDoor.X
/-
  Lists of states and of flows in memory; the walk of Run.
-/
namespace Go.Proofs.YtmckmlmfilmiaaaGreatDoor.Bs
/-- what Run answers. -/
noncomputable def runS (b : Bas) (s : Sta) (ts : List Tick) : List Sta := if runE b s ts ≠ 0 then [] else (List.range ts.length).map fun i => staAt b s ts (i + 1)
noncomputable def runF (b : Bas) (s : Sta) (ts : List Tick) : List Flo := if runE b s ts ≠ 0 then [] else (List.range ts.length).map fun i => floAt b s ts i
theorem run_n {b : Bas} {s : Sta} {ts : List Tick} (h : runE b s ts ≠ 0) : runS b s ts = [] ∧ runF b s ts = [] := by simp [runS, runF, h]
theorem run_0 {b : Bas} {s : Sta} {ts : List Tick} (h : runE b s ts = 0) : runS b s ts = (momsAt b s ts ts.length).map (·.1) ∧ runF b s ts = (momsAt b s ts ts.length).map (·.2) := by
  simp [runS, runF, h, momsAt]
end Go.Proofs.YtmckmlmfilmiaaaGreatDoor.Bs
namespace Go.Proofs.YtmckmlmfilmiaaaGreatDoor.X
open Go Go.RowKit Go.Proofs.YtmckmlmfilmiaaaGreatDoor.Bs
set_option linter.unusedVariables false
structure StaI where
  s : Sta
  q : SV
structure FloI where
  f : Flo
  r : SV
def StaI.c (a : StaI) : List Value := staC a.q a.s
def FloI.c (a : FloI) : List Value := floC a.r a.f
def staK : Kind StaI := ⟨28, 2, StaI.c, fun a => [hInts a.q a.s.fil], fun _ => rfl⟩
def floK : Kind FloI := ⟨136, 5, FloI.c, fun a => [hInts a.r a.f.taken], fun _ => rfl⟩
def momK : Kind Mom := ⟨138, 7, Mom.c, fun m => [hInts m.q m.s.fil, hInts m.r m.f.taken], Mom.c_len⟩
def Mom.a (m : Mom) : StaI := ⟨m.s, m.q⟩
def Mom.b (m : Mom) : FloI := ⟨m.f, m.r⟩
theorem MomRow.list {w : World} {ok : Nat → Prop} {r : SV} {ms : List Mom} (h : MomRow w ok r ms) : ListAt momK w ok r ms := ⟨h.rd, Nat.le_trans h.max (by decide), fun m hm x hx => by
  have := h.ins m hm
  simp only [momK, List.mem_cons, List.not_mem_nil, or_false] at hx
  rcases hx with rfl | rfl
  · exact this.1
  · exact this.2⟩
/-- what Run leaves. -/
def RunsR (b : Bas) (s : Sta) (ts : List Tick) (w : World) (v : Value) (w' : World) : Prop :=
  ∃ (r1 r2 : SV) (l1 : List StaI) (l2 : List FloI), v = .tuple ⟨[svV r1, svV r2, .int .i64 (runE b s ts)]⟩ ∧ ListAt staK w' (Btw w.heap.size w'.heap.size) r1 l1 ∧ ListAt floK w' (Btw w.heap.size w'.heap.size) r2 l2 ∧
    l1.map (·.s) = runS b s ts ∧ l2.map (·.f) = runF b s ts ∧ Below w.heap.size w w'
end Go.Proofs.YtmckmlmfilmiaaaGreatDoor.X
/-
  The walk of the document's Run.
-/
namespace Go.Proofs.YtmckmlmfilmiaaaGreatDoor.X
open Go Go.RowKit Go.Proofs.YtmckmlmfilmiaaaGreatDoor.Bs
set_option linter.unusedVariables false
/-- what a tick gives. -/
def StepV (b : Bas) (s : Sta) (t : Tick) (v : Value) (new : List Held) : Prop := ∃ q r : SV, v = .tuple ⟨[staV q (outS b s t), floV r (outF b s t), .int .i64 (stepE b s t)]⟩ ∧ new = [hInts q (outS b s t).fil, hInts r (outF b s t).taken]
def RunV (b : Bas) (s : Sta) (ts : List Tick) (v : Value) (new : List Held) : Prop :=
  ∃ (r1 r2 : SV) (l1 : List StaI) (l2 : List FloI), v = .tuple ⟨[svV r1, svV r2, .int .i64 (runE b s ts)]⟩ ∧ new = [hList staK r1 l1, hList floK r2 l2] ∧ l1.map (·.s) = runS b s ts ∧ l2.map (·.f) = runF b s ts
end Go.Proofs.YtmckmlmfilmiaaaGreatDoor.X
/-
  The walk of SameRun on equal runs; the law BasinRuns.
-/
namespace Go.Proofs.YtmckmlmfilmiaaaGreatDoor.X
open Go Go.RowKit Go.Proofs.YtmckmlmfilmiaaaGreatDoor.Bs
set_option linter.unusedVariables false
end Go.Proofs.YtmckmlmfilmiaaaGreatDoor.X
/-
  The walks of the document's stay and Stay; of both Floods.
-/
namespace Go.Proofs.YtmckmlmfilmiaaaGreatDoor.Bs
def Flo.t (f : Flo) (i : Nat) : Int := f.taken[i]?.getD 0
/-- the first tick in which polder i takes water, or -1. -/
def firstF (fs : List Flo) (i : Nat) : Int := match fs.findIdx? fun f => decide (0 < f.t i) with
  | some k => ((k : Nat) : Int)
  | none => -1
noncomputable def floods (b : Bas) (s : Sta) (ts : List Tick) : List Int := if runE b s ts ≠ 0 then [] else (List.range b.pols.length).map (firstF (runF b s ts))
end Go.Proofs.YtmckmlmfilmiaaaGreatDoor.Bs
namespace Go.Proofs.YtmckmlmfilmiaaaGreatDoor.X
open Go Go.RowKit Go.Proofs.YtmckmlmfilmiaaaGreatDoor.Bs
set_option linter.unusedVariables false
theorem runE_0 {b : Bas} {s : Sta} {ts : List Tick} (h : runE b s ts = 0) : staErr b s = 0 ∧ ts.length ≤ 300 ∧ ∀ k, k < ts.length → errAt b s ts k = 0 := by
  unfold runE at h
  split at h
  · rename_i h1; exact absurd h h1
  · rename_i h1
    split at h
    · cases h
    · rename_i h2
      split at h
      · rename_i h3; exact ⟨by simpa using h1, by omega, badAt_errs h3⟩
      · rename_i k h3; exact absurd h (badAt_err h3)
end Go.Proofs.YtmckmlmfilmiaaaGreatDoor.X
/-
  The walks of both Floods.
-/
namespace Go.Proofs.YtmckmlmfilmiaaaGreatDoor.Bs
/-- the first tick from m on in which polder i takes water. -/
def firstG (fs : List Flo) (i m : Nat) : Int := match (fs.drop m).findIdx? fun f => decide (0 < f.t i) with
  | some k => (((m + k : Nat)) : Int)
  | none => -1
end Go.Proofs.YtmckmlmfilmiaaaGreatDoor.Bs
namespace Go.Proofs.YtmckmlmfilmiaaaGreatDoor.X
open Go Go.RowKit Go.Proofs.YtmckmlmfilmiaaaGreatDoor.Bs
set_option linter.unusedVariables false
def intK : Kind Int := ⟨3, 1, fun k => [.int .i64 k], fun _ => [], fun _ => rfl⟩
/-- what run leaves. -/
def MomV (b : Bas) (s : Sta) (ts : List Tick) (v : Value) (new : List Held) : Prop :=
  ∃ (rm : SV) (ms : List Mom), v = .tuple ⟨[svV rm, .int .i64 (runE b s ts)]⟩ ∧ new = [hList momK rm ms] ∧ ms.length ≤ 300 ∧ ms.map (·.s) = runS b s ts ∧ ms.map (·.f) = runF b s ts
theorem run_made {p : BV} {b : Bas} {q r : SV} {s : Sta} {ts : List Tick} {w : World} (hL : Laid w) (hb : BasAt w w.heap.size p b) (hq : IntsAt w (Lt w.heap.size) q s.fil) (ht : TksAt w (Lt w.heap.size) r ts) :
    Calls Tryz.prog 30 #[basV p b, staV q s, svV r] w (Made w (MomV b s ts)) := by
  refine (run_any hL hb hq ht).mono fun e w' ⟨v, h1, h2, h3⟩ => ?_
  rcases h2 with ⟨h4, rfl⟩ | ⟨h4, hE, h5, h6, rm, ms, rfl, hrow, hms⟩
  · obtain ⟨e1, e2⟩ := run_n h4
    refine ⟨_, _, h1, ⟨⟨none, 0, 0⟩, [], rfl, rfl, by simp, e1.symm, e2.symm⟩, fun x hx => ?_, h3⟩
    rw [List.mem_singleton] at hx
    subst hx
    exact ListAt.nil
  · obtain ⟨e1, e2⟩ := run_0 h4
    have hl := congrArg List.length hms
    simp [momsAt] at hl
    refine ⟨_, _, h1, ⟨rm, ms, by rw [h4], rfl, by omega, ?_, ?_⟩, fun x hx => ?_, h3⟩
    · rw [e1, ← hms, List.map_map]; rfl
    · rw [e2, ← hms, List.map_map]; rfl
    · rw [List.mem_singleton] at hx
      subst hx
      exact hrow.list
/-- what Floods leaves. -/
def FloodV (b : Bas) (s : Sta) (ts : List Tick) (v : Value) (new : List Held) : Prop := ∃ r : SV, v = .tuple ⟨[svV r, .int .i64 (runE b s ts)]⟩ ∧ new = [hInts r (floods b s ts)]
def idxV (ms : List Mom) (P : Mom → Bool) : Int := match ms.findIdx? P with
  | some i => ((i : Nat) : Int)
  | none => -1
end Go.Proofs.YtmckmlmfilmiaaaGreatDoor.X
/-
  The walk of the document's Floods; the law BasinStays.
-/
namespace Go.Proofs.YtmckmlmfilmiaaaGreatDoor.X
open Go Go.RowKit Go.Proofs.YtmckmlmfilmiaaaGreatDoor.Bs
set_option linter.unusedVariables false
/-- a case. -/
structure CV where
  q : SV
  r : SV
structure Cas where
  s : Sta
  ts : List Tick
  lim : Int
def caseC (x : CV) (c : Cas) : List Value := [.int .i64 c.s.vol, .slice x.q.A x.q.n x.q.c, .slice x.r.A x.r.n x.r.c, .int .i64 c.lim]
def caseV (x : CV) (c : Cas) : Value := .agg ⟨caseC x c⟩
structure CaseAt (w : World) (ok : Nat → Prop) (x : CV) (c : Cas) : Prop where
  fil : IntsAt w ok x.q c.s.fil
  tks : TksAt w ok x.r c.ts
end Go.Proofs.YtmckmlmfilmiaaaGreatDoor.X
/-
  The plain words of layer 4: levels of volumes and volumes of levels, and that both are in order.
-/
namespace Go.Proofs.YtmckmlmfilmiaaaGreatDoor.Bs
set_option linter.unusedVariables false
/-- the piece in which a level lies. -/
def lsegTo (b : Bas) (l : Int) : Nat → Nat
  | 0 => 0
  | k + 1 => if (b.row (k + 1)).level ≤ l then k + 1 else lsegTo b l k
def lseg (b : Bas) (l : Int) : Nat := lsegTo b l (b.rows.length - 2)
/-- the greatest volume whose level is at most l, as the program reckons it. -/
def volAt (b : Bas) (l : Int) : Int := (b.row (lseg b l)).vol + (l - (b.row (lseg b l)).level) * ((b.row (lseg b l + 1)).vol - (b.row (lseg b l)).vol) / ((b.row (lseg b l + 1)).level - (b.row (lseg b l)).level)
def volOf (b : Bas) (l : Int) : Int := min 1000000000 (volAt b l)
def levLo (b : Bas) (v : Int) : Int := num b v / den b v
def levHi (b : Bas) (v : Int) : Int := -((-(num b v)) / den b v)
section
variable {b : Bas} (h : RowsOk b)
include h
theorem seg_spec {v : Int} (hv : (b.row 0).vol ≤ v) : seg b v + 1 < b.rows.length ∧ (b.row (seg b v)).vol ≤ v ∧ ∀ j, seg b v < j → j + 1 < b.rows.length → v < (b.row j).vol :=
  ⟨seg_lt h v, seg_vol hv, fun j h4 h5 => (segTo_spec (b := b) (v := v) (b.rows.length - 2)).2.2 j h4 (by omega)⟩
theorem rows_le {i j : Nat} (hij : i ≤ j) (hj : j < b.rows.length) : (b.row i).vol ≤ (b.row j).vol ∧ (b.row i).level ≤ (b.row j).level := by
  rcases Nat.eq_or_lt_of_le hij with rfl | h1
  · exact ⟨Int.le_refl _, Int.le_refl _⟩
  · have := h.lt h1 hj; omega
/-- THE EXACT LEVEL IS IN ORDER. -/
theorem exact_mono {v v' : Int} (hv : (b.row 0).vol ≤ v) (hvv : v ≤ v') : num b v * den b v' ≤ num b v' * den b v := by
  obtain ⟨s1, s2, s3⟩ := seg_spec h hv
  obtain ⟨t1, t2, t3⟩ := seg_spec h (v := v') (by omega)
  have p1 := den_pos h v
  have p2 := den_pos h v'
  have hst : seg b v ≤ seg b v' := by
    rcases Nat.lt_or_ge (seg b v') (seg b v) with c | c
    · have := t3 (seg b v) c s1; omega
    · exact c
  obtain ⟨s, hs⟩ : ∃ s, s = seg b v := ⟨_, rfl⟩
  obtain ⟨t, ht⟩ : ∃ s, s = seg b v' := ⟨_, rfl⟩
  have n1 : num b v = (b.row s).level * den b v + (v - (b.row s).vol) * ((b.row (s + 1)).level - (b.row s).level) := by rw [hs]; rfl
  have n2 : num b v' = (b.row t).level * den b v' + (v' - (b.row t).vol) * ((b.row (t + 1)).level - (b.row t).level) := by rw [ht]; rfl
  have q1 : den b v = (b.row (s + 1)).vol - (b.row s).vol := by rw [hs]; rfl
  rw [← hs] at s1 s2 s3 hst
  rw [← ht] at t1 t2 t3 hst
  have uD := h.levelUp s s1
  have uD' := h.levelUp t t1
  obtain ⟨d, hd⟩ : ∃ d, d = den b v := ⟨_, rfl⟩
  obtain ⟨d', hd'⟩ : ∃ d, d = den b v' := ⟨_, rfl⟩
  rw [← hd] at n1 q1 p1 ⊢
  rw [← hd'] at n2 p2 ⊢
  rcases Nat.eq_or_lt_of_le hst with c | c
  · have : d = d' := by rw [hd, hd']; unfold den; rw [← hs, ← ht, c]
    subst this
    rw [n1, n2, ← c]
    refine Int.mul_le_mul_of_nonneg_right ?_ (by omega)
    have : (v - (b.row s).vol) * ((b.row (s + 1)).level - (b.row s).level) ≤ (v' - (b.row s).vol) * ((b.row (s + 1)).level - (b.row s).level) := Int.mul_le_mul_of_nonneg_right (by omega) (by omega)
    omega
  · have e1 := rows_le h (show s + 1 ≤ t by omega) (by omega)
    have e2 := s3 (s + 1) (by omega) (by omega)
    have a1 : num b v ≤ (b.row (s + 1)).level * d := by
      have e4 : (v - (b.row s).vol) * ((b.row (s + 1)).level - (b.row s).level) ≤ d * ((b.row (s + 1)).level - (b.row s).level) := Int.mul_le_mul_of_nonneg_right (by omega) (by omega)
      have e6 : d * ((b.row (s + 1)).level - (b.row s).level) = (b.row (s + 1)).level * d - (b.row s).level * d := by rw [Int.mul_comm, Int.sub_mul]
      omega
    have a2 : (b.row t).level * d' ≤ num b v' := by
      have : 0 ≤ (v' - (b.row t).vol) * ((b.row (t + 1)).level - (b.row t).level) := Int.mul_nonneg (by omega) (by omega)
      omega
    have a3 : num b v * d' ≤ (b.row (s + 1)).level * d * d' := Int.mul_le_mul_of_nonneg_right a1 (by omega)
    have a4 : (b.row t).level * d' * d ≤ num b v' * d := Int.mul_le_mul_of_nonneg_right a2 (by omega)
    have a5 : (b.row (s + 1)).level * d * d' ≤ (b.row t).level * d' * d := by
      rw [Int.mul_assoc, Int.mul_assoc, Int.mul_comm d' d]
      exact Int.mul_le_mul_of_nonneg_right e1.2 (Int.mul_nonneg (by omega) (by omega))
    omega
end
end Go.Proofs.YtmckmlmfilmiaaaGreatDoor.Bs
/-
  The walks of Level and of Volume (both texts); the law BasinChecks.
-/
namespace Go.Proofs.YtmckmlmfilmiaaaGreatDoor.Bs
/-- what Level answers: the fault, and the least and greatest whole level. -/
noncomputable def lvlE (b : Bas) (v : Int) : Int := if chkE b ≠ 0 then chkE b else if outB v (b.row 0).vol 1000000000 = true then 7 else 0
noncomputable def lvlLo (b : Bas) (v : Int) : Int := if lvlE b v ≠ 0 then 0 else levLo b v
noncomputable def lvlHi (b : Bas) (v : Int) : Int := if lvlE b v ≠ 0 then 0 else levHi b v
/-- what Volume answers. -/
noncomputable def volE (b : Bas) (l : Int) : Int := if chkE b ≠ 0 then chkE b else if outB l (b.row 0).level 20000 = true then 7 else 0
noncomputable def volN (b : Bas) (l : Int) : Int := if volE b l ≠ 0 then 0 else volOf b l
end Go.Proofs.YtmckmlmfilmiaaaGreatDoor.Bs
namespace Go.Proofs.YtmckmlmfilmiaaaGreatDoor.X
open Go Go.RowKit Go.Proofs.YtmckmlmfilmiaaaGreatDoor.Bs
set_option linter.unusedVariables false
section
variable {N : Nat} {B : Nat} {w0 : World} {ds : List Deferred} {F : Fr} {L : Lo} {pu : Prop} {dst : Option Tmp} {ty : TypeId} {p : String} {af : Array Edge} {gd : Option (Nat × Bool)}
end
end Go.Proofs.YtmckmlmfilmiaaaGreatDoor.X
/-
  The law BasinLasts.
-/
namespace Go.Proofs.YtmckmlmfilmiaaaGreatDoor.Bs
end Go.Proofs.YtmckmlmfilmiaaaGreatDoor.Bs
namespace Go.Proofs.YtmckmlmfilmiaaaGreatDoor.X
open Go Go.RowKit Go.Proofs.YtmckmlmfilmiaaaGreatDoor.Bs
set_option linter.unusedVariables false
section
variable {P : Program} {N : Nat} {B : Nat} {w0 : World} {ds : List Deferred} {F : Fr} {L : Lo} {pu : Prop} {dst : Option Tmp} {ty : TypeId} {p : String} {af : Array Edge} {gd : Option (Nat × Bool)}
end
end Go.Proofs.YtmckmlmfilmiaaaGreatDoor.X
/-
  The law BasinRests.
-/
namespace Go.Proofs.YtmckmlmfilmiaaaGreatDoor.Bs
/-- a basin without leak and waves. -/
def calm (b : Bas) : Bas := ⟨b.rows, 0, b.crest, 0, b.pols⟩
def restT (o : Int) : Tick := ⟨o.tmod 20001, 0, 0⟩
section
variable {b : Bas} (ho : Ok (calm b)) {s : Sta} (hs : StaOk (calm b) s) (hsill : ∀ j, j < b.pols.length → levHi (calm b) s.vol ≤ (b.pol j).sill)
include ho hs hsill
omit hs in
end
end Go.Proofs.YtmckmlmfilmiaaaGreatDoor.Bs
namespace Go.Proofs.YtmckmlmfilmiaaaGreatDoor.X
open Go Go.RowKit Go.Proofs.YtmckmlmfilmiaaaGreatDoor.Bs
set_option linter.unusedVariables false
def tickK : Kind Tick := ⟨41, 3, tickC, fun _ => [], tickC_len⟩
theorem tick_el : elemOk Tryz.prog 44 tickK.ty tickK.m 24 = true := by kernel_rfl
end Go.Proofs.YtmckmlmfilmiaaaGreatDoor.X
/-
  The plain words of layer 4: more water at first, and in each tick, is not less water later.
-/
namespace Go.Proofs.YtmckmlmfilmiaaaGreatDoor.Bs
set_option linter.unusedVariables false
/-- two floors that differ by no more than k. -/
theorem floor_shift {x d x' d' k : Int} (hd : 0 < d) (hd' : 0 < d') (h : x * d' ≤ x' * d + k * (d * d')) : x / d ≤ x' / d' + k := by
  have h1 : x / d * d ≤ x := Int.ediv_mul_le _ (by omega)
  have h2 : x / d * d * d' ≤ x * d' := Int.mul_le_mul_of_nonneg_right h1 (by omega)
  have h3 : (x / d - k) * d' ≤ x' := by
    refine Int.le_of_mul_le_mul_right (a := d) ?_ hd
    have e1 : (x / d - k) * d' * d = x / d * d * d' - k * (d * d') := by grind
    omega
  have h4 : x / d - k ≤ x' / d' := (Int.le_ediv_iff_mul_le hd').2 h3
  omega
section
variable {b : Bas} (h : Ok b)
include h
/-- between rows. -/
theorem wide_between {i : Nat} : ∀ {j : Nat}, i ≤ j → j < b.rows.length → great b b.pols.length * ((b.row j).level - (b.row i).level) ≤ (b.row j).vol - (b.row i).vol := by
  intro j
  induction j with
  | zero => intro h1 _; have : i = 0 := by omega
            subst this; simp
  | succ j ih =>
    intro h1 hj
    by_cases e : i = j + 1
    · subst e; simp
    · have h2 := ih (by omega) (by omega)
      have h3 := h.wide j hj
      unfold wideAt at h3
      have e : great b b.pols.length * ((b.row (j + 1)).level - (b.row i).level) = great b b.pols.length * ((b.row j).level - (b.row i).level) + great b b.pols.length * ((b.row (j + 1)).level - (b.row j).level) := by rw [← Int.mul_add]; congr 1; omega
      omega
/-- so much more water raises the level by no more than the width allows. -/
theorem wide_two {v v' : Int} (hv : (b.row 0).vol ≤ v) (hvv : v ≤ v') : great b b.pols.length * (num b v' * den b v - num b v * den b v') ≤ (v' - v) * (den b v * den b v') := by
  have ho := h.rowsOk
  obtain ⟨s1, s2, s3⟩ := seg_spec ho hv
  obtain ⟨t1, t2, t3⟩ := seg_spec ho (v := v') (by omega)
  have p1 := den_pos ho v
  have p2 := den_pos ho v'
  have hst : seg b v ≤ seg b v' := by
    rcases Nat.lt_or_ge (seg b v') (seg b v) with c | c
    · have := t3 (seg b v) c s1; omega
    · exact c
  have hG := (great_bd h).1
  have w1 := h.wide _ s1
  have w2 := h.wide _ t1
  unfold wideAt at w1 w2
  obtain ⟨s, hs⟩ : ∃ s, s = seg b v := ⟨_, rfl⟩
  obtain ⟨t, ht⟩ : ∃ s, s = seg b v' := ⟨_, rfl⟩
  have n1 : num b v = (b.row s).level * den b v + (v - (b.row s).vol) * ((b.row (s + 1)).level - (b.row s).level) := by rw [hs]; rfl
  have n2 : num b v' = (b.row t).level * den b v' + (v' - (b.row t).vol) * ((b.row (t + 1)).level - (b.row t).level) := by rw [ht]; rfl
  have q1 : den b v = (b.row (s + 1)).vol - (b.row s).vol := by rw [hs]; rfl
  have q2 : den b v' = (b.row (t + 1)).vol - (b.row t).vol := by rw [ht]; rfl
  rw [← hs] at s1 s2 s3 hst w1
  rw [← ht] at t1 t2 t3 hst w2
  obtain ⟨G, hGd⟩ : ∃ G, G = great b b.pols.length := ⟨_, rfl⟩
  rw [← hGd] at hG w1 w2 ⊢
  obtain ⟨d, hd⟩ : ∃ d, d = den b v := ⟨_, rfl⟩
  obtain ⟨d', hd'⟩ : ∃ d, d = den b v' := ⟨_, rfl⟩
  rw [← hd] at n1 q1 p1 ⊢
  rw [← hd'] at n2 q2 p2 ⊢
  obtain ⟨D, hD⟩ : ∃ D, D = (b.row (s + 1)).level - (b.row s).level := ⟨_, rfl⟩
  obtain ⟨D', hD'⟩ : ∃ D, D = (b.row (t + 1)).level - (b.row t).level := ⟨_, rfl⟩
  rw [← hD] at n1 w1
  rw [← hD'] at n2 w2
  rw [← q1] at w1
  rw [← q2] at w2
  rcases Nat.eq_or_lt_of_le hst with c | c
  · have e1 : d = d' := by rw [q1, q2, c]
    have e2 : D = D' := by rw [hD, hD', c]
    subst e1 e2
    rw [n1, n2, c]
    have e3 : G * (((b.row t).level * d + (v' - (b.row t).vol) * D) * d - ((b.row t).level * d + (v - (b.row t).vol) * D) * d) = (v' - v) * d * (G * D) := by grind
    rw [e3]
    have e4 : (v' - v) * d * (G * D) ≤ (v' - v) * d * d := Int.mul_le_mul_of_nonneg_left w1 (Int.mul_nonneg (by omega) (by omega))
    have e5 : (v' - v) * d * d = (v' - v) * (d * d) := Int.mul_assoc _ _ _
    omega
  · have e2 := s3 (s + 1) (by omega) (by omega)
    have wb := wide_between h (i := s + 1) (j := t) (by omega) (by omega)
    rw [← hGd] at wb
    have a1 : (v' - (b.row t).vol) * d * (G * D') ≤ (v' - (b.row t).vol) * d * d' := Int.mul_le_mul_of_nonneg_left w2 (Int.mul_nonneg (by omega) (by omega))
    have a2 : ((b.row (s + 1)).vol - v) * d' * (G * D) ≤ ((b.row (s + 1)).vol - v) * d' * d := Int.mul_le_mul_of_nonneg_left w1 (Int.mul_nonneg (by omega) (by omega))
    have a3 : G * ((b.row t).level - (b.row (s + 1)).level) * (d * d') ≤ ((b.row t).vol - (b.row (s + 1)).vol) * (d * d') := Int.mul_le_mul_of_nonneg_right wb (Int.mul_nonneg (by omega) (by omega))
    have l1 : (b.row (s + 1)).level = (b.row s).level + D := by omega
    have l2 : (b.row (s + 1)).vol = (b.row s).vol + d := by omega
    have e3 : G * (num b v' * d - num b v * d') = G * ((b.row t).level - (b.row (s + 1)).level) * (d * d') + (v' - (b.row t).vol) * d * (G * D') + ((b.row (s + 1)).vol - v) * d' * (G * D) := by
      rw [n1, n2, l1, l2]; grind
    have e4 : (v' - v) * (d * d') = ((b.row t).vol - (b.row (s + 1)).vol) * (d * d') + (v' - (b.row t).vol) * d * d' + ((b.row (s + 1)).vol - v) * d' * d := by grind
    omega
/-- the same for a rate that is not greater. -/
theorem rate_two {r v v' : Int} (hr : 0 ≤ r ∧ r ≤ great b b.pols.length) (hv : (b.row 0).vol ≤ v) (hvv : v ≤ v') : 0 ≤ r * (num b v' * den b v - num b v * den b v') ∧ r * (num b v' * den b v - num b v * den b v') ≤ (v' - v) * (den b v * den b v') := by
  have h1 := wide_two h hv hvv
  have h2 := exact_mono h.rowsOk hv hvv
  have h3 : 0 ≤ num b v' * den b v - num b v * den b v' := by omega
  have h4 : r * (num b v' * den b v - num b v * den b v') ≤ great b b.pols.length * (num b v' * den b v - num b v * den b v') := Int.mul_le_mul_of_nonneg_right hr.2 h3
  exact ⟨Int.mul_nonneg hr.1 h3, by omega⟩
theorem leakQ_mono {o o' v v' : Int} (ho : o ≤ o') (hv : (b.row 0).vol ≤ v) (hvv : v ≤ v') : leakQ b o v ≤ leakQ b o' v' + (v' - v) := by
  have p1 := den_pos h.rowsOk v
  have p2 := den_pos h.rowsOk v'
  have h1 := (rate_two h (r := b.leak) ⟨h.leak.1, great_leak b _⟩ hv hvv).2
  unfold leakQ
  refine floor_shift (by omega) (by omega) ?_
  have h2 : b.leak * (den b v * den b v') * o ≤ b.leak * (den b v * den b v') * o' := Int.mul_le_mul_of_nonneg_left ho (Int.mul_nonneg h.leak.1 (Int.mul_nonneg (by omega) (by omega)))
  have e1 : b.leak * (-num b v - -o * den b v) * den b v' = b.leak * (den b v * den b v') * o - b.leak * (num b v * den b v') := by grind
  have e2 : b.leak * (-num b v' - -o' * den b v') * den b v = b.leak * (den b v * den b v') * o' - b.leak * (num b v' * den b v) := by grind
  have e3 : b.leak * (num b v' * den b v - num b v * den b v') = b.leak * (num b v' * den b v) - b.leak * (num b v * den b v') := Int.mul_sub _ _ _
  omega
/-- what a polder would take if it had room. -/
def takeQ (b : Bas) (i : Nat) (v : Int) : Int := (b.pol i).take * (num b v - (b.pol i).sill * den b v) / den b v
theorem takeQ_mono {i : Nat} (hi : i < b.pols.length) {v v' : Int} (hv : (b.row 0).vol ≤ v) (hvv : v ≤ v') : takeQ b i v ≤ takeQ b i v' ∧ takeQ b i v' ≤ takeQ b i v + (v' - v) := by
  have p1 := den_pos h.rowsOk v
  have p2 := den_pos h.rowsOk v'
  obtain ⟨h0, h1⟩ := rate_two h (r := (b.pol i).take) ⟨(h.take i hi).1, great_le b _ i hi⟩ hv hvv
  have e1 : (b.pol i).take * (num b v - (b.pol i).sill * den b v) * den b v' = (b.pol i).take * (num b v * den b v') - (b.pol i).take * (b.pol i).sill * (den b v * den b v') := by grind
  have e2 : (b.pol i).take * (num b v' - (b.pol i).sill * den b v') * den b v = (b.pol i).take * (num b v' * den b v) - (b.pol i).take * (b.pol i).sill * (den b v * den b v') := by grind
  have e3 : (b.pol i).take * (num b v' * den b v - num b v * den b v') = (b.pol i).take * (num b v' * den b v) - (b.pol i).take * (num b v * den b v') := Int.mul_sub _ _ _
  have e4 : (v' - v) * (den b v' * den b v) = (v' - v) * (den b v * den b v') := by rw [Int.mul_comm (den b v')]
  unfold takeQ
  refine ⟨?_, floor_shift (by omega) (by omega) (by omega)⟩
  have := floor_shift (x := (b.pol i).take * (num b v - (b.pol i).sill * den b v)) (d := den b v) (x' := (b.pol i).take * (num b v' - (b.pol i).sill * den b v')) (d' := den b v') (k := 0) (by omega) (by omega) (by omega)
  omega
theorem takeOf_eq {i : Nat} (hi : i < b.pols.length) {v fil : Int} (hf : fil ≤ (b.pol i).room) : takeOf b i v fil = max 0 (min (takeQ b i v) ((b.pol i).room - fil)) := by
  have p1 := den_pos h.rowsOk v
  have ht := (h.take i hi).1
  unfold takeOf
  by_cases hc : (b.pol i).sill * den b v < num b v
  · rw [if_pos hc]
    have h2 : 0 ≤ takeQ b i v := Int.ediv_nonneg (Int.mul_nonneg ht (by omega)) (by omega)
    unfold takeQ at h2 ⊢
    omega
  · rw [if_neg hc]
    have h1 : (b.pol i).take * (num b v - (b.pol i).sill * den b v) ≤ 0 := Int.mul_nonpos_of_nonneg_of_nonpos ht (by omega)
    have h2 : takeQ b i v ≤ 0 := by
      unfold takeQ
      have : (b.pol i).take * (num b v - (b.pol i).sill * den b v) / den b v ≤ 0 / den b v := Int.ediv_le_ediv (by omega) h1
      rw [Int.zero_ediv] at this
      exact this
    omega
theorem takeOf_mono {i : Nat} (hi : i < b.pols.length) {v v' fil fil' : Int} (hv : (b.row 0).vol ≤ v) (hvv : v ≤ v') (hf : fil ≤ fil') (hf' : fil' ≤ (b.pol i).room) :
    v - takeOf b i v fil ≤ v' - takeOf b i v' fil' ∧ fil + takeOf b i v fil ≤ fil' + takeOf b i v' fil' := by
  obtain ⟨h1, h2⟩ := takeQ_mono h hi hv hvv
  rw [takeOf_eq h hi (by omega), takeOf_eq h hi hf']
  omega
/-- a state that is not less. -/
structure StaLe (b : Bas) (s s' : Sta) : Prop where
  vol : s.vol ≤ s'.vol
  fil : ∀ i, i < b.pols.length → s.f i ≤ s'.f i
theorem polV_mono {s s' : Sta} (hs : StaOk b s) (hs' : StaOk b s') (hle : ∀ i, i < b.pols.length → s.f i ≤ s'.f i) {v v' : Int} (hv : b.v0 ≤ v ∧ v ≤ 1000000000) (hv' : b.v0 ≤ v' ∧ v' ≤ 1000000000) (hvv : v ≤ v') :
    ∀ k, k ≤ b.pols.length → polV b s v k ≤ polV b s' v' k ∧ (k < b.pols.length → s.f k + polT b s v k ≤ s'.f k + polT b s' v' k) := by
  have key : ∀ k, k < b.pols.length → polV b s v k ≤ polV b s' v' k → polV b s v k - takeOf b k (polV b s v k) (s.f k) ≤ polV b s' v' k - takeOf b k (polV b s' v' k) (s'.f k) ∧ s.f k + takeOf b k (polV b s v k) (s.f k) ≤ s'.f k + takeOf b k (polV b s' v' k) (s'.f k) := fun k hk hle2 =>
    takeOf_mono h hk (polV_bd h hs hv k (by omega)).1 hle2 (hle k hk) (hs'.fil k hk).2
  intro k
  induction k with
  | zero => intro _; exact ⟨hvv, fun hk => (key 0 hk hvv).2⟩
  | succ k ih =>
    intro hk
    have h1 := (ih (by omega)).1
    have h2 : polV b s v (k + 1) ≤ polV b s' v' (k + 1) := (key k (by omega) h1).1
    exact ⟨h2, fun hk2 => (key (k + 1) hk2 h2).2⟩
/-- a tick that brings no less. -/
structure TickLe (t t' : Tick) : Prop where
  outer : t.outer ≤ t'.outer
  river : t.river ≤ t'.river
  out : t'.out ≤ t.out
theorem vols_mono {s s' : Sta} {t t' : Tick} (hs : StaOk b s) (hs' : StaOk b s') (hle : StaLe b s s') (ht : TickLe t t') (hr : 0 ≤ t.river) (hx : -20000 ≤ t.outer ∧ t.outer ≤ 20000) :
    vol1 s t ≤ vol1 s' t' ∧ vol2 b s t ≤ vol2 b s' t' ∧ vol3 b s t ≤ vol3 b s' t' ∧ vol4 b s t ≤ vol4 b s' t' := by
  have hv := hs.vol
  have h1 : vol1 s t ≤ vol1 s' t' := by have := hle.vol; have := ht.river; unfold vol1; omega
  have hov : overOf b t ≤ overOf b t' := by
    unfold overOf
    exact Int.mul_le_mul_of_nonneg_left (by have := ht.outer; omega) h.over.1
  have ho0 := (over_bd h t hx).1
  have h2 : vol2 b s t ≤ vol2 b s' t' := by unfold vol2; omega
  have hv2 : (b.row 0).vol ≤ vol2 b s t := by unfold vol2 vol1; omega
  have h3 : vol3 b s t ≤ vol3 b s' t' := by
    have := leakQ_mono h ht.outer hv2 h2
    unfold vol3 leakOf; omega
  refine ⟨h1, h2, h3, ?_⟩
  have := ht.out
  unfold vol4 outOf; omega
theorem step_mono {s s' : Sta} {t t' : Tick} (hs : StaOk b s) (hs' : StaOk b s') (hle : StaLe b s s') (ht : TickLe t t') (he : stepE b s t = 0) (he' : stepE b s' t' = 0) : StaLe b (outS b s t) (outS b s' t') := by
  have k1 := stepOk_of h hs he
  have k2 := stepOk_of h hs' he'
  obtain ⟨_, _, _, h4⟩ := vols_mono h hs hs' hle ht k1.river.1 k1.outer
  have h5 := polV_mono h hs hs' hle.fil k1.v4 k2.v4 h4
  rw [outS_0 he, outS_0 he']
  refine ⟨(h5 _ (Nat.le_refl _)).1, fun i hi => ?_⟩
  have e1 : (stepS b s t).f i = s.f i + polT b s (vol4 b s t) i := by simp only [stepS, Sta.f]; exact rg_at hi
  have e2 : (stepS b s' t').f i = s'.f i + polT b s' (vol4 b s' t') i := by simp only [stepS, Sta.f]; exact rg_at hi
  rw [e1, e2]
  exact (h5 i (by omega)).2 hi
/-- where the worse tick has no fault, the other has none but its own numbers. -/
theorem step_fine {s s' : Sta} {t t' : Tick} (hs : StaOk b s) (hs' : StaOk b s') (hle : StaLe b s s') (ht : TickLe t t') (hb : tickBad t = false) (he' : stepE b s' t' = 0) : stepE b s t = 0 := by
  have k2 := stepOk_of h hs' he'
  have hb' := hb
  simp only [tickBad, Bool.or_eq_false_iff] at hb'
  have o1 := outB_f.1 hb'.1
  have o2 := outB_f.1 hb'.2.1
  obtain ⟨h1, h2, h3, _⟩ := vols_mono h hs hs' hle ht o2.1 o1
  have := k2.v1; have := k2.v2; have := k2.v3
  exact stepE_0 hb (by omega) (by omega) (by omega)
end
end Go.Proofs.YtmckmlmfilmiaaaGreatDoor.Bs
/-
  The plain words of layer 4: a worse case through all its ticks.
-/
namespace Go.Proofs.YtmckmlmfilmiaaaGreatDoor.Bs
set_option linter.unusedVariables false
theorem step_tick {b : Bas} {s : Sta} {t : Tick} {e : Int} (he : stepE b s t = e) (h7 : e ≠ 7) : tickBad t = false := by
  cases hb : tickBad t with
  | false => rfl
  | true => unfold stepE at he; rw [hb] at he; exact absurd he.symm h7
/-- a case that is worse, where the numbers of the other one are fine. -/
structure CaseLe (b : Bas) (s s' : Sta) (ts ts' : List Tick) : Prop where
  len : ts'.length = ts.length
  sta : StaOk b s → StaLe b s s'
  tick : ∀ k, k < ts.length → tickBad (tk ts k) = false → TickLe (tk ts k) (tk ts' k)
section
variable {b : Bas} {s s' : Sta} {ts ts' : List Tick}
theorem run_mono (h : Ok b) (hs : StaOk b s) (hs' : StaOk b s') (hc : CaseLe b s s' ts ts') : ∀ k, k ≤ ts.length → (∀ j, j < k → errAt b s ts j = 0) → (∀ j, j < k → errAt b s' ts' j = 0) → StaLe b (staAt b s ts k) (staAt b s' ts' k) := by
  intro k
  induction k with
  | zero => intro _ _ _; exact hc.sta hs
  | succ k ih =>
    intro hk h1 h2
    have h3 := ih (by omega) (fun j hj => h1 j (by omega)) (fun j hj => h2 j (by omega))
    have e1 : stepE b (staAt b s ts k) (tk ts k) = 0 := h1 k (by omega)
    have e2 : stepE b (staAt b s' ts' k) (tk ts' k) = 0 := h2 k (by omega)
    exact step_mono h (staAt_ok h hs k fun j hj => h1 j (by omega)) (staAt_ok h hs' k fun j hj => h2 j (by omega)) h3 (hc.tick k (by omega) (step_tick e1 (by decide))) e1 e2
theorem over_mono (h : RowsOk b) {lim v v' : Int} (hv : (b.row 0).vol ≤ v) (hvv : v ≤ v') (ho : X.overB b lim v = true) : X.overB b lim v' = true := by
  simp only [X.overB, decide_eq_true_eq] at ho ⊢
  have p1 := den_pos h v
  have p2 := den_pos h v'
  have h1 := exact_mono h hv hvv
  have h2 : lim * den b v * den b v' < num b v * den b v' := Int.mul_lt_mul_of_pos_right ho (by omega)
  refine Int.lt_of_mul_lt_mul_right (a := den b v) ?_ (by omega)
  have : lim * den b v' * den b v = lim * den b v * den b v' := by grind
  omega
end
end Go.Proofs.YtmckmlmfilmiaaaGreatDoor.Bs
/-
  The plain words of layer 4: Need and Spare, and that they are monotone. No program stands here.
-/
namespace Go.Proofs.YtmckmlmfilmiaaaGreatDoor.Bs
open Go.Proofs.YtmckmlmfilmiaaaGreatDoor.X
set_option linter.unusedVariables false
def needT (t : Tick) (n : Nat) : Tick := ⟨t.outer, t.river, min 10000000 (t.out + n)⟩
def spareT (t : Tick) (n : Nat) : Tick := ⟨t.outer, t.river + n, t.out⟩
def chTs (ch : Tick → Nat → Tick) (ts : List Tick) (n : Nat) : List Tick := ts.map fun t => ch t n
theorem chTs_len (ch : Tick → Nat → Tick) (ts : List Tick) (n : Nat) : (chTs ch ts n).length = ts.length := by simp [chTs]
theorem chTs_at {ch : Tick → Nat → Tick} {ts : List Tick} {n k : Nat} (h : k < ts.length) : tk (chTs ch ts n) k = ch (tk ts k) n := by simp [tk, chTs, h]
/-- no fault, and never above the limit. -/
def hold (b : Bas) (s : Sta) (ts : List Tick) (lim : Int) : Prop := ∀ k, k < ts.length → errAt b s ts k = 0 ∧ overB b lim (staAt b s ts (k + 1)).vol = false
open Classical in
noncomputable def holdB (b : Bas) (s : Sta) (lim : Int) (ch : Tick → Nat → Tick) (ts : List Tick) (n : Nat) : Bool := decide (hold b s (chTs ch ts n) lim)
theorem holdB_iff {b : Bas} {s : Sta} {lim : Int} {ch : Tick → Nat → Tick} {ts : List Tick} {n : Nat} : holdB b s lim ch ts n = true ↔ hold b s (chTs ch ts n) lim := by simp [holdB]
/-- the binary search of sort.Search. -/
def srch (P : Nat → Bool) : Nat → Nat → Nat → Nat
  | 0, i, _ => i
  | f + 1, i, j => if i < j then (if P ((i + j) / 2) = true then srch P f i ((i + j) / 2) else srch P f ((i + j) / 2 + 1) j) else i
theorem srch_end (P : Nat → Bool) (f : Nat) {i j : Nat} (h : ¬ i < j) : srch P f i j = i := by
  cases f with
  | zero => rfl
  | succ f => simp [srch, h]
theorem srch_t {P : Nat → Bool} {f i j : Nat} (h : i < j) (hP : P ((i + j) / 2) = true) : srch P (f + 1) i j = srch P f i ((i + j) / 2) := by simp [srch, h, hP]
theorem srch_f {P : Nat → Bool} {f i j : Nat} (h : i < j) (hP : P ((i + j) / 2) = false) : srch P (f + 1) i j = srch P f ((i + j) / 2 + 1) j := by simp [srch, h, hP]
theorem srch_spec {P : Nat → Bool} {N : Nat} : ∀ {f i j : Nat}, j - i ≤ f → i ≤ j → j ≤ N → (0 < i → P (i - 1) = false) → (j < N → P j = true) →
    srch P f i j ≤ N ∧ (0 < srch P f i j → P (srch P f i j - 1) = false) ∧ (srch P f i j < N → P (srch P f i j) = true) := by
  intro f
  induction f with
  | zero =>
    intro i j h1 h2 h3 h4 h5
    have e : i = j := by omega
    subst e
    exact ⟨h3, h4, h5⟩
  | succ f ih =>
    intro i j h1 h2 h3 h4 h5
    by_cases hij : i < j
    · cases hP : P ((i + j) / 2) with
      | true =>
        rw [srch_t hij hP]
        exact ih (by omega) (by omega) (by omega) h4 fun _ => hP
      | false =>
        rw [srch_f hij hP]
        exact ih (by omega) (by omega) h3 (fun _ => by simpa using hP) h5
    · rw [srch_end P _ hij]
      have e : i = j := by omega
      subst e
      exact ⟨h3, h4, h5⟩
def top : Nat := 10000001
noncomputable def askE (b : Bas) (s : Sta) (ts : List Tick) (lim : Int) : Int := if staErr b s ≠ 0 then staErr b s else if outB lim (b.row 0).level 20000 = true then 7 else runE b s ts
noncomputable def needI (b : Bas) (s : Sta) (ts : List Tick) (lim : Int) : Nat := srch (holdB b s lim needT ts) top 0 top
noncomputable def spareI (b : Bas) (s : Sta) (ts : List Tick) (lim : Int) : Nat := srch (fun n => !holdB b s lim spareT ts n) top 0 top
noncomputable def needE (b : Bas) (s : Sta) (ts : List Tick) (lim : Int) : Int := if askE b s ts lim ≠ 0 then askE b s ts lim else if 10000000 < needI b s ts lim then 9 else 0
noncomputable def needN (b : Bas) (s : Sta) (ts : List Tick) (lim : Int) : Int := if needE b s ts lim ≠ 0 then 0 else (needI b s ts lim : Int)
noncomputable def spareE (b : Bas) (s : Sta) (ts : List Tick) (lim : Int) : Int := if askE b s ts lim ≠ 0 then askE b s ts lim else if spareI b s ts lim = 0 then 9 else 0
noncomputable def spareN (b : Bas) (s : Sta) (ts : List Tick) (lim : Int) : Int := if spareE b s ts lim ≠ 0 then 0 else (spareI b s ts lim : Int) - 1
theorem needI_spec (b : Bas) (s : Sta) (ts : List Tick) (lim : Int) : needI b s ts lim ≤ top ∧ (0 < needI b s ts lim → ¬ hold b s (chTs needT ts (needI b s ts lim - 1)) lim) ∧ (needI b s ts lim < top → hold b s (chTs needT ts (needI b s ts lim)) lim) := by
  obtain ⟨h1, h2, h3⟩ := srch_spec (P := holdB b s lim needT ts) (N := top) (f := top) (i := 0) (j := top) (by omega) (by omega) (Nat.le_refl _) (fun h => absurd h (by omega)) (fun h => absurd h (by omega))
  refine ⟨h1, fun h hh => ?_, fun h => holdB_iff.1 (h3 h)⟩
  have h4 : holdB b s lim needT ts (needI b s ts lim - 1) = false := h2 h
  rw [holdB_iff.2 hh] at h4; cases h4
section
variable {b : Bas} {s s' : Sta} {ts ts' : List Tick} {lim : Int}
theorem hold_le (h : Ok b) (hs : StaOk b s) (hs' : StaOk b s') (hle : StaLe b s s') (hlen : ts'.length = ts.length) (ht : ∀ k, k < ts.length → tickBad (tk ts k) = false ∧ TickLe (tk ts k) (tk ts' k)) (h' : hold b s' ts' lim) : hold b s ts lim := by
  have hc : CaseLe b s s' ts ts' := ⟨hlen, fun _ => hle, fun k hk _ => (ht k hk).2⟩
  have herr : ∀ k, k ≤ ts.length → ∀ j, j < k → errAt b s ts j = 0 := by
    intro k
    induction k with
    | zero => intro _ j hj; omega
    | succ k ih =>
      intro hk j hj
      have h1 := ih (by omega)
      by_cases e : j < k
      · exact h1 j e
      · have : j = k := by omega
        subst this
        have h2 : ∀ i, i < j → errAt b s' ts' i = 0 := fun i hi => (h' i (by omega)).1
        exact step_fine h (staAt_ok h hs j h1) (staAt_ok h hs' j h2) (run_mono h hs hs' hc j (by omega) h1 h2) (ht j (by omega)).2 (ht j (by omega)).1 (h' j (by omega)).1
  intro k hk
  have h1 := herr (k + 1) (by omega)
  refine ⟨h1 k (by omega), ?_⟩
  have h2 : ∀ i, i < k + 1 → errAt b s' ts' i = 0 := fun i hi => (h' i (by omega)).1
  have h3 := run_mono h hs hs' hc (k + 1) (by omega) h1 h2
  cases h4 : overB b lim (staAt b s ts (k + 1)).vol with
  | false => rfl
  | true =>
    have h5 := over_mono h.rowsOk (lim := lim) (staAt_ok h hs (k + 1) h1).vol.1 h3.vol h4
    rw [(h' k (by omega)).2] at h5; cases h5
theorem ask_0 (h : askE b s ts lim = 0) : Ok b ∧ StaOk b s ∧ ∀ k, k < ts.length → tickBad (tk ts k) = false := by
  unfold askE at h
  split at h
  · rename_i h1; exact absurd h h1
  · rename_i h1
    split at h
    · cases h
    · obtain ⟨h3, _, herr⟩ := runE_0 h
      exact ⟨(staOk_of h3).1, (staOk_of h3).2, fun k hk => step_tick (herr k hk) (by decide)⟩
theorem bad_f {t : Tick} (h : tickBad t = false) : (-20000 ≤ t.outer ∧ t.outer ≤ 20000) ∧ (0 ≤ t.river ∧ t.river ≤ 10000000) ∧ (0 ≤ t.out ∧ t.out ≤ 10000000) := by
  simp only [tickBad, Bool.or_eq_false_iff] at h
  exact ⟨outB_f.1 h.1, outB_f.1 h.2.1, outB_f.1 h.2.2⟩
theorem bad_t {t : Tick} (h : (-20000 ≤ t.outer ∧ t.outer ≤ 20000) ∧ (0 ≤ t.river ∧ t.river ≤ 10000000) ∧ (0 ≤ t.out ∧ t.out ≤ 10000000)) : tickBad t = false := by
  simp only [tickBad, Bool.or_eq_false_iff]
  exact ⟨outB_f.2 h.1, outB_f.2 h.2.1, outB_f.2 h.2.2⟩
theorem need_le (h : Ok b) (hs : StaOk b s) (hs' : StaOk b s') (hle : StaLe b s s') (hlen : ts'.length = ts.length) (hb : ∀ k, k < ts.length → tickBad (tk ts k) = false) (ht : ∀ k, k < ts.length → TickLe (tk ts k) (tk ts' k)) {n n' : Nat} (hn : n' ≤ n) (h' : hold b s' (chTs needT ts' n') lim) : hold b s (chTs needT ts n) lim := by
  refine hold_le h hs hs' hle (by rw [chTs_len, chTs_len]; exact hlen) (fun k hk => ?_) h'
  rw [chTs_len] at hk
  rw [chTs_at hk, chTs_at (by omega)]
  have h1 := bad_f (hb k hk)
  have h2 := ht k hk
  have h3 := h2.outer
  have h4 := h2.river
  have h5 := h2.out
  refine ⟨bad_t ?_, ?_, ?_, ?_⟩ <;> simp only [needT] <;> omega
theorem need_0 (h : needE b s ts lim = 0) : askE b s ts lim = 0 ∧ needI b s ts lim < top ∧ needN b s ts lim = (needI b s ts lim : Int) := by
  have h' := h
  unfold needE at h
  split at h
  · rename_i h1; exact absurd h h1
  · rename_i h1
    split at h
    · cases h
    · rename_i h2
      refine ⟨by simpa using h1, by unfold top; omega, ?_⟩
      unfold needN
      rw [if_neg (by simp [h'])]
end
end Go.Proofs.YtmckmlmfilmiaaaGreatDoor.Bs
/-
  The walks of sort.Search and of asked.
-/
namespace Go.Proofs.YtmckmlmfilmiaaaGreatDoor.X
open Go Go.RowKit Go.Proofs.YtmckmlmfilmiaaaGreatDoor.Bs
set_option linter.unusedVariables false
set_option maxHeartbeats 8000000 in
theorem search_any {f : FuncId} {cap : List Value} {P : Nat → Bool} {n : Nat} {w : World} (hck : callOk Tryz.prog f = true) (hn : n ≤ 10000001)
    (hc : ∀ k, k < n → ∀ w', Below w.heap.size w w' → Calls Tryz.prog f ([] ++ [Value.int .i64 (k : Nat)] ++ cap).toArray w' fun e w'' => e = .returned (.bool (P k)) ∧ Below w'.heap.size w' w'') :
    Calls Tryz.prog 26 #[.int .i64 (n : Nat), .func (.func f) #[] cap.toArray] w fun e w' => e = .returned (.int .i64 (srch P n 0 n : Nat)) ∧ Below w.heap.size w w' := by
  have hint := Tryz.underlying3
  have huint := Tryz.underlying121
  refine enter Tryz.func26 rfl Tryz.ntmps26 rfl ?_; simp only [frame, Nat.zero_add, Nat.reduceAdd]
  repeat (first | (refine M0 ?_; first | refine SL ?_ | refine SB fun _ _ => ?_) | (refine M1 ?_; first | refine SC ?_ | refine SD ?_) | (refine M2 ?_; refine SE ?_) | (refine M3 ?_; first | refine SG ?_ | refine SF ?_) | (refine M4 ?_; refine SR ?_) | (refine M5 ?_; first | exact M7 | refine YM ?_ | refine YN ?_ ?_))
  refine XC.loopk [1] rfl (fun s : Nat × Nat × Nat => [(5, .int .i64 (s.1 : Nat)), (6, .int .i64 (s.2.1 : Nat))]) (fun _ => []) (fun _ => w)
    (fun s => s.1 ≤ s.2.1 ∧ s.2.1 ≤ n ∧ s.2.1 - s.1 ≤ s.2.2 ∧ srch P s.2.2 s.1 s.2.1 = srch P n 0 n) (fun s => s.2.1 - s.1) (0, n, n) ⟨Nat.zero_le _, Nat.le_refl _, Nat.sub_le _ _, rfl⟩ ZZSUB (fun _ h => h) ?_
  rintro ⟨i, j, f'⟩ ⟨hij, hjn, hf, hs⟩
  simp only at hij hjn hf hs
  dsimp only [List.cons_append, List.nil_append]
  repeat (first | (refine M0 ?_; first | refine SL ?_ | refine SB fun _ _ => ?_) | (refine M1 ?_; first | refine SC ?_ | refine SD ?_) | (refine M2 ?_; refine SE ?_) | (refine M3 ?_; first | refine SG ?_ | refine SF ?_) | (refine M4 ?_; refine SR ?_) | (refine M5 ?_; first | exact M7 | refine YM ?_ | refine YN ?_ ?_))
  refine XC.cond _ rfl (fun h => ?_) (fun h => ?_)
  · have hij' : i < j := by have := of_decide_eq_true h; omega
    obtain ⟨f0, rfl⟩ : ∃ f0, f' = f0 + 1 := ⟨f' - 1, by omega⟩
    have w1 : IntKind.u64.wrap ((i : Int) + (j : Int)) = ((i + j : Nat) : Int) := by rw [wrap_u (by omega)]; omega
    have w2 : IntKind.i64.wrap (((i + j) / 2 : Nat) : Int) = (((i + j) / 2 : Nat) : Int) := wrap_i (by omega)
    have hm : (i + j) / 2 < n := by omega
    repeat (first | (refine M0 ?_; first | refine SL ?_ | refine SB fun _ _ => ?_ | refine Y4 (Ev.conv (s := 3) (d := 121) hint huint rfl w1) ?_ | refine Y4 (Ev.conv (s := 121) (d := 3) huint hint rfl w2) ?_ | refine Y4 (Ev.shr rfl rfl (by decide) half) ?_ | refine Y4 (Ev.callv (f := f) (fst := []) (cap := cap) hck rfl rfl (fun w S => hc _ hm w S.toBelow)) ?_) | (refine M1 ?_; first | refine SC ?_ | refine SD ?_) | (refine M2 ?_; refine SE ?_) | (refine M3 ?_; first | refine SG ?_ | refine SF ?_ | refine YF (Ev.conv (s := 3) (d := 121) hint huint rfl w1) ?_ | refine YF (Ev.conv (s := 121) (d := 3) huint hint rfl w2) ?_ | refine YF (Ev.shr rfl rfl (by decide) half) ?_ | refine YF (Ev.callv (f := f) (fst := []) (cap := cap) hck rfl rfl (fun w S => hc _ hm w S.toBelow)) ?_) | (refine M4 ?_; refine SR ?_) | (refine M5 ?_; first | exact M7 | refine YM ?_ | refine YN ?_ ?_))
    refine XC.cond _ rfl (fun h2 => ?_) (fun h2 => ?_)
    · have hP : P ((i + j) / 2) = false := by simpa using h2
      repeat (first | (refine M0 ?_; first | refine SL ?_ | refine SB fun _ _ => ?_) | (refine M1 ?_; first | refine SC ?_ | refine SD ?_) | (refine M2 ?_; refine SE ?_) | (refine M3 ?_; first | refine SG ?_ | refine SF ?_) | (refine M4 ?_; refine SR ?_) | (refine M5 ?_; first | exact M7 | refine YM ?_ | refine YN ?_ ?_))
      refine XE.round (s := (i, j, f0 + 1)) ((i + j) / 2 + 1, j, f0) ⟨by simp only; omega, hjn, by simp only; omega, ?_⟩ (by simp only; omega) ZZSUB (fun _ h => by first | exact h | exact h.pop (by assumption) | exact (h.pop (by assumption)).pop (by assumption) | exact ((h.pop (by assumption)).pop (by assumption)).pop (by assumption) | exact (((h.pop (by assumption)).pop (by assumption)).pop (by assumption)).pop (by assumption) | exact Sys.anchor (by assumption) h (by simp) (by simp))
      rw [← hs, srch_f hij' hP]
    · have hP : P ((i + j) / 2) = true := by simpa using h2
      repeat (first | (refine M0 ?_; first | refine SL ?_ | refine SB fun _ _ => ?_) | (refine M1 ?_; first | refine SC ?_ | refine SD ?_) | (refine M2 ?_; refine SE ?_) | (refine M3 ?_; first | refine SG ?_ | refine SF ?_) | (refine M4 ?_; refine SR ?_) | (refine M5 ?_; first | exact M7 | refine YM ?_ | refine YN ?_ ?_))
      refine XE.round (s := (i, j, f0 + 1)) (i, (i + j) / 2, f0) ⟨by simp only; omega, by simp only; omega, by simp only; omega, ?_⟩ (by simp only; omega) ZZSUB (fun _ h => by first | exact h | exact h.pop (by assumption) | exact (h.pop (by assumption)).pop (by assumption) | exact ((h.pop (by assumption)).pop (by assumption)).pop (by assumption) | exact (((h.pop (by assumption)).pop (by assumption)).pop (by assumption)).pop (by assumption) | exact Sys.anchor (by assumption) h (by simp) (by simp))
      rw [← hs, srch_t hij' hP]
  · have hij' : ¬ i < j := by have := of_decide_eq_false h; omega
    rw [srch_end P _ hij'] at hs
    repeat (first | (refine M0 ?_; first | refine SL ?_ | refine SB fun _ _ => ?_) | (refine M1 ?_; first | refine SC ?_ | refine SD ?_) | (refine M2 ?_; refine SE ?_) | (refine M3 ?_; first | refine SG ?_ | refine SF ?_) | (refine M4 ?_; refine SR ?_) | (refine M5 ?_; first | exact M7 | refine YM ?_ | refine YN ?_ ?_))
    refine XE.retg tok Tryz.results26 rfl (by simp only [and_self, and_true]) (fun w' S => ?_)
    exact ⟨by rw [← hs]; rfl, S.toBelow⟩
set_option maxHeartbeats 8000000 in
theorem asked_any {p : BV} {b : Bas} {q r : SV} {s : Sta} {ts : List Tick} {lim : Int} {w : World} (hL : Laid w) (hb : BasAt w w.heap.size p b) (hq : IntsAt w (Lt w.heap.size) q s.fil) (ht : TksAt w (Lt w.heap.size) r ts) :
    Calls Tryz.prog 23 #[basV p b, staV q s, svV r, .int .i64 lim] w fun e w' => e = .returned (.int .i64 (askE b s ts lim)) ∧ Below w.heap.size w w' := by
  simp only [basV, basC, staV, staC, svV]
  refine enter Tryz.func23 rfl Tryz.ntmps23 rfl ?_; simp only [frame, Nat.zero_add, Nat.reduceAdd]
  repeat (first | (refine M0 ?_; first | refine SL ?_ | refine SB fun _ _ => ?_ | refine Y4 (Ev.call (f := 11) (ck rfl) rfl (fun w S => (checkState_any (p := p) (q := q) (hb.sys S) (hq.arg S) :))) ?_) | (refine M1 ?_; first | refine SC ?_ | refine SD ?_) | (refine M2 ?_; refine SE ?_) | (refine M3 ?_; first | refine SG ?_ | refine SF ?_ | refine YF (Ev.call (f := 11) (ck rfl) rfl (fun w S => (checkState_any (p := p) (q := q) (hb.sys S) (hq.arg S) :))) ?_) | (refine M4 ?_; refine SR ?_) | (refine M5 ?_; first | exact M7 | refine YM ?_ | refine YN ?_ ?_))
  rename_i g4 hg4 g5 hg5
  refine XC.cond _ rfl (fun h0 => ?_) (fun h0 => ?_)
  · repeat (first | (refine M0 ?_; first | refine SL ?_ | refine SB fun _ _ => ?_) | (refine M1 ?_; first | refine SC ?_ | refine SD ?_) | (refine M2 ?_; refine SE ?_) | (refine M3 ?_; first | refine SG ?_ | refine SF ?_) | (refine M4 ?_; refine SR ?_) | (refine M5 ?_; first | exact M7 | refine YM ?_ | refine YN ?_ ?_))
    refine XE.retg tok Tryz.results23 rfl (by simp only [and_self, and_true]) (fun w' S => ?_)
    exact ⟨by unfold askE; rw [if_pos (by simpa using h0)]; rfl, S.toBelow⟩
  have hE : staErr b s = 0 := by simpa using h0
  have ho := (staOk_of hE).1
  repeat (first | (refine M0 ?_; first | refine SL ?_ | refine SB fun _ _ => ?_ | refine Y4 (Ev.call (f := 31) (ck rfl) rfl (fun w S => (beyond_any (p := p) (hb.sys S) ho.rowsOk lim :))) ?_) | (refine M1 ?_; first | refine SC ?_ | refine SD ?_) | (refine M2 ?_; refine SE ?_) | (refine M3 ?_; first | refine SG ?_ | refine SF ?_ | refine YF (Ev.call (f := 31) (ck rfl) rfl (fun w S => (beyond_any (p := p) (hb.sys S) ho.rowsOk lim :))) ?_) | (refine M4 ?_; refine SR ?_) | (refine M5 ?_; first | exact M7 | refine YM ?_ | refine YN ?_ ?_))
  refine XC.cond _ rfl (fun h1 => ?_) (fun h1 => ?_)
  · repeat (first | (refine M0 ?_; first | refine SL ?_ | refine SB fun _ _ => ?_) | (refine M1 ?_; first | refine SC ?_ | refine SD ?_) | (refine M2 ?_; refine SE ?_) | (refine M3 ?_; first | refine SG ?_ | refine SF ?_) | (refine M4 ?_; refine SR ?_) | (refine M5 ?_; first | exact M7 | refine YM ?_ | refine YN ?_ ?_))
    refine XE.retg tok Tryz.results23 rfl (by simp only [and_self, and_true]) (fun w' S => ?_)
    exact ⟨by unfold askE; rw [if_neg (by simp [hE]), if_pos h1]; rfl, S.toBelow⟩
  repeat (first | (refine M0 ?_; first | refine SL ?_ | refine SB fun _ _ => ?_) | (refine M1 ?_; refine SC ?_) | (refine M2 ?_; refine SE ?_))
  refine XL.callF (MomV b s ts) (ck rfl) rfl rfl (Fam.start (ks := []) (Nat.le_refl w.heap.size)) (fun _ h => by cases h) (Below.refl w.heap.size w) (fun w1 S1 _ _ => run_made (p := p) (q := q) (r := r) (hL.below S1.toBelow) (hb.sys S1) (hq.arg S1) (ht.arg S1)) (fun w2 v new hR hF2 hB2 hk2 => ?_)
  obtain ⟨rm, ms, rfl, rfl, hlen, e1, e2⟩ := hR
  simp only [svV]
  repeat (first | (refine M0 ?_; first | refine SL ?_ | refine SB fun _ _ => ?_) | (refine M1 ?_; refine SC ?_) | (refine M2 ?_; refine SE ?_))
  refine XE.retg tok Tryz.results23 rfl (by simp only [and_self, and_true]) (fun w' S => ?_)
  exact ⟨by unfold askE; rw [if_neg (by simp [hE]), if_neg (by simp [h1])]; rfl, hB2.trans S.toBelow⟩
end Go.Proofs.YtmckmlmfilmiaaaGreatDoor.X
/-
  The walks of slices.Clone of ticks, and of what changes a tick.
-/
namespace Go.Proofs.YtmckmlmfilmiaaaGreatDoor.X
open Go Go.RowKit Go.Proofs.YtmckmlmfilmiaaaGreatDoor.Bs
set_option linter.unusedVariables false
theorem tick_all (t : Tick) : (tickK.c t).all Value.oneCell' = true := rfl
theorem TksAt.list {w : World} {ok : Nat → Prop} {r : SV} {l : List Tick} (h : TksAt w ok r l) : ListAt tickK w ok r l := ⟨h.rd, h.max, fun a ha x hx => by cases hx⟩
set_option maxHeartbeats 4000000 in
theorem cloneT_any {r : SV} {ts : List Tick} {w : World} (hr : TksAt w (Lt w.heap.size) r ts) (hl : ts.length ≤ 1000) :
    Calls Tryz.prog 43 #[svV r] w fun e w' => ∃ v, e = .returned v ∧ ((∃ r : SV, v = svV r ∧ w'.ownsRow w.heap.size 41 3 (svV r) ts.length (ts.flatMap tickC)) ∧ Below w.heap.size w w') := by
  obtain ⟨A, n, c⟩ := r
  have hn := hr.len
  simp only at hn
  subst hn
  simp only [svV]
  cases A with
  | none =>
    have h0 : ts = [] := by
      cases ts with
      | nil => rfl
      | cons x r => obtain ⟨ad, e, _⟩ := hr.rd.at_ (by simp); cases e
    subst h0
    refine enter Tryz.func43 rfl Tryz.ntmps43 rfl ?_; simp only [frame, Nat.zero_add, Nat.reduceAdd]
    repeat (first | (refine M0 ?_; first | refine SL ?_ | refine SB fun _ _ => ?_ | refine Y4 (Ev.eqNil tok rfl rfl rfl) ?_) | (refine M1 ?_; first | refine SC ?_ | refine SD ?_) | (refine M2 ?_; refine SE ?_) | (refine M3 ?_; first | refine SG ?_ | refine SF ?_ | refine YF (Ev.eqNil tok rfl rfl rfl) ?_) | (refine M4 ?_; refine SR ?_) | (refine M5 ?_; first | exact M7 | refine YM ?_ | refine YN ?_ ?_))
    refine XE.retg tok Tryz.results43 rfl (by simp only [and_self, and_true]) (fun w' S => ?_)
    exact ⟨_, rfl, ⟨⟨none, 0, 0⟩, rfl, World.ownsRow_nil _ _ _ _⟩, S.toBelow⟩
  | some ad =>
    refine enter Tryz.func43 rfl Tryz.ntmps43 rfl ?_; simp only [frame, Nat.zero_add, Nat.reduceAdd]
    repeat (first | (refine M0 ?_; first | refine SL ?_ | refine SB fun _ _ => ?_ | refine Y4 (Ev.eqNil tok rfl rfl rfl) ?_) | (refine M1 ?_; first | refine SC ?_ | refine SD ?_) | (refine M2 ?_; refine SE ?_) | (refine M3 ?_; first | refine SG ?_ | refine SF ?_ | refine YF (Ev.eqNil tok rfl rfl rfl) ?_) | (refine M4 ?_; refine SR ?_) | (refine M5 ?_; first | exact M7 | refine YM ?_ | refine YN ?_ ?_))
    refine XL.newRow tok (K := tickK) (l := []) rfl rfl rfl rfl rfl rfl rfl rfl rfl ⟨rfl, rfl⟩ rfl rfl (Fam.start (ks := []) (Nat.le_refl w.heap.size)) (fun _ h => by cases h) (Below.refl w.heap.size w) (Nat.le_refl _) (fun a ha => by cases ha) (fun w7 g7 hF7 hB7 hk7 => ?_)
    repeat (first | (refine M0 ?_; first | refine SL ?_ | refine SB fun _ _ => ?_) | (refine M2 ?_; refine SE ?_) | (refine M3 ?_; first | refine SG ?_ | refine SF ?_) | (refine M4 ?_; refine SR ?_) | (refine M5 ?_; first | exact M7 | refine YM ?_ | refine YN ?_ ?_))
    refine XL.pushL (K := tickK) (l := []) (l2 := ts) (r2 := ⟨some ad, ts.length, c⟩) (wE := w) 0 tick_el (by decide) rfl rfl rfl hF7 rfl hk7 hB7 (Nat.le_refl _) (fun w9 S9 => ((hr.below hB7).arg S9).list) (fun a ha x hx => by cases hx) tick_all (by simp; omega) (by decide) (fun w8 v8 hF8 hB8 hk8 => ?_)
    repeat (first | (refine M0 ?_; first | refine SL ?_ | refine SB fun _ _ => ?_) | (refine M1 ?_; refine SC ?_) | (refine M2 ?_; refine SE ?_))
    refine XE.retg tok Tryz.results43 rfl (by simp only [and_self, and_true]) (fun w' S => ?_)
    have h5 := (hF8.sys S (fun e he => by cases he)).row _ (.head _)
    obtain ⟨r, e8, _⟩ := owns_sv h5
    have e8' : v8 = svV r := e8
    subst e8'
    exact ⟨_, rfl, ⟨r, rfl, h5⟩, hB8.trans S.toBelow⟩
theorem tset {l : List Tick} : ∀ {k : Nat} {t t' : Tick} {j : Nat} {v : Value} (sp : List Value), l[k]? = some t → (tickC t).set j v = tickC t' → j < 3 → (l.flatMap tickC ++ sp).set (k * 3 + j) v = (l.set k t').flatMap tickC ++ sp := by
  induction l with
  | nil => intro k t t' j v sp h; cases h
  | cons a l ih =>
    intro k t t' j v sp h h1 h2
    cases k with
    | zero =>
      simp only [List.getElem?_cons_zero, Option.some.injEq] at h
      subst h
      rw [List.flatMap_cons, List.append_assoc, List.set_cons_zero, List.flatMap_cons, List.append_assoc, ← h1]
      rw [List.set_append_left _ _ (by simpa [tickC] using (show 0 * 3 + j < 3 by omega))]
      simp
    | succ k =>
      simp only [List.getElem?_cons_succ] at h
      rw [List.flatMap_cons, List.append_assoc, List.set_cons_succ, List.flatMap_cons, List.append_assoc]
      rw [List.set_append_right _ _ (by simp [tickC]; omega)]
      congr 1
      rw [← ih sp h h1 h2]
      congr 1
      simp [tickC]; omega
theorem tget {l : List Tick} {k : Nat} {t : Tick} {j : Nat} (sp : List Value) (h : l[k]? = some t) (hj : j < 3) : (l.flatMap tickC ++ sp)[k * 3 + j]? = (tickC t)[j]? := by
  have e := flat_at tickC 3 tickC_len l k j t h hj
  rw [← e, List.getElem?_append_left]
  rw [flat_len tickC 3 tickC_len]
  have := (List.getElem?_eq_some_iff.1 h).1
  omega
theorem tlen {l : List Tick} {k : Nat} {t : Tick} {j : Nat} (sp : List Value) (h : l[k]? = some t) (hj : j < 3) : k * 3 + j < (l.flatMap tickC ++ sp).length := by
  rw [List.length_append, flat_len tickC 3 tickC_len]
  have := (List.getElem?_eq_some_iff.1 h).1
  omega
set_option maxHeartbeats 4000000 in
theorem need1_any {g k n : Nat} {l : List Tick} {sp : List Value} {t : Tick} {w : World} (h : w.heap[g]? = some (cel 41 (l.flatMap tickC ++ sp))) (hk : l[k]? = some t) (hn : n ≤ 10000001) (ht : 0 ≤ t.out ∧ t.out ≤ 10000000) :
    Calls Tryz.prog 25 #[.pointer (some ((⟨g, 0, none⟩ : Addr).add (k * 3))), .int .i64 (n : Nat)] w fun e w' => e = .returned (.tuple ⟨[]⟩) ∧ Sys g w [(g, cel 41 ((l.set k (needT t n)).flatMap tickC ++ sp))] w' := by
  refine enterL Tryz.func25 rfl Tryz.ntmps25 rfl (Sys.start1 (Nat.le_refl g) h) ?_; simp only [frame, Nat.zero_add, Nat.reduceAdd]
  simp only [add_off]
  have hg2 : (l.flatMap tickC ++ sp)[0 + k * 3 + 2]? = some (.int .i64 t.out) := by rw [Nat.zero_add, tget sp hk (by decide)]; rfl
  repeat (first | (refine M0 ?_; first | refine SL ?_ | refine SB fun _ _ => ?_ | refine Y4 (Ev.load_loc tok 0 (g := g) (o := 0 + k * 3 + 2) rfl rfl rfl hg2) ?_) | (refine M1 ?_; refine SC ?_) | (refine M2 ?_; refine SE ?_))
  refine XL.store_at tok 0 (g := g) (o := 0 + k * 3) (j := 2) (by rw [add_off]; rfl) rfl rfl rfl rfl (by rw [Nat.zero_add]; exact tlen sp hk (by decide)) rfl ?_
  rw [Nat.zero_add, tset (t' := needT t n) sp hk rfl (by decide)]
  repeat (first | (refine M0 ?_; first | refine SL ?_ | refine SB fun _ _ => ?_) | (refine M1 ?_; refine SC ?_) | (refine M2 ?_; refine SE ?_))
  refine XE.endg tok Tryz.results25 rfl trivial (fun w' S => ?_)
  exact ⟨rfl, S⟩
end Go.Proofs.YtmckmlmfilmiaaaGreatDoor.X
/-
  The walks of trial and of what it returns.
-/
namespace Go.Proofs.YtmckmlmfilmiaaaGreatDoor.Bs
open Go.Proofs.YtmckmlmfilmiaaaGreatDoor.X
/-- the first i ticks are changed. -/
def chTo (ch : Tick → Nat → Tick) (ts : List Tick) (n i : Nat) : List Tick := (List.range ts.length).map fun j => if j < i then ch (tk ts j) n else tk ts j
theorem chTo_0 (ch : Tick → Nat → Tick) (ts : List Tick) (n : Nat) : chTo ch ts n 0 = ts := by
  apply List.ext_getElem (by simp [chTo])
  intro i h1 h2
  simp [chTo, tk, h2]
theorem chTo_end (ch : Tick → Nat → Tick) (ts : List Tick) (n : Nat) : chTo ch ts n ts.length = chTs ch ts n := by
  apply List.ext_getElem (by simp [chTo, chTs])
  intro i h1 h2
  have h3 : i < ts.length := by simpa [chTo] using h1
  simp [chTo, chTs, tk, h3]
theorem chTo_at {ch : Tick → Nat → Tick} {ts : List Tick} {n i : Nat} (h : i < ts.length) : (chTo ch ts n i)[i]? = some (tk ts i) := by simp [chTo, h]
theorem chTo_set {ch : Tick → Nat → Tick} {ts : List Tick} {n i : Nat} (h : i < ts.length) : (chTo ch ts n i).set i (ch (tk ts i) n) = chTo ch ts n (i + 1) := by
  apply List.ext_getElem (by simp [chTo])
  intro j h1 h2
  rw [List.getElem_set]
  by_cases e : i = j
  · subst e; simp [chTo]
  · rw [if_neg e]
    simp only [chTo, List.getElem_map, List.getElem_range]
    by_cases hj : j < i
    · rw [if_pos hj, if_pos (by omega)]
    · rw [if_neg hj, if_neg (by omega)]
theorem hold_no {b : Bas} {s : Sta} {ts : List Tick} {lim : Int} {k : Nat} (h : badAt b s ts = some k) : ¬ hold b s ts lim := fun hh => by
  unfold badAt at h
  rw [List.find?_range_eq_some] at h
  obtain ⟨h1, h2, _⟩ := h
  have h3 : k < ts.length := by simpa using h2
  have h4 : errAt b s ts k ≠ 0 := by simpa using h1
  exact h4 (hh k h3).1
theorem bad_none {b : Bas} {s : Sta} {ts : List Tick} (h : badAt b s ts = none) : ∀ k, k < ts.length → errAt b s ts k = 0 := fun k hk => by
  unfold badAt at h
  rw [List.find?_eq_none] at h
  simpa using h k (by simpa using hk)
theorem hold_yes {b : Bas} {s : Sta} {ts : List Tick} {lim : Int} {ms : List X.Mom} (h : badAt b s ts = none) (hms : ms.map X.Mom.p = momsAt b s ts ts.length) : (firstOver b lim ms = ts.length) ↔ hold b s ts lim := by
  have hl : (momsAt b s ts ts.length).length = ts.length := by simp [momsAt]
  rw [first_moms hms]
  rw [show ((momsAt b s ts ts.length).findIdx (fun x => overB b lim x.1.vol) = ts.length) ↔ ((momsAt b s ts ts.length).findIdx (fun x => overB b lim x.1.vol) = (momsAt b s ts ts.length).length) by rw [hl]]
  rw [List.findIdx_eq_length]
  constructor
  · intro h1 k hk
    refine ⟨bad_none h k hk, ?_⟩
    have := h1 (staAt b s ts (k + 1), floAt b s ts k) (by unfold momsAt; exact List.mem_map.2 ⟨k, List.mem_range.2 hk, rfl⟩)
    simpa using this
  · intro h1 x hx
    unfold momsAt at hx
    obtain ⟨k, hk, rfl⟩ := List.mem_map.1 hx
    simpa using (h1 k (List.mem_range.1 hk)).2
end Go.Proofs.YtmckmlmfilmiaaaGreatDoor.Bs
namespace Go.Proofs.YtmckmlmfilmiaaaGreatDoor.X
open Go Go.RowKit Go.Proofs.YtmckmlmfilmiaaaGreatDoor.Bs
set_option linter.unusedVariables false
/-- the five boxes of a trial. -/
structure TrAt (w : World) (ok : Nat → Prop) (g5 g6 g7 g8 g9 : Nat) (p : BV) (b : Bas) (q : SV) (s : Sta) (r : SV) (lim : Int) (f : FuncId) : Prop where
  k5 : ok g5
  k6 : ok g6
  k7 : ok g7
  k8 : ok g8
  k9 : ok g9
  h5 : w.heap[g5]? = some (cel 25 (basC p b))
  h6 : w.heap[g6]? = some (cel 28 (staC q s))
  h7 : w.heap[g7]? = some (cel 44 [svV r])
  h8 : w.heap[g8]? = some (cel 3 [.int .i64 lim])
  h9 : w.heap[g9]? = some (cel 75 [.func (.func f) #[] #[]])
section
variable {w w' : World} {ok ok' : Nat → Prop} {g5 g6 g7 g8 g9 : Nat} {p : BV} {b : Bas} {q : SV} {s : Sta} {r : SV} {lim : Int} {f : FuncId}
theorem TrAt.keep (h : TrAt w ok g5 g6 g7 g8 g9 p b q s r lim f) (hk : ∀ k, ok k → w'.heap[k]? = w.heap[k]?) : TrAt w' ok g5 g6 g7 g8 g9 p b q s r lim f :=
  ⟨h.k5, h.k6, h.k7, h.k8, h.k9, (hk _ h.k5).trans h.h5, (hk _ h.k6).trans h.h6, (hk _ h.k7).trans h.h7, (hk _ h.k8).trans h.h8, (hk _ h.k9).trans h.h9⟩
theorem TrAt.mono (h : TrAt w ok g5 g6 g7 g8 g9 p b q s r lim f) (hk : ∀ k, ok k → ok' k) : TrAt w ok' g5 g6 g7 g8 g9 p b q s r lim f :=
  ⟨hk _ h.k5, hk _ h.k6, hk _ h.k7, hk _ h.k8, hk _ h.k9, h.h5, h.h6, h.h7, h.h8, h.h9⟩
end
def hTr (g5 g6 g7 g8 g9 : Nat) (p : BV) (b : Bas) (q : SV) (s : Sta) (r : SV) (lim : Int) (f : FuncId) : Held := ⟨fun w ok => TrAt w ok g5 g6 g7 g8 g9 p b q s r lim f, TrAt.keep, TrAt.mono⟩
def trCap (g5 g6 g7 g8 g9 : Nat) : List Value := [.pointer (some ⟨g7, 0, none⟩), .pointer (some ⟨g9, 0, none⟩), .pointer (some ⟨g5, 0, none⟩), .pointer (some ⟨g6, 0, none⟩), .pointer (some ⟨g8, 0, none⟩)]
def TrialV (p : BV) (b : Bas) (q : SV) (s : Sta) (r : SV) (lim : Int) (f : FuncId) (v : Value) (new : List Held) : Prop :=
  ∃ g5 g6 g7 g8 g9 : Nat, v = .func (.func 42) #[] (trCap g5 g6 g7 g8 g9).toArray ∧ new = [hTr g5 g6 g7 g8 g9 p b q s r lim f]
set_option maxHeartbeats 4000000 in
theorem trial_made (p : BV) (b : Bas) (q : SV) (s : Sta) (r : SV) (lim : Int) (f : FuncId) (w : World) :
    Calls Tryz.prog 24 #[basV p b, staV q s, svV r, .int .i64 lim, .func (.func f) #[] #[]] w (Made w (TrialV p b q s r lim f)) := by
  simp only [basV, basC, staV, staC, svV]
  refine enter Tryz.func24 rfl Tryz.ntmps24 rfl ?_; simp only [frame, Nat.zero_add, Nat.reduceAdd]
  repeat (first | (refine M0 ?_; first | refine SL ?_ | refine SB fun _ _ => ?_ | refine Y4 (Ev.makeFunc rfl rfl) ?_) | (refine M1 ?_; refine SC ?_) | (refine M2 ?_; refine SE ?_))
  rename_i g5 h5 g6 h6 g7 h7 g8 h8 g9 h9
  refine XE.retg tok Tryz.results24 rfl (by simp only [and_self, and_true]) (fun w' S => ?_)
  refine ⟨_, _, rfl, ⟨g5, g6, g7, g8, g9, rfl, rfl⟩, fun x hx => ?_, S.toBelow⟩
  rw [List.mem_singleton] at hx
  subst hx
  exact ⟨⟨h5, S.keyLt _ (by simp)⟩, ⟨h6, S.keyLt _ (by simp)⟩, ⟨h7, S.keyLt _ (by simp)⟩, ⟨h8, S.keyLt _ (by simp)⟩, ⟨h9, S.keyLt _ (by simp)⟩,
    S.obj (i := 4) rfl, S.obj (i := 3) rfl, S.obj (i := 2) rfl, S.obj (i := 1) rfl, S.obj (i := 0) rfl⟩
end Go.Proofs.YtmckmlmfilmiaaaGreatDoor.X
/-
  The walk of what trial returns.
-/
namespace Go.Proofs.YtmckmlmfilmiaaaGreatDoor.X
open Go Go.RowKit Go.Proofs.YtmckmlmfilmiaaaGreatDoor.Bs
set_option linter.unusedVariables false
theorem TksAt.own3 {w : World} {base e : Nat} {r : SV} {l : List Tick} (h : w.ownsRow base e 3 (svV r) l.length (l.flatMap tickC)) : TksAt w (Btw base w.heap.size) r l := by
  obtain ⟨h1, h2, _, h4⟩ := ReadsP.own h
  exact ⟨by rw [h2]; exact h1, by rw [h2]; simp only [maxLen] at h4; omega⟩
theorem owns_blk {w : World} {base e n : Nat} {A : Option Addr} {m c : Nat} {xs : List Value} (h : w.ownsRow base e 3 (.slice A m c) n xs) (hn : 0 < n) : ∃ g sp, A = some ⟨g, 0, none⟩ ∧ m = n ∧ base ≤ g ∧ w.heap[g]? = some (cel e (xs ++ sp)) ∧ xs.length + sp.length = c * 3 ∧ c ≤ maxLen ∧ n ≤ c := by
  have h1 := h.1
  rcases h.2 with ⟨e1, rfl⟩ | ⟨g, cap, cur, e1, hb, hg, hc, hm, hsz, hx⟩
  · omega
  · cases e1
    refine ⟨g, cur.toList.drop (n * 3), rfl, rfl, hb, by rw [hg, ← hx, List.take_append_drop], ?_, hm, hc⟩
    have h2 : cur.toList.length = c * 3 := by simp [hsz]
    simp only [List.length_drop, h2]
    have := Nat.mul_le_mul_right 3 hc
    omega
theorem owns_of3 {w : World} {base e g n c : Nat} {xs sp : List Value} (hg : w.heap[g]? = some (cel e (xs ++ sp))) (hb : base ≤ g) (hn : xs.length = n * 3) (hc : xs.length + sp.length = c * 3) (hm : c ≤ maxLen) (hnc : n ≤ c) : w.ownsRow base e 3 (.slice (some ⟨g, 0, none⟩) n c) n xs :=
  ⟨hn, .inr ⟨g, c, (xs ++ sp).toArray, rfl, hb, hg, hnc, hm, by simp; omega, by simp [← hn]⟩⟩
/-- what changes a tick. -/
def Changes (f : FuncId) (ch : Tick → Nat → Tick) (n : Nat) : Prop := callOk Tryz.prog f = true ∧ ∀ (g k : Nat) (l : List Tick) (sp : List Value) (t : Tick) (w : World), w.heap[g]? = some (cel 41 (l.flatMap tickC ++ sp)) → l[k]? = some t → tickBad t = false →
  Calls Tryz.prog f #[.pointer (some ((⟨g, 0, none⟩ : Addr).add (k * 3))), .int .i64 (n : Nat)] w fun e w' => e = .returned (.tuple ⟨[]⟩) ∧ Sys g w [(g, cel 41 ((l.set k (ch t n)).flatMap tickC ++ sp))] w'
theorem err_isIf : isIf (Tryz.prog.underlying 118) = true := by kernel_rfl
theorem need1_ch {n : Nat} (hn : n ≤ 10000001) : Changes 25 needT n := ⟨ck rfl, fun g k l sp t w h hk ht => need1_any h hk hn (bad_f ht).2.2⟩
set_option maxHeartbeats 16000000 in
theorem trial1_any {g5 g6 g7 g8 g9 : Nat} {p : BV} {b : Bas} {q : SV} {s : Sta} {r : SV} {ts : List Tick} {lim : Int} {f : FuncId} {ch : Tick → Nat → Tick} {n : Nat} {w : World}
    (hT : TrAt w (Lt w.heap.size) g5 g6 g7 g8 g9 p b q s r lim f) (hch : Changes f ch n) (hb : BasAt w w.heap.size p b) (hq : IntsAt w (Lt w.heap.size) q s.fil) (ht : TksAt w (Lt w.heap.size) r ts)
    (ho : Ok b) (hs : StaOk b s) (h300 : ts.length ≤ 300) (hbad : ∀ k, k < ts.length → tickBad (tk ts k) = false) (hlim : -20000 ≤ lim ∧ lim ≤ 20000) :
    Calls Tryz.prog 42 ([] ++ [Value.int .i64 (n : Nat)] ++ trCap g5 g6 g7 g8 g9).toArray w fun e w' => e = .returned (.bool (holdB b s lim ch ts n)) ∧ Below w.heap.size w w' := by
  obtain ⟨k5, k6, k7, k8, k9, h5, h6, h7, h8, h9⟩ := hT
  have c5 : ∀ j u, (basC p b)[j]? = some u → w.cell? ((⟨g5, 0, none⟩ : Addr).add j) = some u := fun j u hj => by rw [add_off]; simp [World.cell?, h5, hj]
  have c6 : ∀ j u, (staC q s)[j]? = some u → w.cell? ((⟨g6, 0, none⟩ : Addr).add j) = some u := fun j u hj => by rw [add_off]; simp [World.cell?, h6, hj]
  have c7 : w.cell? ⟨g7, 0, none⟩ = some (svV r) := by simp [World.cell?, h7]
  have c8 : w.cell? ⟨g8, 0, none⟩ = some (.int .i64 lim) := by simp [World.cell?, h8]
  have c9 : w.cell? ⟨g9, 0, none⟩ = some (.func (.func f) #[] #[]) := by simp [World.cell?, h9]
  have b5 : ∀ {W : World}, Below w.heap.size w W → ∀ j u, (basC p b)[j]? = some u → W.cell? ((⟨g5, 0, none⟩ : Addr).add j) = some u := fun hB j u hj => (hB.cell (by rw [add_block]; exact k5)).trans (c5 j u hj)
  have b6 : ∀ {W : World}, Below w.heap.size w W → ∀ j u, (staC q s)[j]? = some u → W.cell? ((⟨g6, 0, none⟩ : Addr).add j) = some u := fun hB j u hj => (hB.cell (by rw [add_block]; exact k6)).trans (c6 j u hj)
  have b7 : ∀ {W : World}, Below w.heap.size w W → W.cell? ⟨g7, 0, none⟩ = some (svV r) := fun hB => (hB.cell (p := ⟨g7, 0, none⟩) k7).trans c7
  have b8 : ∀ {W : World}, Below w.heap.size w W → W.cell? ⟨g8, 0, none⟩ = some (.int .i64 lim) := fun hB => (hB.cell (p := ⟨g8, 0, none⟩) k8).trans c8
  have b9 : ∀ {W : World}, Below w.heap.size w W → W.cell? ⟨g9, 0, none⟩ = some (.func (.func f) #[] #[]) := fun hB => (hB.cell (p := ⟨g9, 0, none⟩) k9).trans c9
  simp only [trCap, List.nil_append, List.cons_append]
  refine enter Tryz.func42 rfl Tryz.ntmps42 rfl ?_; simp only [frame, Nat.zero_add, Nat.reduceAdd]
  refine XC.seq (XC.region ?_)
  repeat (first | (refine M0 ?_; first | refine SL ?_ | refine SB fun _ _ => ?_) | (refine M2 ?_; refine SE ?_) | (refine M3 ?_; first | refine SG ?_ | refine SF ?_) | (refine M4 ?_; refine SR ?_) | (refine M5 ?_; first | exact M7 | refine YM ?_ | refine YN ?_ ?_))
  refine XC.seq (XC.region ?_)
  repeat (first | (refine M0 ?_; first | refine SL ?_ | refine SB fun _ _ => ?_ | refine Y4 (Ev.load_old tok rfl rfl k7 c7) ?_) | (refine M2 ?_; refine SE ?_) | (refine M3 ?_; first | refine SG ?_ | refine SF ?_ | refine YF (Ev.load_old tok rfl rfl k7 c7) ?_) | (refine M4 ?_; refine SR ?_) | (refine M5 ?_; first | exact M7 | refine YM ?_ | refine YN ?_ ?_))
  refine XL.call (fst := []) (cap := []) (ck rfl) rfl rfl rfl (List.Sublist.refl _) (fun w1 v w2 => ∃ r2 : SV, v = svV r2 ∧ w2.ownsRow w1.heap.size 41 3 (svV r2) ts.length (ts.flatMap tickC))
    (fun w5 S5 => cloneT_any (ht.arg S5) (by omega)) (fun w1 v w2 S1 hR hB1 S2 => ?_)
  obtain ⟨⟨A2, n2, c2⟩, rfl, hown⟩ := hR
  have hB2 := S2.toBelow
  have hown' := hown
  have hm2 := TksAt.own3 hown
  have hn2 := hm2.len
  simp only at hn2
  subst hn2
  simp only [svV] at hown ⊢
  repeat (first | (refine M0 ?_; first | refine SL ?_ | refine SB fun _ _ => ?_) | (refine M2 ?_; refine SE ?_) | (refine M3 ?_; first | refine SG ?_ | refine SF ?_) | (refine M4 ?_; refine SR ?_) | (refine M5 ?_; first | exact M7 | refine YM ?_ | refine YN ?_ ?_))
  refine XC.seq ?_
  refine XC.cutn [1, 3, 4, 5] rfl (fun s : World × SV => [(8, svV s.2)]) (fun _ => []) (fun s => s.1) (fun s => Below w.heap.size w s.1 ∧ TksAt s.1 (Lt s.1.heap.size) s.2 (chTs ch ts n)) ?_ ?_
  · rcases Nat.eq_zero_or_pos ts.length with h0 | h0
    · repeat (first | (refine M0 ?_; first | refine SL ?_ | refine SB fun _ _ => ?_) | (refine M1 ?_; refine SC ?_) | (refine M2 ?_; refine SE ?_))
      refine XC.loopk [1, 3, 4, 5, 8, 15] rfl (fun _ : Unit => [(16, .int .i64 0)]) (fun _ => []) (fun _ => w2) (fun _ => True) (fun _ => 0) () trivial ZZSUB (fun _ h => h) ?_
      rintro _ _
      dsimp only [List.cons_append, List.nil_append]
      repeat (first | (refine M0 ?_; first | refine SL ?_ | refine SB fun _ _ => ?_) | (refine M1 ?_; refine SC ?_) | (refine M2 ?_; refine SE ?_))
      refine XC.cond _ rfl (fun h => absurd (of_decide_eq_true h) (by omega)) (fun h => ?_)
      repeat (first | (refine M0 ?_; first | refine SL ?_ | refine SB fun _ _ => ?_) | (refine M1 ?_; refine SC ?_) | (refine M2 ?_; refine SE ?_))
      refine XE.leafW (fun w9 S9 => ⟨(w9, ⟨A2, ts.length, c2⟩), ⟨hB2.trans S9.toBelow, ?_⟩, ZZSUB, S9.rebase (List.Sublist.refl _)⟩)
      have e0 : ts = [] := List.length_eq_zero_iff.1 h0
      rw [show chTs ch ts n = ts by rw [e0]; rfl]
      exact hm2.sys S9 (fun k hk => ⟨hk.2, fun e he => by cases he⟩)
    have hflat : (ts.flatMap tickC).length = ts.length * 3 := flat_len tickC 3 tickC_len ts
    obtain ⟨gm, sp, rfl, _, hgm, hheap, hlen, hcm, hnc⟩ := owns_blk hown h0
    refine XC.seize hheap (Nat.le_trans S1.size hgm) (fun W S => ?_)
    have hBW := hB2.trans S.toBelow
    repeat (first | (refine M0 ?_; first | refine SL ?_ | refine SB fun _ _ => ?_) | (refine M1 ?_; refine SC ?_) | (refine M2 ?_; refine SE ?_))
    refine XC.loopk [0, 1, 2, 3, 4, 5, 8, 15] rfl (fun i : Nat => [(16, .int .i64 (i : Nat))]) (fun i => [(gm, cel 41 ((chTo ch ts n i).flatMap tickC ++ sp))]) (fun _ => W) (fun i => i ≤ ts.length) (fun i => ts.length - i) 0 (Nat.zero_le _) ZZSUB (fun _ h => by rw [chTo_0]; exact h) ?_
    rintro i hi
    dsimp only [List.cons_append, List.nil_append]
    repeat (first | (refine M0 ?_; first | refine SL ?_ | refine SB fun _ _ => ?_) | (refine M1 ?_; refine SC ?_) | (refine M2 ?_; refine SE ?_))
    refine XC.cond _ rfl (fun h1 => ?_) (fun h1 => ?_)
    rotate_left
    · have hin : i = ts.length := by have : ¬ (i < ts.length) := by simpa using h1
                                     omega
      subst hin
      repeat (first | (refine M0 ?_; first | refine SL ?_ | refine SB fun _ _ => ?_) | (refine M1 ?_; refine SC ?_) | (refine M2 ?_; refine SE ?_))
      refine XE.leafW (fun w9 S9 => ⟨(w9, ⟨some ⟨gm, 0, none⟩, ts.length, c2⟩), ⟨hBW.trans S9.toBelow, ?_⟩, ZZSUB, S9.rebase (List.nil_sublist _)⟩)
      have h9 := S9.obj (i := 0) rfl
      rw [chTo_end] at h9
      have hl9 : ((chTs ch ts n).flatMap tickC).length = ts.length * 3 := by rw [flat_len tickC 3 tickC_len, chTs_len]
      have ho3 : w9.ownsRow gm 41 3 (svV ⟨some ⟨gm, 0, none⟩, ts.length, c2⟩) (chTs ch ts n).length ((chTs ch ts n).flatMap tickC) := by
        rw [chTs_len]
        exact owns_of3 h9 (Nat.le_refl _) hl9 (by rw [hl9, ← hflat]; exact hlen) hcm hnc
      exact (TksAt.own3 ho3).mono fun j hj => hj.2
    have hin : i < ts.length := by simpa using h1
    repeat (first | (refine M0 ?_; first | refine SL ?_ | refine SB fun _ _ => ?_) | (refine M1 ?_; refine SC ?_) | (refine M2 ?_; refine SE ?_))
    refine XC.drawT mixed rfl rfl (by kernel_rfl) ?_
    repeat (first | (refine M0 ?_; first | refine SL ?_ | refine SB fun _ _ => ?_ | refine Y4 (Ev.load_old tok rfl rfl k9 (b9 hBW)) ?_) | (refine M2 ?_; refine SE ?_) | (refine M3 ?_; first | refine SG ?_ | refine SF ?_ | refine YF (Ev.load_old tok rfl rfl k9 (b9 hBW)) ?_) | (refine M4 ?_; refine SR ?_) | (refine M5 ?_; first | exact M7 | refine YM ?_ | refine YN ?_ ?_))
    refine XL.callT (B' := gm) 0 (fst := []) (cap := []) (vs := [.pointer (some ((⟨gm, 0, none⟩ : Addr).add ((i : Int).toNat * 3))), .int .i64 (n : Nat)]) hch.1 rfl rfl rfl rfl rfl (fun w5 S5 => hch.2 gm i (chTo ch ts n i) sp (tk ts i) w5 (by exact S5.obj (i := 0) rfl) (chTo_at hin) (hbad i hin)) ?_
    rw [chTo_set hin]
    repeat (first | (refine M0 ?_; first | refine SL ?_ | refine SB fun _ _ => ?_) | (refine M1 ?_; refine SC ?_) | (refine M2 ?_; refine SE ?_))
    exact XE.round (i + 1) hin (by omega) ZZSUB (fun _ h => h)
  rintro ⟨W, ⟨A8, n8, c8'⟩⟩ ⟨hBW, hTk⟩
  simp only at hBW hTk
  simp only [svV]
  repeat (first | (refine M0 ?_; first | refine SL ?_ | refine SB fun _ _ => ?_ | refine Y4 (Ev.load_old_agg tok (basC p b) rfl rfl rfl k5 (b5 hBW)) ?_ | refine Y4 (Ev.load_old_agg tok (staC q s) rfl rfl rfl k6 (b6 hBW)) ?_) | (refine M1 ?_; refine SC ?_) | (refine M2 ?_; refine SE ?_))
  refine XL.call (fst := []) (cap := []) (ck rfl) rfl rfl rfl (List.Sublist.refl _) (fun w1 v w2 => AllR b s (chTs ch ts n) w1 v w2)
    (fun w5 S5 => (all_any (p := p) (q := q) (r := ⟨A8, n8, c8'⟩) ((hb.below hBW).sys S5) ((hq.below hBW).arg S5) (hTk.sys S5 (fun k hk => ⟨hk, fun e he => by cases he⟩)) ho hs (by rw [chTs_len]; exact h300)).mono fun e w' ⟨v, h1, h2⟩ => ⟨v, h1, h2, h2.2⟩) (fun w5 v w6 S5 hR hB6 S6 => ?_)
  have hB6' := hBW.trans S6.toBelow
  rcases hR.1 with ⟨hbn, rm, ms, rfl, hrow, hms⟩ | ⟨k, gf, hbk, rfl, _, _⟩
  · simp only [svV]
    have hk : Keep (Btw w5.heap.size w6.heap.size) w6 _ := Keep.made S5 (Nat.le_refl _)
    repeat (first | (refine M0 ?_; first | refine SL ?_ | refine SB fun _ _ => ?_ | refine Y4 (Ev.ifEql rfl rfl err_isIf) ?_ | refine Y4 (Ev.load_old_agg tok (basC p b) rfl rfl rfl k5 (b5 hB6')) ?_ | refine Y4 (Ev.load_old tok rfl rfl k8 (b8 hB6')) ?_ | refine Y4 (Ev.load_old tok rfl rfl k7 (b7 hB6')) ?_ | refine Y4 (Ev.call (f := 32) (ck rfl) rfl (fun w S => (passed_any (p := p) (r := rm) (ms := ms) ⟨hrow.rd.sys S hk, hrow.max, fun m hm => ⟨(hrow.ins m hm).1.sys S hk, (hrow.ins m hm).2.sys S hk⟩⟩ ((hb.below hB6').sys S) ho (momsAt_ok ho hs (bad_none hbn) hms) hlim :))) ?_) | (refine M1 ?_; first | refine SC ?_ | refine SD ?_) | (refine M2 ?_; refine SE ?_) | (refine M3 ?_; first | refine SG ?_ | refine SF ?_ | refine YF (Ev.ifEql rfl rfl err_isIf) ?_ | refine YF (Ev.load_old_agg tok (basC p b) rfl rfl rfl k5 (b5 hB6')) ?_ | refine YF (Ev.load_old tok rfl rfl k8 (b8 hB6')) ?_ | refine YF (Ev.load_old tok rfl rfl k7 (b7 hB6')) ?_ | refine YF (Ev.call (f := 32) (ck rfl) rfl (fun w S => (passed_any (p := p) (r := rm) (ms := ms) ⟨hrow.rd.sys S hk, hrow.max, fun m hm => ⟨(hrow.ins m hm).1.sys S hk, (hrow.ins m hm).2.sys S hk⟩⟩ ((hb.below hB6').sys S) ho (momsAt_ok ho hs (bad_none hbn) hms) hlim :))) ?_) | (refine M4 ?_; refine SR ?_) | (refine M5 ?_; first | exact M7 | refine YM ?_ | refine YN ?_ ?_))
    refine XE.retg tok Tryz.results42 rfl (by simp only [and_self, and_true]) (fun w' S => ?_)
    refine ⟨?_, hB6'.trans S.toBelow⟩
    have hiff := hold_yes (lim := lim) hbn hms
    rw [chTs_len] at hiff
    have hrn := ht.len
    have e : holdB b s lim ch ts n = decide (((firstOver b lim ms : Nat) : Int) = (r.n : Int)) := by
      rw [Bool.eq_iff_iff, holdB_iff, ← hiff, decide_eq_true_iff]
      omega
    rw [e]; rfl
  · repeat (first | (refine M0 ?_; first | refine SL ?_ | refine SB fun _ _ => ?_ | refine Y4 (Ev.ifEql rfl rfl err_isIf) ?_) | (refine M1 ?_; first | refine SC ?_ | refine SD ?_) | (refine M2 ?_; refine SE ?_) | (refine M3 ?_; first | refine SG ?_ | refine SF ?_ | refine YF (Ev.ifEql rfl rfl err_isIf) ?_) | (refine M4 ?_; refine SR ?_) | (refine M5 ?_; first | exact M7 | refine YM ?_ | refine YN ?_ ?_))
    refine XE.retg tok Tryz.results42 rfl (by simp only [and_self, and_true]) (fun w' S => ?_)
    refine ⟨?_, hB6'.trans S.toBelow⟩
    rw [show holdB b s lim ch ts n = false by rw [← Bool.not_eq_true, holdB_iff]; exact hold_no hbk]; rfl
end Go.Proofs.YtmckmlmfilmiaaaGreatDoor.X
/-
  The walks of Need and Spare.
-/
namespace Go.Proofs.YtmckmlmfilmiaaaGreatDoor.Bs
open Go.Proofs.YtmckmlmfilmiaaaGreatDoor.X
theorem ask_parts {b : Bas} {s : Sta} {ts : List Tick} {lim : Int} (h : askE b s ts lim = 0) : outB lim (b.row 0).level 20000 = false ∧ runE b s ts = 0 := by
  unfold askE at h
  split at h
  · rename_i h1; exact absurd h h1
  · split at h
    · cases h
    · rename_i h2; exact ⟨by simpa using h2, h⟩
end Go.Proofs.YtmckmlmfilmiaaaGreatDoor.Bs
namespace Go.Proofs.YtmckmlmfilmiaaaGreatDoor.X
open Go Go.RowKit Go.Proofs.YtmckmlmfilmiaaaGreatDoor.Bs
set_option linter.unusedVariables false
/-- what a trial needs, behind further calls. -/
theorem trial_at {g5 g6 g7 g8 g9 : Nat} {p : BV} {b : Bas} {q : SV} {s : Sta} {r : SV} {ts : List Tick} {lim : Int} {f : FuncId} {ch : Tick → Nat → Tick} {n : Nat} {w w' : World}
    (hT : TrAt w (Lt w.heap.size) g5 g6 g7 g8 g9 p b q s r lim f) (hch : Changes f ch n) (hb : BasAt w w.heap.size p b) (hq : IntsAt w (Lt w.heap.size) q s.fil) (ht : TksAt w (Lt w.heap.size) r ts)
    (hE : askE b s ts lim = 0) (hB : Below w.heap.size w w') :
    Calls Tryz.prog 42 ([] ++ [Value.int .i64 (n : Nat)] ++ trCap g5 g6 g7 g8 g9).toArray w' fun e w'' => e = .returned (.bool (holdB b s lim ch ts n)) ∧ Below w'.heap.size w' w'' := by
  obtain ⟨ho, hs, hbad⟩ := ask_0 hE
  obtain ⟨h1, h2⟩ := ask_parts hE
  obtain ⟨_, h300, _⟩ := runE_0 h2
  have h6 := outB_f.1 h1
  have h7 := ho.rowsOk.level 0 (by have := ho.rowsOk.n2; omega)
  have hlt : ∀ j, Lt w.heap.size j → Lt w'.heap.size j := fun j hj => Nat.lt_of_lt_of_le hj hB.size
  exact trial1_any ((hT.keep fun k hk => hB.block k hk).mono hlt) hch ((hb.below hB).more hB.size) ((hq.below hB).mono hlt) ((ht.below hB).mono hlt) ho hs (by omega) hbad (by omega)
set_option maxHeartbeats 8000000 in
theorem Need_any {p : BV} {b : Bas} {q r : SV} {s : Sta} {ts : List Tick} {lim : Int} {w : World} (hL : Laid w) (hb : BasAt w w.heap.size p b) (hq : IntsAt w (Lt w.heap.size) q s.fil) (ht : TksAt w (Lt w.heap.size) r ts) :
    Calls Tryz.prog 6 #[basV p b, staV q s, svV r, .int .i64 lim] w fun e w' => e = .returned (.tuple ⟨[.int .i64 (needN b s ts lim), .int .i64 (needE b s ts lim)]⟩) ∧ Below w.heap.size w w' := by
  simp only [basV, basC, staV, staC, svV]
  refine enter Tryz.func6 rfl Tryz.ntmps6 rfl ?_; simp only [frame, Nat.zero_add, Nat.reduceAdd]
  repeat (first | (refine M0 ?_; first | refine SL ?_ | refine SB fun _ _ => ?_ | refine Y4 (Ev.call (f := 23) (ck rfl) rfl (fun w S => (asked_any (p := p) (q := q) (r := r) (lim := lim) (hL.below S.toBelow) (hb.sys S) (hq.arg S) (ht.arg S) :))) ?_) | (refine M1 ?_; first | refine SC ?_ | refine SD ?_) | (refine M2 ?_; refine SE ?_) | (refine M3 ?_; first | refine SG ?_ | refine SF ?_ | refine YF (Ev.call (f := 23) (ck rfl) rfl (fun w S => (asked_any (p := p) (q := q) (r := r) (lim := lim) (hL.below S.toBelow) (hb.sys S) (hq.arg S) (ht.arg S) :))) ?_) | (refine M4 ?_; refine SR ?_) | (refine M5 ?_; first | exact M7 | refine YM ?_ | refine YN ?_ ?_))
  rename_i g4 hg4 g5 hg5
  refine XC.cond _ rfl (fun h0 => ?_) (fun h0 => ?_)
  · have hE : askE b s ts lim ≠ 0 := by simpa using h0
    repeat (first | (refine M0 ?_; first | refine SL ?_ | refine SB fun _ _ => ?_) | (refine M1 ?_; first | refine SC ?_ | refine SD ?_) | (refine M2 ?_; refine SE ?_) | (refine M3 ?_; first | refine SG ?_ | refine SF ?_) | (refine M4 ?_; refine SR ?_) | (refine M5 ?_; first | exact M7 | refine YM ?_ | refine YN ?_ ?_))
    refine XE.retg tok Tryz.results6 rfl (by simp only [and_self, and_true]) (fun w' S => ?_)
    have e1 : needE b s ts lim = askE b s ts lim := by unfold needE; rw [if_pos hE]
    exact ⟨by unfold needN; rw [e1, if_pos hE]; rfl, S.toBelow⟩
  have hE : askE b s ts lim = 0 := by simpa using h0
  repeat (first | (refine M0 ?_; first | refine SL ?_ | refine SB fun _ _ => ?_) | (refine M1 ?_; refine SC ?_) | (refine M2 ?_; refine SE ?_))
  refine XL.callF (TrialV p b q s r lim 25) (ck rfl) rfl rfl (Fam.start (ks := []) (Nat.le_refl w.heap.size)) (fun _ h => by cases h) (Below.refl w.heap.size w) (fun w1 S1 _ _ => trial_made p b q s r lim _ w1) (fun w2 v new hR hF2 hB2 hk2 => ?_)
  obtain ⟨t5, t6, t7, t8, t9, rfl, rfl⟩ := hR
  repeat (first | (refine M0 ?_; first | refine SL ?_ | refine SB fun _ _ => ?_) | (refine M1 ?_; refine SC ?_) | (refine M2 ?_; refine SE ?_))
  refine XL.step _ (Ev.call (f := 26) (ck rfl) rfl (fun w5 S5 => (search_any (f := 42) (cap := trCap t5 t6 t7 t8 t9) (P := holdB b s lim needT ts) (n := top) (ck rfl) (Nat.le_refl _) (fun k hk w6 hb6 => trial_at (Held.lt (x := hTr t5 t6 t7 t8 t9 p b q s r lim 25) ((hF2.sys S5 ZZHL).get (.head _))) (need1_ch (Nat.le_of_lt hk)) ((hb.below hB2).sys S5) ((hq.below hB2).arg S5) ((ht.below hB2).arg S5) hE hb6) :))) rfl ?_
  rw [show srch (holdB b s lim needT ts) top 0 top = needI b s ts lim from rfl]
  repeat (first | (refine M0 ?_; first | refine SL ?_ | refine SB fun _ _ => ?_) | (refine M1 ?_; refine SC ?_) | (refine M2 ?_; refine SE ?_))
  refine XC.cond _ rfl (fun h1 => ?_) (fun h1 => ?_)
  · have h2 : 10000000 < needI b s ts lim := by have := of_decide_eq_true h1; omega
    repeat (first | (refine M0 ?_; first | refine SL ?_ | refine SB fun _ _ => ?_) | (refine M1 ?_; refine SC ?_) | (refine M2 ?_; refine SE ?_))
    refine XE.retg tok Tryz.results6 rfl (by simp only [and_self, and_true]) (fun w' S => ?_)
    have e1 : needE b s ts lim = 9 := by unfold needE; rw [if_neg (by simp [hE]), if_pos h2]
    exact ⟨by unfold needN; rw [e1, if_pos (by decide)]; rfl, hB2.trans S.toBelow⟩
  · have h2 : ¬ 10000000 < needI b s ts lim := by have := of_decide_eq_false h1; omega
    repeat (first | (refine M0 ?_; first | refine SL ?_ | refine SB fun _ _ => ?_) | (refine M1 ?_; refine SC ?_) | (refine M2 ?_; refine SE ?_))
    refine XE.retg tok Tryz.results6 rfl (by simp only [and_self, and_true]) (fun w' S => ?_)
    have e1 : needE b s ts lim = 0 := by unfold needE; rw [if_neg (by simp [hE]), if_neg h2]
    exact ⟨by unfold needN; rw [e1, if_neg (by simp)]; rfl, hB2.trans S.toBelow⟩
end Go.Proofs.YtmckmlmfilmiaaaGreatDoor.X
/-
  The plain words of layer 7 (runoff): devices, tasks, what Check says, what a choice does.
-/
namespace Go.Proofs.YtmckmlmfilmiaaaGreatDoor.Bs
open Go Go.Proofs.YtmckmlmfilmiaaaGreatDoor.X
set_option linter.unusedVariables false
structure Slu where
  name : ByteArray
  width : Int
  move : Int
structure Pmp where
  name : ByteArray
  rate : Int
  base : Int
  lift : Int
  start : Int
inductive Dev where
  | slu (x : Slu)
  | pmp (x : Pmp)
structure RTk where
  b : Bas
  s : Sta
  outer : List Int
  river : List Int
  prices : List Int
  low : Int
  high : Int
  slu : List Slu
  pmp : List Pmp
  on : List Bool
def Dev.name : Dev → ByteArray
  | .slu x => x.name
  | .pmp x => x.name
def sluWild (x : Slu) : Bool := outB x.width 0 10000 || outB x.move 0 100000
def pmpWild (x : Pmp) : Bool := outB x.rate 0 10000000 || (outB x.base 0 100000 || (outB x.lift 0 100000 || outB x.start 0 100000))
def Dev.wild : Dev → Bool
  | .slu x => sluWild x
  | .pmp x => pmpWild x
def RTk.devs (t : RTk) : List Dev := t.slu.map .slu ++ t.pmp.map .pmp
def d0 : Dev := .slu ⟨ByteArray.empty, 0, 0⟩
def RTk.dev (t : RTk) (i : Nat) : Dev := t.devs[i]?.getD d0
def RTk.many (t : RTk) : Nat := t.slu.length + t.pmp.length
theorem RTk.devs_len (t : RTk) : t.devs.length = t.many := by simp [RTk.devs, RTk.many]
def tickErr (t : RTk) (i : Nat) : Int := if outB (at0 t.outer i) (-20000) 20000 || (outB (at0 t.river i) 0 10000000 || outB (at0 t.prices i) 0 10000) then 7 else 0
def devErr (l : List Dev) (i : Nat) : Int :=
  if nameB (l[i]?.getD d0).name = false then 6 else if ∃ k, k < i ∧ (l[k]?.getD d0).name = (l[i]?.getD d0).name then 5 else if (l[i]?.getD d0).wild = true then 7 else 0
open Classical in
noncomputable def chkT (t : RTk) : Int × Int × Int :=
  if chkE t.b ≠ 0 then (1, 0, chkE t.b) else
  if staErr t.b t.s ≠ 0 then (1, 1, staErr t.b t.s) else
  if 6 < t.outer.length then (2, 0, 3) else
  if t.river.length ≠ t.outer.length ∨ t.prices.length ≠ t.outer.length then (2, 0, 2) else
  match firstN (tickErr t) t.outer.length with
  | some i => (2, i, 7)
  | none =>
    if outB t.high (-20000) 20000 || outB t.low (t.b.row 0).level t.high then (3, 0, 7) else
    if 2 < t.slu.length ∨ 2 < t.pmp.length then (4, 0, 3) else
    match firstN (devErr t.devs) t.devs.length with
    | some i => (4, i, devErr t.devs i)
    | none => if t.on.length ≠ t.devs.length then (5, 0, 2) else (0, 0, 0)
noncomputable def rtE (t : RTk) : Int := (chkT t).2.2
/-- a device's numbers are fine. -/
def DevOk : Dev → Prop
  | .slu x => (0 ≤ x.width ∧ x.width ≤ 10000) ∧ (0 ≤ x.move ∧ x.move ≤ 100000)
  | .pmp x => (0 ≤ x.rate ∧ x.rate ≤ 10000000) ∧ (0 ≤ x.base ∧ x.base ≤ 100000) ∧ (0 ≤ x.lift ∧ x.lift ≤ 100000) ∧ (0 ≤ x.start ∧ x.start ≤ 100000)
structure RtOk (t : RTk) : Prop where
  ok : Ok t.b
  sta : StaOk t.b t.s
  n6 : t.outer.length ≤ 6
  river : t.river.length = t.outer.length
  prices : t.prices.length = t.outer.length
  out_ : ∀ i, i < t.outer.length → -20000 ≤ at0 t.outer i ∧ at0 t.outer i ≤ 20000
  riv_ : ∀ i, i < t.outer.length → 0 ≤ at0 t.river i ∧ at0 t.river i ≤ 10000000
  pri_ : ∀ i, i < t.outer.length → 0 ≤ at0 t.prices i ∧ at0 t.prices i ≤ 10000
  high : t.high ≤ 20000
  low : (t.b.row 0).level ≤ t.low ∧ t.low ≤ t.high
  s2 : t.slu.length ≤ 2
  p2 : t.pmp.length ≤ 2
  dev : ∀ d, d ∈ t.devs → DevOk d
  on : t.on.length = t.devs.length
theorem firstN_val {f : Nat → Int} {n i : Nat} (h : firstN f n = some i) : i < n ∧ f i ≠ 0 ∧ ∀ j, j < i → f j = 0 := by
  induction n with
  | zero => cases h
  | succ n ih =>
    simp only [firstN] at h
    cases hx : firstN f n with
    | some j =>
      rw [hx] at h
      cases h
      obtain ⟨a, b, c⟩ := ih hx
      exact ⟨by omega, b, c⟩
    | none =>
      rw [hx] at h
      simp only at h
      by_cases hf : f n = 0
      · rw [if_pos hf] at h; cases h
      · rw [if_neg hf] at h
        cases h
        exact ⟨by omega, hf, firstN_none_iff hx⟩
theorem dev_ok {d : Dev} (h : d.wild = false) : DevOk d := by
  cases d with
  | slu x =>
    simp only [Dev.wild, sluWild, Bool.or_eq_false_iff] at h
    exact ⟨outB_f.1 h.1, outB_f.1 h.2⟩
  | pmp x =>
    simp only [Dev.wild, pmpWild, Bool.or_eq_false_iff] at h
    exact ⟨outB_f.1 h.1, outB_f.1 h.2.1, outB_f.1 h.2.2.1, outB_f.1 h.2.2.2⟩
theorem rtOk_of {t : RTk} (h : rtE t = 0) : RtOk t := by
  unfold rtE chkT at h
  split at h
  · rename_i h1; exact absurd h h1
  rename_i h1
  split at h
  · rename_i h2; exact absurd h h2
  rename_i h2
  have hs0 : staErr t.b t.s = 0 := by simpa using h2
  obtain ⟨ho, hs⟩ := staOk_of hs0
  split at h
  · cases h
  rename_i h3
  split at h
  · cases h
  rename_i h4
  split at h
  · cases h
  rename_i h5
  split at h
  · cases h
  rename_i h6
  split at h
  · cases h
  rename_i h7
  split at h
  · rename_i i hi
    obtain ⟨_, b1, _⟩ := firstN_val hi
    exact absurd h b1
  rename_i h8
  split at h
  · cases h
  rename_i h9
  have h5' := firstN_none_iff h5
  have ht : ∀ i, i < t.outer.length → (-20000 ≤ at0 t.outer i ∧ at0 t.outer i ≤ 20000) ∧ (0 ≤ at0 t.river i ∧ at0 t.river i ≤ 10000000) ∧ (0 ≤ at0 t.prices i ∧ at0 t.prices i ≤ 10000) := fun i hi => by
    have := h5' i hi
    unfold tickErr at this
    split at this
    · cases this
    · rename_i h10
      simp only [Bool.or_eq_true, not_or, Bool.not_eq_true] at h10
      exact ⟨outB_f.1 h10.1, outB_f.1 h10.2.1, outB_f.1 h10.2.2⟩
  simp only [Bool.or_eq_true, not_or, Bool.not_eq_true] at h6
  have hl := outB_f.1 h6.2
  have hh := outB_f.1 h6.1
  have h8' := firstN_none_iff h8
  refine ⟨ho, hs, by omega, by omega, by omega, fun i hi => (ht i hi).1, fun i hi => (ht i hi).2.1, fun i hi => (ht i hi).2.2, hh.2, hl, by omega, by omega, fun d hd => ?_, by simpa using h9⟩
  obtain ⟨i, hi, rfl⟩ := List.mem_iff_getElem.1 hd
  have h10 := h8' i hi
  unfold devErr at h10
  rw [List.getElem?_eq_getElem hi] at h10
  simp only [Option.getD_some] at h10
  split at h10
  · cases h10
  · split at h10
    · cases h10
    · split at h10
      · cases h10
      · rename_i h11
        exact dev_ok (by simpa using h11)
/-! ### what a choice does -/
/-- n / d: the level inside; o: the level outside. -/
def Dev.flow (n d o : Int) : Dev → Option Int
  | .slu x => if n - o * d ≤ 0 then none else some ((x.width * (n - o * d)).tdiv d)
  | .pmp x => some x.rate
def Dev.energy (n d o : Int) (before on : Bool) : Dev → Int
  | .slu x => if before = on then 0 else x.move
  | .pmp x => if on = true then x.base + (x.lift * max 0 (-(n - o * d)) + d - 1).tdiv d + (if before = true then 0 else x.start) else 0
def bl (l : List Bool) (i : Nat) : Bool := l[i]?.getD false
/-- the first k devices: what runs off, and the energy; none: a sluice is on that must not be. -/
def useTo (n d o : Int) (ds : List Dev) (before on : List Bool) : Nat → Option (Int × Int)
  | 0 => some (0, 0)
  | k + 1 => match useTo n d o ds before on k with
    | none => none
    | some (f, e) => if bl on k = true then
        match (ds[k]?.getD d0).flow n d o with
        | none => none
        | some x => some (f + x, e + (ds[k]?.getD d0).energy n d o (bl before k) true)
      else some (f, e + (ds[k]?.getD d0).energy n d o (bl before k) false)
def RTk.use (t : RTk) (v : Int) (tick : Nat) (before on : List Bool) : Option (Int × Int) :=
  match useTo (num t.b v) (den t.b v) (at0 t.outer tick) t.devs before on t.devs.length with
  | none => none
  | some (f, e) => some (min f 10000000, e)
/-- what happens in a tick: the state after it, what was to run off, the energy, the cost. -/
structure Done where
  s : Sta
  out : Int
  energy : Int
  cost : Int
def Done.zero : Done := ⟨⟨0, []⟩, 0, 0, 0⟩
/-- the tick that a choice makes. -/
def RTk.tickOf (t : RTk) (i : Nat) (f : Int) : Tick := ⟨at0 t.outer i, at0 t.river i, f⟩
/-- the fault of a choice; what happens. -/
def RTk.doE (t : RTk) (s : Sta) (i : Nat) (before on : List Bool) : Int :=
  match t.use s.vol i before on with
  | none => 170
  | some (f, _) =>
    if stepE t.b s (t.tickOf i f) ≠ 0 then 173
    else if num t.b (outS t.b s (t.tickOf i f)).vol < t.low * den t.b (outS t.b s (t.tickOf i f)).vol then 171
    else if t.high * den t.b (outS t.b s (t.tickOf i f)).vol < num t.b (outS t.b s (t.tickOf i f)).vol then 172 else 0
def RTk.doD (t : RTk) (s : Sta) (i : Nat) (before on : List Bool) : Done :=
  if t.doE s i before on = 0 then
    match t.use s.vol i before on with
    | none => Done.zero
    | some (f, e) => ⟨outS t.b s (t.tickOf i f), f, e, e * at0 t.prices i⟩
  else Done.zero
/-! ### choices, plans -/
/-- choice number i of m devices. -/
def chc (m i : Nat) : List Bool := (List.range m).map fun j => i.testBit (m - 1 - j)
abbrev Plan := List (List Bool)
/-- a plan that was found, and its cost. -/
abbrev Fd := Option (Int × Plan)
/-- of two the cheaper one; of two alike the first. -/
def better : Fd → Fd → Fd
  | none, y => y
  | some x, none => some x
  | some x, some y => if y.1 < x.1 then some y else some x
def pick (g : Nat → Fd) : Nat → Fd
  | 0 => none
  | n + 1 => better (pick g n) (g n)
def RTk.m (t : RTk) : Nat := t.devs.length
def RTk.n (t : RTk) : Nat := t.outer.length
/-- a choice and the best rest. -/
def RTk.one (t : RTk) (more : Sta → List Bool → Fd) (s : Sta) (i : Nat) (before on : List Bool) : Fd :=
  if t.doE s i before on = 0 then
    match more (t.doD s i before on).s on with
    | none => none
    | some (c, p) => some ((t.doD s i before on).cost + c, on :: p)
  else none
/-- the first one of the cheapest rests of a plan: k ticks are left. -/
def RTk.rest (t : RTk) : Nat → Sta → List Bool → Fd
  | 0, _, _ => some (0, [])
  | k + 1, s, before => pick (fun i => t.one (t.rest k) s (t.n - (k + 1)) before (chc t.m i)) (2 ^ t.m)
/-- what happens along a plan from a tick on, up to the first fault; the fault. -/
def RTk.flw (t : RTk) : Nat → Sta → List Bool → Plan → List Done × Int
  | _, _, _, [] => ([], 0)
  | i, s, before, on :: r => if t.doE s i before on = 0 then ((t.doD s i before on) :: (t.flw (i + 1) (t.doD s i before on).s on r).1, (t.flw (i + 1) (t.doD s i before on).s on r).2) else ([], t.doE s i before on)
def costs (l : List Done) : Int := (l.map (·.cost)).foldl (· + ·) 0
def RTk.shaped (t : RTk) (p : Plan) : Bool := decide (p.length = t.n) && p.all fun on => decide (on.length = t.m)
end Go.Proofs.YtmckmlmfilmiaaaGreatDoor.Bs
