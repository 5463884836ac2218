/-
  The rounds of all: what yield does with a moment, and with a fault.
-/
import Derived.Test.YtoiepgcjinccpaaDoorBs15
import Derived.Test.YtoiepgcjinccpaaDoorEngG
namespace Go.Proofs.YtoiepgcjinccpaaDoor.X
open Go Go.RowKit Go.Proofs.YtoiepgcjinccpaaDoor.Bs
set_option linter.unusedVariables false
theorem err_if : isIf (Tryd.prog.underlying 140) = true := by kernel_rfl
theorem any_if : isIf (Tryd.prog.underlying 20) = true := by kernel_rfl
def rfOf : Code → Option (Code × Code)
  | .rangeFunc _ _ a b => some (a, b)
  | .seq x y => match rfOf x with
    | some r => some r
    | none => rfOf y
  | .block _ c => rfOf c
  | _ => none
theorem mom_el : elemOk Tryd.prog 99 103 7 88 = true := by kernel_rfl
structure Mom where
  s : Sta
  f : Flo
  q : SV
  r : SV
def Mom.c (m : Mom) : List Value := momC m.q m.r m.s m.f
def Mom.p (m : Mom) : Sta × Flo := (m.s, m.f)
theorem Mom.c_len (m : Mom) : m.c.length = 7 := rfl
/-- the blocks from base on that are none of these. -/
def Own (base : Nat) (ks : List Nat) (row : Option Nat) (W : World) : Nat → Prop := fun j => base ≤ j ∧ j < W.heap.size ∧ j ∉ ks ∧ row ≠ some j
structure MomsAt (W : World) (base : Nat) (ks : List Nat) (v : Value) (ms : List Mom) : Prop where
  row : W.ownsRow base 103 7 v ms.length (ms.flatMap Mom.c)
  sep : ∀ k, v.ownBlock = some k → k ∉ ks
  lt : ∀ k, v.ownBlock = some k → base ≤ k ∧ k < W.heap.size
  ins : ∀ m, m ∈ ms → IntsAt W (Own base ks v.ownBlock W) m.q m.s.fil ∧ IntsAt W (Own base ks v.ownBlock W) m.r m.f.taken
/-- what no one of these holds stands as it stood. -/
structure Grew (ks : List Nat) (row : Option Nat) (W W' : World) : Prop where
  size : W.heap.size ≤ W'.heap.size
  old : ∀ j, j < W.heap.size → j ∉ ks → row ≠ some j → W'.heap[j]? = W.heap[j]?
/-- the own blocks in a round. -/
abbrev L8 (l D gl gs gb g8 g7 g6 : Nat) (r : Loop) (ol os ob : Obj) (v e x : Value) : Lo := [(l, .loop r), (D, .deferred (some [])), (gl, ol), (gs, os), (gb, ob), (g8, cel 99 [v]), (g7, cel 140 [e]), (g6, cel 99 [x])]
abbrev K8 (l D gl gs gb g8 g7 g6 : Nat) : List Nat := [l, D, gl, gs, gb, g8, g7, g6]
/-- the loop variables set. -/
abbrev twoV (tmps : Array Value) (v x : Value) : Array Value := ((#[15, 16] : Array Tmp).zip #[v, x]).foldl (fun s (p, y) => s.setIfInBounds p y) tmps
set_option maxHeartbeats 4000000 in
set_option maxRecDepth 10000 in
theorem round_ok {base B D l gl gs gb g8 g7 g6 : Nat} {W w : World} {fn : FuncId} {a : Act} {assign body : Code} {ol os ob : Obj} {v e x : Value} {ms : List Mom} {m : Mom} {c : Code} {n : Nat}
    (hc : Tryd.f91.body = some c) (hr : rfOf c = some (assign, body))
    (hf : Fits 25 [] [(6, .pointer (some ⟨g6, 0, none⟩)), (7, .pointer (some ⟨g7, 0, none⟩)), (8, .pointer (some ⟨g8, 0, none⟩))] a)
    (hs : Sys B W (L8 l D gl gs gb g8 g7 g6 (recO fn a.tmps #[15, 16] assign body D .ready none) ol os ob v e x) w)
    (hm : MomsAt W base (K8 l D gl gs gb g8 g7 g6) v ms) (hb : base ≤ W.heap.size) (hBb : B ≤ base) (hlen : ms.length < 1000) :
    (Instr.yield l (#[.agg ⟨m.c⟩, .nilIface] : Array Value)).run Tryd.prog w = .ok (.round l fn (twoV a.tmps (.agg ⟨m.c⟩) .nilIface) assign body) w ∧
    RoundIn Fence.wide n Tryd.prog l fn (twoV a.tmps (.agg ⟨m.c⟩) .nilIface) assign body w fun e1 w' => ∃ u, e1 = .returned u ∧ u = .bool true ∧ ∃ v' W', Sys B W' (L8 l D gl gs gb g8 g7 g6 (recO fn a.tmps #[15, 16] assign body D .ready none) ol os ob v' e x) w' ∧
      W'.ownsRow base 103 7 v' (ms.length + 1) (ms.flatMap Mom.c ++ m.c) ∧ (∀ k, v'.ownBlock = some k → v.ownBlock = some k ∨ W.heap.size ≤ k ∧ k ∉ K8 l D gl gs gb g8 g7 g6) ∧ Grew (K8 l D gl gs gb g8 g7 g6) v.ownBlock W W' ∧ Below B W W' := by
  have hloop := (hs.own _ List.mem_cons_self).2
  refine ⟨run_yield (args := #[.agg ⟨m.c⟩, .nilIface]) hloop rfl, ?_⟩
  obtain ⟨r0, hr0, hr1, hr2⟩ : ∃ r0, recO fn a.tmps #[15, 16] assign body D .ready none = r0 ∧ r0.state = .ready ∧ r0.pending = none := ⟨_, rfl, rfl, rfl⟩
  rw [hr0] at hs ⊢
  clear hloop hr0
  have hr3 : { { r0 with state := .busy } with state := .ready, pending := none } = r0 := by
    cases r0; simp only at hr1 hr2; subst hr1 hr2; rfl
  have e1 : Tryd.f91.body = some _ := rfl
  rw [e1] at hc
  cases hc
  simp only [rfOf, Option.some.injEq, Prod.mk.injEq] at hr
  obtain ⟨rfl, rfl⟩ := hr
  clear e1
  refine round_of (hf.params2 rfl rfl) hs ?_
  simp only [Mom.c, momC, staC, floC, List.cons_append, List.nil_append]
  repeat (first | (refine M0 ?_; first | refine O0 ?_ | refine z1 tok rfl ?_ | refine O1 rfl ?_ rfl | refine O2 rfl ?_ | refine O3 rfl ?_ rfl | refine O4 rfl rfl rfl (fun _ _ => ?_) | refine O5 tok rfl rfl rfl (fun _ _ => ?_) | refine U0 _ (U2 rfl) rfl ?_ | refine U0 _ (U3 tok rfl rfl rfl rfl rfl) rfl ?_ | refine z3 tok rfl ?_ | refine U0 _ (U4 rfl rfl) rfl ?_ | refine U0 _ (U5 rfl rfl) rfl ?_) | (refine XI.id ?_; first | refine XI.done ?_ | refine XI.one1 rfl ?_) | (refine XR'.id ?_; first | refine XR'.seq ?_ | refine XR'.region ?_ | refine XR'.block ?_ | refine XR'.skip ?_ | refine XR'.ret ?_ | refine XR'.cond_t rfl ?_ | refine XR'.cond_f rfl ?_) | (refine M1 ?_; first | refine J0 ?_ | refine J1 ?_ | refine J2 mixed rfl (by kernel_rfl) ?_ | refine J3 mixed rfl rfl (by kernel_rfl) ?_ | refine J4 ?_ | refine J5 ?_ | refine J6 ?_ | refine J7 ?_ | refine J8 rfl ?_ | refine J9 rfl ?_) | (refine M2 ?_; first | refine XE.nextI ?_ | refine XE.nextR ?_ | refine I1 ?_ | refine I2 ?_ | refine I3 ?_ | refine I4 ?_ | refine I5 ?_ | refine I6 rfl ?_ | refine I7 ?_ | refine I8 ?_ | refine z4 ?_ | refine I0 ?_))
  refine XE.begin (i := 1) rfl hr1 rfl ?_
  repeat (first | (refine M0 ?_; first | refine O0 ?_ | refine z1 tok rfl ?_ | refine O1 rfl ?_ rfl | refine O2 rfl ?_ | refine O3 rfl ?_ rfl | refine U0 _ (Ev.ifNeq rfl rfl err_if) rfl ?_ | refine O4 rfl rfl rfl (fun _ _ => ?_) | refine O5 tok rfl rfl rfl (fun _ _ => ?_) | refine U0 _ (U2 rfl) rfl ?_ | refine U0 _ (U3 tok rfl rfl rfl rfl rfl) rfl ?_ | refine z3 tok rfl ?_ | refine U0 _ (U4 rfl rfl) rfl ?_ | refine U0 _ (U5 rfl rfl) rfl ?_) | (refine XI.id ?_; first | refine XI.done ?_ | refine XI.one1 rfl ?_) | (refine XR'.id ?_; first | refine XR'.seq ?_ | refine XR'.region ?_ | refine XR'.block ?_ | refine XR'.skip ?_ | refine XR'.ret ?_ | refine XR'.cond_t rfl ?_ | refine XR'.cond_f rfl ?_) | (refine M1 ?_; first | refine J0 ?_ | refine J1 ?_ | refine J2 mixed rfl (by kernel_rfl) ?_ | refine J3 mixed rfl rfl (by kernel_rfl) ?_ | refine J4 ?_ | refine J5 ?_ | refine J6 ?_ | refine J7 ?_ | refine J8 rfl ?_ | refine J9 rfl ?_) | (refine M2 ?_; first | refine XE.nextI ?_ | refine XE.nextR ?_ | refine I1 ?_ | refine I2 ?_ | refine I3 ?_ | refine I4 ?_ | refine I5 ?_ | refine I6 rfl ?_ | refine I7 ?_ | refine I8 ?_ | refine z4 ?_ | refine I0 ?_))
  refine XL.step _ (Ev.load_at tok 6 (v := v) (j := 0) rfl rfl rfl rfl) rfl ?_
  repeat (first | (refine M0 ?_; first | refine O0 ?_ | refine z1 tok rfl ?_ | refine O1 rfl ?_ rfl | refine O2 rfl ?_ | refine O3 rfl ?_ rfl | refine O4 rfl rfl rfl (fun _ _ => ?_) | refine O5 tok rfl rfl rfl (fun _ _ => ?_) | refine U0 _ (U2 rfl) rfl ?_ | refine U0 _ (U3 tok rfl rfl rfl rfl rfl) rfl ?_ | refine z3 tok rfl ?_ | refine U0 _ (U4 rfl rfl) rfl ?_ | refine U0 _ (U5 rfl rfl) rfl ?_) | (refine XI.id ?_; first | refine XI.done ?_ | refine XI.one1 rfl ?_) | (refine XR'.id ?_; first | refine XR'.seq ?_ | refine XR'.region ?_ | refine XR'.block ?_ | refine XR'.skip ?_ | refine XR'.ret ?_ | refine XR'.cond_t rfl ?_ | refine XR'.cond_f rfl ?_) | (refine M1 ?_; first | refine J0 ?_ | refine J1 ?_ | refine J2 mixed rfl (by kernel_rfl) ?_ | refine J3 mixed rfl rfl (by kernel_rfl) ?_ | refine J4 ?_ | refine J5 ?_ | refine J6 ?_ | refine J7 ?_ | refine J8 rfl ?_ | refine J9 rfl ?_) | (refine M2 ?_; first | refine XE.nextI ?_ | refine XE.nextR ?_ | refine I1 ?_ | refine I2 ?_ | refine I3 ?_ | refine I4 ?_ | refine I5 ?_ | refine I6 rfl ?_ | refine I7 ?_ | refine I8 ?_ | refine z4 ?_ | refine I0 ?_))
  refine XL.buildSlice tok rfl rfl rfl rfl rfl rfl rfl rfl rfl (fun gn hgn => ?_)
  repeat (first | (refine M0 ?_; first | refine O0 ?_ | refine z1 tok rfl ?_ | refine O1 rfl ?_ rfl | refine O2 rfl ?_ | refine O3 rfl ?_ rfl | refine O4 rfl rfl rfl (fun _ _ => ?_) | refine O5 tok rfl rfl rfl (fun _ _ => ?_) | refine U0 _ (U2 rfl) rfl ?_ | refine U0 _ (U3 tok rfl rfl rfl rfl rfl) rfl ?_ | refine z3 tok rfl ?_ | refine U0 _ (U4 rfl rfl) rfl ?_ | refine U0 _ (U5 rfl rfl) rfl ?_) | (refine XI.id ?_; first | refine XI.done ?_ | refine XI.one1 rfl ?_) | (refine XR'.id ?_; first | refine XR'.seq ?_ | refine XR'.region ?_ | refine XR'.block ?_ | refine XR'.skip ?_ | refine XR'.ret ?_ | refine XR'.cond_t rfl ?_ | refine XR'.cond_f rfl ?_) | (refine M1 ?_; first | refine J0 ?_ | refine J1 ?_ | refine J2 mixed rfl (by kernel_rfl) ?_ | refine J3 mixed rfl rfl (by kernel_rfl) ?_ | refine J4 ?_ | refine J5 ?_ | refine J6 ?_ | refine J7 ?_ | refine J8 rfl ?_ | refine J9 rfl ?_) | (refine M2 ?_; first | refine XE.nextI ?_ | refine XE.nextR ?_ | refine I1 ?_ | refine I2 ?_ | refine I3 ?_ | refine I4 ?_ | refine I5 ?_ | refine I6 rfl ?_ | refine I7 ?_ | refine I8 ?_ | refine z4 ?_ | refine I0 ?_))
  obtain ⟨hrow, hsep, hlt, hins⟩ := hm
  have hks : ∀ e', e' ∈ L8 l D gl gs gb g8 g7 g6 { r0 with state := .busy } ol os ob v e x → e'.1 ∈ K8 l D gl gs gb g8 g7 g6 := by
    intro e' he'
    have : e'.1 ∈ (L8 l D gl gs gb g8 g7 g6 { r0 with state := .busy } ol os ob v e x).map (·.1) := List.mem_map.2 ⟨e', he', rfl⟩
    simpa using this
  refine XL.append2 (v := v) (m := 1) (n := ms.length) (size := 7) (bytes := 88) (base := base) (A := ⟨gn, 0, none⟩) (xs := ms.flatMap Mom.c) (news := m.c) (L' := L8 l D gl gs gb g8 g7 g6 { r0 with state := .busy } ol os ob v e x) mom_el (by decide) rfl rfl rfl
    hrow (fun k hk e' he' => ?_) rfl (fun w2 S2 j u hj => ?_) (by simp [Mom.c, momC, staC, floC, Value.oneCell']) (by unfold maxLen; omega) (by omega) hb ((List.sublist_cons_self _ _).trans (List.sublist_cons_self _ _)) (fun w2 v' w3 S2 ho hg _ hfr => ?_)
  · rcases List.mem_cons.1 he' with rfl | he'
    · have := (hlt k hk).2; intro e2; simp only at e2; omega
    rcases List.mem_cons.1 he' with rfl | he'
    · have := (hlt k hk).2; intro e2; simp only at e2; omega
    · intro e2; exact hsep k hk (e2 ▸ hks e' he')
  · have := S2.cell (g := gn) List.mem_cons_self j
    rw [add_off, Nat.zero_add, this]; exact hj
  obtain ⟨r, rfl, hrn⟩ := owns_sv ho
  repeat (first | (refine M0 ?_; first | refine O0 ?_ | refine z1 tok rfl ?_ | refine O1 rfl ?_ rfl | refine O2 rfl ?_ | refine O3 rfl ?_ rfl | refine O4 rfl rfl rfl (fun _ _ => ?_) | refine O5 tok rfl rfl rfl (fun _ _ => ?_) | refine U0 _ (U2 rfl) rfl ?_ | refine U0 _ (U3 tok rfl rfl rfl rfl rfl) rfl ?_ | refine z3 tok rfl ?_ | refine U0 _ (U4 rfl rfl) rfl ?_ | refine U0 _ (U5 rfl rfl) rfl ?_) | (refine XI.id ?_; first | refine XI.done ?_ | refine XI.one1 rfl ?_) | (refine XR'.id ?_; first | refine XR'.seq ?_ | refine XR'.region ?_ | refine XR'.block ?_ | refine XR'.skip ?_ | refine XR'.ret ?_ | refine XR'.cond_t rfl ?_ | refine XR'.cond_f rfl ?_) | (refine M1 ?_; first | refine J0 ?_ | refine J1 ?_ | refine J2 mixed rfl (by kernel_rfl) ?_ | refine J3 mixed rfl rfl (by kernel_rfl) ?_ | refine J4 ?_ | refine J5 ?_ | refine J6 ?_ | refine J7 ?_ | refine J8 rfl ?_ | refine J9 rfl ?_) | (refine M2 ?_; first | refine XE.nextI ?_ | refine XE.nextR ?_ | refine I1 ?_ | refine I2 ?_ | refine I3 ?_ | refine I4 ?_ | refine I5 ?_ | refine I6 rfl ?_ | refine I7 ?_ | refine I8 ?_ | refine z4 ?_ | refine I0 ?_))
  refine XL.store_at tok 5 (o := 0) (j := 0) (cs := [v]) rfl rfl rfl rfl rfl (Nat.zero_lt_succ 0) rfl ?_
  repeat (first | (refine M0 ?_; first | refine O0 ?_ | refine z1 tok rfl ?_ | refine O1 rfl ?_ rfl | refine O2 rfl ?_ | refine O3 rfl ?_ rfl | refine O4 rfl rfl rfl (fun _ _ => ?_) | refine O5 tok rfl rfl rfl (fun _ _ => ?_) | refine U0 _ (U2 rfl) rfl ?_ | refine U0 _ (U3 tok rfl rfl rfl rfl rfl) rfl ?_ | refine z3 tok rfl ?_ | refine U0 _ (U4 rfl rfl) rfl ?_ | refine U0 _ (U5 rfl rfl) rfl ?_) | (refine XI.id ?_; first | refine XI.done ?_ | refine XI.one1 rfl ?_) | (refine XR'.id ?_; first | refine XR'.seq ?_ | refine XR'.region ?_ | refine XR'.block ?_ | refine XR'.skip ?_ | refine XR'.ret ?_ | refine XR'.cond_t rfl ?_ | refine XR'.cond_f rfl ?_) | (refine M1 ?_; first | refine J0 ?_ | refine J1 ?_ | refine J2 mixed rfl (by kernel_rfl) ?_ | refine J3 mixed rfl rfl (by kernel_rfl) ?_ | refine J4 ?_ | refine J5 ?_ | refine J6 ?_ | refine J7 ?_ | refine J8 rfl ?_ | refine J9 rfl ?_) | (refine M2 ?_; first | refine XE.nextI ?_ | refine XE.nextR ?_ | refine I1 ?_ | refine I2 ?_ | refine I3 ?_ | refine I4 ?_ | refine I5 ?_ | refine I6 rfl ?_ | refine I7 ?_ | refine I8 ?_ | refine z4 ?_ | refine I0 ?_))
  refine XE.endR (i := 0) rfl rfl (fun w' S => ?_)
  have hr3' := hr3
  simp only at hr3'
  simp only [List.set_cons_zero, Nat.zero_add, hr3'] at S
  have hK : ∀ k, k ∈ K8 l D gl gs gb g8 g7 g6 → k < w2.heap.size := fun k hk => by
    obtain ⟨e', he', e2⟩ := List.mem_map.1 (show k ∈ (L8 l D gl gs gb g8 g7 g6 { r0 with state := .busy } ol os ob v e x).map (·.1) from hk)
    have := S2.lt (List.mem_cons_of_mem _ (List.mem_cons_of_mem _ he'))
    omega
  refine ⟨_, rfl, rfl, svV r, w3, S, ho, fun k hk => ?_, ⟨Nat.le_trans S2.size hg.size, fun j hj hjk hjr => ?_⟩, grown_below S2 hg fun k hk => Nat.le_trans hBb (hlt k hk).1⟩
  · rcases hfr k hk with h | h
    · exact .inl h
    · exact .inr ⟨Nat.le_trans S2.size h, fun hk' => by have := hK k hk'; omega⟩
  · rw [hg.block j (Nat.lt_of_lt_of_le hj S2.size) (fun e2 => hjr e2.symm)]
    refine S2.old j hj fun e' he' e2 => ?_
    rcases List.mem_cons.1 he' with rfl | he'
    · simp only at e2; omega
    rcases List.mem_cons.1 he' with rfl | he'
    · simp only at e2; omega
    · exact hjk (e2 ▸ hks e' he')
def zmC : List Value := [.int .i64 0, .slice none 0 0, .int .i64 0, .int .i64 0, .int .i64 0, .int .i64 0, .slice none 0 0]
set_option maxHeartbeats 4000000 in
set_option maxRecDepth 10000 in
theorem round_err {B D l gl gs gb g8 g7 g6 gf : Nat} {W w : World} {fn : FuncId} {a : Act} {assign body : Code} {ol os ob : Obj} {v e x : Value} {c : Code} {n : Nat}
    (hc : Tryd.f91.body = some c) (hr : rfOf c = some (assign, body))
    (hf : Fits 25 [] [(6, .pointer (some ⟨g6, 0, none⟩)), (7, .pointer (some ⟨g7, 0, none⟩)), (8, .pointer (some ⟨g8, 0, none⟩))] a)
    (hs : Sys B W (L8 l D gl gs gb g8 g7 g6 (recO fn a.tmps #[15, 16] assign body D .ready none) ol os ob v e x) w) :
    (Instr.yield l (#[.agg ⟨zmC⟩, .iface 143 (.pointer (some ⟨gf, 0, none⟩))] : Array Value)).run Tryd.prog w = .ok (.round l fn (twoV a.tmps (.agg ⟨zmC⟩) (.iface 143 (.pointer (some ⟨gf, 0, none⟩)))) assign body) w ∧
    RoundIn Fence.wide n Tryd.prog l fn (twoV a.tmps (.agg ⟨zmC⟩) (.iface 143 (.pointer (some ⟨gf, 0, none⟩)))) assign body w fun e1 w' => ∃ u, e1 = .returned u ∧ u = .bool false ∧
      Sys B W (L8 l D gl gs gb g8 g7 g6 (recO fn a.tmps #[15, 16] assign body D .done (some .ret)) ol os ob v (.iface 143 (.pointer (some ⟨gf, 0, none⟩))) (.slice none 0 0)) w' := by
  have hloop := (hs.own _ List.mem_cons_self).2
  refine ⟨run_yield (args := #[.agg ⟨zmC⟩, .iface 143 (.pointer (some ⟨gf, 0, none⟩))]) hloop rfl, ?_⟩
  obtain ⟨r0, hr0, hr1, r1, hr4, hr3⟩ : ∃ r0, recO fn a.tmps #[15, 16] assign body D .ready none = r0 ∧ r0.state = .ready ∧ ∃ r1, recO fn a.tmps #[15, 16] assign body D .done (some .ret) = r1 ∧ { { r0 with state := .busy } with state := .done, pending := some .ret } = r1 := ⟨_, rfl, rfl, _, rfl, rfl⟩
  rw [hr0] at hs
  rw [hr4]
  clear hloop hr0 hr4
  have e1 : Tryd.f91.body = some _ := rfl
  rw [e1] at hc
  cases hc
  simp only [rfOf, Option.some.injEq, Prod.mk.injEq] at hr
  obtain ⟨rfl, rfl⟩ := hr
  clear e1
  refine round_of (hf.params2 rfl rfl) hs ?_
  simp only [zmC]
  repeat (first | (refine M0 ?_; first | refine O0 ?_ | refine z1 tok rfl ?_ | refine O1 rfl ?_ rfl | refine O2 rfl ?_ | refine O3 rfl ?_ rfl | refine O4 rfl rfl rfl (fun _ _ => ?_) | refine O5 tok rfl rfl rfl (fun _ _ => ?_) | refine U0 _ (U2 rfl) rfl ?_ | refine U0 _ (U3 tok rfl rfl rfl rfl rfl) rfl ?_ | refine z3 tok rfl ?_ | refine U0 _ (U4 rfl rfl) rfl ?_ | refine U0 _ (U5 rfl rfl) rfl ?_) | (refine XI.id ?_; first | refine XI.done ?_ | refine XI.one1 rfl ?_) | (refine XR'.id ?_; first | refine XR'.seq ?_ | refine XR'.region ?_ | refine XR'.block ?_ | refine XR'.skip ?_ | refine XR'.ret ?_ | refine XR'.cond_t rfl ?_ | refine XR'.cond_f rfl ?_) | (refine M1 ?_; first | refine J0 ?_ | refine J1 ?_ | refine J2 mixed rfl (by kernel_rfl) ?_ | refine J3 mixed rfl rfl (by kernel_rfl) ?_ | refine J4 ?_ | refine J5 ?_ | refine J6 ?_ | refine J7 ?_ | refine J8 rfl ?_ | refine J9 rfl ?_) | (refine M2 ?_; first | refine XE.nextI ?_ | refine XE.nextR ?_ | refine I1 ?_ | refine I2 ?_ | refine I3 ?_ | refine I4 ?_ | refine I5 ?_ | refine I6 rfl ?_ | refine I7 ?_ | refine I8 ?_ | refine z4 ?_ | refine I0 ?_))
  refine XE.begin (i := 1) rfl hr1 rfl ?_
  repeat (first | (refine M0 ?_; first | refine O0 ?_ | refine z1 tok rfl ?_ | refine O1 rfl ?_ rfl | refine O2 rfl ?_ | refine O3 rfl ?_ rfl | refine U0 _ (Ev.ifNeq rfl rfl err_if) rfl ?_ | refine O4 rfl rfl rfl (fun _ _ => ?_) | refine O5 tok rfl rfl rfl (fun _ _ => ?_) | refine U0 _ (U2 rfl) rfl ?_ | refine U0 _ (U3 tok rfl rfl rfl rfl rfl) rfl ?_ | refine z3 tok rfl ?_ | refine U0 _ (U4 rfl rfl) rfl ?_ | refine U0 _ (U5 rfl rfl) rfl ?_) | (refine XI.id ?_; first | refine XI.done ?_ | refine XI.one1 rfl ?_) | (refine XR'.id ?_; first | refine XR'.seq ?_ | refine XR'.region ?_ | refine XR'.block ?_ | refine XR'.skip ?_ | refine XR'.ret ?_ | refine XR'.cond_t rfl ?_ | refine XR'.cond_f rfl ?_) | (refine M1 ?_; first | refine J0 ?_ | refine J1 ?_ | refine J2 mixed rfl (by kernel_rfl) ?_ | refine J3 mixed rfl rfl (by kernel_rfl) ?_ | refine J4 ?_ | refine J5 ?_ | refine J6 ?_ | refine J7 ?_ | refine J8 rfl ?_ | refine J9 rfl ?_) | (refine M2 ?_; first | refine XE.nextI ?_ | refine XE.nextR ?_ | refine I1 ?_ | refine I2 ?_ | refine I3 ?_ | refine I4 ?_ | refine I5 ?_ | refine I6 rfl ?_ | refine I7 ?_ | refine I8 ?_ | refine z4 ?_ | refine I0 ?_))
  refine XL.store_at tok 8 (o := 0) (j := 0) (cs := [x]) rfl rfl rfl rfl rfl (Nat.zero_lt_succ 0) rfl ?_
  repeat (first | (refine M0 ?_; first | refine O0 ?_ | refine z1 tok rfl ?_ | refine O1 rfl ?_ rfl | refine O2 rfl ?_ | refine O3 rfl ?_ rfl | refine O4 rfl rfl rfl (fun _ _ => ?_) | refine O5 tok rfl rfl rfl (fun _ _ => ?_) | refine U0 _ (U2 rfl) rfl ?_ | refine U0 _ (U3 tok rfl rfl rfl rfl rfl) rfl ?_ | refine z3 tok rfl ?_ | refine U0 _ (U4 rfl rfl) rfl ?_ | refine U0 _ (U5 rfl rfl) rfl ?_) | (refine XI.id ?_; first | refine XI.done ?_ | refine XI.one1 rfl ?_) | (refine XR'.id ?_; first | refine XR'.seq ?_ | refine XR'.region ?_ | refine XR'.block ?_ | refine XR'.skip ?_ | refine XR'.ret ?_ | refine XR'.cond_t rfl ?_ | refine XR'.cond_f rfl ?_) | (refine M1 ?_; first | refine J0 ?_ | refine J1 ?_ | refine J2 mixed rfl (by kernel_rfl) ?_ | refine J3 mixed rfl rfl (by kernel_rfl) ?_ | refine J4 ?_ | refine J5 ?_ | refine J6 ?_ | refine J7 ?_ | refine J8 rfl ?_ | refine J9 rfl ?_) | (refine M2 ?_; first | refine XE.nextI ?_ | refine XE.nextR ?_ | refine I1 ?_ | refine I2 ?_ | refine I3 ?_ | refine I4 ?_ | refine I5 ?_ | refine I6 rfl ?_ | refine I7 ?_ | refine I8 ?_ | refine z4 ?_ | refine I0 ?_))
  refine XL.store_at tok 7 (o := 0) (j := 0) (cs := [e]) rfl rfl rfl rfl rfl (Nat.zero_lt_succ 0) rfl ?_
  repeat (first | (refine M0 ?_; first | refine O0 ?_ | refine z1 tok rfl ?_ | refine O1 rfl ?_ rfl | refine O2 rfl ?_ | refine O3 rfl ?_ rfl | refine O4 rfl rfl rfl (fun _ _ => ?_) | refine O5 tok rfl rfl rfl (fun _ _ => ?_) | refine U0 _ (U2 rfl) rfl ?_ | refine U0 _ (U3 tok rfl rfl rfl rfl rfl) rfl ?_ | refine z3 tok rfl ?_ | refine U0 _ (U4 rfl rfl) rfl ?_ | refine U0 _ (U5 rfl rfl) rfl ?_) | (refine XI.id ?_; first | refine XI.done ?_ | refine XI.one1 rfl ?_) | (refine XR'.id ?_; first | refine XR'.seq ?_ | refine XR'.region ?_ | refine XR'.block ?_ | refine XR'.skip ?_ | refine XR'.ret ?_ | refine XR'.cond_t rfl ?_ | refine XR'.cond_f rfl ?_) | (refine M1 ?_; first | refine J0 ?_ | refine J1 ?_ | refine J2 mixed rfl (by kernel_rfl) ?_ | refine J3 mixed rfl rfl (by kernel_rfl) ?_ | refine J4 ?_ | refine J5 ?_ | refine J6 ?_ | refine J7 ?_ | refine J8 rfl ?_ | refine J9 rfl ?_) | (refine M2 ?_; first | refine XE.nextI ?_ | refine XE.nextR ?_ | refine I1 ?_ | refine I2 ?_ | refine I3 ?_ | refine I4 ?_ | refine I5 ?_ | refine I6 rfl ?_ | refine I7 ?_ | refine I8 ?_ | refine z4 ?_ | refine I0 ?_))
  refine XE.endRet (i := 1) rfl rfl (fun w' S => ?_)
  simp only at hr3
  simp only [List.set_cons_zero, Nat.zero_add, hr3] at S
  exact ⟨_, rfl, rfl, S.pop (by assumption)⟩
end Go.Proofs.YtoiepgcjinccpaaDoor.X
