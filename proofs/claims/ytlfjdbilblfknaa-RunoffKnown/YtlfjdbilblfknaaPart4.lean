/-
  The rounds of rest: what a choice does to the best rest and to what is known (runoff).
-/
import Derived.Test.YtlfjdbilblfknaaPart3
set_option linter.unusedVariables false
set_option linter.unusedSimpArgs false
namespace Go.Proofs.Ytlfjdbilblfknaa.Bs
open Go.Proofs.Ytlfjdbilblfknaa.X
theorem rest_bd {t : RTk} (h : RtOk t) : ∀ {k : Nat} {s : Sta} {b : List Bool} {c : Int} {p : Plan}, k ≤ t.n → StaOk t.b s → t.rest k s b = some (c, p) → 0 ≤ c ∧ c ≤ 200000000000000 * k := by
  intro k
  induction k with
  | zero => intro s b c p _ _ e; cases e; simp
  | succ k ih =>
    intro s b c p hk hs e
    obtain ⟨on, p', _, h0, h1⟩ := rest_next e
    obtain ⟨a1, a2, a3, _⟩ := do_sta h hs (show t.n - (k + 1) < t.outer.length by unfold RTk.n at *; omega) h0
    have := ih (by omega) a1 h1
    omega
theorem rest_len {t : RTk} {k : Nat} {s : Sta} {b : List Bool} (hk : k ≤ t.n) : (fdP (t.rest k s b)).length ≤ k := by
  cases h : t.rest k s b with
  | none => simp [fdP]
  | some x => obtain ⟨c, p⟩ := x; exact Nat.le_of_eq (rest_good hk h).1.len
end Go.Proofs.Ytlfjdbilblfknaa.Bs
namespace Go.Proofs.Ytlfjdbilblfknaa.X
open Go Go.RowKit Go.Proofs.Ytlfjdbilblfknaa.Bs
set_option linter.unusedVariables false
def rfOf2 : Code → Option (Code × Code)
  | .rangeFunc _ _ a b => some (a, b)
  | .seq x y => match rfOf2 x with
    | some r => some r
    | none => rfOf2 y
  | .block _ c => rfOf2 c
  | .scope c => rfOf2 c
  | _ => none
/-- what rest answers. -/
def RestR (t : RTk) (gm k : Nat) (ks : List Nat) (kvs : List (Value × Value)) (s : Sta) (b : List Bool) (w : World) (vv : Value) (w' : World) : Prop :=
  ∃ (q : SV) (new : List (Value × Value)), vv = tailV q (t.rest k s b) ∧ Sys gm w [(gm, mapO (kvs ++ new))] w' ∧ Fam w' gm ks [] [hMem t (kvs ++ new), hPlan q (fdP (t.rest k s b))] ∧ KeysOk Try.prog 110 (kvs ++ new) ∧ NewK (t.n - k) new
def RestC (t : RTk) (v : RTV) (r : SV) (g gt gm k : Nat) : Prop :=
  ∀ {w : World} {ks : List Nat} {kvs : List (Value × Value)} {sq p : SV} {s : Sta} {b : List Bool}, PlnAt w (Ng' gm w) g gt gm v r t → TskAt w gm v t → w.heap[gm]? = some (mapO kvs) → Fam w gm ks [] [hMem t kvs] → gm ∈ ks → (∀ k, k ∈ ks → k < w.heap.size) → KeysOk Try.prog 110 kvs →
    StaOk t.b s → b.length = t.m → IntsAt w (Ng' gm w) sq s.fil → ListAt boolK w (Ng' gm w) p b →
    Calls Try.prog 20 #[.pointer (some ⟨g, 0, none⟩), staV sq s, .int .i64 (t.n - k : Nat), svV p] w fun e w' => ∃ vv, e = .returned vv ∧ RestR t gm k ks kvs s b w vv w'
theorem better_none (x : Bs.Fd) : better x none = x := by cases x <;> rfl
theorem one_none {t : RTk} {more : Sta → List Bool → Bs.Fd} {s : Sta} {i : Nat} {b f : List Bool} (h : t.doE s i b f ≠ 0) : t.one more s i b f = none := by unfold RTk.one; rw [if_neg h]
theorem plan_el : elemOk Try.prog 39 31 1 24 = true := by kernel_rfl
theorem Kp.growV {gm : Nat} {w W W' : World} {L : Lo} {v : Value} (h : Kp gm w W) (hB : Below gm w W') (ho : ∀ j, j < W.heap.size → (∀ e, e ∈ L → e.1 ≠ j) → v.ownBlock ≠ some j → W'.heap[j]? = W.heap[j]?) (hL : ∀ e, e ∈ L → e.1 ∈ [gm] ∨ w.heap.size ≤ e.1) (hv : ∀ k, v.ownBlock = some k → w.heap.size ≤ k) : Kp gm w W' :=
  ⟨hB, fun j hj => (ho j (Nat.lt_of_lt_of_le hj.1 h.below.size) (fun e he e1 => by
    rcases hL e he with h1 | h1
    · exact hj.2 (by rw [← e1]; exact List.mem_singleton.1 h1)
    · have := hj.1; omega) fun e => by have := hv j e; have := hj.1; omega).trans (h.old j hj)⟩
theorem mem_two {α : Type} {a b : α} {l : List α} (h1 : a ∈ l) (h2 : b ∈ l) : ∀ e, e ∈ [a, b] → e ∈ l := fun e he => by
  rcases List.mem_cons.1 he with rfl | he
  · exact h1
  · rw [List.mem_singleton.1 he]; exact h2
theorem one_none2 {t : RTk} {more : Sta → List Bool → Bs.Fd} {s : Sta} {i : Nat} {b f : List Bool} (h : more (t.doD s i b f).s f = none) : t.one more s i b f = none := by unfold RTk.one; split <;> simp [h]
theorem isSome_f {x : Bs.Fd} (h : x.isSome = false) : x = none := by cases x with
  | none => rfl
  | some y => cases h
/-- what costs as much already is no better. -/
theorem better_old {t : RTk} {more : Sta → List Bool → Bs.Fd} {s : Sta} {i : Nat} {b f : List Bool} {best : Bs.Fd} (hb : best.isSome = true) (h : ∀ c p, more (t.doD s i b f).s f = some (c, p) → fdC best ≤ (t.doD s i b f).cost + c) : better best (t.one more s i b f) = best := by
  cases best with
  | none => cases hb
  | some x =>
    cases h1 : t.one more s i b f with
    | none => rfl
    | some y =>
      obtain ⟨_, c, p, h2, rfl⟩ := one_some h1
      have := h c p h2
      simp only [fdC, Option.map_some, Option.getD_some] at this
      simp only [better]
      rw [if_neg (show ¬ ((t.doD s i b f).cost + c < x.1) by omega)]
/-- what is found first, or costs less. -/
theorem better_new {t : RTk} {more : Sta → List Bool → Bs.Fd} {s : Sta} {i : Nat} {b f : List Bool} {best : Bs.Fd} {c : Int} {p : Plan} (h0 : t.doE s i b f = 0) (hm : more (t.doD s i b f).s f = some (c, p)) (h : best.isSome = true → (t.doD s i b f).cost + c < fdC best) : better best (t.one more s i b f) = some ((t.doD s i b f).cost + c, f :: p) := by
  rw [one_of h0 hm]
  cases best with
  | none => rfl
  | some x =>
    have := h rfl
    simp only [fdC, Option.map_some, Option.getD_some] at this
    simp only [better]
    rw [if_pos (show (t.doD s i b f).cost + c < x.1 by omega)]
abbrev KR (l D g12 g10 g9 g8 g7 g6 g5 g4 : Nat) : List Nat := [l, D, g12, g10, g9, g8, g7, g6, g5, g4]
abbrev LR (l D g12 g10 g9 g8 g7 g6 g5 g4 gm : Nat) (r0 : Loop) (o10 o9 o8 : Obj) (q : SV) (best : Bs.Fd) (p : SV) (i0 : Nat) (sq : SV) (s : Sta) (g : Nat) (kvs : List (Value × Value)) : Lo :=
  [(l, .loop r0), (D, .deferred (some [])), (g12, cel 75 (tailC q best)), (g10, o10), (g9, o9), (g8, o8), (g7, cel 31 [svV p]), (g6, cel 3 [.int .i64 (i0 : Nat)]), (g5, cel 28 (staC sq s)), (g4, cel 71 [.pointer (some ⟨g, 0, none⟩)]), (gm, mapO kvs)]
abbrev oneV (tmps : Array Value) (v : Value) : Array Value := ((#[44] : Array Tmp).zip #[v]).foldl (fun s (p, y) => s.setIfInBounds p y) tmps
/-- what a round leaves. -/
def RoundR (t : RTk) (gm : Nat) (ks : List Nat) (kvs : List (Value × Value)) (i1 : Nat) (best : Bs.Fd) (L : SV → List (Value × Value) → Lo) (w w' : World) : Prop :=
  ∃ (W' : World) (q' : SV) (new : List (Value × Value)), Kp gm w W' ∧ Fam W' gm ks [] [hMem t (kvs ++ new), hPlan q' (fdP best)] ∧ (∀ k, k ∈ ks → k < W'.heap.size) ∧ KeysOk Try.prog 110 (kvs ++ new) ∧ NewK i1 new ∧ Sys gm W' (L q' (kvs ++ new)) w'
set_option maxHeartbeats 32000000 in
set_option maxRecDepth 10000 in
theorem rest_round {l D g12 g10 g9 g8 g7 g6 g5 g4 gm g gt k i0 j gn n : Nat} {t : RTk} {v : RTV} {r sq p q : SV} {s : Sta} {before on : List Bool} {best : Bs.Fd} {ks : List Nat} {kvs : List (Value × Value)} {w W w1 : World} {fn : FuncId} {a : Act} {assign body : Code} {o10 o9 o8 : Obj} {c : Code}
    (IH : RestC t v r g gt gm k) (ho : RtOk t) (hc0 : chkE t.b = 0) (hi0 : i0 = t.n - (k + 1)) (hk : k + 1 ≤ t.n) (hs : StaOk t.b s) (hbl : before.length = t.m) (hon : on.length = t.m) (hm4 : t.m ≤ 4)
    (hP : PlnAt w (Ng' gm w) g gt gm v r t) (hT : TskAt w gm v t) (hgm : gm < w.heap.size) (hq : IntsAt w (Ng' gm w) sq s.fil) (hb : ListAt boolK w (Ng' gm w) p before)
    (hown : ∀ x, x ∈ KR l D g12 g10 g9 g8 g7 g6 g5 g4 → w.heap.size ≤ x) (hKp : Kp gm w W) (hgk : gm ∈ ks)
    (hF : Fam W gm (KR l D g12 g10 g9 g8 g7 g6 g5 g4 ++ ks) [] [hList boolK ⟨some ⟨gn, 0, none⟩, t.m, t.m⟩ on, hMem t kvs, hPlan q (fdP best)]) (hks : ∀ x, x ∈ KR l D g12 g10 g9 g8 g7 g6 g5 g4 ++ ks → x < W.heap.size) (hkeys : KeysOk Try.prog 110 kvs)
    (hbest : ∀ c p, best = some (c, p) → 0 ≤ c ∧ c ≤ 2000000000000000)
    (hc : Try.f20.body = some c) (hr : rfOf2 c = some (assign, body))
    (hf : Fits 109 [] [(4, .pointer (some ⟨g4, 0, none⟩)), (5, .pointer (some ⟨g5, 0, none⟩)), (6, .pointer (some ⟨g6, 0, none⟩)), (12, .pointer (some ⟨g12, 0, none⟩)), (7, .pointer (some ⟨g7, 0, none⟩))] a)
    (S : Sys gm W (LR l D g12 g10 g9 g8 g7 g6 g5 g4 gm (recO fn a.tmps #[44] assign body D .ready none) o10 o9 o8 q best p i0 sq s g kvs) w1) :
    (Instr.yield l (#[.slice (some ⟨gn, 0, none⟩) t.m t.m] : Array Value)).run Try.prog w1 = .ok (.round l fn (oneV a.tmps (.slice (some ⟨gn, 0, none⟩) t.m t.m)) assign body) w1 ∧
    RoundIn Fence.wide n Try.prog l fn (oneV a.tmps (.slice (some ⟨gn, 0, none⟩) t.m t.m)) assign body w1 fun e1 w' => ∃ u, e1 = .returned u ∧ u = .bool true ∧
      RoundR t gm (KR l D g12 g10 g9 g8 g7 g6 g5 g4 ++ ks) kvs (i0 + 1) (better best (t.one (t.rest k) s i0 before on)) (fun q' kvs' => LR l D g12 g10 g9 g8 g7 g6 g5 g4 gm (recO fn a.tmps #[44] assign body D .ready none) o10 o9 o8 q' (better best (t.one (t.rest k) s i0 before on)) p i0 sq s g kvs') w w' := by
  have hloop := (S.own _ List.mem_cons_self).2
  have hgg : gm ∈ [gm] := .head _
  obtain ⟨ks1, hks1⟩ : ∃ ks1, ks1 = KR l D g12 g10 g9 g8 g7 g6 g5 g4 ++ ks := ⟨_, rfl⟩
  rw [← hks1] at hF hks ⊢
  have b1 := hown l (by simp)
  have b2 := hown D (by simp)
  have b3 := hown g12 (by simp)
  have b4 := hown g10 (by simp)
  have b5 := hown g9 (by simp)
  have b6 := hown g8 (by simp)
  have b7 := hown g7 (by simp)
  have b8 := hown g6 (by simp)
  have b9 := hown g5 (by simp)
  have b0 := hown g4 (by simp)
  have m1 : l ∈ ks1 := by rw [hks1]; simp
  have m2 : D ∈ ks1 := by rw [hks1]; simp
  have m3 : g12 ∈ ks1 := by rw [hks1]; simp
  have m4 : g10 ∈ ks1 := by rw [hks1]; simp
  have m5 : g9 ∈ ks1 := by rw [hks1]; simp
  have m6 : g8 ∈ ks1 := by rw [hks1]; simp
  have m7 : g7 ∈ ks1 := by rw [hks1]; simp
  have m8 : g6 ∈ ks1 := by rw [hks1]; simp
  have m9 : g5 ∈ ks1 := by rw [hks1]; simp
  have m0 : g4 ∈ ks1 := by rw [hks1]; simp
  have mg : gm ∈ ks1 := by rw [hks1]; exact List.mem_append_right _ hgk
  clear hks1 hgk
  have hgW : gm ≤ W.heap.size := Nat.le_of_lt (Nat.lt_of_lt_of_le hgm hKp.below.size)
  have hi : i0 < t.outer.length := by unfold RTk.n at hi0 hk; omega
  have hi6 : i0 < 6 := Nat.lt_of_lt_of_le hi ho.n6
  refine ⟨run_yield (args := #[.slice (some ⟨gn, 0, none⟩) t.m t.m]) hloop rfl, ?_⟩
  obtain ⟨r0, hr0, hr1, hr2⟩ : ∃ r0, recO fn a.tmps #[44] assign body D .ready none = r0 ∧ r0.state = .ready ∧ r0.pending = none := ⟨_, rfl, rfl, rfl⟩
  rw [hr0] at S ⊢
  clear hloop hr0
  have hr3 : { { r0 with state := .busy } with state := .ready, pending := none } = r0 := by
    cases r0; simp only at hr1 hr2; subst hr1 hr2; rfl
  have e1 : Try.f20.body = some _ := rfl
  rw [e1] at hc
  cases hc
  simp only [rfOf2, Option.some.injEq, Prod.mk.injEq] at hr
  obtain ⟨rfl, rfl⟩ := hr
  clear e1
  refine round_of ((((((hf.params1 rfl).hint 4 (.slice none 1 0)).hint 5 (.slice none 2 0)).hint 6 (.slice none 3 0)).hint 7 (.slice none 4 0)).hint 12 (.slice none 8 0)) S ?_
  simp only [LR, staC, tailC, svV]
  repeat (first | (refine M0 ?_; first | refine SL ?_ | refine SB fun _ _ => ?_) | (refine XI.id ?_; first | refine XI.done ?_ | refine XI.one1 rfl ?_) | (refine XR'.id ?_; first | refine XR'.seq ?_ | refine XR'.region ?_ | refine XR'.block ?_ | refine XR'.skip ?_ | refine XR'.ret ?_ | refine XR'.cond_t rfl ?_ | refine XR'.cond_f rfl ?_ | refine XR'.exit ?_) | (refine M1 ?_; first | refine SC ?_ | refine SD ?_) | (refine M2 ?_; first | refine XE.nextI ?_ | refine XE.nextR ?_ | refine SE ?_))
  refine XE.begin (i := 0) rfl hr1 rfl ?_
  repeat (first | (refine M0 ?_; first | refine SL ?_ | refine SB fun _ _ => ?_) | (refine XI.id ?_; first | refine XI.done ?_ | refine XI.one1 rfl ?_) | (refine XR'.id ?_; first | refine XR'.seq ?_ | refine XR'.region ?_ | refine XR'.block ?_ | refine XR'.skip ?_ | refine XR'.ret ?_ | refine XR'.cond_t rfl ?_ | refine XR'.cond_f rfl ?_ | refine XR'.exit ?_) | (refine M1 ?_; first | refine SC ?_ | refine SD ?_) | (refine M2 ?_; first | refine XE.nextI ?_ | refine XE.nextR ?_ | refine SE ?_))
  refine XL.callr (fst := []) (cap := []) (fun w2 x w3 => ∃ q2 : SV, x = .tuple ⟨[.agg ⟨doneC q2 (t.doD s i0 before on)⟩, .int .i64 (t.doE s i0 before on)]⟩ ∧ IntsAt w3 (Btw w2.heap.size w3.heap.size) q2 (t.doD s i0 before on).s.fil ∧ Below w2.heap.size w2 w3) (ck rfl) rfl rfl rfl (fun w2 S2 => ?_) (fun w2 x w3 S2 hR => ?_)
  · have K2 : Kp gm w w2 := hKp.sys S2 ZZHM
    have F2 := hF.sys S2 ZZHM
    simp only [List.nil_append, List.append_nil]
    exact (do_made (g := g) (gt := gt) (gm := gm) (v := v) (r := r) (p := p) (q := ⟨some ⟨gn, 0, none⟩, t.m, t.m⟩) (sq := sq) ⟨(hP.keep K2.old).mono K2.lt, (hT.below K2.below).more (Nat.le_trans hgW S2.size)⟩ hc0 ho ((hq.keep K2.old).mono K2.lt) hs hi ((hb.keep K2.old).mono K2.lt) hbl ((F2.held (hList boolK ⟨some ⟨gn, 0, none⟩, t.m, t.m⟩ on) (.head _)).mono fun j hj => hj.2.1) hon).mono fun e w' ⟨v, new, e1, e2, e3, e4⟩ => by
      obtain ⟨q2, rfl, rfl⟩ := e2
      exact ⟨_, e1, q2, rfl, e3 _ (.head _), e4⟩
  obtain ⟨q2, rfl, hq2, hB2⟩ := hR
  refine ⟨_, w3, S2.made hB2, ?_⟩
  have K3 : Kp gm w w3 := (hKp.sys S2 ZZHM).made hB2 (Nat.le_trans hgW S2.size)
  have F3 : Fam w3 gm ks1 [] (hInts q2 (t.doD s i0 before on).s.fil :: _) := ((hF.call S2 hB2 ZZHM hks (new := [hInts q2 (t.doD s i0 before on).s.fil]) (fun x hx => by rw [List.mem_singleton.1 hx]; exact hq2)).1).add fun k hk => .inl (List.mem_append_right _ hk)
  have hks3 : ∀ x, x ∈ ks1 → x < w3.heap.size := fun x hx => Nat.lt_of_lt_of_le (hks x hx) (Nat.le_trans S2.size hB2.size)
  have hg3 : gm ≤ w3.heap.size := Nat.le_trans hgW (Nat.le_trans S2.size hB2.size)
  clear S2 hB2 hq2 hF hks hgW hKp S
  obtain ⟨E, hE⟩ : ∃ E, E = t.doE s i0 before on := ⟨_, rfl⟩
  obtain ⟨d, hd⟩ : ∃ d, d = t.doD s i0 before on := ⟨_, rfl⟩
  rw [← hd] at F3
  rw [← hE, ← hd]
  simp only [doneC]
  repeat (first | (refine M0 ?_; first | refine SL ?_ | refine SB fun _ _ => ?_) | (refine XI.id ?_; first | refine XI.done ?_ | refine XI.one1 rfl ?_) | (refine XR'.id ?_; first | refine XR'.seq ?_ | refine XR'.region ?_ | refine XR'.block ?_ | refine XR'.skip ?_ | refine XR'.ret ?_ | refine XR'.cond_t rfl ?_ | refine XR'.cond_f rfl ?_ | refine XR'.exit ?_) | (refine M1 ?_; first | refine SC ?_ | refine SD ?_) | (refine M2 ?_; first | refine XE.nextI ?_ | refine XE.nextR ?_ | refine SE ?_))
  rename_i g14 hg14
  have b14 : w.heap.size ≤ g14 := Nat.le_trans K3.below.size hg14
  by_cases hE0 : E = 0
  rotate_left
  · rw [show decide (E ≠ 0) = true from decide_eq_true hE0]
    repeat (first | (refine M0 ?_; first | refine SL ?_ | refine SB fun _ _ => ?_) | (refine XI.id ?_; first | refine XI.done ?_ | refine XI.one1 rfl ?_) | (refine XR'.id ?_; first | refine XR'.seq ?_ | refine XR'.region ?_ | refine XR'.block ?_ | refine XR'.skip ?_ | refine XR'.ret ?_ | refine XR'.cond_t rfl ?_ | refine XR'.cond_f rfl ?_ | refine XR'.exit ?_) | (refine M1 ?_; first | refine SC ?_ | refine SD ?_) | (refine M2 ?_; first | refine XE.nextI ?_ | refine XE.nextR ?_ | refine SE ?_))
    refine XE.endR (i := 1) rfl rfl (fun w' S' => ?_)
    rw [one_none (by rw [← hE]; exact hE0), better_none]
    have hr3' := hr3
    simp only at hr3'
    simp only [hr3'] at S'
    refine ⟨_, rfl, rfl, w', q, [], K3.sys S' ZZHM, Fam.forget (F3.sys S' ZZHM) ?_, ?_, ?_, (fun x hx => by cases hx), ?_⟩
    · intro x hx
      rcases List.mem_cons.1 hx with rfl | hx
      · simp
      · rw [List.mem_singleton.1 hx]; simp
    · exact fun x hx => Nat.lt_of_lt_of_le (hks3 x hx) S'.size
    · rw [List.append_nil]; exact hkeys
    · exact S'.rebase (by rw [List.append_nil]; simp only [LR, staC, tailC, svV]; repeat (first | exact List.Sublist.refl _ | exact List.nil_sublist _ | refine List.Sublist.cons_cons _ ?_ | refine List.Sublist.cons _ ?_))
  rw [show decide (E ≠ 0) = false from decide_eq_false (fun h => h hE0)]
  have hd0 : t.doE s i0 before on = 0 := by rw [← hE]; exact hE0
  obtain ⟨hds, hdc0, hdc1, _⟩ := do_sta ho hs hi hd0
  rw [← hd] at hds hdc0 hdc1
  obtain ⟨bs, hbs⟩ : ∃ bs, bs = best.isSome := ⟨_, rfl⟩
  obtain ⟨c0, hc0'⟩ : ∃ c0, c0 = fdC best := ⟨_, rfl⟩
  rw [← hbs, ← hc0']
  have hmore0 : ∀ c p, t.rest k d.s on = some (c, p) → 0 ≤ c ∧ c ≤ 200000000000000 * k := fun c p h => rest_bd ho (by omega) hds h
  cases bs
  all_goals
    repeat (first | (refine M0 ?_; first | refine SL ?_ | refine SB fun _ _ => ?_) | (refine XI.id ?_; first | refine XI.done ?_ | refine XI.one1 rfl ?_) | (refine XR'.id ?_; first | refine XR'.seq ?_ | refine XR'.region ?_ | refine XR'.block ?_ | refine XR'.skip ?_ | refine XR'.ret ?_ | refine XR'.cond_t rfl ?_ | refine XR'.cond_f rfl ?_ | refine XR'.exit ?_) | (refine M1 ?_; first | refine SC ?_ | refine SD ?_) | (refine M2 ?_; first | refine XE.nextI ?_ | refine XE.nextR ?_ | refine SE ?_))
  rotate_left
  refine XR'.cond _ rfl (fun h2 => ?_) (fun h2 => ?_)
  · repeat (first | (refine M0 ?_; first | refine SL ?_ | refine SB fun _ _ => ?_) | (refine XI.id ?_; first | refine XI.done ?_ | refine XI.one1 rfl ?_) | (refine XR'.id ?_; first | refine XR'.seq ?_ | refine XR'.region ?_ | refine XR'.block ?_ | refine XR'.skip ?_ | refine XR'.ret ?_ | refine XR'.cond_t rfl ?_ | refine XR'.cond_f rfl ?_ | refine XR'.exit ?_) | (refine M1 ?_; first | refine SC ?_ | refine SD ?_) | (refine M2 ?_; first | refine XE.nextI ?_ | refine XE.nextR ?_ | refine SE ?_))
    refine XE.endR (i := 1) rfl rfl (fun w' S' => ?_)
    rw [better_old hbs.symm (fun c p h => by rw [← hd] at h ⊢; have := hmore0 c p h; have := of_decide_eq_true h2; omega)]
    have hr3' := hr3
    simp only at hr3'
    simp only [hr3'] at S'
    refine ⟨_, rfl, rfl, w', q, [], K3.sys S' ZZHM, Fam.forget (F3.sys S' ZZHM) ?_, ?_, ?_, (fun x hx => by cases hx), ?_⟩
    · intro x hx
      rcases List.mem_cons.1 hx with rfl | hx
      · simp
      · rw [List.mem_singleton.1 hx]; simp
    · exact fun x hx => Nat.lt_of_lt_of_le (hks3 x hx) S'.size
    · rw [List.append_nil]; exact hkeys
    · exact S'.rebase (by rw [List.append_nil]; simp only [LR, staC, tailC, svV]; rw [← hbs, ← hc0']; repeat (first | exact List.Sublist.refl _ | exact List.nil_sublist _ | refine List.Sublist.cons_cons _ ?_ | refine List.Sublist.cons _ ?_))
  repeat (first | (refine M0 ?_; first | refine SL ?_ | refine SB fun _ _ => ?_) | (refine XI.id ?_; first | refine XI.done ?_ | refine XI.one1 rfl ?_) | (refine XR'.id ?_; first | refine XR'.seq ?_ | refine XR'.region ?_ | refine XR'.block ?_ | refine XR'.skip ?_ | refine XR'.ret ?_ | refine XR'.cond_t rfl ?_ | refine XR'.cond_f rfl ?_ | refine XR'.exit ?_) | (refine M1 ?_; first | refine SC ?_ | refine SD ?_) | (refine M2 ?_; first | refine XE.nextI ?_ | refine XE.nextR ?_ | refine SE ?_))
  all_goals
    have htk : ((i0 : Int) + 1) = ((t.n - k : Nat) : Int) := by omega
    rw [htk]
    obtain ⟨ks2, hks2⟩ : ∃ ks2, ks2 = g14 :: ks1 := ⟨_, rfl⟩
    have n14 : g14 ∈ ks2 := by rw [hks2]; exact .head _
    have hsub : ∀ x, x ∈ ks1 → x ∈ ks2 := fun x hx => by rw [hks2]; exact .tail _ hx
    have n1 := hsub _ m1
    have n2 := hsub _ m2
    have n3 := hsub _ m3
    have n4 := hsub _ m4
    have n5 := hsub _ m5
    have n6 := hsub _ m6
    have n7 := hsub _ m7
    have n8 := hsub _ m8
    have n9 := hsub _ m9
    have n0 := hsub _ m0
    have ng := hsub _ mg
    have F3' := F3.add (ks' := ks2) fun x hx => by
      rw [hks2] at hx
      rcases List.mem_cons.1 hx with rfl | hx
      · exact .inr hg14
      · exact .inl hx
    refine XL.callr (fst := []) (cap := []) (fun w4 x w5 => RestR t gm k ks2 kvs d.s on w4 x w5) (ck rfl) rfl rfl rfl (fun w4 S4 => ?_) (fun w4 x w5 S4 hR => ?_)
    · have K4 : Kp gm w w4 := K3.sys S4 ZZHM
      have F4 := F3'.sys S4 ZZHM
      simp only [List.nil_append, List.append_nil]
      refine IH (w := w4) (ks := ks2) (kvs := kvs) (sq := q2) (p := ⟨some ⟨gn, 0, none⟩, t.m, t.m⟩) (s := d.s) (b := on) ((hP.keep K4.old).mono K4.mono) (hT.below K4.below) ?_ (F4.forget fun x hx => by rw [List.mem_singleton.1 hx]; simp) ng (fun x hx => ?_) hkeys hds hon ?_ ?_
      · exact (S4.own (gm, mapO kvs) (by repeat (first | exact List.mem_cons_self | apply List.mem_cons_of_mem))).2
      · rw [hks2] at hx
        rcases List.mem_cons.1 hx with rfl | hx
        · exact S4.lt (e := (x, _)) (.head _)
        · exact Nat.lt_of_lt_of_le (hks3 x hx) S4.size
      · exact (F4.held (hInts q2 d.s.fil) (.head _)).mono fun j hj => ⟨hj.2.1, fun e => hj.2.2.1 (e ▸ ng)⟩
      · exact (F4.held (hList boolK ⟨some ⟨gn, 0, none⟩, t.m, t.m⟩ on) (.tail _ (.head _))).mono fun j hj => ⟨hj.2.1, fun e => hj.2.2.1 (e ▸ ng)⟩
    obtain ⟨q5, new, rfl, S5, F5, hkeys5, hnew⟩ := hR
    have S5' := S4.turned 11 rfl rfl S5
    refine ⟨_, w5, S5'.rebase (List.Sublist.refl _), ?_⟩
    have K5 : Kp gm w w5 := K3.sys S5' ZZHM
    have F6 := (F3'.sys S4 ZZHM).after S5 ng F5
    have hks5 : ∀ x, x ∈ ks2 → x < w5.heap.size := fun x hx => by
      rw [hks2] at hx
      rcases List.mem_cons.1 hx with rfl | hx
      · exact Nat.lt_of_lt_of_le (S4.lt (e := (x, _)) (.head _)) S5.size
      · exact Nat.lt_of_lt_of_le (hks3 x hx) (Nat.le_trans S4.size S5.size)
    clear F3 F3' F5 S4 S5 S5' K3
    obtain ⟨fd, hfd⟩ : ∃ fd, fd = t.rest k d.s on := ⟨_, rfl⟩
    rw [← hfd] at F6
    have hc5 : 0 ≤ fdC fd ∧ fdC fd ≤ 2000000000000000 := by
      cases hfd' : fd with
      | none => simp [fdC]
      | some y =>
        have h6 : (k : Int) ≤ 6 := by have := ho.n6; unfold RTk.n at hk; omega
        have := hmore0 y.1 y.2 (by rw [← hfd, hfd'])
        simp only [fdC, Option.map_some, Option.getD_some]
        omega
    rw [← hfd]
    simp only [tailV, tailC]
    obtain ⟨c5, hc5'⟩ : ∃ c5, c5 = fdC fd := ⟨_, rfl⟩
    obtain ⟨ms, hms⟩ : ∃ ms, ms = fd.isSome := ⟨_, rfl⟩
    rw [← hc5'] at hc5
    rw [← hc5', ← hms]
    have hks5' : ∀ x, x ∈ ks1 → x < w5.heap.size := fun x hx => hks5 x (hsub x hx)
    repeat (first | (refine M0 ?_; first | refine SL ?_ | refine SB fun _ _ => ?_) | (refine XI.id ?_; first | refine XI.done ?_ | refine XI.one1 rfl ?_) | (refine XR'.id ?_; first | refine XR'.seq ?_ | refine XR'.region ?_ | refine XR'.block ?_ | refine XR'.skip ?_ | refine XR'.ret ?_ | refine XR'.cond_t rfl ?_ | refine XR'.cond_f rfl ?_ | refine XR'.exit ?_) | (refine M1 ?_; first | refine SC ?_ | refine SD ?_) | (refine M2 ?_; first | refine XE.nextI ?_ | refine XE.nextR ?_ | refine SE ?_))
  all_goals
    rename_i g16 hg16
    have b16 : w.heap.size ≤ g16 := Nat.le_trans K5.below.size hg16
    cases ms
  all_goals
    repeat (first | (refine M0 ?_; first | refine SL ?_ | refine SB fun _ _ => ?_) | (refine XI.id ?_; first | refine XI.done ?_ | refine XI.one1 rfl ?_) | (refine XR'.id ?_; first | refine XR'.seq ?_ | refine XR'.region ?_ | refine XR'.block ?_ | refine XR'.skip ?_ | refine XR'.ret ?_ | refine XR'.cond_t rfl ?_ | refine XR'.cond_f rfl ?_ | refine XR'.exit ?_) | (refine M1 ?_; first | refine SC ?_ | refine SD ?_) | (refine M2 ?_; first | refine XE.nextI ?_ | refine XE.nextR ?_ | refine SE ?_))
  · refine XE.endR (i := 2) rfl rfl (fun w' S' => ?_)
    rw [one_none2 (by rw [← hd, ← hfd]; exact isSome_f hms.symm), better_none]
    have hr3' := hr3
    simp only at hr3'
    simp only [hr3'] at S'
    refine ⟨_, rfl, rfl, w', q, new, K5.sys S' ZZHM, Fam.forget ((F6.sys S' ZZHM).add (fun x hx => .inl (hsub x hx))) ?_, ?_, ?_, (by rw [hi0, show t.n - (k + 1) + 1 = t.n - k by omega]; exact hnew), ?_⟩
    · intro x hx
      rcases List.mem_cons.1 hx with rfl | hx
      · simp
      · rw [List.mem_singleton.1 hx]; simp
    · exact fun x hx => Nat.lt_of_lt_of_le (hks5'  x hx) S'.size
    · exact hkeys5
    · exact S'.rebase (by simp only [LR, staC, tailC, svV]; rw [← hbs, ← hc0']; repeat (first | exact List.Sublist.refl _ | exact List.nil_sublist _ | refine List.Sublist.cons_cons _ ?_ | refine List.Sublist.cons _ ?_))
  refine XR'.cond _ rfl (fun h3 => ?_) (fun h3 => ?_)
  · repeat (first | (refine M0 ?_; first | refine SL ?_ | refine SB fun _ _ => ?_) | (refine XI.id ?_; first | refine XI.done ?_ | refine XI.one1 rfl ?_) | (refine XR'.id ?_; first | refine XR'.seq ?_ | refine XR'.region ?_ | refine XR'.block ?_ | refine XR'.skip ?_ | refine XR'.ret ?_ | refine XR'.cond_t rfl ?_ | refine XR'.cond_f rfl ?_ | refine XR'.exit ?_) | (refine M1 ?_; first | refine SC ?_ | refine SD ?_) | (refine M2 ?_; first | refine XE.nextI ?_ | refine XE.nextR ?_ | refine SE ?_))
    refine XE.endR (i := 2) rfl rfl (fun w' S' => ?_)
    rw [better_old hbs.symm (fun c p h => by rw [← hd, ← hfd] at h; rw [← hd]; have := of_decide_eq_true h3; rw [hc5', h] at this; simp only [fdC, Option.map_some, Option.getD_some] at this; omega)]
    have hr3' := hr3
    simp only at hr3'
    simp only [hr3'] at S'
    refine ⟨_, rfl, rfl, w', q, new, K5.sys S' ZZHM, Fam.forget ((F6.sys S' ZZHM).add (fun x hx => .inl (hsub x hx))) ?_, ?_, ?_, (by rw [hi0, show t.n - (k + 1) + 1 = t.n - k by omega]; exact hnew), ?_⟩
    · intro x hx
      rcases List.mem_cons.1 hx with rfl | hx
      · simp
      · rw [List.mem_singleton.1 hx]; simp
    · exact fun x hx => Nat.lt_of_lt_of_le (hks5'  x hx) S'.size
    · exact hkeys5
    · exact S'.rebase (by simp only [LR, staC, tailC, svV]; rw [← hbs, ← hc0']; repeat (first | exact List.Sublist.refl _ | exact List.nil_sublist _ | refine List.Sublist.cons_cons _ ?_ | refine List.Sublist.cons _ ?_))
  rotate_left
  · refine XE.endR (i := 2) rfl rfl (fun w' S' => ?_)
    rw [one_none2 (by rw [← hd, ← hfd]; exact isSome_f hms.symm), better_none]
    have hr3' := hr3
    simp only at hr3'
    simp only [hr3'] at S'
    refine ⟨_, rfl, rfl, w', q, new, K5.sys S' ZZHM, Fam.forget ((F6.sys S' ZZHM).add (fun x hx => .inl (hsub x hx))) ?_, ?_, ?_, (by rw [hi0, show t.n - (k + 1) + 1 = t.n - k by omega]; exact hnew), ?_⟩
    · intro x hx
      rcases List.mem_cons.1 hx with rfl | hx
      · simp
      · rw [List.mem_singleton.1 hx]; simp
    · exact fun x hx => Nat.lt_of_lt_of_le (hks5'  x hx) S'.size
    · exact hkeys5
    · exact S'.rebase (by simp only [LR, staC, tailC, svV]; rw [← hbs, ← hc0']; repeat (first | exact List.Sublist.refl _ | exact List.nil_sublist _ | refine List.Sublist.cons_cons _ ?_ | refine List.Sublist.cons _ ?_))
  have hlt : best.isSome = true → d.cost + fdC fd < fdC best := fun h => by rw [← hbs] at h; cases h
  rotate_left
  have hlt : best.isSome = true → d.cost + fdC fd < fdC best := fun _ => by have := of_decide_eq_false h3; omega
  all_goals
    repeat (first | (refine M0 ?_; first | refine SL ?_ | refine SB fun _ _ => ?_) | (refine XI.id ?_; first | refine XI.done ?_ | refine XI.one1 rfl ?_) | (refine XR'.id ?_; first | refine XR'.seq ?_ | refine XR'.region ?_ | refine XR'.block ?_ | refine XR'.skip ?_ | refine XR'.ret ?_ | refine XR'.cond_t rfl ?_ | refine XR'.cond_f rfl ?_ | refine XR'.exit ?_) | (refine M1 ?_; first | refine SC ?_ | refine SD ?_) | (refine M2 ?_; first | refine XE.nextI ?_ | refine XE.nextR ?_ | refine SE ?_))
    obtain ⟨⟨c6, p5⟩, hy⟩ := Option.isSome_iff_exists.1 hms.symm
    have hc6 : c6 = c5 := by rw [hc5', hy]; rfl
    subst hc6
    have hbn : better best (t.one (t.rest k) s i0 before on) = some (d.cost + c6, on :: p5) := by
      rw [better_new hd0 (c := c6) (p := p5) (by rw [← hd, ← hfd]; exact hy) (fun h => by rw [← hd]; have := hlt h; rw [hy] at this; simpa [fdC] using this), ← hd]
    rw [hbn]
    have hlen5 : p5.length ≤ k := by
      have := rest_len (t := t) (k := k) (s := d.s) (b := on) (by omega)
      rw [← hfd, hy] at this
      simpa [fdP] using this
    have hk6 : k ≤ 6 := by have := ho.n6; unfold RTk.n at hk; omega
    have hg5 : gm ≤ w5.heap.size := Nat.le_trans (Nat.le_of_lt hgm) K5.below.size
    have hne : g14 ≠ g16 := fun e => by have := hks5 g14 n14; omega
    refine XR'.drawRS (trunc w5 gm) [(g16, cel 75 [.bool true, .int .i64 c6, .slice q5.A q5.n q5.c]), (g14, cel 66 [.int .i64 d.s.vol, .slice q2.A q2.n q2.c, .int .i64 d.out, .int .i64 d.energy, .int .i64 d.cost])] [0, 1, 2, 3, 4, 5, 7, 8] [6, 9, 10, 11] mixed (fun _ h => Sys.anchorT (Below.refl _ _) h (mem_two (.head _) (.tail _ (.head _))) (by simp; exact fun e => hne e.symm) hg5) rfl rfl (by kernel_rfl) ?_
    repeat (first | (refine M0 ?_; first | refine SL ?_ | refine SB fun _ _ => ?_ | refine Y4 (Ev.load_at tok 1 (g := g14) (o := 4) (j := 0) rfl rfl rfl rfl) ?_ | refine Y4 (Ev.load_at tok 0 (g := g16) (o := 1) (j := 0) rfl rfl rfl rfl) ?_ | refine Y4 (Ev.load_at tok 0 (g := g16) (o := 2) (j := 0) rfl rfl rfl rfl) ?_) | (refine M2 ?_; refine SE ?_) | (refine M3 ?_; first | refine SG ?_ | refine SF ?_ | refine YF (Ev.load_at tok 1 (g := g14) (o := 4) (j := 0) rfl rfl rfl rfl) ?_ | refine YF (Ev.load_at tok 0 (g := g16) (o := 1) (j := 0) rfl rfl rfl rfl) ?_ | refine YF (Ev.load_at tok 0 (g := g16) (o := 2) (j := 0) rfl rfl rfl rfl) ?_) | (refine M4 ?_; refine SRJ ?_) | (refine M5 ?_; first | exact M7 | refine YM ?_ | refine YN ?_ ?_))
    refine XL.newRowW tok (K := plnK) (l := [(⟨some ⟨gn, 0, none⟩, t.m, t.m⟩, on)]) (rs := []) rfl rfl rfl rfl rfl rfl rfl rfl rfl ⟨rfl, rfl⟩ rfl rfl F6 hks5 (Below.refl gm w5) hg5 (fun a ha x hx => ?_) (fun w6 g20 hsz6 hg20 hold6 F7 hB6 hk7 => ?_) ZZHM
    · rw [List.mem_singleton.1 ha] at hx
      rw [List.mem_singleton.1 hx]
      exact F6.held (hList boolK ⟨some ⟨gn, 0, none⟩, t.m, t.m⟩ on) (by simp)
    have K6 : Kp gm w w6 := K5.grow hB6 hold6 ZZHM
    refine XL.done ?_
    refine XE.heldR (fun _ h => Sys.anchorT hB6 h (mem_two (.head _) (.tail _ (.head _))) (by simp; exact fun e => hne e.symm) hg5) ?_
    repeat (first | (refine M0 ?_; first | refine SL ?_ | refine SB fun _ _ => ?_) | (refine M2 ?_; refine SE ?_) | (refine M3 ?_; first | refine SG ?_ | refine SF ?_) | (refine M4 ?_; refine SRJ ?_) | (refine M5 ?_; first | exact M7 | refine YM ?_ | refine YN ?_ ?_))
    have hp5 : fdP fd = p5 := by rw [hy]; rfl
    obtain ⟨es5, hL5, he5⟩ : PlanAt w6 _ q5 (fdP fd) := F7.held (hPlan q5 (fdP fd)) (by simp)
    rw [hp5] at he5
    have hl5 : es5.length ≤ 6 := by have := congrArg List.length he5; simp at this; omega
    refine XL.pushLW (K := plnK) (l := [(⟨some ⟨gn, 0, none⟩, t.m, t.m⟩, on)]) (l2 := es5) (r2 := q5) (bytes := 24) (wE := w5) 0 plan_el (by decide) rfl rfl rfl F7 rfl hk7 hB6 (Nat.le_refl gm) (fun w9 S9 => hL5.sys S9 (fun j hj => ⟨hj.2.1, fun e he e1 => hj.2.2.1 (by rw [← e1]; exact List.mem_append_left _ (List.mem_map.2 ⟨e, he, rfl⟩))⟩)) (fun a ha x hx => hL5.ins a ha x hx) (fun a => rfl) (by simp only [List.length_singleton]; omega) (by decide) (fun w7 v7 hsz7 hold7 F8 hB7 hk8 => ?_)
    have K7 : Kp gm w w7 := K6.growV (K5.below.trans hB7) hold7 ZZHM (fun x hx => by simp only [Value.ownBlock, Option.some.injEq] at hx; rw [← hx]; exact Nat.le_trans K5.below.size hg20)
    obtain ⟨r7, rfl, hn7⟩ := F8.sv (K := plnK) (l := [(⟨some ⟨gn, 0, none⟩, t.m, t.m⟩, on)] ++ es5) (List.mem_singleton.2 rfl)
    simp only [svV]
    refine XL.done ?_
    refine XE.heldR (fun _ h => Sys.anchorT hB7 h (mem_two (.head _) (.tail _ (.head _))) (by simp; exact fun e => hne e.symm) hg5) ?_
    repeat (first | (refine M0 ?_; first | refine SL ?_ | refine SB fun _ _ => ?_) | (refine M2 ?_; refine SE ?_) | (refine M3 ?_; first | refine SG ?_ | refine SF ?_) | (refine M4 ?_; refine SRJ ?_) | (refine M5 ?_; first | exact M7 | refine YM ?_ | refine YN ?_ ?_))
    refine XE.heldR (fun _ h => Sys.anchorT hB7 h (mem_two (.head _) (.tail _ (.head _))) (by simp; exact fun e => hne e.symm) hg5) ?_
    repeat (first | (refine M0 ?_; first | refine SL ?_ | refine SB fun _ _ => ?_) | (refine M2 ?_; refine SE ?_) | (refine M3 ?_; first | refine SG ?_ | refine SF ?_) | (refine M4 ?_; refine SRJ ?_) | (refine M5 ?_; first | exact M7 | refine YM ?_ | refine YN ?_ ?_))
    refine XE.onlyN ?_
    repeat (first | (refine M0 ?_; first | refine SL ?_ | refine SB fun _ _ => ?_) | (refine XI.id ?_; first | refine XI.done ?_ | refine XI.one1 rfl ?_) | (refine XR'.id ?_; first | refine XR'.seq ?_ | refine XR'.region ?_ | refine XR'.block ?_ | refine XR'.skip ?_ | refine XR'.ret ?_ | refine XR'.cond_t rfl ?_ | refine XR'.cond_f rfl ?_ | refine XR'.exit ?_) | (refine M1 ?_; first | refine SC ?_ | refine SD ?_) | (refine M2 ?_; first | refine XE.nextI ?_ | refine XE.nextR ?_ | refine SE ?_))
    refine XE.endR (i := 2) rfl rfl (fun w' S' => ?_)
    have hr3' := hr3
    simp only at hr3'
    simp only [hr3'] at S'
    have F9 := Fam.freeze (rs := []) (K := plnK) (r := r7) (l := [(⟨some ⟨gn, 0, none⟩, t.m, t.m⟩, on)] ++ es5) F8
    have F10 := F9.hold (x := hPlan r7 (on :: p5)) (ok := Free w7 gm _ []) ⟨_, F9.held (hList plnK r7 ([(⟨some ⟨gn, 0, none⟩, t.m, t.m⟩, on)] ++ es5)) (.head _), by simp [he5]⟩ (fun j hj => hj)
    refine ⟨_, rfl, rfl, w', r7, new, K7.sys S' ZZHM, Fam.forget ((F10.sys S' ZZHL).add (fun x hx => .inl (List.mem_append_right _ (List.mem_append_right _ (hsub x hx))))) ?_, fun x hx => Nat.lt_of_lt_of_le (hks5' x hx) (Nat.le_trans hsz6 (Nat.le_trans hsz7 S'.size)), hkeys5, (by rw [hi0, show t.n - (k + 1) + 1 = t.n - k by omega]; exact hnew), ?_⟩
    · intro x hx
      rcases List.mem_cons.1 hx with rfl | hx
      · simp
      · rw [List.mem_singleton.1 hx]; exact .head _
    · exact S'.rebase (by simp only [LR, staC, tailC, svV, fdC, Option.map_some, Option.getD_some, Option.isSome_some]; repeat (first | exact List.Sublist.refl _ | exact List.nil_sublist _ | refine List.Sublist.cons_cons _ ?_ | refine List.Sublist.cons _ ?_))
  any_goals (repeat (first | exact AnyR.nil | refine AnyR.skip rfl ?_))
end Go.Proofs.Ytlfjdbilblfknaa.X
/-
  The walk of rest (runoff).
-/
namespace Go.Proofs.Ytlfjdbilblfknaa.X
open Go Go.RowKit Go.Proofs.Ytlfjdbilblfknaa.Bs
set_option linter.unusedVariables false
theorem bools_flat (l : List Bool) : l.flatMap boolK.c = bools l := by
  induction l with
  | nil => rfl
  | cons a l ih => rw [List.flatMap_cons, ih]; rfl
theorem boolsAt {W : World} {gn lo m c : Nat} {l : List Bool} (h : W.heap[gn]? = some (cel 4 (bools l))) (hg : lo ≤ gn) (hl : l.length = m) (hm : m ≤ 1000000) : ListAt boolK W (Btw lo W.heap.size) ⟨some ⟨gn, 0, none⟩, m, c⟩ l :=
  ⟨by rw [bools_flat]; exact ReadsP.block h hg (by rw [bools_len, hl]; exact (Nat.mul_one _).symm), by simp only; omega, fun a _ x hx => by cases hx⟩
theorem pick_bd {t : RTk} (ho : RtOk t) {k i0 i : Nat} {s : Sta} {b : List Bool} {best : Bs.Fd} (hk : k + 1 ≤ t.n) (hi0 : i0 = t.n - (k + 1)) (hs : StaOk t.b s) (h : best = pick (fun i => t.one (t.rest k) s i0 b (chc t.m i)) i) : ∀ c p, best = some (c, p) → 0 ≤ c ∧ c ≤ 2000000000000000 := by
  intro c p e
  rw [e] at h
  obtain ⟨j, hj, h1, _⟩ := pick_some h.symm
  obtain ⟨h0, c', p', h2, h3⟩ := one_some h1
  obtain ⟨a1, a2, a3, _⟩ := do_sta ho hs (show i0 < t.outer.length by unfold RTk.n at hi0 hk; omega) h0
  have h4 := rest_bd ho (by omega) a1 h2
  have h5 : (k : Int) ≤ 6 := by have := ho.n6; unfold RTk.n at hk; omega
  cases h3
  omega
theorem LR_key {l D g12 g10 g9 g8 g7 g6 g5 g4 gm : Nat} {r0 : Loop} {o10 o9 o8 : Obj} {q : SV} {best : Bs.Fd} {p : SV} {i0 : Nat} {sq : SV} {s : Sta} {g : Nat} {kvs : List (Value × Value)} {e : Nat × Obj} (he : e ∈ LR l D g12 g10 g9 g8 g7 g6 g5 g4 gm r0 o10 o9 o8 q best p i0 sq s g kvs) : e.1 ∈ KR l D g12 g10 g9 g8 g7 g6 g5 g4 ++ [gm] := by
  have := List.mem_map_of_mem (f := Prod.fst) he
  exact this
theorem LR_in {l D g12 g10 g9 g8 g7 g6 g5 g4 gm : Nat} {r0 : Loop} {o10 o9 o8 : Obj} {q : SV} {best : Bs.Fd} {p : SV} {i0 : Nat} {sq : SV} {s : Sta} {g : Nat} {kvs : List (Value × Value)} {e : Nat × Obj} {gn n0 : Nat} {o : Obj} {ks : List Nat} (hgk : gm ∈ ks) (hgn : n0 ≤ gn) (he : e ∈ (gn, o) :: LR l D g12 g10 g9 g8 g7 g6 g5 g4 gm r0 o10 o9 o8 q best p i0 sq s g kvs) : e.1 ∈ KR l D g12 g10 g9 g8 g7 g6 g5 g4 ++ ks ∨ n0 ≤ e.1 := by
  rcases List.mem_cons.1 he with rfl | he
  · exact .inr hgn
  · left
    rcases List.mem_append.1 (LR_key he) with h | h
    · exact List.mem_append_left _ h
    · rw [List.mem_singleton.1 h]; exact List.mem_append_right _ hgk
/-- what a choice has come to: the world, the plan's slice, the best rest, what is known. -/
def RestJ (t : RTk) (gm : Nat) (ks : List Nat) (kvs : List (Value × Value)) (i0 k : Nat) (s : Sta) (b : List Bool) (w : World) (i : Nat) (z : World × SV × Bs.Fd × List (Value × Value)) : Prop :=
  Kp gm w z.1 ∧ Fam z.1 gm ks [] [hMem t z.2.2.2, hPlan z.2.1 (fdP z.2.2.1)] ∧ (∀ x, x ∈ ks → x < z.1.heap.size) ∧ KeysOk Try.prog 110 z.2.2.2 ∧ (∃ new, z.2.2.2 = kvs ++ new ∧ NewK (i0 + 1) new) ∧ z.2.2.1 = pick (fun i => t.one (t.rest k) s i0 b (chc t.m i)) i
set_option maxHeartbeats 16000000 in
theorem rest_0 {t : RTk} {v : RTV} {r : SV} {g gt gm : Nat} (ho : RtOk t) : RestC t v r g gt gm 0 := by
  intro w ks kvs sq p s b hP hT hm hF hgk hks hkeys hs hbl hq hb
  obtain ⟨hlg, hc⟩ := plnCell hP
  have hgne : g ≠ gm := hP.kg.2
  have hgm : gm < w.heap.size := (Array.getElem?_eq_some_iff.1 hm).1
  have lo := hT.outer.len
  obtain ⟨tp, tq, ⟨Ao, no, co⟩, tr, tc, su, pu, ton⟩ := v
  simp only at lo
  subst lo
  have c7 : w.cell? ⟨g, 7, none⟩ = some (.slice Ao t.outer.length co) := hc 7 _ rfl
  have e0 : t.n - 0 = t.outer.length := rfl
  rw [e0]
  simp only [staV, staC, svV]
  refine enterML Try.func20 rfl Try.ntmps20 rfl (Sys.start1 (Nat.le_refl gm) hm) ?_; simp only [frame, Nat.zero_add, Nat.reduceAdd]
  repeat (first | (refine M0 ?_; first | refine SL ?_ | refine SB fun _ _ => ?_) | (refine M1 ?_; refine SC ?_) | (refine M2 ?_; refine SE ?_))
  rename_i g4 hg4 g5 hg5 g6 hg6 g7 hg7 g8 hg8
  refine XC.scope ?_
  repeat (first | (refine M0 ?_; first | refine SL ?_ | refine SB fun _ _ => ?_ | refine Y4 (Ev.load_far tok rfl rfl hlg ZZNE c7) ?_) | (refine M1 ?_; first | refine SC ?_ | refine SD ?_) | (refine M2 ?_; refine SE ?_) | (refine M3 ?_; first | refine SG ?_ | refine SF ?_ | refine YF (Ev.load_far tok rfl rfl hlg ZZNE c7) ?_) | (refine M4 ?_; refine SR ?_) | (refine M5 ?_; first | exact M7 | refine YM ?_ | refine YN ?_ ?_))
  rw [show decide ((t.outer.length : Int) = (t.outer.length : Int)) = true from decide_eq_true rfl]
  repeat (first | (refine M0 ?_; first | refine SL ?_ | refine SB fun _ _ => ?_) | (refine M1 ?_; refine SC ?_) | (refine M2 ?_; refine SE ?_))
  refine XE.noGoto_ret ?_
  refine XE.retM0 tok Try.results20 rfl (by simp only [and_self, and_true]) (fun w' S => ?_)
  have hgg : gm ∈ [gm] := .head _
  refine ⟨_, rfl, ⟨none, 0, 0⟩, [], rfl, ?_, ?_, ?_, fun x hx => by cases hx⟩ <;> rw [List.append_nil]
  · exact S.only (by repeat (first | exact List.mem_cons_self | apply List.mem_cons_of_mem)) ZZHM
  · refine Fam.forget ((hF.sys S ZZHM).hold (x := hPlan ⟨none, 0, 0⟩ []) (ok := Free w' gm ks []) PlanAt.nil (fun j hj => hj)) (fun x hx => ?_)
    rcases List.mem_cons.1 hx with rfl | hx
    · exact .tail _ (.head _)
    · rw [List.mem_singleton.1 hx]; exact .head _
  · exact hkeys
set_option maxHeartbeats 32000000 in
theorem rest_s {t : RTk} {v : RTV} {r : SV} {g gt gm k : Nat} (ho : RtOk t) (hc0 : chkE t.b = 0) (hk : k + 1 ≤ t.n) (IH : RestC t v r g gt gm k) : RestC t v r g gt gm (k + 1) := by
  intro w ks kvs sq p s b hP hT hm hF hgk hks hkeys hs hbl hq hb
  have hP0 := hP
  have hT0 := hT
  obtain ⟨hlg, hc⟩ := plnCell hP
  have hgne : g ≠ gm := hP.kg.2
  have hgg : gm ∈ [gm] := .head _
  have hgm : gm < w.heap.size := (Array.getElem?_eq_some_iff.1 hm).1
  have lo := hT.outer.len
  have hall := hP.all
  obtain ⟨i0, hi0⟩ : ∃ i0, i0 = t.n - (k + 1) := ⟨_, rfl⟩
  have hin : i0 < t.outer.length := by unfold RTk.n at hi0 hk; omega
  have hm4 : t.m ≤ 4 := by have := t.devs_len; unfold RTk.many at this; have := ho.s2; have := ho.p2; unfold RTk.m; omega
  have hpl6 : t.b.pols.length ≤ 6 := ho.ok.m6
  have hf6 : s.fil.length ≤ 6 := by rw [hs.len]; exact hpl6
  have c17 : w.cell? ⟨g, 17, none⟩ = some (.map (some gm)) := hc 17 _ rfl
  have c15 : w.cell? ⟨g, 15, none⟩ = some (.slice r.A r.n r.c) := hc 15 _ rfl
  have c7 : w.cell? ⟨g, 7, none⟩ = some (.slice v.o.A v.o.n v.o.c) := hc 7 _ rfl
  have hpk : ∃ l, keyOf Try.prog 110 (.agg ⟨placeC i0 s b⟩) = some l := by
    refine place_key (by have := ho.n6; omega) ?_ (by omega) (fun j => ?_)
    · have := hs.vol; have := (ho.ok.vol 0 (by have := ho.ok.n2; omega)); unfold i64in; omega
    · unfold at0
      rcases Nat.lt_or_ge j s.fil.length with h | h
      · have h1 := hs.fil j (by rw [← hs.len]; exact h)
        have h2 := ho.ok.room j (by rw [← hs.len]; exact h)
        have e : s.f j = s.fil[j]?.getD 0 := rfl
        rw [← e]
        unfold i64in
        omega
      · rw [List.getElem?_eq_none h]
        unfold i64in
        simp
  rw [← hi0]
  simp only [staV, staC, svV]
  refine enterML Try.func20 rfl Try.ntmps20 rfl (Sys.start1 (Nat.le_refl gm) hm) ?_; simp only [frame, Nat.zero_add, Nat.reduceAdd]
  repeat (first | (refine M0 ?_; first | refine SL ?_ | refine SB fun _ _ => ?_) | (refine M1 ?_; refine SC ?_) | (refine M2 ?_; refine SE ?_))
  rename_i g4 hg4 g5 hg5 g6 hg6 g7 hg7 g8 hg8
  refine XC.scope ?_
  repeat (first | (refine M0 ?_; first | refine SL ?_ | refine SB fun _ _ => ?_ | refine Y4 (Ev.load_far tok rfl rfl hlg ZZNE c7) ?_) | (refine M1 ?_; first | refine SC ?_ | refine SD ?_) | (refine M2 ?_; refine SE ?_) | (refine M3 ?_; first | refine SG ?_ | refine SF ?_ | refine YF (Ev.load_far tok rfl rfl hlg ZZNE c7) ?_) | (refine M4 ?_; refine SR ?_) | (refine M5 ?_; first | exact M7 | refine YM ?_ | refine YN ?_ ?_))
  rw [show decide ((i0 : Int) = (v.o.n : Int)) = false from decide_eq_false (by rw [lo]; omega)]
  repeat (first | (refine M0 ?_; first | refine SL ?_ | refine SB fun _ _ => ?_ | refine Y4 (Ev.call (f := 38) (ck rfl) rfl (fun w5 S5 => place_any (g := g) (i := i0) (s := s) (before := b) (sq := sq) (p := p) ((hq.keep fun j hj => (Kp.refl.sys S5 ZZHM).old j hj).mono (Kp.refl.sys S5 ZZHM).lt) hf6 ((hb.keep fun j hj => (Kp.refl.sys S5 ZZHM).old j hj).mono (Kp.refl.sys S5 ZZHM).lt) (by omega))) ?_) | (refine M1 ?_; refine SC ?_) | (refine M2 ?_; refine SE ?_))
  rename_i g9 hg9
  have hk1 : t.n - i0 = k + 1 := by omega
  refine Or.elim (Classical.em (∃ vv, (Value.agg ⟨placeC i0 s b⟩, vv) ∈ kvs)) (fun hfound => ?_) (fun hnone => ?_)
  · obtain ⟨vv, hv⟩ := hfound
    obtain ⟨q, rfl, hpq⟩ := hMem_find (hF.held (hMem t kvs) (.head _)) hs hpl6 hbl hv
    rw [hk1] at hv hpq
    simp only [tailV, tailC] at hv
    refine XC.cutln [4, 5, 6, 7, 8, 9] rfl (fun g10 : Nat => [(10, .pointer (some ⟨g10, 0, none⟩)), (11, .bool true)]) (fun g10 => [(g10, cel 75 (tailC q (t.rest (k + 1) s b)))]) (fun g10 => w.heap.size ≤ g10) ?_ (fun g10 hg10 => ?_)
    · refine XC.drawR _ [0, 1, 2, 3, 4, 5, 6, 7, 8] [9, 10, 11] mixed (fun _ h => h) rfl (by kernel_rfl) ?_
      repeat (any_goals (first | (refine M0 ?_; first | refine SL ?_ | refine SB fun _ _ => ?_ | refine Y4 (Ev.load_far tok rfl rfl hlg ZZNE c17) ?_ | refine Y4 (Ev.lookupYes 6 (k := .agg ⟨placeC i0 s b⟩) kvs place_law rfl rfl rfl Try.underlying98 hkeys hpk hv) ?_) | (refine M1 ?_; refine SC ?_) | (refine M2 ?_; refine SE ?_) | (refine M3 ?_; first | refine SG ?_ | refine SF ?_ | refine YF (Ev.load_far tok rfl rfl hlg ZZNE c17) ?_ | refine YF (Ev.lookupYes 6 (k := .agg ⟨placeC i0 s b⟩) kvs place_law rfl rfl rfl Try.underlying98 hkeys hpk hv) ?_) | (refine M4 ?_; refine SR ?_) | (refine M5 ?_; first | exact M7 | refine YM ?_ | refine YN ?_ ?_)))
      any_goals (repeat (first | exact AnyR.nil | refine AnyR.skip rfl ?_))
      all_goals exact XE.leaf _ ZZSUB (fun _ S' => by first | exact S' | exact S'.perm (by repeat (first | exact List.Perm.refl _ | refine perm1 ?_ | refine List.Perm.cons _ ?_ | refine perm2 ?_)) | exact (S'.pop (by assumption)) | exact (S'.pop2 (by assumption))) (by assumption)
    dsimp only [List.cons_append, List.nil_append]
    refine XC.hint 10 7 ?_
    simp only [tailC]
    repeat (first | (refine M0 ?_; first | refine SL ?_ | refine SB fun _ _ => ?_) | (refine M1 ?_; refine SC ?_) | (refine M2 ?_; refine SE ?_))
    refine XE.noGoto_ret ?_
    refine XE.retM0 tok Try.results20 rfl (by simp only [and_self, and_true]) (fun w' S => ?_)
    refine ⟨_, rfl, q, [], rfl, ?_, ?_, ?_, fun x hx => by cases hx⟩ <;> rw [List.append_nil]
    · exact S.only (by repeat (first | exact List.mem_cons_self | apply List.mem_cons_of_mem)) ZZHM
    · have F1 := hF.sys S ZZHM
      have F2 := (hF.hold (x := hPlan q (fdP (t.rest (k + 1) s b))) (ok := Free w gm ks []) hpq (fun j hj => hj)).sys S ZZHM
      refine Fam.forget F2 (fun x hx => ?_)
      rcases List.mem_cons.1 hx with rfl | hx
      · exact .tail _ (.head _)
      · rw [List.mem_singleton.1 hx]; exact .head _
    · exact hkeys
  have hnv : ∀ e, e ∈ kvs → e.1 ≠ .agg ⟨placeC i0 s b⟩ := fun e he h => hnone ⟨e.2, by rw [← h]; exact he⟩
  refine XC.cutln [4, 5, 6, 7, 8, 9] rfl (fun g10 : Nat => [(10, .pointer (some ⟨g10, 0, none⟩)), (11, .bool false)]) (fun g10 => [(g10, cel 75 [.bool false, .int .i64 0, .slice none 0 0])]) (fun g10 => w.heap.size ≤ g10) ?_ (fun g10 hg10 => ?_)
  · refine XC.drawR _ [0, 1, 2, 3, 4, 5, 6, 7, 8] [9, 10, 11] mixed (fun _ h => h) rfl (by kernel_rfl) ?_
    repeat (any_goals (first | (refine M0 ?_; first | refine SL ?_ | refine SB fun _ _ => ?_ | refine Y4 (Ev.load_far tok rfl rfl hlg ZZNE c17) ?_ | refine Y4 (Ev.lookupNo tok 6 (k := .agg ⟨placeC i0 s b⟩) kvs place_law rfl rfl rfl Try.underlying98 rfl hkeys hpk hnv) ?_) | (refine M1 ?_; refine SC ?_) | (refine M2 ?_; refine SE ?_) | (refine M3 ?_; first | refine SG ?_ | refine SF ?_ | refine YF (Ev.load_far tok rfl rfl hlg ZZNE c17) ?_ | refine YF (Ev.lookupNo tok 6 (k := .agg ⟨placeC i0 s b⟩) kvs place_law rfl rfl rfl Try.underlying98 rfl hkeys hpk hnv) ?_) | (refine M4 ?_; refine SR ?_) | (refine M5 ?_; first | exact M7 | refine YM ?_ | refine YN ?_ ?_)))
    any_goals (repeat (first | exact AnyR.nil | refine AnyR.skip rfl ?_))
    all_goals exact XE.leaf _ ZZSUB (fun _ S' => by first | exact S' | exact S'.perm (by repeat (first | exact List.Perm.refl _ | refine perm1 ?_ | refine List.Perm.cons _ ?_ | refine perm2 ?_)) | exact (S'.pop (by assumption)) | exact (S'.pop2 (by assumption))) (by assumption)
  dsimp only [List.cons_append, List.nil_append]
  refine XC.hint 10 7 ?_
  repeat (first | (refine M0 ?_; first | refine SL ?_ | refine SB fun _ _ => ?_) | (refine M1 ?_; refine SC ?_) | (refine M2 ?_; refine SE ?_))
  rename_i g12 hg12
  refine XC.label ?_
  repeat (first | (refine M0 ?_; first | refine SL ?_ | refine SB fun _ _ => ?_) | (refine M1 ?_; refine SC ?_) | (refine M2 ?_; refine SE ?_))
  refine XL.callr (fst := []) (cap := []) (fun w1 x w2 => ∃ gp, x = .func (.func 46) #[] #[.pointer (some ⟨gp, 0, none⟩)] ∧ Sys w1.heap.size w1 [(gp, cel 71 [.pointer (some ⟨g, 0, none⟩)])] w2) (ck rfl) rfl rfl rfl (fun w1 S1 => choices_any (g := g) (w := w1)) (fun w1 x w2 S1 hR => ?_)
  obtain ⟨gp, rfl, S2⟩ := hR
  refine ⟨_, w2, (S1.join S2 (List.Sublist.refl _)).rebase (List.sublist_cons_self _ _), ?_⟩
  have K2 : Kp gm w w2 := (Kp.refl.sys S1 ZZHM).made S2.toBelow (Nat.le_trans (Nat.le_of_lt hgm) S1.size)
  have hgp0 : w.heap.size ≤ gp := Nat.le_trans S1.size (S2.own _ (.head _)).1
  have hgpL : ∀ e, e ∈ [(g12, (0 : Nat)), (g10, 0), (g9, 0), (g8, 0), (g7, 0), (g6, 0), (g5, 0), (g4, 0), (gm, 0)] → e.1 < gp := by
    have h1 := (S2.own _ (.head _)).1
    have h2 := S1.keyLt
    intro e he
    have h3 := h2 e.1 (by simp only [List.mem_cons, List.not_mem_nil, or_false] at he; rcases he with rfl | rfl | rfl | rfl | rfl | rfl | rfl | rfl | rfl <;> simp)
    omega
  have hgpc : w2.cell? ⟨gp, 0, none⟩ = some (.pointer (some ⟨g, 0, none⟩)) := by
    have := (S2.own _ (.head _)).2
    simp [World.cell?, this]
  have hgpl : gp < w2.heap.size := S2.lt (.head _)
  have hF2 : Fam w2 gm ([g12, g10, g9, g8, g7, g6, g5, g4] ++ ks) [] [hMem t kvs] := ((hF.call S1 S2.toBelow ZZHM hks (new := []) (fun x hx => by cases hx)).1).add fun k hk => by
    left
    rcases List.mem_append.1 hk with h | h
    · refine List.mem_append_left _ ?_
      simp only [List.mem_cons, List.not_mem_nil, or_false] at h
      rcases h with rfl | rfl | rfl | rfl | rfl | rfl | rfl | rfl <;> simp
    · exact List.mem_append_right _ h
  have hks2 : ∀ x, x ∈ [g12, g10, g9, g8, g7, g6, g5, g4] ++ ks → x < w2.heap.size := fun x hx => by
    rcases List.mem_append.1 hx with h | h
    · have := S1.keyLt x (by simp only [List.mem_cons, List.not_mem_nil, or_false] at h; rcases h with rfl | rfl | rfl | rfl | rfl | rfl | rfl | rfl <;> simp)
      exact Nat.lt_of_lt_of_le this S2.size
    · exact Nat.lt_of_lt_of_le (hks x h) (Nat.le_trans S1.size S2.size)
  clear S1 S2
  repeat (first | (refine M0 ?_; first | refine SL ?_ | refine SB fun _ _ => ?_) | (refine M1 ?_; refine SC ?_) | (refine M2 ?_; refine SE ?_))
  have hKR : ∀ D l, w2.heap.size ≤ D → w2.heap.size ≤ l → ∀ x, x ∈ KR l D g12 g10 g9 g8 g7 g6 g5 g4 → w.heap.size ≤ x := fun D l hD hl x hx => by
    have := K2.below.size
    simp only [KR, List.mem_cons, List.not_mem_nil, or_false] at hx
    rcases hx with rfl | rfl | rfl | rfl | rfl | rfl | rfl | rfl | rfl | rfl <;> omega
  have hLRw : ∀ D, w2.heap.size ≤ D → ∀ e : Nat × Obj, e.1 ∈ KR (D + 1) D g12 g10 g9 g8 g7 g6 g5 g4 ++ [gm] → e.1 ∈ [gm] ∨ w.heap.size ≤ e.1 := fun D hD e he => by
    rcases List.mem_append.1 he with h | h
    · exact .inr (hKR D (D + 1) hD (by omega) _ h)
    · exact .inl h
  refine XC.rangeFunc (cap := [.pointer (some ⟨gp, 0, none⟩)]) rfl (ck rfl) (fun fn a D w3 hD hf S3 => ?_)
  obtain ⟨o10, ho10⟩ : ∃ o10, o10 = cel 75 [.bool false, .int .i64 0, .slice none 0 0] := ⟨_, rfl⟩
  obtain ⟨o9, ho9⟩ : ∃ o9, o9 = cel 110 (placeC i0 s b) := ⟨_, rfl⟩
  have hfS : Fits 109 [] [(4, .pointer (some ⟨g4, 0, none⟩)), (5, .pointer (some ⟨g5, 0, none⟩)), (6, .pointer (some ⟨g6, 0, none⟩)), (12, .pointer (some ⟨g12, 0, none⟩)), (7, .pointer (some ⟨g7, 0, none⟩))] a := Sub.fits ZZSUB hf
  have hn15 : r.n = t.m := hall.len (by decide)
  rw [hn15] at c15
  have K3 : Kp gm w w3 := K2.sys S3 (by
    have := K2.below.size
    intro e he
    repeat (first | (cases he; done) | (rcases List.mem_cons.1 he with rfl | he; · first | (left; assumption) | (right; assumption) | (right; simp only; omega))))
  have hF3 : Fam w3 gm (KR (D + 1) D g12 g10 g9 g8 g7 g6 g5 g4 ++ ks) [] [hMem t kvs, hPlan ⟨none, 0, 0⟩ []] := by
    have h1 := (hF2.hold (x := hPlan ⟨none, 0, 0⟩ []) (ok := Free w2 gm _ []) PlanAt.nil (fun j hj => hj)).add (ks' := KR (D + 1) D g12 g10 g9 g8 g7 g6 g5 g4 ++ ks) fun x hx => by
      simp only [KR, List.cons_append, List.nil_append] at hx
      rcases List.mem_cons.1 hx with rfl | hx
      · right; omega
      rcases List.mem_cons.1 hx with rfl | hx
      · right; omega
      · left; exact hx
    refine Fam.forget (h1.sys S3 ?_) (fun x hx => ?_)
    · intro e he
      left
      have : e.1 ∈ KR (D + 1) D g12 g10 g9 g8 g7 g6 g5 g4 ++ [gm] := List.mem_map.2 ⟨e, he, rfl⟩
      rcases List.mem_append.1 this with h | h
      · exact List.mem_append_left _ h
      · rw [List.mem_singleton.1 h]; exact List.mem_append_right _ hgk
    · rcases List.mem_cons.1 hx with rfl | hx
      · exact .tail _ (.head _)
      · rw [List.mem_singleton.1 hx]; exact .head _
  have hks3 : ∀ x, x ∈ KR (D + 1) D g12 g10 g9 g8 g7 g6 g5 g4 ++ ks → x < w3.heap.size := fun x hx => by
    rcases List.mem_append.1 hx with h | h
    · exact S3.keyLt x (List.mem_append_left [gm] h)
    · exact Nat.lt_of_lt_of_le (hks2 x (List.mem_append_right _ h)) S3.size
  have hfar3 : ∀ x, x < w2.heap.size → (∀ e, e ∈ [(g12, (0 : Nat)), (g10, 0), (g9, 0), (g8, 0), (g7, 0), (g6, 0), (g5, 0), (g4, 0), (gm, 0)] → e.1 < x) → ∀ e : Nat × Obj, e.1 ∈ KR (D + 1) D g12 g10 g9 g8 g7 g6 g5 g4 ++ [gm] → e.1 ≠ x := fun x h1 h2 e he e1 => by
    simp only [KR, List.cons_append, List.nil_append] at he
    rcases List.mem_cons.1 he with h | h
    · omega
    rcases List.mem_cons.1 h with h | h
    · omega
    have := h2 (e.1, 0) (by simpa using h)
    simp only at this
    omega
  have hch := chs_any (B := gm) (l := D + 1) (g := g) (gp := gp) (m := t.m) (c := r.c) (A := r.A) (fun z : World × SV × Bs.Fd × List (Value × Value) => LR (D + 1) D g12 g10 g9 g8 g7 g6 g5 g4 gm (recO fn a.tmps #[44] _ _ D .ready none) o10 o9 (cel 75 [.bool false, .int .i64 0, .slice none 0 0]) z.2.1 z.2.2.1 p i0 sq s g z.2.2.2) (fun z => z.1)
    (RestJ t gm (KR (D + 1) D g12 g10 g9 g8 g7 g6 g5 g4 ++ ks) kvs i0 k s b w) (w3, ⟨none, 0, 0⟩, none, kvs) hm4 (by rw [ho10, ho9]; exact S3.rebase (List.Sublist.refl _)) ⟨K3, hF3, hks3, hkeys, ⟨[], by simp, fun x hx => by cases hx⟩, rfl⟩ ?_ ?_ ?_ ?_ ?_ ?_ ?_
  rotate_left
  · have h := S3.farCell (a := ⟨gp, 0, none⟩) hgpl (fun e he => hfar3 gp hgpl hgpL e (List.mem_map.2 ⟨e, he, rfl⟩))
    exact h.trans hgpc
  · have h : w3.cell? ⟨g, 15, none⟩ = w.cell? ⟨g, 15, none⟩ := by unfold World.cell?; rw [K3.old g ⟨hlg, hgne⟩]
    exact h.trans c15
  · exact Nat.lt_of_lt_of_le hgpl S3.size
  · exact Nat.lt_of_lt_of_le hlg K3.below.size
  · exact fun e he => hfar3 gp hgpl hgpL e (LR_key he)
  · intro e he e1
    rcases hLRw D hD e (LR_key he) with h | h
    · exact hgne (e1.symm.trans (List.mem_singleton.1 h))
    · omega
  · rintro i ⟨zW, zq, zb, zk⟩ gn W hi hJ hgn SW w1 S1
    obtain ⟨j1, j2, j3, j4, ⟨new, j5, j6⟩, j7⟩ := hJ
    simp only at hgn SW S1 j1 j2 j3 j4 j5 j7
    have hon : ListAt boolK W (Btw zW.heap.size W.heap.size) ⟨some ⟨gn, 0, none⟩, t.m, t.m⟩ (chc t.m i) := boolsAt (SW.own _ (.head _)).2 hgn (chc_len _ _) (by omega)
    have hgz : gm ≤ zW.heap.size := Nat.le_trans (Nat.le_of_lt hgm) j1.below.size
    have KW := j1.sys SW fun e he => by
      rcases List.mem_cons.1 he with rfl | he
      · exact .inr (Nat.le_trans j1.below.size hgn)
      · exact hLRw D hD e (LR_key he)
    have FW := (j2.sys SW (fun e he => LR_in hgk hgn he)).hold (x := hList boolK ⟨some ⟨gn, 0, none⟩, t.m, t.m⟩ (chc t.m i)) hon (fun j hj => ⟨Nat.le_trans hgz hj.1, hj.2, fun h => by have := j3 j h; have := hj.1; omega, fun x hx => by cases hx⟩)
    obtain ⟨a1, a2⟩ := rest_round (j := 0) (n := 0) (on := chc t.m i) IH ho hc0 hi0 hk hs hbl (chc_len _ _) hm4 hP0 hT0 hgm hq hb (hKR D (D + 1) hD (by omega)) KW hgk FW (fun x hx => Nat.lt_of_lt_of_le (j3 x hx) SW.size) j4 (pick_bd ho hk hi0 hs j7) rfl rfl hfS S1
    refine ⟨_, _, _, _, a1, a2.mono fun e w' ⟨u, e1, e2, W', q', new', k1, k2, k3, k4, k5, k6⟩ => ⟨u, e1, e2, (W', q', _, zk ++ new'), ⟨k1, k2, k3, k4, ⟨new ++ new', by simp only; rw [j5, List.append_assoc], fun x hx => ?_⟩, ?_⟩, k6⟩⟩
    · rcases List.mem_append.1 hx with h | h
      · exact j6 x h
      · exact k5 x h
    · simp only
      rw [j7]; rfl
  refine hch.mono fun e w4 ⟨v4, e4, z, hJ, S4⟩ => ⟨v4, e4, .inl ?_⟩
  obtain ⟨zW, zq, zb, zk⟩ := z
  obtain ⟨j1, j2, j3, j4, ⟨new, j5, j6⟩, j7⟩ := hJ
  simp only at S4 j1 j2 j3 j4 j5 j7
  refine ⟨_, zW, S4, ?_⟩
  have hzb : zb = t.rest (k + 1) s b := by rw [j7, hi0]; rfl
  subst hzb ho10 ho9
  simp only [staC, tailC, svV, placeC]
  repeat (first | (refine M0 ?_; first | refine SL ?_ | refine SB fun _ _ => ?_) | (refine M1 ?_; refine SC ?_) | (refine M2 ?_; refine SE ?_))
  have hD0 : w.heap.size ≤ D := Nat.le_trans K2.below.size hD
  have hD1 : w.heap.size ≤ D + 1 := by omega
  have c17z : zW.cell? ⟨g, 17, none⟩ = some (.map (some gm)) := by
    have h : zW.cell? ⟨g, 17, none⟩ = w.cell? ⟨g, 17, none⟩ := by unfold World.cell?; rw [j1.old g ⟨hlg, hgne⟩]
    exact h.trans c17
  have hlgz : g < zW.heap.size := Nat.lt_of_lt_of_le hlg j1.below.size
  have hnz : ∀ e, e ∈ zk → e.1 ≠ .agg ⟨placeC i0 s b⟩ := fun e he => by
    rw [j5] at he
    rcases List.mem_append.1 he with h | h
    · exact hnv e h
    · exact j6.ne (Nat.lt_succ_self i0) e h
  refine XC.drawT mixed rfl rfl (by kernel_rfl) ?_
  repeat (first | (refine M0 ?_; first | refine SL ?_ | refine SB fun _ _ => ?_ | refine Y4 (Ev.load_far tok rfl rfl hlgz ZZNE c17z) ?_) | (refine M2 ?_; refine SE ?_) | (refine M3 ?_; first | refine SG ?_ | refine SF ?_ | refine YF (Ev.load_far tok rfl rfl hlgz ZZNE c17z) ?_) | (refine M4 ?_; refine SR ?_) | (refine M5 ?_; first | exact M7 | refine YM ?_ | refine YN ?_ ?_))
  refine XL.updateK 10 (k := .agg ⟨placeC i0 s b⟩) (v := tailV zq (t.rest (k + 1) s b)) zk place_law rfl rfl rfl rfl Try.underlying98 j4 hpk hnz rfl ?_
  repeat (first | (refine M0 ?_; first | refine SL ?_ | refine SB fun _ _ => ?_) | (refine M1 ?_; refine SC ?_) | (refine M2 ?_; refine SE ?_))
  refine XE.noGoto_ret ?_
  refine XE.retM (i := 1) tok Try.results20 rfl rfl rfl (by simp only [and_self, and_true]) (fun w' S => ?_)
  have hkm : gm ∈ KR (D + 1) D g12 g10 g9 g8 g7 g6 g5 g4 ++ ks := List.mem_append_right _ hgk
  have e9 : kvs ++ (new ++ [(.agg ⟨placeC i0 s b⟩, tailV zq (t.rest (k + 1) s b))]) = zk ++ [(.agg ⟨placeC i0 s b⟩, tailV zq (t.rest (k + 1) s b))] := by rw [j5, List.append_assoc]
  have F9 := j2.sys S (fun e he => by
    left
    have : e.1 ∈ KR (D + 1) D g12 g10 g9 g8 g7 g6 g5 g4 ++ [gm] := List.mem_map.2 ⟨e, he, rfl⟩
    rcases List.mem_append.1 this with h | h
    · exact List.mem_append_left _ h
    · rw [List.mem_singleton.1 h]; exact hkm)
  have hin' : i0 < t.n := hin
  have hp9 := F9.held (hPlan zq (fdP (t.rest (k + 1) s b))) (.tail _ (.head _))
  have F10 := F9.hold (x := hMem t (zk ++ [(.agg ⟨placeC i0 s b⟩, tailV zq (t.rest (t.n - i0) s b))])) (ok := Free w' gm _ []) (hMem_push (F9.held (hMem t zk) (.head _)) hs hbl hin' (by rw [hk1]; exact hp9)) (fun j hj => hj)
  rw [hk1] at F10
  refine ⟨_, rfl, zq, new ++ [(.agg ⟨placeC i0 s b⟩, tailV zq (t.rest (k + 1) s b))], rfl, ?_, ?_, ?_, ?_⟩
  · rw [e9]
    exact j1.end_ S (by repeat (first | exact List.mem_cons_self | apply List.mem_cons_of_mem)) ZZHM (Nat.le_of_lt hgm)
  · rw [e9]
    refine Fam.forget (F10.add (ks' := ks) fun x hx => .inl (List.mem_append_right _ hx)) (fun x hx => ?_)
    rcases List.mem_cons.1 hx with rfl | hx
    · exact .head _
    · rw [List.mem_singleton.1 hx]; exact .tail _ (.tail _ (.head _))
  · rw [e9]
    exact j4.push hpk hnz
  · intro x hx
    rcases List.mem_append.1 hx with h | h
    · obtain ⟨j, s', b', h1, h2⟩ := j6 x h
      exact ⟨j, s', b', h1, by omega⟩
    · rw [List.mem_singleton.1 h]
      exact ⟨i0, s, b, rfl, Nat.le_of_eq hi0.symm⟩
/-- rest, whatever is known. -/
theorem rest_any {t : RTk} {v : RTV} {r : SV} {g gt gm : Nat} (ho : RtOk t) (hc0 : chkE t.b = 0) : ∀ k, k ≤ t.n → RestC t v r g gt gm k := by
  intro k
  induction k with
  | zero => intro _; exact rest_0 ho
  | succ k ih => intro hk; exact rest_s ho hc0 hk (ih (by omega))
end Go.Proofs.Ytlfjdbilblfknaa.X
/-
  The walk of Best (runoff).
-/
namespace Go.Proofs.Ytlfjdbilblfknaa.Bs
open Go.Proofs.Ytlfjdbilblfknaa.X
/-- what Best finds. -/
noncomputable def bst (t : RTk) : Fd := if rtE t = 0 then t.rest t.n t.s t.on else none
noncomputable def bstE (t : RTk) : Int := if rtE t = 0 then (if (t.rest t.n t.s t.on).isSome = true then 0 else 9) else rtE t
end Go.Proofs.Ytlfjdbilblfknaa.Bs
namespace Go.Proofs.Ytlfjdbilblfknaa.X
open Go Go.RowKit Go.Proofs.Ytlfjdbilblfknaa.Bs
set_option linter.unusedVariables false
def BestV (t : RTk) (x : Value) (new : List Held) : Prop := ∃ q : SV, x = .tuple ⟨[svV q, .int .i64 (fdC (bst t)), .int .i64 (bstE t)]⟩ ∧ new = [hPlan q (fdP (bst t))]
section
variable {B b gm : Nat} {w0 w1 w2 : World} {L : Lo} {o : Obj}
/-- behind a call that changed gm alone. -/
theorem Sys.after1 (S : Sys B w0 L w1) (S2 : Sys b w1 [(gm, o)] w2) (hn : ∀ e, e ∈ L → e.1 ≠ gm) : Sys B w2 L w2 :=
  ⟨rfl, rfl, rfl, Nat.le_refl _, Nat.le_trans S.base (Nat.le_trans S.size S2.size), fun _ _ _ => rfl, fun e he => ⟨(S.own e he).1, (S2.old e.1 (S.lt he) fun x hx h => hn e he (by rw [List.mem_singleton.1 hx] at h; exact h.symm)).trans (S.own e he).2⟩, S.nd⟩
theorem below_after1 {w : World} (hB : Below w.heap.size w w1) (S2 : Sys b w1 [(gm, o)] w2) (hg : w.heap.size ≤ gm) : Below w.heap.size w w2 :=
  hB.trans ⟨S2.os, S2.tape, S2.output, S2.size, fun k hk => S2.old k (Nat.lt_of_lt_of_le hk hB.size) fun x hx h => by rw [List.mem_singleton.1 hx] at h; simp only at h; omega⟩
end
/-- a planner that was just begun can plan. -/
theorem rest_first {v : RTV} {t : RTk} {w w1 : World} {g gt gm : Nat} {r : SV} {ok : Nat → Prop} (ht : TskAt w w.heap.size v t) (hB : Below w.heap.size w w1) (hp : Pln0 w1 ok g gt gm v r t) (hok : ∀ k, ok k → w.heap.size ≤ k ∧ k < w1.heap.size) (h0 : rtE t = 0) {ks : List Nat} (hgk : gm ∈ ks) (hks : ∀ k, k ∈ ks → k < w1.heap.size) :
    Calls Try.prog 20 #[.pointer (some ⟨g, 0, none⟩), staV v.q t.s, .int .i64 0, svV v.on] w1 fun e w' => ∃ vv, e = .returned vv ∧ RestR t gm t.n ks [] t.s t.on w1 vv w' := by
  have ho := rtOk_of h0
  have hg := hok gm hp.km
  have e0 : ((t.n - t.n : Nat) : Int) = 0 := by rw [Nat.sub_self]; rfl
  have hlt : ∀ k, Lt w.heap.size k → Ng' gm w1 k := fun k hk => ⟨Nat.lt_of_lt_of_le hk hB.size, fun e => by have hk' : k < w.heap.size := hk; omega⟩
  have h := rest_any (v := v) (r := r) (g := g) (gt := gt) (gm := gm) ho (chk_rt h0) t.n (Nat.le_refl _) (w := w1) (ks := ks) (kvs := []) (sq := v.q) (p := v.on) (s := t.s) (b := t.on) (hp.p.mono fun k hk => ⟨(hok k hk.1).2, hk.2⟩) ((ht.below hB).more hg.1) hp.hm
    ((Fam.start (Nat.le_of_lt hg.2)).hold (x := hMem t []) (ok := Free w1 gm ks []) hMem_nil (fun j hj => hj)) hgk hks KeysOk.nil ho.sta ho.on ((ht.fil.keep fun k hk => hB.block k hk).mono hlt) ((ht.on.keep fun k hk => hB.block k hk).mono hlt)
  rw [e0] at h
  exact h
set_option maxHeartbeats 8000000 in
theorem Best_made {v : RTV} {t : RTk} {w : World} (ht : TskAt w w.heap.size v t) (hn : t.slu.length + t.pmp.length ≤ 5000000) :
    Calls Try.prog 5 #[tskV v t] w (Made w (BestV t)) := by
  have hbeg := fun (w5 : World) (hB : Below w.heap.size w w5) => begin_made (v := v) (t := t) (w := w5) (ht.sys (Sys.ofBelow hB)) hn
  have hrest := fun (w1 : World) {g gt gm : Nat} {r : SV} {ok : Nat → Prop} (hB : Below w.heap.size w w1) (hp : Pln0 w1 ok g gt gm v r t) (hok : ∀ k, ok k → w.heap.size ≤ k ∧ k < w1.heap.size) (h0 : rtE t = 0) {ks : List Nat} (hgk : gm ∈ ks) (hks : ∀ k, k ∈ ks → k < w1.heap.size) => rest_first ht hB hp hok h0 hgk hks
  simp only [tskV, tskC, svV, staV, staC] at hbeg hrest ⊢
  refine enter Try.func5 rfl Try.ntmps5 rfl ?_; simp only [frame, Nat.zero_add, Nat.reduceAdd]
  repeat (first | (refine M0 ?_; first | refine SL ?_ | refine SB fun _ _ => ?_) | (refine M1 ?_; refine SC ?_) | (refine M2 ?_; refine SE ?_))
  rename_i g1 hg1
  refine XL.rebase (List.Sublist.refl _) (fun W0 S0 => ?_)
  refine XL.callF (ks := [g1]) (rs := []) (hs := []) (b0 := w.heap.size) (wE := w) (BegV _ t) (ck rfl) rfl rfl (Fam.start S0.size) (fun k hk => S0.keyLt k hk) S0.toBelow (fun w1 S1 _ hB1 => hbeg w1 hB1) (fun w2 x new hR hF2 hB2 hk2 => ?_) ZZHL
  rcases hR with ⟨h0, rfl, rfl⟩ | ⟨h0, g, gt, gm, r, rfl, rfl⟩
  · repeat (first | (refine M0 ?_; first | refine SL ?_ | refine SB fun _ _ => ?_) | (refine M1 ?_; refine SC ?_) | (refine M2 ?_; refine SE ?_))
    refine XC.cond _ rfl (fun h1 => ?_) (fun h1 => ?_)
    · repeat (first | (refine M0 ?_; first | refine SL ?_ | refine SB fun _ _ => ?_) | (refine M1 ?_; refine SC ?_) | (refine M2 ?_; refine SE ?_))
      refine XE.retg tok Try.results5 rfl (by simp only [and_self, and_true]) (fun w' S => ?_)
      have e1 : bst t = none := by unfold bst; rw [if_neg h0]
      have e2 : bstE t = rtE t := by unfold bstE; rw [if_neg h0]
      rw [← e2]
      refine ⟨_, _, rfl, ⟨⟨none, 0, 0⟩, by rw [e1]; rfl, rfl⟩, fun x hx => ?_, hB2.trans S.toBelow⟩
      rw [List.mem_singleton.1 hx, e1]
      exact PlanAt.nil
    · exact absurd (by simpa using h1) h0
  repeat (first | (refine M0 ?_; first | refine SL ?_ | refine SB fun _ _ => ?_) | (refine M1 ?_; refine SC ?_) | (refine M2 ?_; refine SE ?_))
  have ho := rtOk_of h0
  refine XL.callr (fst := []) (cap := []) (fun w3 x w4 => g1 ≠ gm ∧ w.heap.size ≤ gm ∧ RestR t gm t.n [gm, g1] [] t.s t.on w3 x w4) (ck rfl) rfl rfl rfl (fun w3 S3 => ?_) (fun w3 x w4 S3 hR => ?_)
  · have F3 := hF2.sys S3 ZZHL
    have hp3 : Pln0 w3 _ g gt gm _ r t := F3.held (hPln g gt gm _ r t) (.head _)
    have hne : g1 ≠ gm := fun e => hp3.km.2.2.1 (by rw [← e]; simp)
    refine (hrest w3 (hB2.trans S3.toBelow) hp3 (fun k hk => ⟨hk.1, hk.2.1⟩) h0 (ks := [gm, g1]) (.head _) (fun k hk => ?_)).mono fun e w' ⟨vv, e1, e2⟩ => ⟨vv, e1, hne, hp3.km.1, e2⟩
    rcases List.mem_cons.1 hk with rfl | hk
    · exact hp3.km.2.1
    · rw [List.mem_singleton.1 hk]; exact S3.lt (e := (g1, _)) (.head _)
  obtain ⟨hne, hgm, q, nw, rfl, S4, F4, _, _⟩ := hR
  refine ⟨_, w4, S3.after1 S4 (fun e he => by rw [List.mem_singleton.1 he]; exact hne), ?_⟩
  have B4 := below_after1 (hB2.trans S3.toBelow) S4 hgm
  have P4 : PlanAt w4 _ q _ := F4.held (hPlan q _) (.tail _ (.head _))
  have hgm4 : gm < w4.heap.size := Nat.lt_of_lt_of_le (S4.lt (.head _)) (Nat.le_refl _)
  clear F4 S4 S3 hF2 S0
  obtain ⟨fd, hfd⟩ : ∃ fd, fd = t.rest t.n t.s t.on := ⟨_, rfl⟩
  rw [← hfd] at P4
  rw [← hfd]
  have e1 : bst t = fd := by unfold bst; rw [if_pos h0, hfd]
  have e2 : bstE t = if fd.isSome = true then 0 else 9 := by unfold bstE; rw [if_pos h0, hfd]
  obtain ⟨ms, hms⟩ : ∃ ms, ms = fd.isSome := ⟨_, rfl⟩
  rw [← hms] at e2
  simp only [tailV, tailC]
  rw [← hms]
  cases ms
  · repeat (first | (refine M0 ?_; first | refine SL ?_ | refine SB fun _ _ => ?_) | (refine M1 ?_; first | refine SC ?_ | refine SD ?_) | (refine M2 ?_; refine SE ?_) | (refine M3 ?_; first | refine SG ?_ | refine SF ?_) | (refine M4 ?_; refine SR ?_) | (refine M5 ?_; first | exact M7 | refine YM ?_ | refine YN ?_ ?_))
    refine XE.retg tok Try.results5 rfl (by simp only [and_self, and_true]) (fun w' S => ?_)
    have e3 : fd = none := isSome_f hms.symm
    rw [e3] at e1
    refine ⟨_, _, rfl, ⟨⟨none, 0, 0⟩, by rw [e1, e2]; rfl, rfl⟩, fun x hx => ?_, B4.trans S.toBelow⟩
    rw [List.mem_singleton.1 hx, e1]
    exact PlanAt.nil
  · repeat (first | (refine M0 ?_; first | refine SL ?_ | refine SB fun _ _ => ?_) | (refine M1 ?_; first | refine SC ?_ | refine SD ?_) | (refine M2 ?_; refine SE ?_) | (refine M3 ?_; first | refine SG ?_ | refine SF ?_) | (refine M4 ?_; refine SR ?_) | (refine M5 ?_; first | exact M7 | refine YM ?_ | refine YN ?_ ?_))
    refine XE.retg tok Try.results5 rfl (by simp only [and_self, and_true]) (fun w' S => ?_)
    refine ⟨_, _, rfl, ⟨q, by rw [e1, e2]; rfl, rfl⟩, fun x hx => ?_, B4.trans S.toBelow⟩
    rw [List.mem_singleton.1 hx, e1]
    refine PlanAt.mono (P4.keep fun j hj => S.old j hj.2.1 fun e he e1 => ?_) (fun j hj => ⟨Nat.le_trans hgm hj.1, Nat.lt_of_lt_of_le hj.2.1 S.size⟩)
    rcases List.mem_cons.1 he with rfl | he
    · simp only at e1; have := hj.2.1; omega
    · rw [List.mem_singleton.1 he] at e1
      exact hj.2.2.1 (by rw [← e1]; simp)
end Go.Proofs.Ytlfjdbilblfknaa.X
/-
  The walk of follow (runoff).
-/
namespace Go.Proofs.Ytlfjdbilblfknaa.X
open Go Go.RowKit Go.Proofs.Ytlfjdbilblfknaa.Bs
set_option linter.unusedVariables false
theorem idxPln {f : FuncId} {cap : List Value} {P : SV × List Bool → Bool} {r : SV} {ms : List (SV × List Bool)} {w : World} (hck : callOk Try.prog f = true) (hr : ListAt plnK w (Lt w.heap.size) r ms) (hn : ms.length ≤ 1000)
    (hc : ∀ m, m ∈ ms → ∀ w', Below w.heap.size w w' → Calls Try.prog f ([] ++ [svV m.1] ++ cap).toArray w' fun e w'' => e = .returned (.bool (P m)) ∧ Below w'.heap.size w' w'') :
    Calls Try.prog 50 #[svV r, .func (.func f) #[] cap.toArray] w fun e w' => e = .returned (.int .i64 (idxL ms P)) ∧ Below w.heap.size w w' := by
  obtain ⟨A, n, c⟩ := r
  have hln := hr.len (by decide)
  simp only at hln
  subst hln
  simp only [svV]
  refine enter Try.func50 rfl Try.ntmps50 rfl ?_; simp only [frame, Nat.zero_add, Nat.reduceAdd]
  repeat (first | (refine M0 ?_; first | refine SL ?_ | refine SB fun _ _ => ?_) | (refine M1 ?_; first | refine SC ?_ | refine SD ?_) | (refine M2 ?_; refine SE ?_) | (refine M3 ?_; first | refine SG ?_ | refine SF ?_) | (refine M4 ?_; refine SR ?_) | (refine M5 ?_; first | exact M7 | refine YM ?_ | refine YN ?_ ?_))
  refine XC.loopk [0, 1, 7] rfl (fun k : Nat => [(8, .int .i64 (k : Nat))]) (fun _ => []) (fun _ => w) (fun k => k ≤ ms.length ∧ ∀ j m, j < k → ms[j]? = some m → P m = false) (fun k => ms.length - k) 0 ⟨Nat.zero_le _, fun j m h => absurd h (by omega)⟩ ZZSUB (fun _ h => h) ?_
  rintro k ⟨hk, h0⟩
  dsimp only [List.cons_append, List.nil_append]
  repeat (first | (refine M0 ?_; first | refine SL ?_ | refine SB fun _ _ => ?_) | (refine M1 ?_; first | refine SC ?_ | refine SD ?_) | (refine M2 ?_; refine SE ?_) | (refine M3 ?_; first | refine SG ?_ | refine SF ?_) | (refine M4 ?_; refine SR ?_) | (refine M5 ?_; first | exact M7 | refine YM ?_ | refine YN ?_ ?_))
  refine XC.cond _ rfl (fun h3 => ?_) (fun h3 => ?_)
  · have hkn : k < ms.length := by simpa using h3
    obtain ⟨ad, rfl, hlt⟩ := hr.addr (by decide) (by omega)
    have hmk : ms[k]? = some ms[k] := List.getElem?_eq_getElem hkn
    have h9 := hr.elem hmk 0 (svV ms[k].1) rfl
    rw [add_add, Nat.add_zero] at h9
    have hcell : w.cell? (ad.add (k * 1)) = some (svV ms[k].1) := h9
    repeat (first | (refine M0 ?_; first | refine SL ?_ | refine SB fun _ _ => ?_ | refine Y4 (Ev.load_old tok rfl rfl (add_lt hlt) hcell) ?_ | refine Y4 (Ev.callv (f := f) (fst := []) (cap := cap) hck rfl rfl (fun w S => hc _ (List.getElem_mem hkn) w S.toBelow)) ?_) | (refine M1 ?_; first | refine SC ?_ | refine SD ?_) | (refine M2 ?_; refine SE ?_) | (refine M3 ?_; first | refine SG ?_ | refine SF ?_ | refine YF (Ev.load_old tok rfl rfl (add_lt hlt) hcell) ?_ | refine YF (Ev.callv (f := f) (fst := []) (cap := cap) hck rfl rfl (fun w S => hc _ (List.getElem_mem hkn) w S.toBelow)) ?_) | (refine M4 ?_; refine SR ?_) | (refine M5 ?_; first | exact M7 | refine YM ?_ | refine YN ?_ ?_))
    refine XC.cond _ rfl (fun h4 => ?_) (fun h4 => ?_)
    · repeat (first | (refine M0 ?_; first | refine SL ?_ | refine SB fun _ _ => ?_) | (refine M1 ?_; first | refine SC ?_ | refine SD ?_) | (refine M2 ?_; refine SE ?_) | (refine M3 ?_; first | refine SG ?_ | refine SF ?_) | (refine M4 ?_; refine SR ?_) | (refine M5 ?_; first | exact M7 | refine YM ?_ | refine YN ?_ ?_))
      refine XE.retg tok Try.results50 rfl (by simp only [and_self, and_true]) (fun w' S => ?_)
      have : ms.findIdx? P = some k := by
        rw [List.findIdx?_eq_some_iff_getElem]
        exact ⟨hkn, h4, fun j hj => by simpa using h0 j _ hj (List.getElem?_eq_getElem (by omega))⟩
      unfold idxL
      rw [this]
      exact ⟨rfl, S.toBelow⟩
    · repeat (first | (refine M0 ?_; first | refine SL ?_ | refine SB fun _ _ => ?_) | (refine M1 ?_; first | refine SC ?_ | refine SD ?_) | (refine M2 ?_; refine SE ?_) | (refine M3 ?_; first | refine SG ?_ | refine SF ?_) | (refine M4 ?_; refine SR ?_) | (refine M5 ?_; first | exact M7 | refine YM ?_ | refine YN ?_ ?_))
      refine XE.round (k + 1) ⟨hkn, fun j m hj hm => ?_⟩ (by omega) ZZSUB (fun _ h => h)
      rcases Nat.lt_or_ge j k with h5 | h5
      · exact h0 j m h5 hm
      · have : j = k := by omega
        subst this
        rw [hmk] at hm
        cases hm
        exact h4
  · have hkn : ¬ k < ms.length := by simpa using h3
    repeat (first | (refine M0 ?_; first | refine SL ?_ | refine SB fun _ _ => ?_) | (refine M1 ?_; first | refine SC ?_ | refine SD ?_) | (refine M2 ?_; refine SE ?_) | (refine M3 ?_; first | refine SG ?_ | refine SF ?_) | (refine M4 ?_; refine SR ?_) | (refine M5 ?_; first | exact M7 | refine YM ?_ | refine YN ?_ ?_))
    refine XE.retg tok Try.results50 rfl (by simp only [and_self, and_true]) (fun w' S => ?_)
    have : ms.findIdx? P = none := by
      rw [List.findIdx?_eq_none_iff]
      intro m hm
      obtain ⟨j, hj, e⟩ := List.mem_iff_getElem.1 hm
      exact h0 j m (by omega) (by rw [List.getElem?_eq_getElem hj, e])
    unfold idxL
    rw [this]
    exact ⟨rfl, S.toBelow⟩
theorem contPln {f : FuncId} {cap : List Value} {P : SV × List Bool → Bool} {r : SV} {ms : List (SV × List Bool)} {w : World} (hck : callOk Try.prog f = true) (hr : ListAt plnK w (Lt w.heap.size) r ms) (hn : ms.length ≤ 1000)
    (hc : ∀ m, m ∈ ms → ∀ w', Below w.heap.size w w' → Calls Try.prog f ([] ++ [svV m.1] ++ cap).toArray w' fun e w'' => e = .returned (.bool (P m)) ∧ Below w'.heap.size w' w'') :
    Calls Try.prog 48 #[svV r, .func (.func f) #[] cap.toArray] w fun e w' => e = .returned (.bool (ms.any P)) ∧ Below w.heap.size w w' := by
  obtain ⟨A, n, c⟩ := r
  simp only [svV]
  refine enter Try.func48 rfl Try.ntmps48 rfl ?_; simp only [frame, Nat.zero_add, Nat.reduceAdd]
  repeat (first | (refine M0 ?_; first | refine SL ?_ | refine SB fun _ _ => ?_ | refine Y4 (Ev.call (f := 50) (ck rfl) rfl (fun w5 S5 => (idxPln (f := f) (cap := cap) (P := P) (r := ⟨A, n, c⟩) (ms := ms) hck (hr.arg S5) hn (fun m hm w' hb => hc m hm w' (S5.toBelow.trans (hb.mono S5.size))) :))) ?_) | (refine M1 ?_; first | refine SC ?_ | refine SD ?_) | (refine M2 ?_; refine SE ?_) | (refine M3 ?_; first | refine SG ?_ | refine SF ?_ | refine YF (Ev.call (f := 50) (ck rfl) rfl (fun w5 S5 => (idxPln (f := f) (cap := cap) (P := P) (r := ⟨A, n, c⟩) (ms := ms) hck (hr.arg S5) hn (fun m hm w' hb => hc m hm w' (S5.toBelow.trans (hb.mono S5.size))) :))) ?_) | (refine M4 ?_; refine SR ?_) | (refine M5 ?_; first | exact M7 | refine YM ?_ | refine YN ?_ ?_))
  refine XE.retg tok Try.results48 rfl (by simp only [and_self, and_true]) (fun w' S => ?_)
  exact ⟨by rw [idxL_any]; rfl, S.toBelow⟩
theorem follow1_any {g4 g gt gm : Nat} {v : RTV} {r q : SV} {t : RTk} {ok : Nat → Prop} {w : World} (h4 : w.cell? ⟨g4, 0, none⟩ = some (.pointer (some ⟨g, 0, none⟩))) (hp : PlnAt w ok g gt gm v r t) {l : List Bool} (hq : q.n = l.length) :
    Calls Try.prog 47 ([] ++ [svV q] ++ [Value.pointer (some ⟨g4, 0, none⟩)] : List Value).toArray w fun e w' => e = .returned (.bool (!decide (l.length = t.m))) ∧ Below w.heap.size w w' := by
  obtain ⟨hlg, hc⟩ := plnCell hp
  have hl4 : g4 < w.heap.size := by
    unfold World.cell? at h4
    cases h : w.heap[g4]? with
    | none => simp [h] at h4
    | some o => exact (Array.getElem?_eq_some_iff.1 h).1
  have hn15 : r.n = t.m := hp.all.len (by decide)
  have c15 : w.cell? ⟨g, 15, none⟩ = some (.slice r.A r.n r.c) := hc 15 _ rfl
  obtain ⟨Aq, nq, cq⟩ := q
  simp only at hq
  subst hq
  simp only [svV, List.nil_append, List.cons_append]
  refine enter Try.func47 rfl Try.ntmps47 rfl ?_; simp only [frame, Nat.zero_add, Nat.reduceAdd]
  repeat (first | (refine M0 ?_; first | refine SL ?_ | refine SB fun _ _ => ?_ | refine Y4 (Ev.load_old tok rfl rfl hl4 h4) ?_ | refine Y4 (Ev.load_old tok rfl rfl hlg c15) ?_) | (refine M1 ?_; first | refine SC ?_ | refine SD ?_) | (refine M2 ?_; refine SE ?_) | (refine M3 ?_; first | refine SG ?_ | refine SF ?_ | refine YF (Ev.load_old tok rfl rfl hl4 h4) ?_ | refine YF (Ev.load_old tok rfl rfl hlg c15) ?_) | (refine M4 ?_; refine SR ?_) | (refine M5 ?_; first | exact M7 | refine YM ?_ | refine YN ?_ ?_))
  refine XE.retg tok Try.results47 rfl (by simp only [and_self, and_true]) (fun w' S => ?_)
  refine ⟨?_, S.toBelow⟩
  rw [hn15]
  by_cases h : l.length = t.m
  · rw [h]; simp [tupV]
  · have h' : (l.length : Int) ≠ t.m := by omega
    simp [h, h', tupV]
/-- a tick of a plan in memory. -/
def donK : Kind (SV × Done) := ⟨66, 5, fun e => doneC e.1 e.2, fun e => [hInts e.1 e.2.s.fil], fun _ => rfl⟩
theorem don_el : elemOk Try.prog 61 66 5 56 = true := by kernel_rfl
/-- an argument's numbers, or some that were made. -/
def hMix (w : World) (q : SV) (l : List Int) : Held := ⟨fun W ok => IntsAt w (Lt w.heap.size) q l ∨ IntsAt W ok q l, fun h hk => h.imp id fun h => h.keep hk, fun h hk => h.imp id fun h => h.mono hk⟩
def FolV (v : RTV) (t : RTk) (p : Plan) (x : Value) (new : List Held) : Prop :=
  (rtE t ≠ 0 ∧ x = .tuple ⟨[.pointer none, .slice none 0 0, .int .i64 0, .int .i64 (rtE t)]⟩ ∧ new = []) ∨
  (rtE t = 0 ∧ t.shaped p = false ∧ x = .tuple ⟨[.pointer none, .slice none 0 0, .int .i64 0, .int .i64 2]⟩ ∧ new = []) ∨
  (rtE t = 0 ∧ t.shaped p = true ∧ ∃ (g gt gm : Nat) (r q : SV) (ds : List (SV × Done)), x = .tuple ⟨[.pointer (some ⟨g, 0, none⟩), svV q, .int .i64 (t.flw 0 t.s t.on p).2, .int .i64 0]⟩ ∧ ds.map (·.2) = (t.flw 0 t.s t.on p).1 ∧ new = [hList donK q ds, hPln g gt gm v r t])
/-- how far a plan was followed. -/
structure FSt where
  k : Nat
  W : World
  rq : SV
  sq : SV
  bq : SV
  s : Sta
  b : List Bool
  ds : List (SV × Done)
structure FInv (w : World) (v : RTV) (t : RTk) (p : Plan) (ks : List Nat) (g gt gm : Nat) (r : SV) (z : FSt) : Prop where
  le : z.k ≤ p.length
  bel : Below w.heap.size w z.W
  fam : Fam z.W w.heap.size ks [⟨SV × Done, donK, svV z.rq, z.ds⟩] [hMix w z.sq z.s.fil, hPln g gt gm v r t]
  lt : ∀ x, x ∈ ks → x < z.W.heap.size
  bef : ListAt boolK w (Lt w.heap.size) z.bq z.b
  bl : z.b.length = t.m
  sta : StaOk t.b z.s
  one : (t.flw 0 t.s t.on p).1 = z.ds.map (·.2) ++ (t.flw z.k z.s z.b (p.drop z.k)).1
  two : (t.flw 0 t.s t.on p).2 = (t.flw z.k z.s z.b (p.drop z.k)).2
  len : z.ds.length = z.k
theorem mix_lt {w W : World} {q : SV} {l : List Int} {ok : Nat → Prop} (h : (hMix w q l).p W ok) (hB : Below w.heap.size w W) (hok : ∀ k, ok k → k < W.heap.size) : IntsAt W (Lt W.heap.size) q l := by
  rcases h with h | h
  · exact (h.keep fun k hk => hB.block k hk).mono fun k hk => Nat.lt_of_lt_of_le hk hB.size
  · exact h.mono hok
set_option maxHeartbeats 16000000 in
theorem follow_made {v : RTV} {t : RTk} {pq : SV} {p : Plan} {es : List (SV × List Bool)} {w : World} (ht : TskAt w w.heap.size v t) (hn : t.slu.length + t.pmp.length ≤ 5000000) (hp : ListAt plnK w (Lt w.heap.size) pq es) (hes : es.map (·.2) = p) :
    Calls Try.prog 36 #[tskV v t, svV pq] w (Made w (FolV v t p)) := by
  have hbeg := fun (w5 : World) (hB : Below w.heap.size w w5) => begin_made (v := v) (t := t) (w := w5) (ht.sys (Sys.ofBelow hB)) hn
  obtain ⟨Ap, np, cp⟩ := pq
  have lp := hp.len (by decide)
  simp only at lp
  subst lp
  have lo := ht.outer.len
  simp only [tskV, tskC, svV] at hbeg ⊢
  refine enter Try.func36 rfl Try.ntmps36 rfl ?_; simp only [frame, Nat.zero_add, Nat.reduceAdd]
  repeat (first | (refine M0 ?_; first | refine SL ?_ | refine SB fun _ _ => ?_) | (refine M1 ?_; refine SC ?_) | (refine M2 ?_; refine SE ?_))
  rename_i g2 hg2 g4 hg4
  refine XL.rebase (List.Sublist.refl _) (fun W0 S0 => ?_)
  refine XL.callF (ks := [g4, g2]) (rs := []) (hs := []) (b0 := w.heap.size) (wE := w) (BegV v t) (ck rfl) rfl rfl (Fam.start S0.size) (fun k hk => S0.keyLt k hk) S0.toBelow (fun w1 S1 _ hB1 => hbeg w1 hB1) (fun w2 x new hR hF2 hB2 hk2 => ?_) ZZHL
  rcases hR with ⟨h0, rfl, rfl⟩ | ⟨h0, g, gt, gm, r, rfl, rfl⟩
  · repeat (first | (refine M0 ?_; first | refine SL ?_ | refine SB fun _ _ => ?_) | (refine M1 ?_; refine SC ?_) | (refine M2 ?_; refine SE ?_))
    refine XC.cond _ rfl (fun h1 => ?_) (fun h1 => ?_)
    · repeat (first | (refine M0 ?_; first | refine SL ?_ | refine SB fun _ _ => ?_) | (refine M1 ?_; refine SC ?_) | (refine M2 ?_; refine SE ?_))
      refine XE.retg tok Try.results36 rfl (by simp only [and_self, and_true]) (fun w' S => ?_)
      exact ⟨_, [], rfl, .inl ⟨h0, rfl, rfl⟩, fun x hx => (by cases hx), hB2.trans S.toBelow⟩
    · exact absurd (by simpa using h1) h0
  repeat (first | (refine M0 ?_; first | refine SL ?_ | refine SB fun _ _ => ?_ | refine Y4 (Ev.makeFunc rfl rfl) ?_) | (refine M1 ?_; refine SC ?_) | (refine M2 ?_; refine SE ?_))
  have hpl : es.length = p.length := by have := congrArg List.length hes; simpa using this
  have hnn : t.n = t.outer.length := rfl
  by_cases hL : p.length = t.n
  rotate_left
  · rw [show decide ((es.length : Int) ≠ (v.o.n : Int)) = true from decide_eq_true (by omega)]
    repeat (first | (refine M0 ?_; first | refine SL ?_ | refine SB fun _ _ => ?_) | (refine M1 ?_; refine SC ?_) | (refine M2 ?_; refine SE ?_))
    refine XE.retg tok Try.results36 rfl (by simp only [and_self, and_true]) (fun w' S => ?_)
    exact ⟨_, [], rfl, .inr (.inl ⟨h0, by simp [RTk.shaped, hL], rfl, rfl⟩), fun x hx => (by cases hx), hB2.trans S.toBelow⟩
  rw [show decide ((es.length : Int) ≠ (v.o.n : Int)) = false from decide_eq_false (by omega)]
  have ho := rtOk_of h0
  have hn6 := ho.n6
  have hcont := fun {L : Lo} (w5 : World) (S5 : Sys w.heap.size w2 L w5) (hL5 : ∀ e, e ∈ L → e.1 ∈ [g4, g2] ∨ w2.heap.size ≤ e.1) (hown : w5.heap[g4]? = some (cel 71 [.pointer (some ⟨g, 0, none⟩)])) => contPln (f := 47) (cap := [.pointer (some ⟨g4, 0, none⟩)]) (P := fun m => !decide (m.2.length = t.m)) (r := ⟨Ap, es.length, cp⟩) (ms := es) (w := w5) (ck rfl) ((hp.keep fun k hk => (hB2.trans S5.toBelow).block k hk).mono fun k hk => Nat.lt_of_lt_of_le hk (hB2.trans S5.toBelow).size) (by omega) (fun m hm w' hb => by
    have h4' : w'.cell? ⟨g4, 0, none⟩ = some (.pointer (some ⟨g, 0, none⟩)) := by
      have hl4 := (Array.getElem?_eq_some_iff.1 hown).1
      have h9 := (hb.block g4 hl4).trans hown
      simp [World.cell?, h9]
    have hp5 : Pln0 w5 (Btw w.heap.size w5.heap.size) g gt gm v r t := ((hF2.add (ks' := [g4, g2]) (fun k hk => .inl (List.mem_append_right _ hk))).sys S5 hL5).get (x := hPln g gt gm v r t) (.head _)
    have hp6 := hp5.p.keep (w' := w') fun k hk => hb.block k hk.1.2
    have hml : m.1.n = m.2.length := ListAt.len (K := boolK) (hp.ins m hm (hList boolK m.1 m.2) (.head _)) (by decide)
    exact follow1_any h4' hp6 hml)
  simp only [svV] at hcont
  repeat (first | (refine M0 ?_; first | refine SL ?_ | refine SB fun _ _ => ?_ | refine Y4 (Ev.call (f := 48) (ck rfl) rfl (fun w5 S5 => hcont w5 S5 ZZHL (S5.own (g4, _) (.head _)).2)) ?_) | (refine M1 ?_; refine SC ?_) | (refine M2 ?_; refine SE ?_))
  refine XC.cond _ rfl (fun h1 => ?_) (fun h1 => ?_)
  · have hsf : t.shaped p = false := by
      obtain ⟨m, hm, h2⟩ := List.any_eq_true.1 h1
      have h3 : (p.all fun on => decide (on.length = t.m)) = false := List.all_eq_false.2 ⟨m.2, by rw [← hes]; exact List.mem_map_of_mem hm, by simpa using h2⟩
      unfold RTk.shaped
      rw [h3, Bool.and_false]
    repeat (first | (refine M0 ?_; first | refine SL ?_ | refine SB fun _ _ => ?_) | (refine M1 ?_; refine SC ?_) | (refine M2 ?_; refine SE ?_))
    refine XE.retg tok Try.results36 rfl (by simp only [and_self, and_true]) (fun w' S => ?_)
    exact ⟨_, [], rfl, .inr (.inl ⟨h0, hsf, rfl, rfl⟩), fun x hx => (by cases hx), hB2.trans S.toBelow⟩
  have hrow : ∀ on, on ∈ p → on.length = t.m := fun on hon => by
    rw [← hes] at hon
    obtain ⟨m, hm, rfl⟩ := List.mem_map.1 hon
    have := List.any_eq_false.1 h1 m hm
    simpa using this
  have hst : t.shaped p = true := by
    unfold RTk.shaped
    rw [decide_eq_true hL, Bool.true_and, List.all_eq_true]
    exact fun on hon => decide_eq_true (hrow on hon)
  repeat (first | (refine M0 ?_; first | refine SL ?_ | refine SB fun _ _ => ?_) | (refine M1 ?_; refine SC ?_) | (refine M2 ?_; refine SE ?_))
  refine XC.cutn [1, 2, 4, 5] rfl (fun g9 : Nat => [(9, .pointer (some ⟨g9, 0, none⟩)), (10, .slice v.on.A v.on.n v.on.c)]) (fun g9 => [(g9, cel 28 [.int .i64 t.s.vol, .slice v.q.A v.q.n v.q.c]), (g4, cel 71 [.pointer (some ⟨g, 0, none⟩)]), (g2, cel 33 (tskC v t))]) (fun _ => w2) (fun g9 => w2.heap.size ≤ g9) ?_ (fun g9 hg9 => ?_)
  · refine XC.drawR _ [0, 1, 2, 3] [4, 5, 6] mixed (fun _ h => h) rfl (by kernel_rfl) ?_
    repeat (any_goals (first | (refine M0 ?_; first | refine SL ?_ | refine SB fun _ _ => ?_) | (refine M1 ?_; refine SC ?_) | (refine M2 ?_; refine SE ?_) | (refine M3 ?_; first | refine SG ?_ | refine SF ?_) | (refine M4 ?_; refine SR ?_) | (refine M5 ?_; first | exact M7 | refine YM ?_ | refine YN ?_ ?_)))
    any_goals (repeat (first | exact AnyR.nil | refine AnyR.skip rfl ?_))
    all_goals exact XE.leaf _ ZZSUB (fun _ S' => by first | exact S' | exact S'.perm (by repeat (first | exact List.Perm.refl _ | refine perm1 ?_ | refine List.Perm.cons _ ?_ | refine perm2 ?_)) | exact (S'.pop (by assumption)) | exact (S'.pop2 (by assumption))) (by assumption)
  refine XC.rebase (List.Sublist.refl _) (fun W1 S1 => ?_)
  have F1 : Fam W1 w.heap.size [g9, g4, g2] [] [hPln g gt gm v r t] := (Fam.atEnd hF2 S1 ZZHL).add (fun k hk => by left; simp only [List.mem_cons, List.not_mem_nil, or_false] at hk; simp only [List.map_cons, List.map_nil, List.mem_append, List.mem_cons, List.not_mem_nil, or_false]; omega)
  have hk1 : ∀ k, k ∈ [g9, g4, g2] → k < W1.heap.size := fun k hk => S1.keyLt k hk
  have hB1 := hB2.trans S1.toBelow
  have F1' := (F1.hold (x := hMix w v.q t.s.fil) (ok := fun _ => False) (.inl ht.fil) (fun _ h => h.elim)).nil donK
  clear F1 S1 hF2 hB2 hk2 hcont S0
  refine XC.hint 9 2 ?_
  have hm4 : t.devs.length ≤ 4 := by have := t.devs_len; unfold RTk.many at this; have := ho.s2; have := ho.p2; omega
  repeat (first | (refine M0 ?_; first | refine SL ?_ | refine SB fun _ _ => ?_) | (refine M1 ?_; refine SC ?_) | (refine M2 ?_; refine SE ?_))
  refine XC.loopk [4, 9, 39, 40] rfl (fun z : FSt => [(41, .int .i64 (z.k : Nat)), (5, svV z.rq), (10, svV z.bq)]) (fun z => [(g9, cel 28 (staC z.sq z.s)), (g4, cel 71 [.pointer (some ⟨g, 0, none⟩)]), (g2, cel 33 (tskC v t))]) (fun z => z.W) (FInv w v t p [g9, g4, g2] g gt gm r) (fun z => p.length - z.k) ⟨0, W1, ⟨none, 0, 0⟩, v.q, v.on, t.s, t.on, []⟩ ⟨Nat.zero_le _, hB1, F1', hk1, ht.on, ho.on, ho.sta, rfl, rfl, rfl⟩ ZZSUB (fun _ h => h) ?_
  rintro ⟨k, W, rq, sq, bq, s, b, ds⟩ ⟨hk, hBW, hFW, hkW, hbef, hbl, hsta, hone, htwo, hlen⟩
  simp only at hk hBW hFW hkW hbef hbl hsta hone htwo hlen
  simp only [staC, svV]
  dsimp only [List.cons_append, List.nil_append]
  repeat (first | (refine M0 ?_; first | refine SL ?_ | refine SB fun _ _ => ?_) | (refine M1 ?_; refine SC ?_) | (refine M2 ?_; refine SE ?_))
  refine XC.cond _ rfl (fun h2 => ?_) (fun h2 => ?_)
  rotate_left
  · have hkn : k = p.length := by have := of_decide_eq_false h2; omega
    subst hkn
    rw [List.drop_length] at hone htwo
    repeat (first | (refine M0 ?_; first | refine SL ?_ | refine SB fun _ _ => ?_) | (refine M1 ?_; refine SC ?_) | (refine M2 ?_; refine SE ?_))
    refine XE.retg tok Try.results36 rfl (by simp only [and_self, and_true]) (fun w' S => ?_)
    have F9 := Fam.sys (Fam.freeze hFW) S ZZHL
    refine ⟨_, [hList donK rq ds, hPln g gt gm v r t], rfl, .inr (.inr ⟨h0, hst, g, gt, gm, r, rq, ds, ?_, by rw [hone]; simp [RTk.flw], rfl⟩), fun x hx => ?_, hBW.trans S.toBelow⟩
    · rw [htwo]; rfl
    · rcases List.mem_cons.1 hx with rfl | hx
      · exact F9.get (.head _)
      · rw [List.mem_singleton.1 hx]; exact F9.get (.tail _ (.tail _ (.head _)))
  have hkn : k < p.length := by have := of_decide_eq_true h2; omega
  have hke : k < es.length := by omega
  have hpk : p[k] = es[k].2 := by simp [← hes]
  have hdrop : p.drop k = es[k].2 :: p.drop (k + 1) := by rw [List.drop_eq_getElem_cons hkn, hpk]
  rw [hdrop] at hone htwo
  obtain ⟨ap, rfl, hlp⟩ := hp.addr (by decide) (by omega)
  have hcell := hp.elem (List.getElem?_eq_getElem hke) 0 (svV es[k].1) rfl
  rw [add_add, Nat.add_zero] at hcell
  have hcellW := (below_cell hBW (ad := ap.add (k * 1)) (add_lt hlp)).trans hcell
  have hon : ListAt boolK w (Lt w.heap.size) es[k].1 es[k].2 := hp.ins es[k] (List.getElem_mem hke) (hList boolK es[k].1 es[k].2) (.head _)
  have honl : es[k].2.length = t.m := hrow _ (by rw [← hpk]; exact List.getElem_mem hkn)
  obtain ⟨oq, hoq⟩ : ∃ oq, oq = es[k].1 := ⟨_, rfl⟩
  obtain ⟨on, hon'⟩ : ∃ on, on = es[k].2 := ⟨_, rfl⟩
  rw [← hoq] at hcellW hon
  rw [← hon'] at hone htwo hon honl
  have hki : k < t.outer.length := by omega
  simp only [svV] at hcellW
  repeat (first | (refine M0 ?_; first | refine SL ?_ | refine SB fun _ _ => ?_ | refine Y4 (Ev.load_old tok rfl rfl (add_lt hlp) hcellW) ?_) | (refine M1 ?_; refine SC ?_) | (refine M2 ?_; refine SE ?_))
  refine XL.callF (wE := w) (DoV (t.doE s k b on) (t.doD s k b on)) (ck rfl) rfl rfl hFW hkW hBW (fun w1 S1 hF1 hB1 => ?_) (fun w2 x new hR hF2 hB2 hk2 => ?_) ZZHL
  · have hp1 : Pln0 w1 (Btw w.heap.size w1.heap.size) g gt gm v r t := hF1.get (x := hPln g gt gm v r t) (.tail _ (.head _))
    have hsq : (hMix w sq s.fil).p w1 _ := hF1.held (hMix w sq s.fil) (.head _)
    exact do_made (g := g) (gt := gt) (gm := gm) (v := v) (r := r) (p := bq) (q := oq) (sq := sq) ⟨hp1.p.mono fun k hk => hk.1.2, ht.sys (Sys.ofBelow hB1)⟩ (chk_rt h0) ho (mix_lt hsq hB1 (fun k hk => hk.2.1)) hsta hki ((hbef.keep fun k hk => hB1.block k hk).mono fun k hk => Nat.lt_of_lt_of_le hk hB1.size) hbl ((hon.keep fun k hk => hB1.block k hk).mono fun k hk => Nat.lt_of_lt_of_le hk hB1.size) honl
  obtain ⟨q2, rfl, rfl⟩ := hR
  simp only [doneC]
  have hds := do_sta ho hsta hki (b := b) (f := on)
  by_cases hE : t.doE s k b on = 0
  rotate_left
  · repeat (first | (refine M0 ?_; first | refine SL ?_ | refine SB fun _ _ => ?_) | (refine M1 ?_; refine SC ?_) | (refine M2 ?_; refine SE ?_))
    rw [show decide (t.doE s k b on ≠ 0) = true from decide_eq_true hE]
    repeat (first | (refine M0 ?_; first | refine SL ?_ | refine SB fun _ _ => ?_) | (refine M1 ?_; refine SC ?_) | (refine M2 ?_; refine SE ?_))
    refine XE.retg tok Try.results36 rfl (by simp only [and_self, and_true]) (fun w' S => ?_)
    have e1 : t.flw k s b (on :: p.drop (k + 1)) = ([], t.doE s k b on) := by rw [flw_eq, if_neg hE]
    rw [e1] at hone htwo
    have F9 := Fam.sys (Fam.freeze hF2) S ZZHL
    refine ⟨_, [hList donK rq ds, hPln g gt gm v r t], rfl, .inr (.inr ⟨h0, hst, g, gt, gm, r, rq, ds, by rw [htwo]; rfl, by rw [hone, List.append_nil], rfl⟩), fun x hx => ?_, hB2.trans S.toBelow⟩
    rcases List.mem_cons.1 hx with rfl | hx
    · exact F9.get (.head _)
    · rw [List.mem_singleton.1 hx]; exact F9.get (by simp)
  obtain ⟨hsta', _, _, _⟩ := hds hE
  have e1 := flw_cons_of (r := p.drop (k + 1)) hE
  rw [e1] at hone htwo
  obtain ⟨d, hd⟩ : ∃ d, d = t.doD s k b on := ⟨_, rfl⟩
  rw [← hd] at hsta' hone htwo hF2
  rw [← hd, hE]
  repeat (first | (refine M0 ?_; first | refine SL ?_ | refine SB fun _ _ => ?_) | (refine M1 ?_; refine SC ?_) | (refine M2 ?_; refine SE ?_))
  rename_i g13 hg13
  refine XL.buildSlice tok rfl rfl rfl rfl rfl rfl rfl rfl rfl (fun gn hgn => ?_)
  refine XL.push (K := donK) (a := (q2, d)) (wE := w) 0 don_el (by decide) rfl rfl rfl hF2 rfl hk2 hB2 (Nat.le_refl _) rfl (by omega) (by decide) (fun x hx => by rw [List.mem_singleton.1 hx]; exact .head _) (fun w3 v3 hF3 hB3 hk3 => ?_)
  obtain ⟨r3, rfl, hn3⟩ := hF3.sv (K := donK) (l := ds ++ [(q2, d)]) (List.mem_singleton.2 rfl)
  simp only [svV]
  repeat (first | (refine M0 ?_; first | refine SL ?_ | refine SB fun _ _ => ?_) | (refine M1 ?_; refine SC ?_) | (refine M2 ?_; refine SE ?_))
  refine XE.roundW (s := FSt.mk k W rq sq bq s b ds) (fun w6 S6 => ⟨FSt.mk (k + 1) w6 r3 q2 oq d.s on (ds ++ [(q2, d)]), ⟨hkn, hB3.trans S6.toBelow, ?_, fun x hx => S6.keyLt x (by simp only [List.map_cons, List.map_nil, List.mem_cons, List.not_mem_nil, or_false] at hx ⊢; omega), hon, honl, hsta', ?_, ?_, by simp [hlen]⟩, by simp only; omega, ZZSUB, S6.rebase ZZSL⟩)
  · have F5 := Fam.add (ks' := [g9, g4, g2]) (hF3.sys S6 ZZHL) (fun x hx => .inl (List.mem_append_right _ (List.mem_append_right _ hx)))
    have h7 := F5.held (hInts q2 d.s.fil) (.head _)
    refine Fam.forget (F5.hold (x := hMix w q2 d.s.fil) (ok := Free w6 w.heap.size [g9, g4, g2] _) (.inr h7) (fun j hj => hj)) (fun x hx => ?_)
    rcases List.mem_cons.1 hx with rfl | hx
    · exact .head _
    · rw [List.mem_singleton.1 hx]; simp
  · rw [hone]; simp
  · rw [htwo]
end Go.Proofs.Ytlfjdbilblfknaa.X
/-
  The walks of Cost and Do (runoff).
-/
namespace Go.Proofs.Ytlfjdbilblfknaa.Bs
open Go.Proofs.Ytlfjdbilblfknaa.X
/-- the error of following a plan; its fault is none. -/
noncomputable def folE (t : RTk) (p : Plan) : Int := if rtE t ≠ 0 then rtE t else if t.shaped p = false then 2 else 0
noncomputable def costE (t : RTk) (p : Plan) : Int := if rtE t ≠ 0 then rtE t else if t.shaped p = false then 2 else (t.flw 0 t.s t.on p).2
noncomputable def costN (t : RTk) (p : Plan) : Int := if costE t p = 0 then costs (t.flw 0 t.s t.on p).1 else 0
theorem shaped_len {t : RTk} {p : Plan} (h : t.shaped p = true) : p.length = t.n ∧ ∀ on, on ∈ p → on.length = t.m := by
  unfold RTk.shaped at h
  simp only [Bool.and_eq_true, decide_eq_true_eq, List.all_eq_true] at h
  exact h
theorem flw_bd {t : RTk} (ho : RtOk t) : ∀ {p : Plan} {i : Nat} {s : Sta} {b : List Bool}, StaOk t.b s → i + p.length ≤ t.outer.length → (t.flw i s b p).1.length ≤ p.length ∧ ∀ x, x ∈ (t.flw i s b p).1 → 0 ≤ x.cost ∧ x.cost ≤ 200000000000000 := by
  intro p
  induction p with
  | nil => intro i s b _ _; exact ⟨Nat.le_refl _, fun x hx => by cases hx⟩
  | cons on r ih =>
    intro i s b hs hl
    simp only [List.length_cons] at hl
    by_cases h0 : t.doE s i b on = 0
    · obtain ⟨h1, h2, h3, _⟩ := do_sta ho hs (by omega) h0
      obtain ⟨h4, h5⟩ := ih (i := i + 1) (b := on) h1 (by omega)
      rw [flw_cons_of h0]
      refine ⟨by simp only [List.length_cons]; omega, fun x hx => ?_⟩
      rcases List.mem_cons.1 hx with rfl | hx
      · exact ⟨h2, h3⟩
      · exact h5 x hx
    · rw [flw_eq, if_neg h0]
      exact ⟨by simp, fun x hx => by cases hx⟩
theorem costs_take {l : List Done} {k : Nat} (hk : k < l.length) : costs (l.take (k + 1)) = costs (l.take k) + l[k].cost := by
  rw [List.take_succ_eq_append_getElem hk, costs_snoc]
theorem costs_bd {l : List Done} (h : ∀ x, x ∈ l → 0 ≤ x.cost ∧ x.cost ≤ 200000000000000) : 0 ≤ costs l ∧ costs l ≤ 200000000000000 * l.length := by
  induction l with
  | nil => simp [costs_nil]
  | cons x l ih =>
    have h1 := h x (.head _)
    have h2 := ih fun y hy => h y (.tail _ hy)
    rw [costs_cons, List.length_cons]
    omega
end Go.Proofs.Ytlfjdbilblfknaa.Bs
namespace Go.Proofs.Ytlfjdbilblfknaa.X
open Go Go.RowKit Go.Proofs.Ytlfjdbilblfknaa.Bs
set_option linter.unusedVariables false
set_option maxHeartbeats 8000000 in
theorem Cost_any {v : RTV} {t : RTk} {pq : SV} {p : Plan} {es : List (SV × List Bool)} {w : World} (ht : TskAt w w.heap.size v t) (hn : t.slu.length + t.pmp.length ≤ 5000000) (hp : ListAt plnK w (Lt w.heap.size) pq es) (hes : es.map (·.2) = p) :
    Calls Try.prog 17 #[tskV v t, svV pq] w fun e w' => e = .returned (.tuple ⟨[.int .i64 (costN t p), .int .i64 (costE t p)]⟩) ∧ Below w.heap.size w w' := by
  have hfol := fun (w5 : World) (hB : Below w.heap.size w w5) => follow_made (v := v) (t := t) (w := w5) (pq := pq) (ht.sys (Sys.ofBelow hB)) hn ((hp.keep fun k hk => hB.block k hk).mono fun k hk => Nat.lt_of_lt_of_le hk hB.size) hes
  simp only [tskV, tskC, svV] at hfol ⊢
  refine enter Try.func17 rfl Try.ntmps17 rfl ?_; simp only [frame, Nat.zero_add, Nat.reduceAdd]
  repeat (first | (refine M0 ?_; first | refine SL ?_ | refine SB fun _ _ => ?_) | (refine M1 ?_; refine SC ?_) | (refine M2 ?_; refine SE ?_))
  rename_i g2 hg2
  refine XL.rebase (List.Sublist.refl _) (fun W0 S0 => ?_)
  refine XL.callF (ks := [g2]) (rs := []) (hs := []) (b0 := w.heap.size) (wE := w) (FolV v t p) (ck rfl) rfl rfl (Fam.start S0.size) (fun k hk => S0.keyLt k hk) S0.toBelow (fun w1 S1 _ hB1 => hfol w1 hB1) (fun w2 x new hR hF2 hB2 hk2 => ?_) ZZHL
  rcases hR with ⟨h0, rfl, rfl⟩ | ⟨h0, h1, rfl, rfl⟩ | ⟨h0, h1, g, gt, gm, r, q, ds, rfl, hds, rfl⟩
  · have e1 : costE t p = rtE t := by unfold costE; rw [if_pos h0]
    have e2 : costN t p = 0 := by unfold costN; rw [if_neg (by rw [e1]; exact h0)]
    repeat (first | (refine M0 ?_; first | refine SL ?_ | refine SB fun _ _ => ?_) | (refine M1 ?_; refine SC ?_) | (refine M2 ?_; refine SE ?_))
    rw [show decide (rtE t = 0) = false from decide_eq_false h0]
    repeat (first | (refine M0 ?_; first | refine SL ?_ | refine SB fun _ _ => ?_) | (refine M1 ?_; refine SC ?_) | (refine M2 ?_; refine SE ?_))
    rw [show decide (rtE t ≠ 0) = true from decide_eq_true h0]
    repeat (first | (refine M0 ?_; first | refine SL ?_ | refine SB fun _ _ => ?_) | (refine M1 ?_; refine SC ?_) | (refine M2 ?_; refine SE ?_))
    refine XE.retg tok Try.results17 rfl (by simp only [and_self, and_true]) (fun w' S => ?_)
    rw [e1, e2]
    exact ⟨rfl, hB2.trans S.toBelow⟩
  · have e1 : costE t p = 2 := by unfold costE; rw [if_neg (by simp [h0]), if_pos h1]
    have e2 : costN t p = 0 := by unfold costN; rw [if_neg (by rw [e1]; decide)]
    repeat (first | (refine M0 ?_; first | refine SL ?_ | refine SB fun _ _ => ?_) | (refine M1 ?_; refine SC ?_) | (refine M2 ?_; refine SE ?_))
    refine XE.retg tok Try.results17 rfl (by simp only [and_self, and_true]) (fun w' S => ?_)
    rw [e1, e2]
    exact ⟨rfl, hB2.trans S.toBelow⟩
  have e1 : costE t p = (t.flw 0 t.s t.on p).2 := by unfold costE; rw [if_neg (by simp [h0]), if_neg (by simp [h1])]
  repeat (first | (refine M0 ?_; first | refine SL ?_ | refine SB fun _ _ => ?_) | (refine M1 ?_; refine SC ?_) | (refine M2 ?_; refine SE ?_))
  have ho := rtOk_of h0
  obtain ⟨hsl, _⟩ := shaped_len h1
  obtain ⟨hbl1, hbl2⟩ := flw_bd ho (p := p) (i := 0) (s := t.s) (b := t.on) ho.sta (by rw [Nat.zero_add, hsl]; exact Nat.le_refl _)
  have hn6 : t.n ≤ 6 := ho.n6
  obtain ⟨E, hE⟩ : ∃ E, E = (t.flw 0 t.s t.on p).2 := ⟨_, rfl⟩
  rw [← hE] at e1 ⊢
  refine XC.cond _ rfl (fun h2 => ?_) (fun h2 => ?_)
  · have e2 : costN t p = 0 := by unfold costN; rw [if_neg (by rw [e1]; simpa using h2)]
    repeat (first | (refine M0 ?_; first | refine SL ?_ | refine SB fun _ _ => ?_) | (refine M1 ?_; refine SC ?_) | (refine M2 ?_; refine SE ?_))
    refine XE.retg tok Try.results17 rfl (by simp only [and_self, and_true]) (fun w' S => ?_)
    rw [e1, e2]
    exact ⟨rfl, hB2.trans S.toBelow⟩
  have hE0 : E = 0 := by simpa using h2
  have e2 : costN t p = costs (ds.map (·.2)) := by unfold costN; rw [if_pos (by rw [e1, hE0]), hds]
  rw [← hds] at hbl1 hbl2
  obtain ⟨dl, hdl⟩ : ∃ dl, dl = ds.map (·.2) := ⟨_, rfl⟩
  rw [← hdl] at hbl1 hbl2 e2
  have hdlen : dl.length = ds.length := by rw [hdl]; simp
  obtain ⟨Aq, nq, cq⟩ := q
  have hl : ListAt donK w2 _ ⟨Aq, nq, cq⟩ ds := hF2.held (hList donK ⟨Aq, nq, cq⟩ ds) (.head _)
  have hln := hl.len (by decide)
  simp only at hln
  subst hln
  simp only [svV]
  repeat (first | (refine M0 ?_; first | refine SL ?_ | refine SB fun _ _ => ?_) | (refine M1 ?_; refine SC ?_) | (refine M2 ?_; refine SE ?_))
  refine XC.loopk [27, 28] rfl (fun k : Nat => [(29, .int .i64 (k : Nat)), (10, .int .i64 (costs (dl.take k)))]) (fun _ => [(g2, _)]) (fun _ => w2) (fun k => k ≤ ds.length) (fun k => ds.length - k) 0 (Nat.zero_le _) ZZSUB (fun _ h => h) ?_
  intro k hk
  dsimp only [List.cons_append, List.nil_append]
  repeat (first | (refine M0 ?_; first | refine SL ?_ | refine SB fun _ _ => ?_) | (refine M1 ?_; refine SC ?_) | (refine M2 ?_; refine SE ?_))
  refine XC.cond _ rfl (fun h3 => ?_) (fun h3 => ?_)
  rotate_left
  · have hkn : k = ds.length := by have := of_decide_eq_false h3; omega
    rw [hkn, ← hdlen, List.take_length]
    repeat (first | (refine M0 ?_; first | refine SL ?_ | refine SB fun _ _ => ?_) | (refine M1 ?_; refine SC ?_) | (refine M2 ?_; refine SE ?_))
    refine XE.retg tok Try.results17 rfl (by simp only [and_self, and_true]) (fun w' S => ?_)
    rw [e1, hE0, e2]
    exact ⟨rfl, hB2.trans S.toBelow⟩
  have hkn : k < ds.length := by have := of_decide_eq_true h3; omega
  obtain ⟨aq, rfl, hfl⟩ := hl.addr (by decide) (by omega)
  have hel := hl.elem (List.getElem?_eq_getElem hkn)
  have hdk : dl[k] = ds[k].2 := by simp [hdl]
  have hct := costs_take (l := dl) (k := k) (by omega)
  rw [hdk] at hct
  have hb1 := costs_bd (l := dl.take k) fun x hx => hbl2 x (List.mem_of_mem_take hx)
  have hb2 := hbl2 dl[k] (List.getElem_mem _)
  rw [hdk] at hb2
  have hb3 : (dl.take k).length ≤ 6 := by rw [List.length_take]; omega
  obtain ⟨⟨q1, d1⟩, hqd⟩ : ∃ z, z = ds[k] := ⟨_, rfl⟩
  rw [← hqd] at hel hct hb2
  simp only at hct hb2
  have hel' : ∀ j u, ([.int .i64 d1.s.vol, .slice q1.A q1.n q1.c, .int .i64 d1.out, .int .i64 d1.energy, .int .i64 d1.cost] : List Value)[j]? = some u → w2.cell? ((aq.add (k * 5)).add j) = some u := hel
  repeat (first | (refine M0 ?_; first | refine SL ?_ | refine SB fun _ _ => ?_ | refine Y4 (Ev.load_far_agg tok [.int .i64 d1.s.vol, .slice q1.A q1.n q1.c, .int .i64 d1.out, .int .i64 d1.energy, .int .i64 d1.cost] rfl rfl rfl (by rw [add_block]; exact hfl.2.1) (Free.far hfl (by intro e he; left; rw [List.mem_singleton.1 he]; simp)) hel') ?_) | (refine M1 ?_; refine SC ?_) | (refine M2 ?_; refine SE ?_))
  rw [← hct]
  exact XE.round (s := k) (k + 1) hkn (by omega) ZZSUB (fun _ h => h.pop (by assumption))
end Go.Proofs.Ytlfjdbilblfknaa.X
/-
  The example's task and plans, plans compared, Awake (runoff).
-/
namespace Go.Proofs.Ytlfjdbilblfknaa.X
open Go Go.RowKit Go.Proofs.Ytlfjdbilblfknaa.Bs
set_option linter.unusedVariables false
/-! ### choices and plans compared -/
set_option maxHeartbeats 4000000 in
theorem Bools_any {p q : SV} {l m : List Bool} {w : World} (hp : ListAt boolK w (Lt w.heap.size) p l) (hq : ListAt boolK w (Lt w.heap.size) q m) :
    Calls Try.prog 14 #[svV p, svV q] w fun e w' => e = .returned (.bool (decide (l = m))) ∧ Below w.heap.size w w' := by
  obtain ⟨Ap, np, cp⟩ := p
  obtain ⟨Aq, nq, cq⟩ := q
  have lp := hp.len (by decide)
  have lq := hq.len (by decide)
  have mp := hp.max
  have mq := hq.max
  simp only at lp lq mp mq
  subst lp lq
  simp only [svV]
  refine enter Try.func14 rfl Try.ntmps14 rfl ?_; simp only [frame, Nat.zero_add, Nat.reduceAdd]
  repeat (first | (refine M0 ?_; first | refine SL ?_ | refine SB fun _ _ => ?_) | (refine M1 ?_; first | refine SC ?_ | refine SD ?_) | (refine M2 ?_; refine SE ?_) | (refine M3 ?_; first | refine SG ?_ | refine SF ?_) | (refine M4 ?_; refine SR ?_) | (refine M5 ?_; first | exact M7 | refine YM ?_ | refine YN ?_ ?_))
  refine XC.cond _ rfl (fun h1 => ?_) (fun h1 => ?_)
  · have hne : l ≠ m := fun e => by have := of_decide_eq_true h1; rw [e] at this; exact this rfl
    repeat (first | (refine M0 ?_; first | refine SL ?_ | refine SB fun _ _ => ?_) | (refine M1 ?_; first | refine SC ?_ | refine SD ?_) | (refine M2 ?_; refine SE ?_) | (refine M3 ?_; first | refine SG ?_ | refine SF ?_) | (refine M4 ?_; refine SR ?_) | (refine M5 ?_; first | exact M7 | refine YM ?_ | refine YN ?_ ?_))
    refine XE.retg tok Try.results14 rfl (by simp only [and_self, and_true]) (fun w' S => ?_)
    rw [decide_eq_false hne]
    exact ⟨rfl, S.toBelow⟩
  have hlen : l.length = m.length := by have := of_decide_eq_false h1; omega
  repeat (first | (refine M0 ?_; first | refine SL ?_ | refine SB fun _ _ => ?_) | (refine M1 ?_; first | refine SC ?_ | refine SD ?_) | (refine M2 ?_; refine SE ?_) | (refine M3 ?_; first | refine SG ?_ | refine SF ?_) | (refine M4 ?_; refine SR ?_) | (refine M5 ?_; first | exact M7 | refine YM ?_ | refine YN ?_ ?_))
  refine XC.loopk [0, 1] rfl (fun k : Nat => [(5, .int .i64 (k : Nat))]) (fun _ => []) (fun _ => w) (fun k => k ≤ l.length ∧ ∀ j, j < k → bl l j = bl m j) (fun k => l.length - k) 0 ⟨Nat.zero_le _, fun j h => absurd h (by omega)⟩ ZZSUB (fun _ h => h) ?_
  rintro k ⟨hk, h0⟩
  dsimp only [List.cons_append, List.nil_append]
  repeat (first | (refine M0 ?_; first | refine SL ?_ | refine SB fun _ _ => ?_) | (refine M1 ?_; first | refine SC ?_ | refine SD ?_) | (refine M2 ?_; refine SE ?_) | (refine M3 ?_; first | refine SG ?_ | refine SF ?_) | (refine M4 ?_; refine SR ?_) | (refine M5 ?_; first | exact M7 | refine YM ?_ | refine YN ?_ ?_))
  refine XC.cond _ rfl (fun h2 => ?_) (fun h2 => ?_)
  rotate_left
  · have hkn : k = l.length := by have := of_decide_eq_false h2; omega
    subst hkn
    repeat (first | (refine M0 ?_; first | refine SL ?_ | refine SB fun _ _ => ?_) | (refine M1 ?_; first | refine SC ?_ | refine SD ?_) | (refine M2 ?_; refine SE ?_) | (refine M3 ?_; first | refine SG ?_ | refine SF ?_) | (refine M4 ?_; refine SR ?_) | (refine M5 ?_; first | exact M7 | refine YM ?_ | refine YN ?_ ?_))
    refine XE.retg tok Try.results14 rfl (by simp only [and_self, and_true]) (fun w' S => ?_)
    rw [decide_eq_true (bl_ext hlen h0)]
    exact ⟨rfl, S.toBelow⟩
  have hkn : k < l.length := by have := of_decide_eq_true h2; omega
  obtain ⟨ap, rfl, hlp⟩ := hp.addr (by decide) (by omega)
  obtain ⟨aq, rfl, hlq⟩ := hq.addr (by decide) (by omega)
  have c1 := boolAt hp (k := k) (by omega)
  have c2 := boolAt hq (k := k) (by omega)
  repeat (first | (refine M0 ?_; first | refine SL ?_ | refine SB fun _ _ => ?_ | refine Y4 (Ev.load_old tok rfl rfl (add_lt hlp) c1) ?_ | refine Y4 (Ev.load_old tok rfl rfl (add_lt hlq) c2) ?_ | refine Y4 (Ev.neqB Try.underlying4 rfl rfl) ?_) | (refine M1 ?_; first | refine SC ?_ | refine SD ?_) | (refine M2 ?_; refine SE ?_) | (refine M3 ?_; first | refine SG ?_ | refine SF ?_ | refine YF (Ev.load_old tok rfl rfl (add_lt hlp) c1) ?_ | refine YF (Ev.load_old tok rfl rfl (add_lt hlq) c2) ?_ | refine YF (Ev.neqB Try.underlying4 rfl rfl) ?_) | (refine M4 ?_; refine SR ?_) | (refine M5 ?_; first | exact M7 | refine YM ?_ | refine YN ?_ ?_))
  refine XC.cond _ rfl (fun h3 => ?_) (fun h3 => ?_)
  · have hne : l ≠ m := fun e => by rw [e] at h3; simp at h3
    repeat (first | (refine M0 ?_; first | refine SL ?_ | refine SB fun _ _ => ?_) | (refine M1 ?_; first | refine SC ?_ | refine SD ?_) | (refine M2 ?_; refine SE ?_) | (refine M3 ?_; first | refine SG ?_ | refine SF ?_) | (refine M4 ?_; refine SR ?_) | (refine M5 ?_; first | exact M7 | refine YM ?_ | refine YN ?_ ?_))
    refine XE.retg tok Try.results14 rfl (by simp only [and_self, and_true]) (fun w' S => ?_)
    rw [decide_eq_false hne]
    exact ⟨rfl, S.toBelow⟩
  · repeat (first | (refine M0 ?_; first | refine SL ?_ | refine SB fun _ _ => ?_) | (refine M1 ?_; first | refine SC ?_ | refine SD ?_) | (refine M2 ?_; refine SE ?_) | (refine M3 ?_; first | refine SG ?_ | refine SF ?_) | (refine M4 ?_; refine SR ?_) | (refine M5 ?_; first | exact M7 | refine YM ?_ | refine YN ?_ ?_))
    refine XE.round (s := k) (k + 1) ⟨hkn, fun j hj => ?_⟩ (by omega) ZZSUB (fun _ h => h)
    by_cases e : j = k
    · rw [e]; simpa using h3
    · exact h0 j (by omega)
set_option maxHeartbeats 4000000 in
theorem SamePlan_any {p q : SV} {es fs : List (SV × List Bool)} {w : World} (hp : ListAt plnK w (Lt w.heap.size) p es) (hq : ListAt plnK w (Lt w.heap.size) q fs) :
    Calls Try.prog 21 #[svV p, svV q] w fun e w' => e = .returned (.bool (decide (es.map (·.2) = fs.map (·.2)))) ∧ Below w.heap.size w w' := by
  obtain ⟨Ap, np, cp⟩ := p
  obtain ⟨Aq, nq, cq⟩ := q
  have lp := hp.len (by decide)
  have lq := hq.len (by decide)
  have mp := hp.max
  have mq := hq.max
  simp only at lp lq mp mq
  subst lp lq
  simp only [svV]
  refine enter Try.func21 rfl Try.ntmps21 rfl ?_; simp only [frame, Nat.zero_add, Nat.reduceAdd]
  repeat (first | (refine M0 ?_; first | refine SL ?_ | refine SB fun _ _ => ?_) | (refine M1 ?_; first | refine SC ?_ | refine SD ?_) | (refine M2 ?_; refine SE ?_) | (refine M3 ?_; first | refine SG ?_ | refine SF ?_) | (refine M4 ?_; refine SR ?_) | (refine M5 ?_; first | exact M7 | refine YM ?_ | refine YN ?_ ?_))
  refine XC.cond _ rfl (fun h1 => ?_) (fun h1 => ?_)
  · have hne : es.map (·.2) ≠ fs.map (·.2) := fun e => by have := congrArg List.length e; simp at this; have := of_decide_eq_true h1; omega
    repeat (first | (refine M0 ?_; first | refine SL ?_ | refine SB fun _ _ => ?_) | (refine M1 ?_; first | refine SC ?_ | refine SD ?_) | (refine M2 ?_; refine SE ?_) | (refine M3 ?_; first | refine SG ?_ | refine SF ?_) | (refine M4 ?_; refine SR ?_) | (refine M5 ?_; first | exact M7 | refine YM ?_ | refine YN ?_ ?_))
    refine XE.retg tok Try.results21 rfl (by simp only [and_self, and_true]) (fun w' S => ?_)
    rw [decide_eq_false hne]
    exact ⟨rfl, S.toBelow⟩
  have hlen : es.length = fs.length := by have := of_decide_eq_false h1; omega
  repeat (first | (refine M0 ?_; first | refine SL ?_ | refine SB fun _ _ => ?_) | (refine M1 ?_; first | refine SC ?_ | refine SD ?_) | (refine M2 ?_; refine SE ?_) | (refine M3 ?_; first | refine SG ?_ | refine SF ?_) | (refine M4 ?_; refine SR ?_) | (refine M5 ?_; first | exact M7 | refine YM ?_ | refine YN ?_ ?_))
  refine XC.loopk [0, 1] rfl (fun k : Nat => [(5, .int .i64 (k : Nat))]) (fun _ => []) (fun _ => w) (fun k => k ≤ es.length ∧ ∀ j, j < k → (es.map (·.2))[j]? = (fs.map (·.2))[j]?) (fun k => es.length - k) 0 ⟨Nat.zero_le _, fun j h => absurd h (by omega)⟩ ZZSUB (fun _ h => h) ?_
  rintro k ⟨hk, h0⟩
  dsimp only [List.cons_append, List.nil_append]
  repeat (first | (refine M0 ?_; first | refine SL ?_ | refine SB fun _ _ => ?_) | (refine M1 ?_; first | refine SC ?_ | refine SD ?_) | (refine M2 ?_; refine SE ?_) | (refine M3 ?_; first | refine SG ?_ | refine SF ?_) | (refine M4 ?_; refine SR ?_) | (refine M5 ?_; first | exact M7 | refine YM ?_ | refine YN ?_ ?_))
  refine XC.cond _ rfl (fun h2 => ?_) (fun h2 => ?_)
  rotate_left
  · have hkn : k = es.length := by have := of_decide_eq_false h2; omega
    subst hkn
    have he : es.map (·.2) = fs.map (·.2) := List.ext_getElem? fun j => by
      rcases Nat.lt_or_ge j es.length with h | h
      · exact h0 j h
      · rw [List.getElem?_eq_none (by simpa using h), List.getElem?_eq_none (by simpa using (by omega : fs.length ≤ j))]
    repeat (first | (refine M0 ?_; first | refine SL ?_ | refine SB fun _ _ => ?_) | (refine M1 ?_; first | refine SC ?_ | refine SD ?_) | (refine M2 ?_; refine SE ?_) | (refine M3 ?_; first | refine SG ?_ | refine SF ?_) | (refine M4 ?_; refine SR ?_) | (refine M5 ?_; first | exact M7 | refine YM ?_ | refine YN ?_ ?_))
    refine XE.retg tok Try.results21 rfl (by simp only [and_self, and_true]) (fun w' S => ?_)
    rw [decide_eq_true he]
    exact ⟨rfl, S.toBelow⟩
  have hkn : k < es.length := by have := of_decide_eq_true h2; omega
  have hkf : k < fs.length := by omega
  obtain ⟨ap, rfl, hlp⟩ := hp.addr (by decide) (by omega)
  obtain ⟨aq, rfl, hlq⟩ := hq.addr (by decide) (by omega)
  have c1 := hp.elem (List.getElem?_eq_getElem hkn) 0 (svV es[k].1) rfl
  have c2 := hq.elem (List.getElem?_eq_getElem hkf) 0 (svV fs[k].1) rfl
  rw [add_add, Nat.add_zero] at c1 c2
  have i1 : ListAt boolK w (Lt w.heap.size) es[k].1 es[k].2 := hp.ins es[k] (List.getElem_mem hkn) (hList boolK es[k].1 es[k].2) (.head _)
  have i2 : ListAt boolK w (Lt w.heap.size) fs[k].1 fs[k].2 := hq.ins fs[k] (List.getElem_mem hkf) (hList boolK fs[k].1 fs[k].2) (.head _)
  have g1 : (es.map (·.2))[k]? = some es[k].2 := by simp [hkn]
  have g2 : (fs.map (·.2))[k]? = some fs[k].2 := by simp [hkf]
  obtain ⟨⟨p1, l1⟩, h1e⟩ : ∃ z, z = es[k] := ⟨_, rfl⟩
  obtain ⟨⟨q1, m1⟩, h1f⟩ : ∃ z, z = fs[k] := ⟨_, rfl⟩
  rw [← h1e] at c1 i1 g1
  rw [← h1f] at c2 i2 g2
  simp only at c1 c2 i1 i2 g1 g2
  have c1' : w.cell? (ap.add (k * 1)) = some (svV p1) := c1
  have c2' : w.cell? (aq.add (k * 1)) = some (svV q1) := c2
  have hcall := fun {L : Lo} (w5 : World) (S5 : Sys w.heap.size w L w5) => Bools_any (i1.arg S5) (i2.arg S5)
  simp only [svV] at c1' c2' hcall
  repeat (first | (refine M0 ?_; first | refine SL ?_ | refine SB fun _ _ => ?_ | refine Y4 (Ev.load_old tok rfl rfl (add_lt hlp) c1') ?_ | refine Y4 (Ev.load_old tok rfl rfl (add_lt hlq) c2') ?_ | refine Y4 (Ev.call (f := 14) (ck rfl) rfl (fun w5 S5 => hcall w5 S5)) ?_) | (refine M1 ?_; first | refine SC ?_ | refine SD ?_) | (refine M2 ?_; refine SE ?_) | (refine M3 ?_; first | refine SG ?_ | refine SF ?_ | refine YF (Ev.load_old tok rfl rfl (add_lt hlp) c1') ?_ | refine YF (Ev.load_old tok rfl rfl (add_lt hlq) c2') ?_ | refine YF (Ev.call (f := 14) (ck rfl) rfl (fun w5 S5 => hcall w5 S5)) ?_) | (refine M4 ?_; refine SR ?_) | (refine M5 ?_; first | exact M7 | refine YM ?_ | refine YN ?_ ?_))
  refine XC.cond _ rfl (fun h3 => ?_) (fun h3 => ?_)
  · have hne : es.map (·.2) ≠ fs.map (·.2) := fun e => by
      rw [e, g2] at g1
      simp only [Option.some.injEq] at g1
      simp [g1] at h3
    repeat (first | (refine M0 ?_; first | refine SL ?_ | refine SB fun _ _ => ?_) | (refine M1 ?_; first | refine SC ?_ | refine SD ?_) | (refine M2 ?_; refine SE ?_) | (refine M3 ?_; first | refine SG ?_ | refine SF ?_) | (refine M4 ?_; refine SR ?_) | (refine M5 ?_; first | exact M7 | refine YM ?_ | refine YN ?_ ?_))
    refine XE.retg tok Try.results21 rfl (by simp only [and_self, and_true]) (fun w' S => ?_)
    rw [decide_eq_false hne]
    exact ⟨rfl, S.toBelow⟩
  · repeat (first | (refine M0 ?_; first | refine SL ?_ | refine SB fun _ _ => ?_) | (refine M1 ?_; first | refine SC ?_ | refine SD ?_) | (refine M2 ?_; refine SE ?_) | (refine M3 ?_; first | refine SG ?_ | refine SF ?_) | (refine M4 ?_; refine SR ?_) | (refine M5 ?_; first | exact M7 | refine YM ?_ | refine YN ?_ ?_))
    refine XE.round (s := k) (k + 1) ⟨hkn, fun j hj => ?_⟩ (by omega) ZZSUB (fun _ h => h)
    by_cases e : j = k
    · rw [e, g1, g2]; congr 1; simpa using h3
    · exact h0 j (by omega)
/-! ### the example -/
def PlanV (p : Plan) (x : Value) (new : List Held) : Prop := ∃ q : SV, x = svV q ∧ new = [hPlan q p]
theorem Plan_made {a b c d : Bool} {w : World} : Calls Try.prog 16 #[.bool a, .bool b, .bool c, .bool d] w (Made w (PlanV [[a, b], [c, d]])) := by
  refine enter Try.func16 rfl Try.ntmps16 rfl ?_; simp only [frame, Nat.zero_add, Nat.reduceAdd]
  repeat (first | (refine M0 ?_; first | refine SL ?_ | refine SB fun _ _ => ?_ | refine XL.buildSlice tok rfl rfl rfl rfl rfl rfl rfl rfl rfl (fun _ _ => ?_)) | (refine M1 ?_; first | refine SC ?_ | refine SD ?_) | (refine M2 ?_; refine SE ?_) | (refine M3 ?_; first | refine SG ?_ | refine SF ?_) | (refine M4 ?_; refine SR ?_) | (refine M5 ?_; first | exact M7 | refine YM ?_ | refine YN ?_ ?_))
  rename_i g1 hg1 g2 hg2 g3 hg3
  refine XE.retg tok Try.results16 rfl (by simp only [and_self, and_true]) (fun w' S => ?_)
  refine ⟨_, _, rfl, ⟨⟨some ⟨g3, 0, none⟩, 2, 2⟩, rfl, rfl⟩, fun x hx => ?_, S.toBelow⟩
  rw [List.mem_singleton.1 hx]
  have h1 := (S.own (g1, _) (.tail _ (.tail _ (.head _)))).2
  have h2 := (S.own (g2, _) (.tail _ (.head _))).2
  have h3 := (S.own (g3, _) (.head _)).2
  refine ⟨[(⟨some ⟨g1, 0, none⟩, 2, 2⟩, [a, b]), (⟨some ⟨g2, 0, none⟩, 2, 2⟩, [c, d])], ⟨ReadsP.block h3 hg3 rfl, Nat.le_of_ble_eq_true rfl, fun x hx h hh => ?_⟩, rfl⟩
  rcases List.mem_cons.1 hx with rfl | hx
  · rw [List.mem_singleton.1 hh]
    exact boolsAt (l := [a, b]) h1 hg1 rfl (by decide)
  · rw [List.mem_singleton.1 hx] at hh
    rw [List.mem_singleton.1 hh]
    exact boolsAt (l := [c, d]) h2 hg2 rfl (by decide)
/-- blocks as they stand. -/
def hBlk (bs : Lo) : Held := ⟨fun w ok => ∀ e, e ∈ bs → ok e.1 ∧ w.heap[e.1]? = some e.2, fun h hk e he => ⟨(h e he).1, (hk _ (h e he).1).trans (h e he).2⟩, fun h hk e he => ⟨hk _ (h e he).1, (h e he).2⟩⟩
def rxRows : List Value := [.int .i64 (-1000), .int .i64 0, .int .i64 0, .int .i64 1000000, .int .i64 2000, .int .i64 5000000]
def BasinV (x : Value) (new : List Held) : Prop := ∃ g1 g2 : Nat, x = .agg ⟨[.slice (some ⟨g1, 0, none⟩) 3 3, .int .i64 100, .int .i64 3000, .int .i64 500, .slice (some ⟨g2, 0, none⟩) 2 2]⟩ ∧ new = [hBlk [(g1, cel 46 rxRows)]]
theorem Basin7_made {w : World} : Calls Try.prog 30 #[] w (Made w BasinV) := by
  refine enter Try.func30 rfl Try.ntmps30 rfl ?_; simp only [frame, Nat.zero_add, Nat.reduceAdd]
  repeat (first | (refine M0 ?_; first | refine SL ?_ | refine SB fun _ _ => ?_ | refine XL.buildSlice tok rfl rfl rfl rfl rfl rfl rfl rfl rfl (fun _ _ => ?_)) | (refine M1 ?_; first | refine SC ?_ | refine SD ?_) | (refine M2 ?_; refine SE ?_) | (refine M3 ?_; first | refine SG ?_ | refine SF ?_) | (refine M4 ?_; refine SR ?_) | (refine M5 ?_; first | exact M7 | refine YM ?_ | refine YN ?_ ?_))
  rename_i g0 hg0 g1 hg1 g2 hg2
  refine XE.retg tok Try.results30 rfl (by simp only [and_self, and_true]) (fun w' S => ?_)
  refine ⟨_, _, rfl, ⟨g1, g2, rfl, rfl⟩, fun x hx => ?_, S.toBelow⟩
  rw [List.mem_singleton.1 hx]
  intro e he
  rw [List.mem_singleton.1 he]
  exact ⟨⟨hg1, S.lt (e := (g1, _)) (.tail _ (.head _))⟩, (S.own (g1, _) (.tail _ (.head _))).2⟩
def tskBlk (gr go gi gp gs gu gn : Nat) : Lo := [(gr, cel 46 rxRows), (go, cel 3 [.int .i64 (-500), .int .i64 500]), (gi, cel 3 [.int .i64 60000, .int .i64 60000]), (gp, cel 3 [.int .i64 1, .int .i64 2]),
  (gs, cel 93 [.string ⟨#[108, 111, 99, 107]⟩, .int .i64 100, .int .i64 10]), (gu, cel 35 [.string ⟨#[109, 105, 108, 108]⟩, .int .i64 40000, .int .i64 5, .int .i64 1, .int .i64 7]), (gn, cel 4 [.bool false, .bool false])]
def tskRV (gr go gi gp gs gu gn : Nat) : RTV := ⟨⟨some ⟨gr, 0, none⟩, 3, 3, none, 0, 0⟩, ⟨none, 0, 0⟩, ⟨some ⟨go, 0, none⟩, 2, 2⟩, ⟨some ⟨gi, 0, none⟩, 2, 2⟩, ⟨some ⟨gp, 0, none⟩, 2, 2⟩, ⟨some ⟨gs, 0, none⟩, 1, 1⟩, ⟨some ⟨gu, 0, none⟩, 1, 1⟩, ⟨some ⟨gn, 0, none⟩, 2, 2⟩⟩
theorem tsk_of {gr go gi gp gs gu gn : Nat} {w : World} {ok : Nat → Prop} (h : (hBlk (tskBlk gr go gi gp gs gu gn)).p w ok) : TskAt w w.heap.size (tskRV gr go gi gp gs gu gn) rxT := by
  have b1 := (h (gr, _) (.head _)).2
  have b2 := (h (go, _) (.tail _ (.head _))).2
  have b3 := (h (gi, _) (.tail _ (.tail _ (.head _)))).2
  have b4 := (h (gp, _) (.tail _ (.tail _ (.tail _ (.head _))))).2
  have b5 := (h (gs, _) (.tail _ (.tail _ (.tail _ (.tail _ (.head _)))))).2
  have b6 := (h (gu, _) (.tail _ (.tail _ (.tail _ (.tail _ (.tail _ (.head _))))))).2
  have b7 := (h (gn, _) (.tail _ (.tail _ (.tail _ (.tail _ (.tail _ (.tail _ (.head _)))))))).2
  refine ⟨⟨((ReadsP.block b1 (Nat.zero_le _) rfl).mono fun j hj => hj.2).to, ReadsP.nil.to, Nat.le_of_ble_eq_true rfl, Nat.le_of_ble_eq_true rfl, Nat.le_of_ble_eq_true rfl, fun q hq => by cases hq⟩, IntsAt.nil, ⟨(ReadsP.block b2 (Nat.zero_le _) rfl).mono fun j hj => hj.2, Nat.le_of_ble_eq_true rfl⟩, ⟨(ReadsP.block b3 (Nat.zero_le _) rfl).mono fun j hj => hj.2, Nat.le_of_ble_eq_true rfl⟩, ⟨(ReadsP.block b4 (Nat.zero_le _) rfl).mono fun j hj => hj.2, Nat.le_of_ble_eq_true rfl⟩,
    ⟨(ReadsP.block b5 (Nat.zero_le _) rfl).mono fun j hj => hj.2, Nat.le_of_ble_eq_true rfl, fun a ha x hx => by cases hx⟩, ⟨(ReadsP.block b6 (Nat.zero_le _) rfl).mono fun j hj => hj.2, Nat.le_of_ble_eq_true rfl, fun a ha x hx => by cases hx⟩, ⟨(ReadsP.block b7 (Nat.zero_le _) rfl).mono fun j hj => hj.2, Nat.le_of_ble_eq_true rfl, fun a ha x hx => by cases hx⟩, fun d hd => ?_⟩
  rcases List.mem_cons.1 hd with rfl | hd
  · decide
  · rw [List.mem_singleton.1 hd]; decide
def TaskV (x : Value) (new : List Held) : Prop := ∃ gr go gi gp gs gu gn : Nat, x = tskV (tskRV gr go gi gp gs gu gn) rxT ∧ new = [hBlk (tskBlk gr go gi gp gs gu gn)]
set_option maxHeartbeats 4000000 in
theorem Task_made {w : World} : Calls Try.prog 9 #[] w (Made w TaskV) := by
  refine enter Try.func9 rfl Try.ntmps9 rfl ?_; simp only [frame, Nat.zero_add, Nat.reduceAdd]
  repeat (first | (refine M0 ?_; first | refine SL ?_ | refine SB fun _ _ => ?_) | (refine M1 ?_; refine SC ?_) | (refine M2 ?_; refine SE ?_))
  rename_i g0 hg0
  refine XL.rebase (List.Sublist.refl _) (fun W0 S0 => ?_)
  refine XL.callF (ks := [g0]) (rs := []) (hs := []) (b0 := w.heap.size) (wE := w) BasinV (ck rfl) rfl rfl (Fam.start S0.size) (fun k hk => S0.keyLt k hk) S0.toBelow (fun w1 S1 _ hB1 => Basin7_made) (fun w2 x new hR hF2 hB2 hk2 => ?_) ZZHL
  obtain ⟨gr, gq, rfl, rfl⟩ := hR
  repeat (first | (refine M0 ?_; first | refine SL ?_ | refine SB fun _ _ => ?_ | refine XL.buildSlice tok rfl rfl rfl rfl rfl rfl rfl rfl rfl (fun _ _ => ?_)) | (refine M1 ?_; refine SC ?_) | (refine M2 ?_; refine SE ?_))
  rename_i g1 hg1 go hgo gi hgi gp hgp gs hgs gu hgu gn hgn
  refine XE.retg tok Try.results9 rfl (by simp only [and_self, and_true]) (fun w' S => ?_)
  have hF9 := hF2.sys S ZZHL
  have hl := hF9.get (x := hBlk [(gr, cel 46 rxRows)]) (.head _) (gr, _) (.head _)
  have hw : w.heap.size ≤ w2.heap.size := hB2.size
  refine ⟨_, _, rfl, ⟨gr, go, gi, gp, gs, gu, gn, rfl, rfl⟩, fun x hx => ?_, hB2.trans S.toBelow⟩
  rw [List.mem_singleton.1 hx]
  intro e he
  have hin : ∀ {o : Obj} {q : Nat}, (q, o) ∈ [(gn, cel 4 [.bool false, .bool false]), (gu, cel 35 [.string ⟨#[109, 105, 108, 108]⟩, .int .i64 40000, .int .i64 5, .int .i64 1, .int .i64 7]), (gs, cel 93 [.string ⟨#[108, 111, 99, 107]⟩, .int .i64 100, .int .i64 10]), (gp, cel 3 [.int .i64 1, .int .i64 2]), (gi, cel 3 [.int .i64 60000, .int .i64 60000]), (go, cel 3 [.int .i64 (-500), .int .i64 500])] → Btw w.heap.size w'.heap.size q ∧ w'.heap[q]? = some o := fun {o q} h => ⟨⟨(S.own _ (List.mem_append_left _ h)).1, S.lt (e := (q, o)) (List.mem_append_left _ h)⟩, (S.own (q, o) (List.mem_append_left _ h)).2⟩
  simp only [tskBlk] at he
  rcases List.mem_cons.1 he with rfl | he
  · exact hl
  rcases List.mem_cons.1 he with rfl | he
  · exact hin (by simp)
  rcases List.mem_cons.1 he with rfl | he
  · exact hin (by simp)
  rcases List.mem_cons.1 he with rfl | he
  · exact hin (by simp)
  rcases List.mem_cons.1 he with rfl | he
  · exact hin (by simp)
  rcases List.mem_cons.1 he with rfl | he
  · exact hin (by simp)
  · rw [List.mem_singleton.1 he]
    exact hin (by simp)
theorem rx_bst : bst rxT = some (12, [[false, true], [false, false]]) := by
  unfold bst
  rw [if_pos rx_e]
  exact rx_rest
theorem rx_bstE : bstE rxT = 0 := by
  unfold bstE
  rw [if_pos rx_e, show rxT.rest rxT.n rxT.s rxT.on = _ from rx_rest]
  rfl
theorem rx_costE : costE rxT [[false, false], [false, false]] = 172 := by
  unfold costE
  rw [if_neg (by simp [rx_e]), if_neg (by decide)]
  exact rx_flw
theorem rx_costN : costN rxT [[false, false], [false, false]] = 0 := by
  unfold costN
  rw [if_neg (by rw [rx_costE]; decide)]
set_option maxHeartbeats 4000000 in
theorem Awake7_any {w : World} : Calls Try.prog 7 #[] w fun e w' => e = .returned (.bool true) ∧ Below w.heap.size w w' := by
  refine enter Try.func7 rfl Try.ntmps7 rfl ?_; simp only [frame, Nat.zero_add, Nat.reduceAdd]
  repeat (first | (refine M0 ?_; first | refine SL ?_ | refine SB fun _ _ => ?_) | (refine M1 ?_; refine SC ?_) | (refine M2 ?_; refine SE ?_))
  refine XL.callF (ks := []) (rs := []) (hs := []) (b0 := w.heap.size) (wE := w) TaskV (ck rfl) rfl rfl (Fam.start (Nat.le_refl _)) (fun k hk => by cases hk) (Below.refl _ _) (fun w1 S1 _ hB1 => Task_made) (fun w2 x new hR hF2 hB2 hk2 => ?_) (fun e he => by cases he)
  obtain ⟨gr, go, gi, gp, gs, gu, gn, rfl, rfl⟩ := hR
  repeat (first | (refine M0 ?_; first | refine SL ?_ | refine SB fun _ _ => ?_) | (refine M1 ?_; refine SC ?_) | (refine M2 ?_; refine SE ?_))
  refine XL.callF (wE := w) (BestV rxT) (ck rfl) rfl rfl hF2 hk2 hB2 (fun w1 S1 hF1 hB1 => Best_made (tsk_of (hF1.held (hBlk _) (.head _))) (by decide)) (fun w3 x new hR hF3 hB3 hk3 => ?_) (fun e he => by cases he)
  obtain ⟨q, rfl, rfl⟩ := hR
  rw [rx_bst, rx_bstE]
  simp only [fdC, Option.map_some, Option.getD_some]
  repeat (first | (refine M0 ?_; first | refine SL ?_ | refine SB fun _ _ => ?_) | (refine M1 ?_; refine SC ?_) | (refine M2 ?_; refine SE ?_))
  refine XL.callF (wE := w) TaskV (ck rfl) rfl rfl hF3 hk3 hB3 (fun w1 S1 _ hB1 => Task_made) (fun w4 x new hR hF4 hB4 hk4 => ?_) (fun e he => by cases he)
  obtain ⟨hr, ho, hi, hp, hs, hu, hn, rfl, rfl⟩ := hR
  repeat (first | (refine M0 ?_; first | refine SL ?_ | refine SB fun _ _ => ?_) | (refine M1 ?_; refine SC ?_) | (refine M2 ?_; refine SE ?_))
  refine XL.callF (wE := w) (PlanV [[false, false], [false, false]]) (ck rfl) rfl rfl hF4 hk4 hB4 (fun w1 S1 _ hB1 => Plan_made) (fun w5 x new hR hF5 hB5 hk5 => ?_) (fun e he => by cases he)
  obtain ⟨q2, rfl, rfl⟩ := hR
  have hcost : ∀ {L : Lo} (w6 : World), Sys w.heap.size w5 L w6 → (∀ e, e ∈ L → e.1 ∈ ([] : List Nat) ∨ w5.heap.size ≤ e.1) → Calls Try.prog 17 #[tskV (tskRV hr ho hi hp hs hu hn) rxT, svV q2] w6 fun e w' => e = .returned (.tuple ⟨[.int .i64 0, .int .i64 172]⟩) ∧ Below w6.heap.size w6 w' := fun {L} w6 S6 hL => by
    have F6 := (hF5.add (ks' := []) (fun k hk => by cases hk)).sys S6 hL
    obtain ⟨es, h1, h2⟩ : PlanAt w6 _ q2 [[false, false], [false, false]] := F6.held (hPlan q2 [[false, false], [false, false]]) (.head _)
    have h3 := Cost_any (w := w6) (tsk_of (F6.held (hBlk (tskBlk hr ho hi hp hs hu hn)) (.tail _ (.head _)))) (by decide) (h1.mono fun j hj => hj.2.1) h2
    rw [rx_costE, rx_costN] at h3
    exact h3
  repeat (first | (refine M0 ?_; first | refine SL ?_ | refine SB fun _ _ => ?_ | refine Y4 (Ev.call (f := 17) (ck rfl) rfl (fun w6 S6 => hcost w6 S6 (fun e he => by cases he))) ?_) | (refine M1 ?_; refine SC ?_) | (refine M2 ?_; refine SE ?_))
  refine XL.callF (wE := w) (PlanV [[false, true], [false, false]]) (ck rfl) rfl rfl hF5 hk5 hB5 (fun w1 S1 _ hB1 => Plan_made) (fun w7 x new hR hF7 hB7 hk7 => ?_) (fun e he => by cases he)
  obtain ⟨q3, rfl, rfl⟩ := hR
  have hsame : ∀ {L : Lo} (w8 : World), Sys w.heap.size w7 L w8 → (∀ e, e ∈ L → e.1 ∈ ([] : List Nat) ∨ w7.heap.size ≤ e.1) → Calls Try.prog 21 #[svV q, svV q3] w8 fun e w' => e = .returned (.bool true) ∧ Below w8.heap.size w8 w' := fun {L} w8 S8 hL => by
    have F8 := (hF7.add (ks' := []) (fun k hk => by cases hk)).sys S8 hL
    obtain ⟨es, h1, h2⟩ : PlanAt w8 _ q3 [[false, true], [false, false]] := F8.held (hPlan q3 [[false, true], [false, false]]) (.head _)
    obtain ⟨fs, h3, h4⟩ : PlanAt w8 _ q (fdP (bst rxT)) := F8.held (hPlan q (fdP (bst rxT))) (by simp)
    have h5 := SamePlan_any (w := w8) (p := q) (q := q3) (h3.mono fun j hj => hj.2.1) (h1.mono fun j hj => hj.2.1)
    rw [h2, h4, rx_bst, show decide (fdP (some (12, [[false, true], [false, false]])) = [[false, true], [false, false]]) = true from rfl] at h5
    exact h5
  repeat (first | (refine M0 ?_; first | refine SL ?_ | refine SB fun _ _ => ?_ | refine Y4 (Ev.call (f := 21) (ck rfl) rfl (fun w8 S8 => hsame w8 S8 (fun e he => by cases he))) ?_) | (refine M1 ?_; refine SC ?_) | (refine M2 ?_; refine SE ?_))
  refine XE.retg tok Try.results7 rfl (by simp only [and_self, and_true]) (fun w' S => ?_)
  exact ⟨rfl, hB7.trans S.toBelow⟩
end Go.Proofs.Ytlfjdbilblfknaa.X
/-
  The walks of the document's Check (runoff).
-/
namespace Go.Proofs.Ytlfjdbilblfknaa.X
open Go Go.RowKit Go.Proofs.Ytlfjdbilblfknaa.Bs
set_option linter.unusedVariables false
def strK : Kind ByteArray := ⟨9, 1, fun s => [.string s], fun _ => [], fun _ => rfl⟩
def RTk.names (t : RTk) : List ByteArray := t.devs.map Dev.name
end Go.Proofs.Ytlfjdbilblfknaa.X
/-
  The walks of both Windows, and the law (runoff).
-/
namespace Go.Proofs.Ytlfjdbilblfknaa.Bs
open Go.Proofs.Ytlfjdbilblfknaa.X
structure Spn where
  lo : Int
  hi : Int
def spn (l : List Spn) (k : Nat) : Spn := l[k]?.getD ⟨0, 0⟩
/-- of the first k spans those whose Lo, whose Hi is below the level. -/
def winP (lv : Int) (l : List Spn) : Nat → List Int
  | 0 => []
  | k + 1 => if (spn l k).lo < lv then winP lv l k ++ [(k : Int)] else winP lv l k
def winS (lv : Int) (l : List Spn) : Nat → List Int
  | 0 => []
  | k + 1 => if (spn l k).hi < lv then winS lv l k ++ [(k : Int)] else winS lv l k
def spnBad (l : List Spn) : Bool := l.any fun x => decide (x.hi < x.lo)
def winE (lv : Int) (l : List Spn) : Int := if 400 < l.length then 3 else if spnBad l = true then 2 else if outB lv (-20000) 20000 = true then 7 else 0
theorem winP_len (lv : Int) (l : List Spn) : ∀ k, (winP lv l k).length ≤ k := by
  intro k
  induction k with
  | zero => exact Nat.le_refl _
  | succ k ih => unfold winP; split <;> (try simp only [List.length_append, List.length_singleton]) <;> omega
theorem winS_len (lv : Int) (l : List Spn) : ∀ k, (winS lv l k).length ≤ k := by
  intro k
  induction k with
  | zero => exact Nat.le_refl _
  | succ k ih => unfold winS; split <;> (try simp only [List.length_append, List.length_singleton]) <;> omega
theorem winP_y {lv : Int} {l : List Spn} {k : Nat} (h : (spn l k).lo < lv) : winP lv l (k + 1) = winP lv l k ++ [(k : Int)] := by rw [winP, if_pos h]
theorem winP_n {lv : Int} {l : List Spn} {k : Nat} (h : ¬ (spn l k).lo < lv) : winP lv l (k + 1) = winP lv l k := by rw [winP, if_neg h]
theorem winS_y {lv : Int} {l : List Spn} {k : Nat} (h : (spn l k).hi < lv) : winS lv l (k + 1) = winS lv l k ++ [(k : Int)] := by rw [winS, if_pos h]
theorem winS_n {lv : Int} {l : List Spn} {k : Nat} (h : ¬ (spn l k).hi < lv) : winS lv l (k + 1) = winS lv l k := by rw [winS, if_neg h]
theorem spn_at {l : List Spn} {k : Nat} (h : k < l.length) : l[k]? = some (spn l k) := by unfold spn; rw [List.getElem?_eq_getElem h]; rfl
end Go.Proofs.Ytlfjdbilblfknaa.Bs
namespace Go.Proofs.Ytlfjdbilblfknaa.X
open Go Go.RowKit Go.Proofs.Ytlfjdbilblfknaa.Bs
set_option linter.unusedVariables false
def spnC (x : Spn) : List Value := [.int .i64 x.lo, .int .i64 x.hi]
def spnV (x : Spn) : Value := .agg ⟨spnC x⟩
def spnK : Kind Spn := ⟨54, 2, spnC, fun _ => [], fun _ => rfl⟩
def winK : Kind Int := ⟨3, 1, fun n => [.int .i64 n], fun _ => [], fun _ => rfl⟩
theorem win_flat (l : List Int) : l.flatMap winK.c = ints l := by
  unfold ints
  induction l with
  | nil => rfl
  | cons a l ih => rw [List.flatMap_cons, ih]; rfl
theorem winInts {W : World} {ok : Nat → Prop} {r : SV} {l : List Int} (h : ListAt winK W ok r l) : IntsAt W ok r l := ⟨by have := h.rd; rw [win_flat] at this; exact this, h.max⟩
def WinV (lv : Int) (l : List Spn) (x : Value) (new : List Held) : Prop := ∃ q1 q2 : SV, x = .tuple ⟨[svV q1, svV q2, .int .i64 (winE lv l)]⟩ ∧ new = [hInts q1 (if winE lv l = 0 then winS lv l l.length else []), hInts q2 (if winE lv l = 0 then winP lv l l.length else [])]
theorem idxSpn {f : FuncId} {cap : List Value} {P : Spn → Bool} {r : SV} {ms : List Spn} {w : World} (hck : callOk Try.prog f = true) (hr : ListAt spnK w (Lt w.heap.size) r ms) (hn : ms.length ≤ 1000)
    (hc : ∀ m, m ∈ ms → ∀ w', Below w.heap.size w w' → Calls Try.prog f ([] ++ [spnV m] ++ cap).toArray w' fun e w'' => e = .returned (.bool (P m)) ∧ Below w'.heap.size w' w'') :
    Calls Try.prog 44 #[svV r, .func (.func f) #[] cap.toArray] w fun e w' => e = .returned (.int .i64 (idxL ms P)) ∧ Below w.heap.size w w' := by
  obtain ⟨A, n, c⟩ := r
  have hln := hr.len (by decide)
  simp only at hln
  subst hln
  simp only [svV]
  refine enter Try.func44 rfl Try.ntmps44 rfl ?_; simp only [frame, Nat.zero_add, Nat.reduceAdd]
  repeat (first | (refine M0 ?_; first | refine SL ?_ | refine SB fun _ _ => ?_) | (refine M1 ?_; first | refine SC ?_ | refine SD ?_) | (refine M2 ?_; refine SE ?_) | (refine M3 ?_; first | refine SG ?_ | refine SF ?_) | (refine M4 ?_; refine SR ?_) | (refine M5 ?_; first | exact M7 | refine YM ?_ | refine YN ?_ ?_))
  refine XC.loopk [0, 1, 7] rfl (fun k : Nat => [(8, .int .i64 (k : Nat))]) (fun _ => []) (fun _ => w) (fun k => k ≤ ms.length ∧ ∀ j m, j < k → ms[j]? = some m → P m = false) (fun k => ms.length - k) 0 ⟨Nat.zero_le _, fun j m h => absurd h (by omega)⟩ ZZSUB (fun _ h => h) ?_
  rintro k ⟨hk, h0⟩
  dsimp only [List.cons_append, List.nil_append]
  repeat (first | (refine M0 ?_; first | refine SL ?_ | refine SB fun _ _ => ?_) | (refine M1 ?_; first | refine SC ?_ | refine SD ?_) | (refine M2 ?_; refine SE ?_) | (refine M3 ?_; first | refine SG ?_ | refine SF ?_) | (refine M4 ?_; refine SR ?_) | (refine M5 ?_; first | exact M7 | refine YM ?_ | refine YN ?_ ?_))
  refine XC.cond _ rfl (fun h3 => ?_) (fun h3 => ?_)
  · have hkn : k < ms.length := by simpa using h3
    obtain ⟨ad, rfl, hlt⟩ := hr.addr (by decide) (by omega)
    have hmk : ms[k]? = some ms[k] := List.getElem?_eq_getElem hkn
    have hel := hr.elem hmk
    obtain ⟨z, hz⟩ : ∃ z, z = ms[k] := ⟨_, rfl⟩
    have hel' : ∀ j u, ([.int .i64 ms[k].lo, .int .i64 ms[k].hi] : List Value)[j]? = some u → w.cell? ((ad.add (k * 2)).add j) = some u := hel
    have hck' : ∀ w', Below w.heap.size w w' → Calls Try.prog f ([] ++ [Value.agg ⟨[.int .i64 ms[k].lo, .int .i64 ms[k].hi]⟩] ++ cap).toArray w' fun e w'' => e = .returned (.bool (P ms[k])) ∧ Below w'.heap.size w' w'' := hc _ (List.getElem_mem hkn)
    repeat (first | (refine M0 ?_; first | refine SL ?_ | refine SB fun _ _ => ?_ | refine Y4 (Ev.load_old_agg tok [.int .i64 ms[k].lo, .int .i64 ms[k].hi] rfl rfl rfl (add_lt hlt) hel') ?_ | refine Y4 (Ev.callv (f := f) (fst := []) (cap := cap) hck rfl rfl (fun w S => hck' w S.toBelow)) ?_) | (refine M1 ?_; first | refine SC ?_ | refine SD ?_) | (refine M2 ?_; refine SE ?_) | (refine M3 ?_; first | refine SG ?_ | refine SF ?_ | refine YF (Ev.load_old_agg tok [.int .i64 ms[k].lo, .int .i64 ms[k].hi] rfl rfl rfl (add_lt hlt) hel') ?_ | refine YF (Ev.callv (f := f) (fst := []) (cap := cap) hck rfl rfl (fun w S => hck' w S.toBelow)) ?_) | (refine M4 ?_; refine SR ?_) | (refine M5 ?_; first | exact M7 | refine YM ?_ | refine YN ?_ ?_))
    refine XC.cond _ rfl (fun h4 => ?_) (fun h4 => ?_)
    · repeat (first | (refine M0 ?_; first | refine SL ?_ | refine SB fun _ _ => ?_) | (refine M1 ?_; first | refine SC ?_ | refine SD ?_) | (refine M2 ?_; refine SE ?_) | (refine M3 ?_; first | refine SG ?_ | refine SF ?_) | (refine M4 ?_; refine SR ?_) | (refine M5 ?_; first | exact M7 | refine YM ?_ | refine YN ?_ ?_))
      refine XE.retg tok Try.results44 rfl (by simp only [and_self, and_true]) (fun w' S => ?_)
      have : ms.findIdx? P = some k := by
        rw [List.findIdx?_eq_some_iff_getElem]
        exact ⟨hkn, h4, fun j hj => by simpa using h0 j _ hj (List.getElem?_eq_getElem (by omega))⟩
      unfold idxL
      rw [this]
      exact ⟨rfl, S.toBelow⟩
    · repeat (first | (refine M0 ?_; first | refine SL ?_ | refine SB fun _ _ => ?_) | (refine M1 ?_; first | refine SC ?_ | refine SD ?_) | (refine M2 ?_; refine SE ?_) | (refine M3 ?_; first | refine SG ?_ | refine SF ?_) | (refine M4 ?_; refine SR ?_) | (refine M5 ?_; first | exact M7 | refine YM ?_ | refine YN ?_ ?_))
      refine XE.round (k + 1) ⟨hkn, fun j m hj hm => ?_⟩ (by omega) ZZSUB (fun _ h => h)
      rcases Nat.lt_or_ge j k with h5 | h5
      · exact h0 j m h5 hm
      · have : j = k := by omega
        subst this
        rw [hmk] at hm
        cases hm
        exact h4
  · have hkn : ¬ k < ms.length := by simpa using h3
    repeat (first | (refine M0 ?_; first | refine SL ?_ | refine SB fun _ _ => ?_) | (refine M1 ?_; first | refine SC ?_ | refine SD ?_) | (refine M2 ?_; refine SE ?_) | (refine M3 ?_; first | refine SG ?_ | refine SF ?_) | (refine M4 ?_; refine SR ?_) | (refine M5 ?_; first | exact M7 | refine YM ?_ | refine YN ?_ ?_))
    refine XE.retg tok Try.results44 rfl (by simp only [and_self, and_true]) (fun w' S => ?_)
    have : ms.findIdx? P = none := by
      rw [List.findIdx?_eq_none_iff]
      intro m hm
      obtain ⟨j, hj, e⟩ := List.mem_iff_getElem.1 hm
      exact h0 j m (by omega) (by rw [List.getElem?_eq_getElem hj, e])
    unfold idxL
    rw [this]
    exact ⟨rfl, S.toBelow⟩
theorem contSpn {f : FuncId} {cap : List Value} {P : Spn → Bool} {r : SV} {ms : List Spn} {w : World} (hck : callOk Try.prog f = true) (hr : ListAt spnK w (Lt w.heap.size) r ms) (hn : ms.length ≤ 1000)
    (hc : ∀ m, m ∈ ms → ∀ w', Below w.heap.size w w' → Calls Try.prog f ([] ++ [spnV m] ++ cap).toArray w' fun e w'' => e = .returned (.bool (P m)) ∧ Below w'.heap.size w' w'') :
    Calls Try.prog 31 #[svV r, .func (.func f) #[] cap.toArray] w fun e w' => e = .returned (.bool (ms.any P)) ∧ Below w.heap.size w w' := by
  obtain ⟨A, n, c⟩ := r
  simp only [svV]
  refine enter Try.func31 rfl Try.ntmps31 rfl ?_; simp only [frame, Nat.zero_add, Nat.reduceAdd]
  repeat (first | (refine M0 ?_; first | refine SL ?_ | refine SB fun _ _ => ?_ | refine Y4 (Ev.call (f := 44) (ck rfl) rfl (fun w5 S5 => (idxSpn (f := f) (cap := cap) (P := P) (r := ⟨A, n, c⟩) (ms := ms) hck (hr.arg S5) hn (fun m hm w' hb => hc m hm w' (S5.toBelow.trans (hb.mono S5.size))) :))) ?_) | (refine M1 ?_; first | refine SC ?_ | refine SD ?_) | (refine M2 ?_; refine SE ?_) | (refine M3 ?_; first | refine SG ?_ | refine SF ?_ | refine YF (Ev.call (f := 44) (ck rfl) rfl (fun w5 S5 => (idxSpn (f := f) (cap := cap) (P := P) (r := ⟨A, n, c⟩) (ms := ms) hck (hr.arg S5) hn (fun m hm w' hb => hc m hm w' (S5.toBelow.trans (hb.mono S5.size))) :))) ?_) | (refine M4 ?_; refine SR ?_) | (refine M5 ?_; first | exact M7 | refine YM ?_ | refine YN ?_ ?_))
  refine XE.retg tok Try.results31 rfl (by simp only [and_self, and_true]) (fun w' S => ?_)
  exact ⟨by rw [idxL_any]; rfl, S.toBelow⟩
theorem win1_any (x : Spn) (w : World) : Calls Try.prog 32 ([] ++ [spnV x] ++ [] : List Value).toArray w fun e w' => e = .returned (.bool (decide (x.hi < x.lo))) ∧ Below w.heap.size w w' := by
  simp only [List.nil_append, List.append_nil, spnV, spnC]
  refine enter Try.func32 rfl Try.ntmps32 rfl ?_; simp only [frame, Nat.zero_add, Nat.reduceAdd]
  repeat (first | (refine M0 ?_; first | refine SL ?_ | refine SB fun _ _ => ?_) | (refine M1 ?_; first | refine SC ?_ | refine SD ?_) | (refine M2 ?_; refine SE ?_) | (refine M3 ?_; first | refine SG ?_ | refine SF ?_) | (refine M4 ?_; refine SR ?_) | (refine M5 ?_; first | exact M7 | refine YM ?_ | refine YN ?_ ?_))
  refine XE.retg tok Try.results32 rfl (by simp only [and_self, and_true]) (fun w' S => ?_)
  exact ⟨rfl, S.toBelow⟩
theorem win_err {lv : Int} {l : List Spn} {e : Int} (h : winE lv l = e) (h0 : e ≠ 0) {w w' : World} (hB : Below w.heap.size w w') : Made w (WinV lv l) (.returned (.tuple ⟨[.slice none 0 0, .slice none 0 0, .int .i64 e]⟩)) w' :=
  ⟨_, _, rfl, ⟨⟨none, 0, 0⟩, ⟨none, 0, 0⟩, by rw [h]; rfl, rfl⟩, fun x hx => by
    rw [h, if_neg h0, if_neg h0] at hx
    rcases List.mem_cons.1 hx with rfl | hx
    · exact IntsAt.nil
    · rw [List.mem_singleton.1 hx]; exact IntsAt.nil, hB⟩
/-- how far the windows were told. -/
structure WSt where
  k : Nat
  W : World
  q1 : SV
  q2 : SV
structure WInv (w : World) (lv : Int) (l : List Spn) (z : WSt) : Prop where
  le : z.k ≤ l.length
  bel : Below w.heap.size w z.W
  fam : Fam z.W w.heap.size [] [⟨Int, winK, svV z.q1, winS lv l z.k⟩, ⟨Int, winK, svV z.q2, winP lv l z.k⟩] []
theorem win_ok {w W w' : World} {lv : Int} {l : List Spn} {q1 q2 : SV} (h : winE lv l = 0) (S : Sys w.heap.size W [] w') (hB : Below w.heap.size w W) (hF : Fam W w.heap.size [] [⟨Int, winK, svV q1, winS lv l l.length⟩, ⟨Int, winK, svV q2, winP lv l l.length⟩] []) :
    Made w (WinV lv l) (.returned (.tuple ⟨[svV q1, svV q2, .int .i64 0]⟩)) w' := by
  have F9 := (Fam.freeze (Fam.freeze hF)).sys S (fun e he => by cases he)
  refine ⟨_, _, rfl, ⟨q1, q2, by rw [h], rfl⟩, fun x hx => ?_, hB.trans S.toBelow⟩
  rw [h, if_pos rfl, if_pos rfl] at hx
  rcases List.mem_cons.1 hx with rfl | hx
  · exact winInts (F9.get (x := hList winK q1 (winS lv l l.length)) (.tail _ (.head _)))
  · rw [List.mem_singleton.1 hx]; exact winInts (F9.get (x := hList winK q2 (winP lv l l.length)) (.head _))
set_option maxHeartbeats 8000000 in
theorem Windows_made {r : SV} {l : List Spn} {lv : Int} {w : World} (hl : ListAt spnK w (Lt w.heap.size) r l) : Calls Try.prog 10 #[svV r, .int .i64 lv] w (Made w (WinV lv l)) := by
  have hcont := fun {L : Lo} (w5 : World) (S5 : Sys w.heap.size w L w5) (hn : l.length ≤ 1000) => contSpn (f := 32) (cap := []) (P := fun x => decide (x.hi < x.lo)) (ck rfl) (hl.arg S5) hn (fun m _ w' _ => win1_any m w')
  obtain ⟨A, n, c⟩ := r
  have hln := hl.len (by decide)
  have hmx := hl.max
  simp only at hln hmx
  subst hln
  simp only [svV] at hcont ⊢
  have hE : winE lv l = if 400 < l.length then 3 else if spnBad l = true then 2 else if outB lv (-20000) 20000 = true then 7 else 0 := rfl
  refine enter Try.func10 rfl Try.ntmps10 rfl ?_; simp only [frame, Nat.zero_add, Nat.reduceAdd]
  repeat (first | (refine M0 ?_; first | refine SL ?_ | refine SB fun _ _ => ?_) | (refine M1 ?_; refine SC ?_) | (refine M2 ?_; refine SE ?_))
  refine XC.cond _ rfl (fun h1 => ?_) (fun h1 => ?_)
  · have h1' : 400 < l.length := by have := of_decide_eq_true h1; omega
    repeat (first | (refine M0 ?_; first | refine SL ?_ | refine SB fun _ _ => ?_) | (refine M1 ?_; refine SC ?_) | (refine M2 ?_; refine SE ?_))
    refine XE.retg tok Try.results10 rfl (by simp only [and_self, and_true]) (fun w' S => ?_)
    exact win_err (by rw [hE, if_pos h1']) (by decide) S.toBelow
  have h1' : ¬ 400 < l.length := by have := of_decide_eq_false h1; omega
  rw [if_neg h1'] at hE
  repeat (first | (refine M0 ?_; first | refine SL ?_ | refine SB fun _ _ => ?_ | refine Y4 (Ev.call (f := 31) (ck rfl) rfl (fun w5 S5 => hcont w5 S5 (by omega))) ?_) | (refine M1 ?_; refine SC ?_) | (refine M2 ?_; refine SE ?_))
  refine XC.cond _ rfl (fun h2 => ?_) (fun h2 => ?_)
  · repeat (first | (refine M0 ?_; first | refine SL ?_ | refine SB fun _ _ => ?_) | (refine M1 ?_; refine SC ?_) | (refine M2 ?_; refine SE ?_))
    refine XE.retg tok Try.results10 rfl (by simp only [and_self, and_true]) (fun w' S => ?_)
    exact win_err (by rw [hE, if_pos (show spnBad l = true from h2)]) (by decide) S.toBelow
  have h2' : spnBad l = false := h2
  rw [if_neg (by simp [h2'])] at hE
  cases h3 : outB lv (-20000) 20000 with
  | true =>
    rw [h3, if_pos rfl] at hE
    repeat (first | (refine M0 ?_; first | refine SL ?_ | refine SB fun _ _ => ?_ | refine Y4 (Ev.call (f := 24) (ck rfl) rfl (fun w5 S5 => outP h3 w5)) ?_) | (refine M1 ?_; refine SC ?_) | (refine M2 ?_; refine SE ?_))
    refine XE.retg tok Try.results10 rfl (by simp only [and_self, and_true]) (fun w' S => ?_)
    exact win_err hE (by decide) S.toBelow
  | false =>
  rw [h3, if_neg (by decide)] at hE
  repeat (first | (refine M0 ?_; first | refine SL ?_ | refine SB fun _ _ => ?_ | refine Y4 (Ev.call (f := 24) (ck rfl) rfl (fun w5 S5 => outP h3 w5)) ?_) | (refine M1 ?_; refine SC ?_) | (refine M2 ?_; refine SE ?_))
  have F0 : Fam w w.heap.size [] [⟨Int, winK, svV ⟨none, 0, 0⟩, winS lv l 0⟩, ⟨Int, winK, svV ⟨none, 0, 0⟩, winP lv l 0⟩] [] := ((Fam.start (Nat.le_refl _)).nil winK).nil winK
  refine XC.loopk [1, 19, 20] rfl (fun z : WSt => [(21, .int .i64 (z.k : Nat)), (4, svV z.q1), (5, svV z.q2)]) (fun _ => []) (fun z => z.W) (WInv w lv l) (fun z => l.length - z.k) ⟨0, w, ⟨none, 0, 0⟩, ⟨none, 0, 0⟩⟩ ⟨Nat.zero_le _, Below.refl _ _, F0⟩ ZZSUB (fun _ h => h) ?_
  rintro ⟨k, W, q1, q2⟩ ⟨hk, hBW, hFW⟩
  simp only at hk hBW hFW
  simp only [svV]
  dsimp only [List.cons_append, List.nil_append]
  repeat (first | (refine M0 ?_; first | refine SL ?_ | refine SB fun _ _ => ?_) | (refine M1 ?_; refine SC ?_) | (refine M2 ?_; refine SE ?_))
  refine XC.cond _ rfl (fun h4 => ?_) (fun h4 => ?_)
  rotate_left
  · have hkn : k = l.length := by have := of_decide_eq_false h4; omega
    subst hkn
    repeat (first | (refine M0 ?_; first | refine SL ?_ | refine SB fun _ _ => ?_) | (refine M1 ?_; refine SC ?_) | (refine M2 ?_; refine SE ?_))
    refine XE.retg tok Try.results10 rfl (by simp only [and_self, and_true]) (fun w' S => ?_)
    exact win_ok hE S hBW hFW
  have hkn : k < l.length := by have := of_decide_eq_true h4; omega
  obtain ⟨ad, rfl, hlt⟩ := hl.addr (by decide) (by omega)
  have hel := hl.elem (spn_at hkn)
  have hel' : ∀ j u, ([.int .i64 (spn l k).lo, .int .i64 (spn l k).hi] : List Value)[j]? = some u → W.cell? ((ad.add (k * 2)).add j) = some u := fun j u hj => (below_cell hBW (add_lt2 hlt)).trans (hel j u hj)
  have hl1 := winS_len lv l k
  have hl2 := winP_len lv l k
  repeat (first | (refine M0 ?_; first | refine SL ?_ | refine SB fun _ _ => ?_ | refine Y4 (Ev.load_old_agg tok [.int .i64 (spn l k).lo, .int .i64 (spn l k).hi] rfl rfl rfl (add_lt hlt) hel') ?_) | (refine M1 ?_; refine SC ?_) | (refine M2 ?_; refine SE ?_))
  have hk0 : ∀ x, x ∈ ([] : List Nat) → x < W.heap.size := fun x hx => by cases hx
  by_cases a1 : (spn l k).lo < lv
  · rw [show decide ((spn l k).lo < lv) = true from decide_eq_true a1]
    repeat (first | (refine M0 ?_; first | refine SL ?_ | refine SB fun _ _ => ?_ | refine XL.buildSlice tok rfl rfl rfl rfl rfl rfl rfl rfl rfl (fun _ _ => ?_)) | (refine M1 ?_; refine SC ?_) | (refine M2 ?_; refine SE ?_))
    refine XL.push (K := winK) (a := (k : Int)) (wE := w) 1 ints_el6 (by decide) rfl rfl rfl hFW rfl hk0 hBW (Nat.le_refl _) rfl (by omega) (by decide) (fun x hx => by cases hx) (fun w3 v3 hF3 hB3 hk3 => ?_)
    obtain ⟨r3, rfl, _⟩ := hF3.sv (K := winK) (l := winP lv l k ++ [(k : Int)]) (.tail _ (.head _))
    simp only [svV]
    by_cases a2 : (spn l k).hi < lv
    · repeat (first | (refine M0 ?_; first | refine SL ?_ | refine SB fun _ _ => ?_) | (refine M1 ?_; refine SC ?_) | (refine M2 ?_; refine SE ?_))
      rw [show decide ((spn l k).hi < lv) = true from decide_eq_true a2]
      repeat (first | (refine M0 ?_; first | refine SL ?_ | refine SB fun _ _ => ?_ | refine XL.buildSlice tok rfl rfl rfl rfl rfl rfl rfl rfl rfl (fun _ _ => ?_)) | (refine M1 ?_; refine SC ?_) | (refine M2 ?_; refine SE ?_))
      refine XL.push (K := winK) (a := (k : Int)) (wE := w) 0 ints_el6 (by decide) rfl rfl rfl hF3 rfl hk3 hB3 (Nat.le_refl _) rfl (by omega) (by decide) (fun x hx => by cases hx) (fun w4 v4 hF4 hB4 hk4 => ?_)
      obtain ⟨r4, rfl, _⟩ := hF4.sv (K := winK) (l := winS lv l k ++ [(k : Int)]) (.head _)
      simp only [svV]
      repeat (first | (refine M0 ?_; first | refine SL ?_ | refine SB fun _ _ => ?_) | (refine M1 ?_; refine SC ?_) | (refine M2 ?_; refine SE ?_))
      refine XE.roundW (s := WSt.mk k W q1 q2) (fun w6 S6 => ⟨WSt.mk (k + 1) w6 r4 r3, ⟨hkn, hB4.trans S6.toBelow, ?_⟩, by simp only; omega, ZZSUB, S6.rebase ZZSL⟩)
      simp only [winP_y a1, winS_y a2]
      exact Fam.add (hF4.sys S6 ZZHL) (fun x hx => by cases hx)
    · repeat (first | (refine M0 ?_; first | refine SL ?_ | refine SB fun _ _ => ?_) | (refine M1 ?_; refine SC ?_) | (refine M2 ?_; refine SE ?_))
      rw [show decide ((spn l k).hi < lv) = false from decide_eq_false a2]
      repeat (first | (refine M0 ?_; first | refine SL ?_ | refine SB fun _ _ => ?_) | (refine M1 ?_; refine SC ?_) | (refine M2 ?_; refine SE ?_))
      refine XE.roundW (s := WSt.mk k W q1 q2) (fun w6 S6 => ⟨WSt.mk (k + 1) w6 q1 r3, ⟨hkn, hB3.trans S6.toBelow, ?_⟩, by simp only; omega, ZZSUB, S6.rebase ZZSL⟩)
      simp only [winP_y a1, winS_n a2]
      exact Fam.add (hF3.sys S6 ZZHL) (fun x hx => by cases hx)
  · rw [show decide ((spn l k).lo < lv) = false from decide_eq_false a1]
    by_cases a2 : (spn l k).hi < lv
    · repeat (first | (refine M0 ?_; first | refine SL ?_ | refine SB fun _ _ => ?_) | (refine M1 ?_; refine SC ?_) | (refine M2 ?_; refine SE ?_))
      rw [show decide ((spn l k).hi < lv) = true from decide_eq_true a2]
      repeat (first | (refine M0 ?_; first | refine SL ?_ | refine SB fun _ _ => ?_ | refine XL.buildSlice tok rfl rfl rfl rfl rfl rfl rfl rfl rfl (fun _ _ => ?_)) | (refine M1 ?_; refine SC ?_) | (refine M2 ?_; refine SE ?_))
      refine XL.push (K := winK) (a := (k : Int)) (wE := w) 0 ints_el6 (by decide) rfl rfl rfl hFW rfl hk0 hBW (Nat.le_refl _) rfl (by omega) (by decide) (fun x hx => by cases hx) (fun w4 v4 hF4 hB4 hk4 => ?_)
      obtain ⟨r4, rfl, _⟩ := hF4.sv (K := winK) (l := winS lv l k ++ [(k : Int)]) (.head _)
      simp only [svV]
      repeat (first | (refine M0 ?_; first | refine SL ?_ | refine SB fun _ _ => ?_) | (refine M1 ?_; refine SC ?_) | (refine M2 ?_; refine SE ?_))
      refine XE.roundW (s := WSt.mk k W q1 q2) (fun w6 S6 => ⟨WSt.mk (k + 1) w6 r4 q2, ⟨hkn, hB4.trans S6.toBelow, ?_⟩, by simp only; omega, ZZSUB, S6.rebase ZZSL⟩)
      simp only [winP_n a1, winS_y a2]
      exact Fam.add (hF4.sys S6 ZZHL) (fun x hx => by cases hx)
    · repeat (first | (refine M0 ?_; first | refine SL ?_ | refine SB fun _ _ => ?_) | (refine M1 ?_; refine SC ?_) | (refine M2 ?_; refine SE ?_))
      rw [show decide ((spn l k).hi < lv) = false from decide_eq_false a2]
      repeat (first | (refine M0 ?_; first | refine SL ?_ | refine SB fun _ _ => ?_) | (refine M1 ?_; refine SC ?_) | (refine M2 ?_; refine SE ?_))
      refine XE.roundW (s := WSt.mk k W q1 q2) (fun w6 S6 => ⟨WSt.mk (k + 1) w6 q1 q2, ⟨hkn, hBW.trans S6.toBelow, ?_⟩, by simp only; omega, ZZSUB, S6.rebase ZZSL⟩)
      simp only [winP_n a1, winS_n a2]
      exact Fam.add (hFW.sys S6 ZZHL) (fun x hx => by cases hx)
end Go.Proofs.Ytlfjdbilblfknaa.X
/-
  The walks of asked and Use (runoff).
-/
namespace Go.Proofs.Ytlfjdbilblfknaa.Bs
open Go.Proofs.Ytlfjdbilblfknaa.X
noncomputable def askE7 (t : RTk) (s : Sta) (i : Int) (n : Nat) : Int := if rtE t ≠ 0 then rtE t else if staErr t.b s ≠ 0 then staErr t.b s else if outB i 0 ((t.outer.length : Int) - 1) = true then 4 else if n ≠ t.m then 2 else 0
/-- the error of Use; what runs off, and the energy. -/
noncomputable def useE (t : RTk) (s : Sta) (i : Int) (b f : List Bool) : Int := if askE7 t s i b.length ≠ 0 then askE7 t s i b.length else if f.length ≠ t.m then 2 else match t.use s.vol i.toNat b f with
  | none => 170
  | some _ => 0
noncomputable def useN (t : RTk) (s : Sta) (i : Int) (b f : List Bool) : Int × Int := if useE t s i b f = 0 then (t.use s.vol i.toNat b f).getD (0, 0) else (0, 0)
theorem askE_0 {t : RTk} {s : Sta} {i : Int} {n : Nat} (h : askE7 t s i n = 0) : rtE t = 0 ∧ StaOk t.b s ∧ (0 ≤ i ∧ i < t.outer.length) ∧ n = t.m := by
  unfold askE7 at h
  split at h
  · rename_i h1; exact absurd h h1
  rename_i h1
  split at h
  · rename_i h2; exact absurd h h2
  rename_i h2
  split at h
  · cases h
  rename_i h3
  split at h
  · cases h
  rename_i h4
  have h3' := outB_f.1 (Bool.not_eq_true _ ▸ h3)
  exact ⟨by simpa using h1, (staOk_of (by simpa using h2)).2, by omega, by simpa using h4⟩
end Go.Proofs.Ytlfjdbilblfknaa.Bs
namespace Go.Proofs.Ytlfjdbilblfknaa.X
open Go Go.RowKit Go.Proofs.Ytlfjdbilblfknaa.Bs
set_option linter.unusedVariables false
theorem far27 {g a b : Nat} {x y : Obj} (h1 : g ≠ a) (h2 : g ≠ b) : ∀ e, e ∈ [(a, x), (b, y)] → e.1 ≠ g := fun e he => by
  rcases List.mem_cons.1 he with rfl | he
  · exact fun e => h1 e.symm
  · rw [List.mem_singleton.1 he]; exact fun e => h2 e.symm
def AskV (v : RTV) (t : RTk) (s : Sta) (i : Int) (n : Nat) (x : Value) (new : List Held) : Prop :=
  (askE7 t s i n ≠ 0 ∧ x = .tuple ⟨[.pointer none, .int .i64 (askE7 t s i n)]⟩ ∧ new = []) ∨
  (askE7 t s i n = 0 ∧ ∃ (g gt gm : Nat) (r : SV), x = .tuple ⟨[.pointer (some ⟨g, 0, none⟩), .int .i64 0]⟩ ∧ new = [hPln g gt gm v r t])
theorem ask_no {v : RTV} {t : RTk} {s : Sta} {i : Int} {n : Nat} {e : Int} (h : askE7 t s i n = e) (h0 : e ≠ 0) {w w' : World} (hB : Below w.heap.size w w') : Made w (AskV v t s i n) (.returned (.tuple ⟨[.pointer none, .int .i64 e]⟩)) w' :=
  ⟨_, [], rfl, .inl ⟨by rw [h]; exact h0, by rw [h], rfl⟩, fun x hx => (by cases hx), hB⟩
set_option maxHeartbeats 8000000 in
theorem asked_made {v : RTV} {t : RTk} {sq p : SV} {s : Sta} {i : Int} {n : Nat} {w : World} (ht : TskAt w w.heap.size v t) (hn : t.slu.length + t.pmp.length ≤ 5000000) (hq : IntsAt w (Lt w.heap.size) sq s.fil) (hpn : p.n = n) :
    Calls Try.prog 33 #[tskV v t, staV sq s, .int .i64 i, svV p] w (Made w (AskV v t s i n)) := by
  have hbeg := fun (w5 : World) (hB : Below w.heap.size w w5) => begin_made (v := v) (t := t) (w := w5) (ht.sys (Sys.ofBelow hB)) hn
  have hsta := fun (w5 : World) (hB : Below w.heap.size w w5) => checkState_any (p := v.p) (b := t.b) (q := sq) (s := s) (w := w5) (ht.sys (Sys.ofBelow hB)).bas ((hq.keep fun k hk => hB.block k hk).mono fun k hk => Nat.lt_of_lt_of_le hk hB.size)
  have lo := ht.outer.len
  have mo := ht.outer.max
  have hE : askE7 t s i n = if rtE t ≠ 0 then rtE t else if staErr t.b s ≠ 0 then staErr t.b s else if outB i 0 ((t.outer.length : Int) - 1) = true then 4 else if n ≠ t.m then 2 else 0 := rfl
  obtain ⟨Ap, np, cp⟩ := p
  simp only at hpn
  subst hpn
  simp only [tskV, tskC, svV, staV, staC, basV, basC] at hbeg hsta ⊢
  refine enter Try.func33 rfl Try.ntmps33 rfl ?_; simp only [frame, Nat.zero_add, Nat.reduceAdd]
  repeat (first | (refine M0 ?_; first | refine SL ?_ | refine SB fun _ _ => ?_) | (refine M1 ?_; refine SC ?_) | (refine M2 ?_; refine SE ?_))
  rename_i g4 hg4 g5 hg5
  refine XL.rebase (List.Sublist.refl _) (fun W0 S0 => ?_)
  refine XL.callF (ks := [g5, g4]) (rs := []) (hs := []) (b0 := w.heap.size) (wE := w) (BegV v t) (ck rfl) rfl rfl (Fam.start S0.size) (fun k hk => S0.keyLt k hk) S0.toBelow (fun w1 S1 _ hB1 => hbeg w1 hB1) (fun w2 x new hR hF2 hB2 hk2 => ?_) ZZHL
  rcases hR with ⟨h0, rfl, rfl⟩ | ⟨h0, g, gt, gm, r, rfl, rfl⟩
  · rw [if_pos h0] at hE
    repeat (first | (refine M0 ?_; first | refine SL ?_ | refine SB fun _ _ => ?_) | (refine M1 ?_; refine SC ?_) | (refine M2 ?_; refine SE ?_))
    rw [show decide (rtE t = 0) = false from decide_eq_false h0]
    repeat (first | (refine M0 ?_; first | refine SL ?_ | refine SB fun _ _ => ?_) | (refine M1 ?_; refine SC ?_) | (refine M2 ?_; refine SE ?_))
    rw [show decide (rtE t ≠ 0) = true from decide_eq_true h0]
    repeat (first | (refine M0 ?_; first | refine SL ?_ | refine SB fun _ _ => ?_) | (refine M1 ?_; refine SC ?_) | (refine M2 ?_; refine SE ?_))
    refine XE.retg tok Try.results33 rfl (by simp only [and_self, and_true]) (fun w' S => ?_)
    exact ask_no hE h0 (hB2.trans S.toBelow)
  rw [if_neg (by simp [h0])] at hE
  repeat (first | (refine M0 ?_; first | refine SL ?_ | refine SB fun _ _ => ?_ | refine Y4 (Ev.call (f := 23) (ck rfl) rfl (fun w5 S5 => hsta w5 (hB2.trans S5.toBelow))) ?_) | (refine M1 ?_; refine SC ?_) | (refine M2 ?_; refine SE ?_))
  by_cases h1 : staErr t.b s = 0
  rotate_left
  · rw [if_pos h1] at hE
    rw [show decide (staErr t.b s ≠ 0) = true from decide_eq_true h1]
    repeat (first | (refine M0 ?_; first | refine SL ?_ | refine SB fun _ _ => ?_) | (refine M1 ?_; refine SC ?_) | (refine M2 ?_; refine SE ?_))
    refine XE.retg tok Try.results33 rfl (by simp only [and_self, and_true]) (fun w' S => ?_)
    exact ask_no hE h1 (hB2.trans S.toBelow)
  rw [if_neg (by simp [h1])] at hE
  rw [show decide (staErr t.b s ≠ 0) = false from decide_eq_false (fun h => h h1)]
  cases h2 : outB i 0 ((t.outer.length : Int) - 1) with
  | true =>
    rw [h2, if_pos rfl] at hE
    rw [← lo] at h2
    repeat (first | (refine M0 ?_; first | refine SL ?_ | refine SB fun _ _ => ?_ | refine Y4 (Ev.call (f := 24) (ck rfl) rfl (fun w5 S5 => outP h2 w5)) ?_) | (refine M1 ?_; refine SC ?_) | (refine M2 ?_; refine SE ?_))
    refine XE.retg tok Try.results33 rfl (by simp only [and_self, and_true]) (fun w' S => ?_)
    exact ask_no hE (by decide) (hB2.trans S.toBelow)
  | false =>
  rw [h2, if_neg (by decide)] at hE
  rw [← lo] at h2
  have hp2 : Pln0 w2 _ g gt gm v r t := hF2.held (hPln g gt gm v r t) (.head _)
  obtain ⟨hlg, hc⟩ := plnCell hp2.p
  have hn15 : r.n = t.m := hp2.p.all.len (by decide)
  have c15 : w2.cell? ⟨g, 15, none⟩ = some (.slice r.A r.n r.c) := hc 15 _ rfl
  have hge := hp2.p.kg.1
  have hg5' : g ≠ g5 := fun e => hge.2.2.1 (by rw [e]; simp)
  have hg4' : g ≠ g4 := fun e => hge.2.2.1 (by rw [e]; simp)
  repeat (first | (refine M0 ?_; first | refine SL ?_ | refine SB fun _ _ => ?_ | refine Y4 (Ev.call (f := 24) (ck rfl) rfl (fun w5 S5 => outP h2 w5)) ?_ | refine Y4 (Ev.load_far tok rfl rfl hlg (far27 hg5' hg4') c15) ?_) | (refine M1 ?_; refine SC ?_) | (refine M2 ?_; refine SE ?_))
  refine XC.cond _ rfl (fun h3 => ?_) (fun h3 => ?_)
  · have h3' : np ≠ t.m := by have := of_decide_eq_true h3; omega
    rw [if_pos h3'] at hE
    repeat (first | (refine M0 ?_; first | refine SL ?_ | refine SB fun _ _ => ?_) | (refine M1 ?_; refine SC ?_) | (refine M2 ?_; refine SE ?_))
    refine XE.retg tok Try.results33 rfl (by simp only [and_self, and_true]) (fun w' S => ?_)
    exact ask_no hE (by decide) (hB2.trans S.toBelow)
  have h3' : np = t.m := by have := of_decide_eq_false h3; omega
  rw [if_neg (by simp [h3'])] at hE
  repeat (first | (refine M0 ?_; first | refine SL ?_ | refine SB fun _ _ => ?_) | (refine M1 ?_; refine SC ?_) | (refine M2 ?_; refine SE ?_))
  refine XE.retg tok Try.results33 rfl (by simp only [and_self, and_true]) (fun w' S => ?_)
  refine ⟨_, _, rfl, .inr ⟨hE, g, gt, gm, r, rfl, rfl⟩, fun x hx => ?_, hB2.trans S.toBelow⟩
  rw [List.mem_singleton.1 hx]
  exact (hF2.sys S ZZHL).get (.head _)
set_option maxHeartbeats 8000000 in
theorem Use_any {v : RTV} {t : RTk} {sq p q : SV} {s : Sta} {i : Int} {b f : List Bool} {w : World} (ht : TskAt w w.heap.size v t) (hn : t.slu.length + t.pmp.length ≤ 5000000) (hq : IntsAt w (Lt w.heap.size) sq s.fil) (hb : ListAt boolK w (Lt w.heap.size) p b) (hf : ListAt boolK w (Lt w.heap.size) q f) :
    Calls Try.prog 12 #[tskV v t, staV sq s, .int .i64 i, svV p, svV q] w fun e w' => e = .returned (.tuple ⟨[.int .i64 (useN t s i b f).1, .int .i64 (useN t s i b f).2, .int .i64 (useE t s i b f)]⟩) ∧ Below w.heap.size w w' := by
  have hpn := hb.len (by decide)
  have hqn := hf.len (by decide)
  have hask := fun (w5 : World) (hB : Below w.heap.size w w5) => asked_made (v := v) (t := t) (w := w5) (sq := sq) (s := s) (i := i) (p := p) (n := b.length) (ht.sys (Sys.ofBelow hB)) hn ((hq.keep fun k hk => hB.block k hk).mono fun k hk => Nat.lt_of_lt_of_le hk hB.size) hpn
  have huse := fun (w5 : World) (hB : Below w.heap.size w w5) {g gt gm : Nat} {r : SV} (h0 : RtOk t) (hp : PlnAt w5 (Lt w5.heap.size) g gt gm v r t) (hx : (t.b.row 0).vol ≤ s.vol ∧ s.vol ≤ 1000000000) {j : Nat} (hj : j < t.outer.length) (h1 : b.length = t.devs.length) (h2 : f.length = t.devs.length) => use_any (x := s.vol) (i := j) hp (ht.sys (Sys.ofBelow hB)) h0 hx hj ((hb.keep fun k hk => hB.block k hk).mono fun k hk => Nat.lt_of_lt_of_le hk hB.size) h1 ((hf.keep fun k hk => hB.block k hk).mono fun k hk => Nat.lt_of_lt_of_le hk hB.size) h2
  have hE : useE t s i b f = if askE7 t s i b.length ≠ 0 then askE7 t s i b.length else if f.length ≠ t.m then 2 else match t.use s.vol i.toNat b f with
    | none => 170
    | some _ => 0 := rfl
  have hN : useN t s i b f = if useE t s i b f = 0 then (t.use s.vol i.toNat b f).getD (0, 0) else (0, 0) := rfl
  obtain ⟨Ap, np, cp⟩ := p
  obtain ⟨Aq, nq, cq⟩ := q
  simp only at hpn hqn
  subst hpn hqn
  simp only [tskV, tskC, svV, staV, staC] at hask huse ⊢
  refine enter Try.func12 rfl Try.ntmps12 rfl ?_; simp only [frame, Nat.zero_add, Nat.reduceAdd]
  repeat (first | (refine M0 ?_; first | refine SL ?_ | refine SB fun _ _ => ?_) | (refine M1 ?_; refine SC ?_) | (refine M2 ?_; refine SE ?_))
  rename_i g5 hg5 g6 hg6
  refine XL.rebase (List.Sublist.refl _) (fun W0 S0 => ?_)
  refine XL.callF (ks := [g6, g5]) (rs := []) (hs := []) (b0 := w.heap.size) (wE := w) (AskV v t s i b.length) (ck rfl) rfl rfl (Fam.start S0.size) (fun k hk => S0.keyLt k hk) S0.toBelow (fun w1 S1 _ hB1 => hask w1 hB1) (fun w2 x new hR hF2 hB2 hk2 => ?_) ZZHL
  rcases hR with ⟨h0, rfl, rfl⟩ | ⟨h0, g, gt, gm, r, rfl, rfl⟩
  · rw [if_pos h0] at hE
    rw [if_neg (by rw [hE]; exact h0)] at hN
    repeat (first | (refine M0 ?_; first | refine SL ?_ | refine SB fun _ _ => ?_) | (refine M1 ?_; refine SC ?_) | (refine M2 ?_; refine SE ?_))
    refine XC.cond _ rfl (fun h1 => ?_) (fun h1 => absurd (by simpa using h1) h0)
    repeat (first | (refine M0 ?_; first | refine SL ?_ | refine SB fun _ _ => ?_) | (refine M1 ?_; refine SC ?_) | (refine M2 ?_; refine SE ?_))
    refine XE.retg tok Try.results12 rfl (by simp only [and_self, and_true]) (fun w' S => ?_)
    rw [hN, hE]
    exact ⟨rfl, hB2.trans S.toBelow⟩
  rw [if_neg (by simp [h0])] at hE
  obtain ⟨hr0, hst, hi, hbl⟩ := askE_0 h0
  have ho := rtOk_of hr0
  have hp2 : Pln0 w2 _ g gt gm v r t := hF2.held (hPln g gt gm v r t) (.head _)
  obtain ⟨hlg, hc⟩ := plnCell hp2.p
  have hn15 : r.n = t.m := hp2.p.all.len (by decide)
  have c15 : w2.cell? ⟨g, 15, none⟩ = some (.slice r.A r.n r.c) := hc 15 _ rfl
  have hge := hp2.p.kg.1
  have hg5' : g ≠ g6 := fun e => hge.2.2.1 (by rw [e]; simp)
  have hg4' : g ≠ g5 := fun e => hge.2.2.1 (by rw [e]; simp)
  repeat (first | (refine M0 ?_; first | refine SL ?_ | refine SB fun _ _ => ?_ | refine Y4 (Ev.load_far tok rfl rfl hlg (far27 hg5' hg4') c15) ?_) | (refine M1 ?_; refine SC ?_) | (refine M2 ?_; refine SE ?_))
  refine XC.cond _ rfl (fun h1 => ?_) (fun h1 => ?_)
  · have h1' : f.length ≠ t.m := by have := of_decide_eq_true h1; omega
    rw [if_pos h1'] at hE
    rw [if_neg (by rw [hE]; decide)] at hN
    repeat (first | (refine M0 ?_; first | refine SL ?_ | refine SB fun _ _ => ?_) | (refine M1 ?_; refine SC ?_) | (refine M2 ?_; refine SE ?_))
    refine XE.retg tok Try.results12 rfl (by simp only [and_self, and_true]) (fun w' S => ?_)
    rw [hN, hE]
    exact ⟨rfl, hB2.trans S.toBelow⟩
  have h1' : f.length = t.m := by have := of_decide_eq_false h1; omega
  rw [if_neg (by simp [h1'])] at hE
  obtain ⟨j, rfl⟩ : ∃ j : Nat, i = j := ⟨i.toNat, by omega⟩
  have hj : j < t.outer.length := by omega
  rw [Int.toNat_natCast] at hE hN
  have hu := fun {L : Lo} (w5 : World) (S5 : Sys w.heap.size w2 L w5) (hL5 : ∀ e, e ∈ L → e.1 ∈ [g6, g5] ∨ w2.heap.size ≤ e.1) => huse w5 (hB2.trans S5.toBelow) (r := r) ho (((hF2.sys S5 (fun e he => (hL5 e he).imp (fun h => List.mem_append_right _ h) id)).get (x := hPln g gt gm v r t) (.head _)).p.mono fun k hk => hk.1.2) hst.vol hj hbl h1'
  repeat (first | (refine M0 ?_; first | refine SL ?_ | refine SB fun _ _ => ?_) | (refine M1 ?_; refine SC ?_) | (refine M2 ?_; refine SE ?_))
  refine XL.step _ (Ev.call (f := 34) (ck rfl) rfl (fun w5 S5 => hu w5 S5 ZZHL)) rfl ?_
  cases hU : t.use s.vol j b f with
  | none =>
    rw [hU] at hE
    simp only at hE
    rw [if_neg (by rw [hE]; decide)] at hN
    simp only [useV]
    repeat (first | (refine M0 ?_; first | refine SL ?_ | refine SB fun _ _ => ?_) | (refine M1 ?_; refine SC ?_) | (refine M2 ?_; refine SE ?_))
    refine XE.retg tok Try.results12 rfl (by simp only [and_self, and_true]) (fun w' S => ?_)
    rw [hN, hE]
    exact ⟨rfl, hB2.trans S.toBelow⟩
  | some y =>
    rw [hU] at hE hN
    simp only at hE
    rw [if_pos hE] at hN
    simp only [useV]
    repeat (first | (refine M0 ?_; first | refine SL ?_ | refine SB fun _ _ => ?_) | (refine M1 ?_; refine SC ?_) | (refine M2 ?_; refine SE ?_))
    refine XE.retg tok Try.results12 rfl (by simp only [and_self, and_true]) (fun w' S => ?_)
    rw [hN, hE]
    exact ⟨rfl, hB2.trans S.toBelow⟩
end Go.Proofs.Ytlfjdbilblfknaa.X
/-
  The walk of Cheapest (runoff).
-/
namespace Go.Proofs.Ytlfjdbilblfknaa.Bs
open Go.Proofs.Ytlfjdbilblfknaa.X
/-- a choice and its energy. -/
abbrev Ch := Option (Int × List Bool)
def chE (x : Ch) : Int := (x.map (·.1)).getD 0
def chL (x : Ch) : List Bool := (x.map (·.2)).getD []
def cheU (ls : Int) (best : Ch) (u : Option (Int × Int)) (f : List Bool) : Ch :=
  match u with
  | none => best
  | some y => if ls ≤ y.1 ∧ (best.isSome = true → y.2 < chE best) then some (y.2, f) else best
/-- the cheapest of the first i choices. -/
def cheB (t : RTk) (s : Sta) (j : Nat) (b : List Bool) (ls : Int) : Nat → Ch
  | 0 => none
  | i + 1 => cheU ls (cheB t s j b ls i) (t.use s.vol j b (chc t.m i)) (chc t.m i)
noncomputable def cheE (t : RTk) (s : Sta) (i : Int) (b : List Bool) (ls : Int) : Int := if askE7 t s i b.length ≠ 0 then askE7 t s i b.length else if outB ls 0 10000000 = true then 7 else if (cheB t s i.toNat b ls (2 ^ t.m)).isSome = true then 0 else 9
noncomputable def cheR (t : RTk) (s : Sta) (i : Int) (b : List Bool) (ls : Int) : Ch := if cheE t s i b ls = 0 then cheB t s i.toNat b ls (2 ^ t.m) else none
end Go.Proofs.Ytlfjdbilblfknaa.Bs
namespace Go.Proofs.Ytlfjdbilblfknaa.X
open Go Go.RowKit Go.Proofs.Ytlfjdbilblfknaa.Bs
set_option linter.unusedVariables false
def CheV (t : RTk) (s : Sta) (i : Int) (b : List Bool) (ls : Int) (x : Value) (new : List Held) : Prop := ∃ q : SV, x = .tuple ⟨[svV q, .int .i64 (chE (cheR t s i b ls)), .int .i64 (cheE t s i b ls)]⟩ ∧ new = [hList boolK q (chL (cheR t s i b ls))]
theorem che_no {t : RTk} {s : Sta} {i : Int} {b : List Bool} {ls e : Int} (h : cheE t s i b ls = e) (h0 : e ≠ 0) {w w' : World} (hB : Below w.heap.size w w') : Made w (CheV t s i b ls) (.returned (.tuple ⟨[.slice none 0 0, .int .i64 0, .int .i64 e]⟩)) w' :=
  ⟨_, _, rfl, ⟨⟨none, 0, 0⟩, by unfold cheR; rw [h, if_neg h0]; rfl, rfl⟩, fun x hx => by
    rw [List.mem_singleton.1 hx]; unfold cheR; rw [h, if_neg h0]; exact ListAt.nil, hB⟩
abbrev KC (l D g14 g13 g11 g10 g9 g8 g7 g6 g5 : Nat) : List Nat := [l, D, g14, g13, g11, g10, g9, g8, g7, g6, g5]
abbrev LC (l D g14 g13 g11 g10 g9 g8 g7 g6 g5 : Nat) (r0 : Loop) (o5 : Obj) (g : Nat) (best : Ch) (q p : SV) (ls : Int) (j : Nat) (sq : SV) (s : Sta) : Lo :=
  [(l, .loop r0), (D, .deferred (some [])), (g14, cel 4 [.bool best.isSome]), (g13, cel 71 [.pointer (some ⟨g, 0, none⟩)]), (g11, cel 3 [.int .i64 (chE best)]), (g10, cel 31 [svV q]), (g9, cel 3 [.int .i64 ls]), (g8, cel 31 [svV p]), (g7, cel 3 [.int .i64 (j : Nat)]), (g6, cel 28 (staC sq s)), (g5, o5)]
abbrev oneC (tmps : Array Value) (v : Value) : Array Value := ((#[36] : Array Tmp).zip #[v]).foldl (fun s (p, y) => s.setIfInBounds p y) tmps
theorem LC_key {l D g14 g13 g11 g10 g9 g8 g7 g6 g5 : Nat} {r0 : Loop} {o5 : Obj} {g : Nat} {best : Ch} {q p : SV} {ls : Int} {j : Nat} {sq : SV} {s : Sta} {e : Nat × Obj} (he : e ∈ LC l D g14 g13 g11 g10 g9 g8 g7 g6 g5 r0 o5 g best q p ls j sq s) : e.1 ∈ KC l D g14 g13 g11 g10 g9 g8 g7 g6 g5 := by
  have := List.mem_map_of_mem (f := Prod.fst) he
  exact this
set_option maxHeartbeats 16000000 in
set_option maxRecDepth 10000 in
theorem che_round {l D g14 g13 g11 g10 g9 g8 g7 g6 g5 g gt gm j gn n : Nat} {t : RTk} {v : RTV} {r sq p q : SV} {s : Sta} {before on : List Bool} {best : Ch} {ls : Int} {w W w1 : World} {fn : FuncId} {a : Act} {assign body : Code} {o5 : Obj} {c : Code}
    (ho : RtOk t) (hx : (t.b.row 0).vol ≤ s.vol ∧ s.vol ≤ 1000000000) (hj : j < t.outer.length) (hbl : before.length = t.m) (hon : on.length = t.m)
    (hT : TskAt w w.heap.size v t) (hb : ListAt boolK w (Lt w.heap.size) p before) (hB : Below w.heap.size w W)
    (hF : Fam W w.heap.size (KC l D g14 g13 g11 g10 g9 g8 g7 g6 g5) [] [hList boolK ⟨some ⟨gn, 0, none⟩, t.m, t.m⟩ on, hPln g gt gm v r t, hList boolK q (chL best)]) (hks : ∀ x, x ∈ KC l D g14 g13 g11 g10 g9 g8 g7 g6 g5 → x < W.heap.size)
    (hc : Try.f13.body = some c) (hr : rfOf2 c = some (assign, body))
    (hf : Fits 69 [] [(13, .pointer (some ⟨g13, 0, none⟩)), (6, .pointer (some ⟨g6, 0, none⟩)), (7, .pointer (some ⟨g7, 0, none⟩)), (8, .pointer (some ⟨g8, 0, none⟩)), (9, .pointer (some ⟨g9, 0, none⟩)), (10, .pointer (some ⟨g10, 0, none⟩)), (11, .pointer (some ⟨g11, 0, none⟩)), (14, .pointer (some ⟨g14, 0, none⟩))] a)
    (S : Sys w.heap.size W (LC l D g14 g13 g11 g10 g9 g8 g7 g6 g5 (recO fn a.tmps #[36] assign body D .ready none) o5 g best q p ls j sq s) w1) :
    (Instr.yield l (#[.slice (some ⟨gn, 0, none⟩) t.m t.m] : Array Value)).run Try.prog w1 = .ok (.round l fn (oneC a.tmps (.slice (some ⟨gn, 0, none⟩) t.m t.m)) assign body) w1 ∧
    RoundIn Fence.wide n Try.prog l fn (oneC a.tmps (.slice (some ⟨gn, 0, none⟩) t.m t.m)) assign body w1 fun e1 w' => ∃ u, e1 = .returned u ∧ u = .bool true ∧
      ∃ q', Fam w' w.heap.size (KC l D g14 g13 g11 g10 g9 g8 g7 g6 g5) [] [hPln g gt gm v r t, hList boolK q' (chL (cheU ls best (t.use s.vol j before on) on))] ∧ Sys w.heap.size W (LC l D g14 g13 g11 g10 g9 g8 g7 g6 g5 (recO fn a.tmps #[36] assign body D .ready none) o5 g (cheU ls best (t.use s.vol j before on) on) q' p ls j sq s) w' := by
  have hloop := (S.own _ List.mem_cons_self).2
  obtain ⟨ks, hks1⟩ : ∃ ks, ks = KC l D g14 g13 g11 g10 g9 g8 g7 g6 g5 := ⟨_, rfl⟩
  rw [← hks1] at hF hks ⊢
  have m1 : l ∈ ks := by rw [hks1]; simp
  have m2 : D ∈ ks := by rw [hks1]; simp
  have m3 : g14 ∈ ks := by rw [hks1]; simp
  have m4 : g13 ∈ ks := by rw [hks1]; simp
  have m5 : g11 ∈ ks := by rw [hks1]; simp
  have m6 : g10 ∈ ks := by rw [hks1]; simp
  have m7 : g9 ∈ ks := by rw [hks1]; simp
  have m8 : g8 ∈ ks := by rw [hks1]; simp
  have m9 : g7 ∈ ks := by rw [hks1]; simp
  have m10 : g6 ∈ ks := by rw [hks1]; simp
  have m11 : g5 ∈ ks := by rw [hks1]; simp
  clear hks1
  have hdl := t.devs_len
  have hu := fun {L : Lo} (w5 : World) (S5 : Sys w.heap.size W L w5) (hL5 : ∀ e, e ∈ L → e.1 ∈ ks ∨ W.heap.size ≤ e.1) => use_any (x := s.vol) (i := j) (before := before) (on := on) (p := p) (q := ⟨some ⟨gn, 0, none⟩, t.m, t.m⟩) (((hF.sys S5 hL5).get (x := hPln g gt gm v r t) (.tail _ (.head _))).p.mono fun k hk => hk.1.2) (hT.sys (Sys.ofBelow (hB.trans S5.toBelow))) ho hx hj ((hb.keep fun k hk => (hB.trans S5.toBelow).block k hk).mono fun k hk => Nat.lt_of_lt_of_le hk (hB.trans S5.toBelow).size) hbl (((hF.sys S5 hL5).held (hList boolK ⟨some ⟨gn, 0, none⟩, t.m, t.m⟩ on) (.head _)).mono fun j hj => hj.2.1) hon
  refine ⟨run_yield (args := #[.slice (some ⟨gn, 0, none⟩) t.m t.m]) hloop rfl, ?_⟩
  obtain ⟨r0, hr0, hr1, hr2⟩ : ∃ r0, recO fn a.tmps #[36] assign body D .ready none = r0 ∧ r0.state = .ready ∧ r0.pending = none := ⟨_, rfl, rfl, rfl⟩
  rw [hr0] at S ⊢
  clear hloop hr0
  have hr3 : { { r0 with state := .busy } with state := .ready, pending := none } = r0 := by
    cases r0; simp only at hr1 hr2; subst hr1 hr2; rfl
  have e1 : Try.f13.body = some _ := rfl
  rw [e1] at hc
  cases hc
  simp only [rfOf2, Option.some.injEq, Prod.mk.injEq] at hr
  obtain ⟨rfl, rfl⟩ := hr
  clear e1
  refine round_of (((((((((hf.params1 rfl).hint 6 (.slice none 1 0)).hint 7 (.slice none 2 0)).hint 8 (.slice none 3 0)).hint 9 (.slice none 4 0)).hint 10 (.slice none 5 0)).hint 11 (.slice none 6 0)).hint 13 (.slice none 7 0)).hint 14 (.slice none 8 0)) S ?_
  simp only [LC, staC, svV] at hu ⊢
  repeat (first | (refine M0 ?_; first | refine SL ?_ | refine SB fun _ _ => ?_) | (refine XI.id ?_; first | refine XI.done ?_ | refine XI.one1 rfl ?_) | (refine XR'.id ?_; first | refine XR'.seq ?_ | refine XR'.region ?_ | refine XR'.block ?_ | refine XR'.skip ?_ | refine XR'.ret ?_ | refine XR'.cond_t rfl ?_ | refine XR'.cond_f rfl ?_ | refine XR'.exit ?_) | (refine M1 ?_; first | refine SC ?_ | refine SD ?_) | (refine M2 ?_; first | refine XE.nextI ?_ | refine XE.nextR ?_ | refine SE ?_))
  refine XE.begin (i := 0) rfl hr1 rfl ?_
  repeat (first | (refine M0 ?_; first | refine SL ?_ | refine SB fun _ _ => ?_) | (refine XI.id ?_; first | refine XI.done ?_ | refine XI.one1 rfl ?_) | (refine XR'.id ?_; first | refine XR'.seq ?_ | refine XR'.region ?_ | refine XR'.block ?_ | refine XR'.skip ?_ | refine XR'.ret ?_ | refine XR'.cond_t rfl ?_ | refine XR'.cond_f rfl ?_ | refine XR'.exit ?_) | (refine M1 ?_; first | refine SC ?_ | refine SD ?_) | (refine M2 ?_; first | refine XE.nextI ?_ | refine XE.nextR ?_ | refine SE ?_))
  refine XL.step _ (Ev.call (f := 34) (ck rfl) rfl (fun w5 S5 => hu w5 S5 ZZHM)) rfl ?_
  have hend : ∀ (q' : SV) (b' : Ch) (w' : World), cheU ls best (t.use s.vol j before on) on = b' → Sys w.heap.size W (LC l D g14 g13 g11 g10 g9 g8 g7 g6 g5 r0 o5 g b' q' p ls j sq s) w' → (hList boolK q' (chL b') = hList boolK q (chL best) ∨ hList boolK q' (chL b') = hList boolK ⟨some ⟨gn, 0, none⟩, t.m, t.m⟩ on) →
      ∃ u, Ending.returned (.bool true) = .returned u ∧ u = .bool true ∧ ∃ q', Fam w' w.heap.size ks [] [hPln g gt gm v r t, hList boolK q' (chL (cheU ls best (t.use s.vol j before on) on))] ∧ Sys w.heap.size W (LC l D g14 g13 g11 g10 g9 g8 g7 g6 g5 r0 o5 g (cheU ls best (t.use s.vol j before on) on) q' p ls j sq s) w' := fun q' b' w' e1 S' h => by
    rw [e1]
    refine ⟨_, rfl, rfl, q', Fam.forget (hF.sys S' ZZHM) (fun x hx => ?_), S'⟩
    rcases List.mem_cons.1 hx with rfl | hx
    · simp
    · rw [List.mem_singleton.1 hx]
      rcases h with h | h <;> rw [h] <;> simp
  obtain ⟨U, hU⟩ : ∃ U, U = t.use s.vol j before on := ⟨_, rfl⟩
  rw [← hU] at hend ⊢
  cases U with
  | none =>
    simp only [useV]
    repeat (first | (refine M0 ?_; first | refine SL ?_ | refine SB fun _ _ => ?_) | (refine XI.id ?_; first | refine XI.done ?_ | refine XI.one1 rfl ?_) | (refine XR'.id ?_; first | refine XR'.seq ?_ | refine XR'.region ?_ | refine XR'.block ?_ | refine XR'.skip ?_ | refine XR'.ret ?_ | refine XR'.cond_t rfl ?_ | refine XR'.cond_f rfl ?_ | refine XR'.exit ?_) | (refine M1 ?_; first | refine SC ?_ | refine SD ?_) | (refine M2 ?_; first | refine XE.nextI ?_ | refine XE.nextR ?_ | refine SE ?_))
    refine XE.endR (i := 0) rfl rfl (fun w' S' => ?_)
    simp only [hr3] at S'
    exact hend q best w' rfl S' (.inl rfl)
  | some y =>
  obtain ⟨of, en⟩ := y
  have hE : cheU ls best (some (of, en)) on = if ls ≤ of ∧ (best.isSome = true → en < chE best) then some (en, on) else best := rfl
  simp only [useV]
  repeat (first | (refine M0 ?_; first | refine SL ?_ | refine SB fun _ _ => ?_) | (refine XI.id ?_; first | refine XI.done ?_ | refine XI.one1 rfl ?_) | (refine XR'.id ?_; first | refine XR'.seq ?_ | refine XR'.region ?_ | refine XR'.block ?_ | refine XR'.skip ?_ | refine XR'.ret ?_ | refine XR'.cond_t rfl ?_ | refine XR'.cond_f rfl ?_ | refine XR'.exit ?_) | (refine M1 ?_; first | refine SC ?_ | refine SD ?_) | (refine M2 ?_; first | refine XE.nextI ?_ | refine XE.nextR ?_ | refine SE ?_))
  by_cases h1 : ls ≤ of
  rotate_left
  · rw [show decide (ls ≤ of) = false from decide_eq_false h1]
    rw [if_neg (fun h => h1 h.1)] at hE
    repeat (first | (refine M0 ?_; first | refine SL ?_ | refine SB fun _ _ => ?_) | (refine XI.id ?_; first | refine XI.done ?_ | refine XI.one1 rfl ?_) | (refine XR'.id ?_; first | refine XR'.seq ?_ | refine XR'.region ?_ | refine XR'.block ?_ | refine XR'.skip ?_ | refine XR'.ret ?_ | refine XR'.cond_t rfl ?_ | refine XR'.cond_f rfl ?_ | refine XR'.exit ?_) | (refine M1 ?_; first | refine SC ?_ | refine SD ?_) | (refine M2 ?_; first | refine XE.nextI ?_ | refine XE.nextR ?_ | refine SE ?_))
    refine XE.endR (i := 0) rfl rfl (fun w' S' => ?_)
    simp only [hr3] at S'
    exact hend q best w' hE S' (.inl rfl)
  rw [show decide (ls ≤ of) = true from decide_eq_true h1]
  obtain ⟨bs, hbs⟩ : ∃ bs, bs = best.isSome := ⟨_, rfl⟩
  obtain ⟨e0, he0⟩ : ∃ e0, e0 = chE best := ⟨_, rfl⟩
  rw [← hbs, ← he0] at hE ⊢
  cases bs with
  | false =>
    rw [if_pos ⟨h1, fun h => by cases h⟩] at hE
    repeat (first | (refine M0 ?_; first | refine SL ?_ | refine SB fun _ _ => ?_) | (refine XI.id ?_; first | refine XI.done ?_ | refine XI.one1 rfl ?_) | (refine XR'.id ?_; first | refine XR'.seq ?_ | refine XR'.region ?_ | refine XR'.block ?_ | refine XR'.skip ?_ | refine XR'.ret ?_ | refine XR'.cond_t rfl ?_ | refine XR'.cond_f rfl ?_ | refine XR'.exit ?_) | (refine M1 ?_; first | refine SC ?_ | refine SD ?_) | (refine M2 ?_; first | refine XE.nextI ?_ | refine XE.nextR ?_ | refine SE ?_))
    refine XE.endR (i := 0) rfl rfl (fun w' S' => ?_)
    simp only [hr3] at S'
    exact hend ⟨some ⟨gn, 0, none⟩, t.m, t.m⟩ (some (en, on)) w' hE S' (.inr rfl)
  | true =>
  by_cases h2 : en < e0
  · rw [if_pos ⟨h1, fun _ => h2⟩] at hE
    repeat (first | (refine M0 ?_; first | refine SL ?_ | refine SB fun _ _ => ?_) | (refine XI.id ?_; first | refine XI.done ?_ | refine XI.one1 rfl ?_) | (refine XR'.id ?_; first | refine XR'.seq ?_ | refine XR'.region ?_ | refine XR'.block ?_ | refine XR'.skip ?_ | refine XR'.ret ?_ | refine XR'.cond_t rfl ?_ | refine XR'.cond_f rfl ?_ | refine XR'.exit ?_) | (refine M1 ?_; first | refine SC ?_ | refine SD ?_) | (refine M2 ?_; first | refine XE.nextI ?_ | refine XE.nextR ?_ | refine SE ?_))
    rw [show decide (en < e0) = true from decide_eq_true h2]
    repeat (first | (refine M0 ?_; first | refine SL ?_ | refine SB fun _ _ => ?_) | (refine XI.id ?_; first | refine XI.done ?_ | refine XI.one1 rfl ?_) | (refine XR'.id ?_; first | refine XR'.seq ?_ | refine XR'.region ?_ | refine XR'.block ?_ | refine XR'.skip ?_ | refine XR'.ret ?_ | refine XR'.cond_t rfl ?_ | refine XR'.cond_f rfl ?_ | refine XR'.exit ?_) | (refine M1 ?_; first | refine SC ?_ | refine SD ?_) | (refine M2 ?_; first | refine XE.nextI ?_ | refine XE.nextR ?_ | refine SE ?_))
    refine XE.endR (i := 0) rfl rfl (fun w' S' => ?_)
    simp only [hr3] at S'
    exact hend ⟨some ⟨gn, 0, none⟩, t.m, t.m⟩ (some (en, on)) w' hE S' (.inr rfl)
  · rw [if_neg (fun h => h2 (h.2 rfl))] at hE
    repeat (first | (refine M0 ?_; first | refine SL ?_ | refine SB fun _ _ => ?_) | (refine XI.id ?_; first | refine XI.done ?_ | refine XI.one1 rfl ?_) | (refine XR'.id ?_; first | refine XR'.seq ?_ | refine XR'.region ?_ | refine XR'.block ?_ | refine XR'.skip ?_ | refine XR'.ret ?_ | refine XR'.cond_t rfl ?_ | refine XR'.cond_f rfl ?_ | refine XR'.exit ?_) | (refine M1 ?_; first | refine SC ?_ | refine SD ?_) | (refine M2 ?_; first | refine XE.nextI ?_ | refine XE.nextR ?_ | refine SE ?_))
    rw [show decide (en < e0) = false from decide_eq_false h2]
    repeat (first | (refine M0 ?_; first | refine SL ?_ | refine SB fun _ _ => ?_) | (refine XI.id ?_; first | refine XI.done ?_ | refine XI.one1 rfl ?_) | (refine XR'.id ?_; first | refine XR'.seq ?_ | refine XR'.region ?_ | refine XR'.block ?_ | refine XR'.skip ?_ | refine XR'.ret ?_ | refine XR'.cond_t rfl ?_ | refine XR'.cond_f rfl ?_ | refine XR'.exit ?_) | (refine M1 ?_; first | refine SC ?_ | refine SD ?_) | (refine M2 ?_; first | refine XE.nextI ?_ | refine XE.nextR ?_ | refine SE ?_))
    refine XE.endR (i := 0) rfl rfl (fun w' S' => ?_)
    simp only [hr3] at S'
    refine hend q best w' hE ?_ (.inl rfl)
    simp only [LC, staC, svV]
    rw [← hbs, ← he0]
    exact S'
end Go.Proofs.Ytlfjdbilblfknaa.X
/-
  The walk of Cheapest (runoff).
-/
namespace Go.Proofs.Ytlfjdbilblfknaa.X
open Go Go.RowKit Go.Proofs.Ytlfjdbilblfknaa.Bs
set_option linter.unusedVariables false
def CheJ (v : RTV) (r : SV) (t : RTk) (s : Sta) (j : Nat) (b : List Bool) (ls : Int) (g gt gm : Nat) (ks : List Nat) (w : World) (i : Nat) (z : World × SV × Ch) : Prop :=
  Below w.heap.size w z.1 ∧ Fam z.1 w.heap.size ks [] [hPln g gt gm v r t, hList boolK z.2.1 (chL z.2.2)] ∧ (∀ x, x ∈ ks → x < z.1.heap.size) ∧ z.2.2 = cheB t s j b ls i
theorem cheL_nil : ∀ (W : World) (ok : Nat → Prop), (hList boolK ⟨none, 0, 0⟩ (chL none)).p W ok := fun W ok => ListAt.nil
set_option maxHeartbeats 16000000 in
theorem Cheapest_made {v : RTV} {t : RTk} {sq p : SV} {s : Sta} {i ls : Int} {b : List Bool} {w : World} (ht : TskAt w w.heap.size v t) (hn : t.slu.length + t.pmp.length ≤ 5000000) (hq : IntsAt w (Lt w.heap.size) sq s.fil) (hb : ListAt boolK w (Lt w.heap.size) p b) :
    Calls Try.prog 13 #[tskV v t, staV sq s, .int .i64 i, svV p, .int .i64 ls] w (Made w (CheV t s i b ls)) := by
  have hpn := hb.len (by decide)
  have hb0 := hb
  have hask := fun (w5 : World) (hB : Below w.heap.size w w5) => asked_made (v := v) (t := t) (w := w5) (sq := sq) (s := s) (i := i) (p := p) (n := b.length) (ht.sys (Sys.ofBelow hB)) hn ((hq.keep fun k hk => hB.block k hk).mono fun k hk => Nat.lt_of_lt_of_le hk hB.size) hpn
  have hE : cheE t s i b ls = if askE7 t s i b.length ≠ 0 then askE7 t s i b.length else if outB ls 0 10000000 = true then 7 else if (cheB t s i.toNat b ls (2 ^ t.m)).isSome = true then 0 else 9 := rfl
  obtain ⟨Ap, np, cp⟩ := p
  simp only at hpn
  subst hpn
  simp only [tskV, tskC, svV, staV, staC] at hask ⊢
  refine enterM Try.func13 rfl Try.ntmps13 rfl ?_; simp only [frame, Nat.zero_add, Nat.reduceAdd]
  repeat (first | (refine M0 ?_; first | refine SL ?_ | refine SB fun _ _ => ?_) | (refine M1 ?_; refine SC ?_) | (refine M2 ?_; refine SE ?_))
  rename_i g5 hg5 g6 hg6 g7 hg7 g8 hg8 g9 hg9 g10 hg10 g11 hg11
  refine XL.rebase (List.Sublist.refl _) (fun W0 S0 => ?_)
  refine XL.callF (ks := [g11, g10, g9, g8, g7, g6, g5]) (rs := []) (hs := []) (b0 := w.heap.size) (wE := w) (AskV v t s i b.length) (ck rfl) rfl rfl (Fam.start S0.size) (fun k hk => S0.keyLt k hk) S0.toBelow (fun w1 S1 _ hB1 => hask w1 hB1) (fun w2 x new hR hF2 hB2 hk2 => ?_) ZZHL
  rcases hR with ⟨h0, rfl, rfl⟩ | ⟨h0, g, gt, gm, r, rfl, rfl⟩
  · rw [if_pos h0] at hE
    repeat (first | (refine M0 ?_; first | refine SL ?_ | refine SB fun _ _ => ?_) | (refine M1 ?_; refine SC ?_) | (refine M2 ?_; refine SE ?_))
    refine XC.cond _ rfl (fun h1 => ?_) (fun h1 => absurd (by simpa using h1) h0)
    repeat (first | (refine M0 ?_; first | refine SL ?_ | refine SB fun _ _ => ?_) | (refine M1 ?_; refine SC ?_) | (refine M2 ?_; refine SE ?_))
    refine XE.retM0 tok Try.results13 rfl (by simp only [and_self, and_true]) (fun w' S => ?_)
    exact che_no hE h0 (hB2.trans S.toBelow)
  rw [if_neg (by simp [h0])] at hE
  obtain ⟨hr0, hst, hi, hbl⟩ := askE_0 h0
  have ho := rtOk_of hr0
  obtain ⟨j, rfl⟩ : ∃ j : Nat, i = j := ⟨i.toNat, by omega⟩
  have hj : j < t.outer.length := by omega
  rw [Int.toNat_natCast] at hE
  have hp2 : Pln0 w2 _ g gt gm v r t := hF2.held (hPln g gt gm v r t) (.head _)
  obtain ⟨hlg, hc⟩ := plnCell hp2.p
  have hn15 : r.n = t.m := hp2.p.all.len (by decide)
  have c15 : w2.cell? ⟨g, 15, none⟩ = some (.slice r.A r.n r.c) := hc 15 _ rfl
  have hge := hp2.p.kg.1
  have hm4 : t.m ≤ 4 := by have := t.devs_len; unfold RTk.many at this; have := ho.s2; have := ho.p2; unfold RTk.m; omega
  cases h3 : outB ls 0 10000000 with
  | true =>
    rw [h3, if_pos rfl] at hE
    repeat (first | (refine M0 ?_; first | refine SL ?_ | refine SB fun _ _ => ?_ | refine Y4 (Ev.call (f := 24) (ck rfl) rfl (fun w5 S5 => outP h3 w5)) ?_) | (refine M1 ?_; refine SC ?_) | (refine M2 ?_; refine SE ?_))
    refine XE.retM0 tok Try.results13 rfl (by simp only [and_self, and_true]) (fun w' S => ?_)
    exact che_no hE (by decide) (hB2.trans S.toBelow)
  | false =>
  rw [h3, if_neg (by decide)] at hE
  repeat (first | (refine M0 ?_; first | refine SL ?_ | refine SB fun _ _ => ?_ | refine Y4 (Ev.call (f := 24) (ck rfl) rfl (fun w5 S5 => outP h3 w5)) ?_) | (refine M1 ?_; refine SC ?_) | (refine M2 ?_; refine SE ?_))
  rename_i g13 hg13 g14 hg14
  refine XL.callr (fst := []) (cap := []) (fun w1 x w2 => ∃ gp, x = .func (.func 46) #[] #[.pointer (some ⟨gp, 0, none⟩)] ∧ Sys w1.heap.size w1 [(gp, cel 71 [.pointer (some ⟨g, 0, none⟩)])] w2) (ck rfl) rfl rfl rfl (fun w1 S1 => choices_any (g := g) (w := w1)) (fun w1 x w3 S1 hR => ?_)
  obtain ⟨gp, rfl, S2⟩ := hR
  refine ⟨_, w3, (S1.join S2 (List.Sublist.refl _)).rebase (List.sublist_cons_self _ _), ?_⟩
  have hB3 : Below w.heap.size w w3 := hB2.trans (S1.toBelow.trans (S2.toBelow.mono (Nat.le_trans hB2.size S1.size)))
  have hgp0 : w2.heap.size ≤ gp := Nat.le_trans S1.size (S2.own _ (.head _)).1
  have hgpL : ∀ e, e ∈ [(g14, (0 : Nat)), (g13, 0), (g11, 0), (g10, 0), (g9, 0), (g8, 0), (g7, 0), (g6, 0), (g5, 0)] → e.1 < gp := by
    have h1 := (S2.own _ (.head _)).1
    have h2 := S1.keyLt
    intro e he
    have h3 := h2 e.1 (by simp only [List.mem_cons, List.not_mem_nil, or_false] at he; rcases he with rfl | rfl | rfl | rfl | rfl | rfl | rfl | rfl | rfl <;> simp)
    omega
  have hgpc : w3.cell? ⟨gp, 0, none⟩ = some (.pointer (some ⟨g, 0, none⟩)) := by
    have := (S2.own _ (.head _)).2
    simp [World.cell?, this]
  have hgpl : gp < w3.heap.size := S2.lt (.head _)
  have hgL : ∀ e, e ∈ [(g14, (0 : Nat)), (g13, 0), (g11, 0), (g10, 0), (g9, 0), (g8, 0), (g7, 0), (g6, 0), (g5, 0)] → e.1 ≠ g := by
    intro e he e1
    have hlg' : g < w2.heap.size := hlg
    simp only [List.mem_cons, List.not_mem_nil, or_false] at he
    rcases he with rfl | rfl | h
    · simp only at e1; omega
    · simp only at e1; omega
    · refine hge.2.2.1 (List.mem_append_right _ ?_)
      rw [← e1]
      rcases h with rfl | rfl | rfl | rfl | rfl | rfl | rfl <;> simp
  have hF3 : Fam w3 w.heap.size [g14, g13, g11, g10, g9, g8, g7, g6, g5] [] [hPln g gt gm v r t] := ((hF2.call S1 S2.toBelow ZZHL hk2 (new := []) (fun x hx => by cases hx)).1).add fun k hk => by
    left
    refine List.mem_append_left _ ?_
    simp only [List.mem_cons, List.not_mem_nil, or_false] at hk
    rcases hk with rfl | rfl | rfl | rfl | rfl | rfl | rfl | rfl | rfl <;> simp
  have hks3 : ∀ x, x ∈ [g14, g13, g11, g10, g9, g8, g7, g6, g5] → x < w3.heap.size := fun x hx => by
    have := S1.keyLt x (by simp only [List.mem_cons, List.not_mem_nil, or_false] at hx; rcases hx with rfl | rfl | rfl | rfl | rfl | rfl | rfl | rfl | rfl <;> simp)
    exact Nat.lt_of_lt_of_le this S2.size
  have c15' : w3.cell? ⟨g, 15, none⟩ = some (.slice r.A r.n r.c) := by
    obtain ⟨hlg3, hc3⟩ := plnCell (hF3.held (hPln g gt gm v r t) (.head _)).p
    exact hc3 15 _ rfl
  have hlg3 : g < w3.heap.size := Nat.lt_of_lt_of_le hlg (Nat.le_trans S1.size S2.size)
  rw [hn15] at c15'
  clear S1 S2
  repeat (first | (refine M0 ?_; first | refine SL ?_ | refine SB fun _ _ => ?_) | (refine M1 ?_; refine SC ?_) | (refine M2 ?_; refine SE ?_))
  refine XC.rangeFunc (cap := [.pointer (some ⟨gp, 0, none⟩)]) rfl (ck rfl) (fun fn a D w4 hD hf S4 => ?_)
  obtain ⟨o5, ho5⟩ : ∃ o5, o5 = cel 33 (tskC v t) := ⟨_, rfl⟩
  have hfS : Fits 69 [] [(13, .pointer (some ⟨g13, 0, none⟩)), (6, .pointer (some ⟨g6, 0, none⟩)), (7, .pointer (some ⟨g7, 0, none⟩)), (8, .pointer (some ⟨g8, 0, none⟩)), (9, .pointer (some ⟨g9, 0, none⟩)), (10, .pointer (some ⟨g10, 0, none⟩)), (11, .pointer (some ⟨g11, 0, none⟩)), (14, .pointer (some ⟨g14, 0, none⟩))] a := Sub.fits ZZSUB hf
  have hB4 : Below w.heap.size w w4 := hB3.trans S4.toBelow
  have hF4 : Fam w4 w.heap.size (KC (D + 1) D g14 g13 g11 g10 g9 g8 g7 g6 g5) [] [hPln g gt gm v r t, hList boolK ⟨none, 0, 0⟩ (chL none)] := by
    have h1 := (hF3.hold (x := hList boolK ⟨none, 0, 0⟩ (chL none)) (ok := Free w3 w.heap.size _ []) (cheL_nil _ _) (fun j hj => hj)).add (ks' := KC (D + 1) D g14 g13 g11 g10 g9 g8 g7 g6 g5) fun x hx => by
      rcases List.mem_cons.1 hx with rfl | hx
      · right; omega
      rcases List.mem_cons.1 hx with rfl | hx
      · right; omega
      · left; exact hx
    refine Fam.forget (h1.sys S4 ?_) (fun x hx => ?_)
    · intro e he
      left
      have : e.1 ∈ KC (D + 1) D g14 g13 g11 g10 g9 g8 g7 g6 g5 := List.mem_map.2 ⟨e, he, rfl⟩
      exact this
    · rcases List.mem_cons.1 hx with rfl | hx
      · exact .tail _ (.head _)
      · rw [List.mem_singleton.1 hx]; exact .head _
  have hks4 : ∀ x, x ∈ KC (D + 1) D g14 g13 g11 g10 g9 g8 g7 g6 g5 → x < w4.heap.size := fun x hx => S4.keyLt x hx
  have hfar4 : ∀ x, x < w3.heap.size → (∀ e, e ∈ [(g14, (0 : Nat)), (g13, 0), (g11, 0), (g10, 0), (g9, 0), (g8, 0), (g7, 0), (g6, 0), (g5, 0)] → e.1 ≠ x) → ∀ e : Nat × Obj, e.1 ∈ KC (D + 1) D g14 g13 g11 g10 g9 g8 g7 g6 g5 → e.1 ≠ x := fun x h1 h2 e he e1 => by
    rcases List.mem_cons.1 he with h | h
    · omega
    rcases List.mem_cons.1 h with h | h
    · omega
    exact h2 (e.1, 0) (by simpa using h) e1
  have hgpN : ∀ e, e ∈ [(g14, (0 : Nat)), (g13, 0), (g11, 0), (g10, 0), (g9, 0), (g8, 0), (g7, 0), (g6, 0), (g5, 0)] → e.1 ≠ gp := fun e he => by have := hgpL e he; omega
  have hch := chs_any (B := w.heap.size) (l := D + 1) (g := g) (gp := gp) (m := t.m) (c := r.c) (A := r.A) (fun z : World × SV × Ch => LC (D + 1) D g14 g13 g11 g10 g9 g8 g7 g6 g5 (recO fn a.tmps #[36] _ _ D .ready none) o5 g z.2.2 z.2.1 ⟨Ap, b.length, cp⟩ ls j sq s) (fun z => z.1)
    (CheJ v r t s j b ls g gt gm (KC (D + 1) D g14 g13 g11 g10 g9 g8 g7 g6 g5) w) (w4, ⟨none, 0, 0⟩, none) hm4 (by rw [ho5]; exact S4.rebase (List.Sublist.refl _)) ⟨hB4, hF4, hks4, rfl⟩ ?_ ?_ ?_ ?_ ?_ ?_ ?_
  rotate_left
  · have h := S4.farCell (a := ⟨gp, 0, none⟩) hgpl (fun e he => hfar4 gp hgpl hgpN e (List.mem_map.2 ⟨e, he, rfl⟩))
    exact h.trans hgpc
  · have h := S4.farCell (a := ⟨g, 15, none⟩) hlg3 (fun e he => hfar4 g hlg3 hgL e (List.mem_map.2 ⟨e, he, rfl⟩))
    exact h.trans c15'
  · exact Nat.lt_of_lt_of_le hgpl S4.size
  · exact Nat.lt_of_lt_of_le hlg3 S4.size
  · exact fun e he => hfar4 gp hgpl hgpN e (LC_key he)
  · exact fun e he => hfar4 g hlg3 hgL e (LC_key he)
  · rintro i ⟨zW, zq, zb⟩ gn W hi9 hJ hgn SW w1 S1
    obtain ⟨j1, j2, j3, j4⟩ := hJ
    simp only at hgn SW S1 j1 j2 j3 j4
    have hon : ListAt boolK W (Btw zW.heap.size W.heap.size) ⟨some ⟨gn, 0, none⟩, t.m, t.m⟩ (chc t.m i) := boolsAt (SW.own _ (.head _)).2 hgn (chc_len _ _) (by omega)
    have FW := (j2.sys SW (fun e he => by
      rcases List.mem_cons.1 he with rfl | he
      · exact .inr hgn
      · exact .inl (LC_key he))).hold (x := hList boolK ⟨some ⟨gn, 0, none⟩, t.m, t.m⟩ (chc t.m i)) hon (fun j hj => ⟨Nat.le_trans j1.size hj.1, hj.2, fun h => by have := j3 j h; have := hj.1; omega, fun x hx => by cases hx⟩)
    obtain ⟨a1, a2⟩ := che_round (n := 0) (on := chc t.m i) ho hst.vol hj hbl (chc_len _ _) ht hb0 (j1.trans SW.toBelow) FW (fun x hx => Nat.lt_of_lt_of_le (j3 x hx) SW.size) rfl rfl hfS S1
    refine ⟨_, _, _, _, a1, a2.mono fun e w' ⟨u, e1, e2, q', k1, k2⟩ => ⟨u, e1, e2, (w', q', _), ⟨(j1.trans SW.toBelow).trans k2.toBelow, k1, fun x hx => Nat.lt_of_lt_of_le (j3 x hx) (Nat.le_trans SW.size k2.size), ?_⟩, k2.rebase (List.Sublist.refl _)⟩⟩
    simp only
    rw [j4]; rfl
  refine hch.mono fun e w5 ⟨v5, e5, z, hJ, S5⟩ => ⟨v5, e5, .inl ?_⟩
  obtain ⟨zW, zq, zb⟩ := z
  obtain ⟨j1, j2, j3, j4⟩ := hJ
  simp only at S5 j1 j2 j3 j4
  refine ⟨_, zW, S5, ?_⟩
  rw [← j4] at hE
  subst ho5
  have hR : cheR t s (j : Int) b ls = if cheE t s (j : Int) b ls = 0 then zb else none := by unfold cheR; rw [Int.toNat_natCast, ← j4]
  cases zb with
  | none =>
    simp only [staC, svV]
    repeat (first | (refine M0 ?_; first | refine SL ?_ | refine SB fun _ _ => ?_) | (refine M1 ?_; refine SC ?_) | (refine M2 ?_; refine SE ?_))
    refine XE.retM (i := 1) tok Try.results13 rfl rfl rfl (by simp only [and_self, and_true]) (fun w' S => ?_)
    exact che_no hE (by decide) (j1.trans S.toBelow)
  | some y =>
  obtain ⟨en, on⟩ := y
  simp only [staC, svV]
  repeat (first | (refine M0 ?_; first | refine SL ?_ | refine SB fun _ _ => ?_) | (refine M1 ?_; refine SC ?_) | (refine M2 ?_; refine SE ?_))
  have hE0 : cheE t s (j : Int) b ls = 0 := hE
  rw [if_pos hE0] at hR
  refine XC.drawR _ [0, 1] [2, 3, 4] mixed (fun _ h => h) rfl (by kernel_rfl) ?_
  repeat (any_goals (first | (refine M0 ?_; first | refine SL ?_ | refine SB fun _ _ => ?_) | (refine M1 ?_; refine SC ?_) | (refine M2 ?_; refine SE ?_) | (refine M3 ?_; first | refine SG ?_ | refine SF ?_) | (refine M4 ?_; refine SR ?_) | (refine M5 ?_; first | exact M7 | refine YM ?_ | refine YN ?_ ?_)))
  any_goals (repeat (first | exact AnyR.nil | refine AnyR.skip rfl ?_))
  all_goals
    refine XE.retM (i := 1) tok Try.results13 rfl rfl rfl (by simp only [and_self, and_true]) (fun w' S => ?_)
    refine ⟨_, _, rfl, ⟨zq, by rw [hR, hE0]; rfl, rfl⟩, fun x hx => ?_, j1.trans S.toBelow⟩
    rw [List.mem_singleton.1 hx, hR]
    exact (j2.sys S (fun e he => .inl (show e.1 ∈ KC (D + 1) D g14 g13 g11 g10 g9 g8 g7 g6 g5 from List.mem_map.2 ⟨e, he, rfl⟩))).get (x := hList boolK zq (chL (some (en, on)))) (.tail _ (.head _))
end Go.Proofs.Ytlfjdbilblfknaa.X
/-
  The law RunoffUseful.
-/
namespace Go.Proofs.Ytlfjdbilblfknaa.Bs
open Go.Proofs.Ytlfjdbilblfknaa.X
section
variable {t : RTk} {s : Sta} {j : Nat} {b : List Bool} {ls : Int}
end
section
variable {t : RTk} {s : Sta} {i : Int} {b f : List Bool} {ls : Int}
theorem useE_of {y : Int × Int} (h0 : askE7 t s i b.length = 0) (h1 : f.length = t.m) (h2 : t.use s.vol i.toNat b f = some y) : useE t s i b f = 0 ∧ useN t s i b f = y := by
  have h : useE t s i b f = 0 := by unfold useE; rw [if_neg (by simp [h0]), if_neg (by simp [h1]), h2]
  exact ⟨h, by unfold useN; rw [if_pos h, h2]; rfl⟩
theorem cheE_of {y : Int × List Bool} (h0 : askE7 t s i b.length = 0) (h1 : 0 ≤ ls ∧ ls ≤ 10000000) (h2 : cheB t s i.toNat b ls (2 ^ t.m) = some y) : cheE t s i b ls = 0 ∧ cheR t s i b ls = some y := by
  have h : cheE t s i b ls = 0 := by unfold cheE; rw [if_neg (by simp [h0]), if_neg (by rw [outB_f.2 h1]; decide), h2]; rfl
  exact ⟨h, by unfold cheR; rw [if_pos h, h2]⟩
end
end Go.Proofs.Ytlfjdbilblfknaa.Bs
namespace Go.Proofs.Ytlfjdbilblfknaa.X
open Go Go.RowKit Go.Proofs.Ytlfjdbilblfknaa.Bs
set_option linter.unusedVariables false
/-- a turn: where its slices lie, and what it is. -/
structure TrV where
  q : SV
  p : SV
  r : SV
structure Trn where
  s : Sta
  tick : Int
  bef : List Bool
  on : List Bool
  least : Int
def turnC (y : TrV) (x : Trn) : List Value := [.int .i64 x.s.vol, svV y.q, .int .i64 x.tick, svV y.p, svV y.r, .int .i64 x.least]
def turnV (y : TrV) (x : Trn) : Value := .agg ⟨turnC y x⟩
structure TurnAt (w : World) (y : TrV) (x : Trn) : Prop where
  fil : IntsAt w (Lt w.heap.size) y.q x.s.fil
  bef : ListAt boolK w (Lt w.heap.size) y.p x.bef
  on : ListAt boolK w (Lt w.heap.size) y.r x.on
end Go.Proofs.Ytlfjdbilblfknaa.X
/-
  The walks of Do and Least (runoff).
-/
namespace Go.Proofs.Ytlfjdbilblfknaa.Bs
open Go.Proofs.Ytlfjdbilblfknaa.X
/-- the least costs along a plan. -/
noncomputable def RTk.lst (t : RTk) : Nat → Sta → List Bool → Plan → List Int
  | _, _, _, [] => [0]
  | i, s, b, on :: r => fdC (t.rest (t.n - i) s b) :: RTk.lst t (i + 1) (t.doD s i b on).s on r
noncomputable def lstL (t : RTk) (p : Plan) : List Int := if costE t p = 0 then t.lst 0 t.s t.on p else []
noncomputable def folL (t : RTk) (p : Plan) : List Done := if folE t p = 0 then (t.flw 0 t.s t.on p).1 else []
noncomputable def folF (t : RTk) (p : Plan) : Int := if folE t p = 0 then (t.flw 0 t.s t.on p).2 else 0
theorem flw_len {t : RTk} : ∀ {p : Plan} {i : Nat} {s : Sta} {b : List Bool}, (t.flw i s b p).2 = 0 → (t.flw i s b p).1.length = p.length := by
  intro p
  induction p with
  | nil => intro i s b _; rfl
  | cons on r ih =>
    intro i s b h
    obtain ⟨_, h2, h3⟩ := flw_cons h
    rw [h3, List.length_cons, List.length_cons, ih h2]
end Go.Proofs.Ytlfjdbilblfknaa.Bs
namespace Go.Proofs.Ytlfjdbilblfknaa.X
open Go Go.RowKit Go.Proofs.Ytlfjdbilblfknaa.Bs
set_option linter.unusedVariables false
def DoV2 (t : RTk) (p : Plan) (x : Value) (new : List Held) : Prop := ∃ (q : SV) (ds : List (SV × Done)), x = .tuple ⟨[svV q, .int .i64 (folF t p), .int .i64 (folE t p)]⟩ ∧ ds.map (·.2) = folL t p ∧ new = [hList donK q ds]
set_option maxHeartbeats 8000000 in
theorem Do_made {v : RTV} {t : RTk} {pq : SV} {p : Plan} {es : List (SV × List Bool)} {w : World} (ht : TskAt w w.heap.size v t) (hn : t.slu.length + t.pmp.length ≤ 5000000) (hp : ListAt plnK w (Lt w.heap.size) pq es) (hes : es.map (·.2) = p) :
    Calls Try.prog 15 #[tskV v t, svV pq] w (Made w (DoV2 t p)) := by
  have hfol := fun (w5 : World) (hB : Below w.heap.size w w5) => follow_made (v := v) (t := t) (w := w5) (pq := pq) (ht.sys (Sys.ofBelow hB)) hn ((hp.keep fun k hk => hB.block k hk).mono fun k hk => Nat.lt_of_lt_of_le hk hB.size) hes
  simp only [tskV, tskC, svV] at hfol ⊢
  refine enter Try.func15 rfl Try.ntmps15 rfl ?_; simp only [frame, Nat.zero_add, Nat.reduceAdd]
  repeat (first | (refine M0 ?_; first | refine SL ?_ | refine SB fun _ _ => ?_) | (refine M1 ?_; refine SC ?_) | (refine M2 ?_; refine SE ?_))
  rename_i g2 hg2
  refine XL.rebase (List.Sublist.refl _) (fun W0 S0 => ?_)
  refine XL.callF (ks := [g2]) (rs := []) (hs := []) (b0 := w.heap.size) (wE := w) (FolV v t p) (ck rfl) rfl rfl (Fam.start S0.size) (fun k hk => S0.keyLt k hk) S0.toBelow (fun w1 S1 _ hB1 => hfol w1 hB1) (fun w2 x new hR hF2 hB2 hk2 => ?_) ZZHL
  have hE : folE t p = if rtE t ≠ 0 then rtE t else if t.shaped p = false then 2 else 0 := rfl
  have hL : folL t p = if folE t p = 0 then (t.flw 0 t.s t.on p).1 else [] := rfl
  have hF : folF t p = if folE t p = 0 then (t.flw 0 t.s t.on p).2 else 0 := rfl
  have hno : ∀ (e : Int) (w' : World), folE t p = e → e ≠ 0 → Below w.heap.size w w' → Made w (DoV2 t p) (.returned (.tuple ⟨[.slice none 0 0, .int .i64 0, .int .i64 e]⟩)) w' := fun e w' h h0 hB => by
    rw [h, if_neg h0] at hL hF
    refine ⟨_, _, rfl, ⟨⟨none, 0, 0⟩, [], by rw [h, hF]; rfl, by rw [hL]; rfl, rfl⟩, fun x hx => ?_, hB⟩
    rw [List.mem_singleton.1 hx]; exact ListAt.nil
  rcases hR with ⟨h0, rfl, rfl⟩ | ⟨h0, h1, rfl, rfl⟩ | ⟨h0, h1, g, gt, gm, r, q, ds, rfl, hds, rfl⟩
  · rw [if_pos h0] at hE
    repeat (first | (refine M0 ?_; first | refine SL ?_ | refine SB fun _ _ => ?_) | (refine M1 ?_; refine SC ?_) | (refine M2 ?_; refine SE ?_))
    refine XE.retg tok Try.results15 rfl (by simp only [and_self, and_true]) (fun w' S => ?_)
    exact hno _ _ hE h0 (hB2.trans S.toBelow)
  · rw [if_neg (by simp [h0]), if_pos h1] at hE
    repeat (first | (refine M0 ?_; first | refine SL ?_ | refine SB fun _ _ => ?_) | (refine M1 ?_; refine SC ?_) | (refine M2 ?_; refine SE ?_))
    refine XE.retg tok Try.results15 rfl (by simp only [and_self, and_true]) (fun w' S => ?_)
    exact hno _ _ hE (by decide) (hB2.trans S.toBelow)
  · rw [if_neg (by simp [h0]), if_neg (by simp [h1])] at hE
    rw [if_pos hE] at hL hF
    repeat (first | (refine M0 ?_; first | refine SL ?_ | refine SB fun _ _ => ?_) | (refine M1 ?_; refine SC ?_) | (refine M2 ?_; refine SE ?_))
    refine XE.retg tok Try.results15 rfl (by simp only [and_self, and_true]) (fun w' S => ?_)
    refine ⟨_, _, rfl, ⟨q, ds, by rw [hE, hF]; rfl, by rw [hL]; exact hds, rfl⟩, fun x hx => ?_, hB2.trans S.toBelow⟩
    rw [List.mem_singleton.1 hx]
    exact (hF2.sys S ZZHL).get (x := hList donK q ds) (.head _)
section
variable {w : World} {ok : Nat → Prop} {gm : Nat} {kvs : List (Value × Value)}
theorem ReadsP.ne {m n : Nat} {A : Option Addr} {xs : List Value} (h : ReadsP w ok m A n xs) (hm : w.heap[gm]? = some (mapO kvs)) (h0 : 0 < m) : ReadsP w (fun j => ok j ∧ j ≠ gm) m A n xs :=
  ⟨h.len, fun hn => by
    obtain ⟨ad, e, h1, h2⟩ := h.at_ hn
    refine ⟨ad, e, ⟨h1, fun e1 => ?_⟩, h2⟩
    have hx : 0 < xs.length := by rw [h.len]; exact Nat.mul_pos hn h0
    have h3 := h2 0 _ (List.getElem?_eq_getElem hx)
    unfold World.cell? at h3
    rw [add_block, e1, hm] at h3
    cases h3⟩
theorem IntsAt.ne {q : SV} {l : List Int} (h : IntsAt w ok q l) (hm : w.heap[gm]? = some (mapO kvs)) : IntsAt w (fun j => ok j ∧ j ≠ gm) q l := ⟨h.rd.ne hm (by decide), h.max⟩
theorem dons_ne {q : SV} {ds : List (SV × Done)} (h : ListAt donK w ok q ds) (hm : w.heap[gm]? = some (mapO kvs)) : ListAt donK w (fun j => ok j ∧ j ≠ gm) q ds :=
  ⟨h.rd.ne hm (by decide), h.max, fun a ha x hx => by
    have h1 := h.ins a ha x hx
    rw [List.mem_singleton.1 hx] at h1 ⊢
    exact IntsAt.ne h1 hm⟩
end
/-- the planner, behind calls that changed what is known. -/
def hPA (g gt gm : Nat) (v : RTV) (r : SV) (t : RTk) : Held := ⟨fun w ok => PlnAt w ok g gt gm v r t, fun h hk => h.keep hk, fun h hk => h.mono hk⟩
/-- what is known, behind gm. -/
def hMemG (gm : Nat) (t : RTk) (kvs : List (Value × Value)) : Held := ⟨fun w ok => (hMem t kvs).p w (fun j => gm ≤ j ∧ ok j), fun h hk => (hMem t kvs).keep h fun k hj => hk k hj.2, fun h hk => (hMem t kvs).mono h fun k hj => ⟨hj.1, hk k hj.2⟩⟩
structure LsSt where
  k : Nat
  W : World
  rl : SV
  sq : SV
  bq : SV
  s : Sta
  b : List Bool
  l : List Int
  kvs : List (Value × Value)
structure LsInv (w : World) (v : RTV) (t : RTk) (p : Plan) (ks : List Nat) (g gt gm : Nat) (r q : SV) (ds : List (SV × Done)) (z : LsSt) : Prop where
  le : z.k ≤ p.length
  bel : Below w.heap.size w z.W
  fam : Fam z.W w.heap.size ks [⟨Int, winK, svV z.rl, z.l⟩] [hMix w z.sq z.s.fil, hPA g gt gm v r t, hList donK q ds, hMemG gm t z.kvs]
  lt : ∀ x, x ∈ ks → x < z.W.heap.size
  keys : KeysOk Try.prog 110 z.kvs
  bef : ListAt boolK w (Lt w.heap.size) z.bq z.b
  bl : z.b.length = t.m
  sta : StaOk t.b z.s
  one : t.flw z.k z.s z.b (p.drop z.k) = ((ds.map (·.2)).drop z.k, 0)
  lst : z.l ++ t.lst z.k z.s z.b (p.drop z.k) = t.lst 0 t.s t.on p
  len : z.l.length = z.k
def LstV (t : RTk) (p : Plan) (x : Value) (new : List Held) : Prop := ∃ q : SV, x = .tuple ⟨[svV q, .int .i64 (costE t p)]⟩ ∧ new = [hInts q (lstL t p)]
theorem lst_no {t : RTk} {p : Plan} {e : Int} (h : costE t p = e) (h0 : e ≠ 0) {w w' : World} (hB : Below w.heap.size w w') : Made w (LstV t p) (.returned (.tuple ⟨[.slice none 0 0, .int .i64 e]⟩)) w' :=
  ⟨_, _, rfl, ⟨⟨none, 0, 0⟩, by rw [h]; rfl, rfl⟩, fun x hx => by
    rw [List.mem_singleton.1 hx]; unfold lstL; rw [h, if_neg h0]; exact IntsAt.nil, hB⟩
set_option maxHeartbeats 16000000 in
theorem Least_made {v : RTV} {t : RTk} {pq : SV} {p : Plan} {es : List (SV × List Bool)} {w : World} (ht : TskAt w w.heap.size v t) (hn : t.slu.length + t.pmp.length ≤ 5000000) (hp : ListAt plnK w (Lt w.heap.size) pq es) (hes : es.map (·.2) = p) :
    Calls Try.prog 18 #[tskV v t, svV pq] w (Made w (LstV t p)) := by
  have hfol := fun (w5 : World) (hB : Below w.heap.size w w5) => follow_made (v := v) (t := t) (w := w5) (pq := pq) (ht.sys (Sys.ofBelow hB)) hn ((hp.keep fun k hk => hB.block k hk).mono fun k hk => Nat.lt_of_lt_of_le hk hB.size) hes
  obtain ⟨Ap, np, cp⟩ := pq
  have lp := hp.len (by decide)
  simp only at lp
  subst lp
  have hpl : es.length = p.length := by have := congrArg List.length hes; simpa using this
  have hC : costE t p = if rtE t ≠ 0 then rtE t else if t.shaped p = false then 2 else (t.flw 0 t.s t.on p).2 := rfl
  simp only [tskV, tskC, svV] at hfol ⊢
  refine enter Try.func18 rfl Try.ntmps18 rfl ?_; simp only [frame, Nat.zero_add, Nat.reduceAdd]
  repeat (first | (refine M0 ?_; first | refine SL ?_ | refine SB fun _ _ => ?_) | (refine M1 ?_; refine SC ?_) | (refine M2 ?_; refine SE ?_))
  rename_i g2 hg2
  refine XL.rebase (List.Sublist.refl _) (fun W0 S0 => ?_)
  refine XL.callF (ks := [g2]) (rs := []) (hs := []) (b0 := w.heap.size) (wE := w) (FolV v t p) (ck rfl) rfl rfl (Fam.start S0.size) (fun k hk => S0.keyLt k hk) S0.toBelow (fun w1 S1 _ hB1 => hfol w1 hB1) (fun w2 x new hR hF2 hB2 hk2 => ?_) ZZHL
  rcases hR with ⟨h0, rfl, rfl⟩ | ⟨h0, h1, rfl, rfl⟩ | ⟨h0, h1, g, gt, gm, r, q, ds, rfl, hds, rfl⟩
  · rw [if_pos h0] at hC
    repeat (first | (refine M0 ?_; first | refine SL ?_ | refine SB fun _ _ => ?_) | (refine M1 ?_; refine SC ?_) | (refine M2 ?_; refine SE ?_))
    rw [show decide (rtE t = 0) = false from decide_eq_false h0]
    repeat (first | (refine M0 ?_; first | refine SL ?_ | refine SB fun _ _ => ?_) | (refine M1 ?_; refine SC ?_) | (refine M2 ?_; refine SE ?_))
    rw [show decide (rtE t ≠ 0) = true from decide_eq_true h0]
    repeat (first | (refine M0 ?_; first | refine SL ?_ | refine SB fun _ _ => ?_) | (refine M1 ?_; refine SC ?_) | (refine M2 ?_; refine SE ?_))
    refine XE.retg tok Try.results18 rfl (by simp only [and_self, and_true]) (fun w' S => ?_)
    exact lst_no hC h0 (hB2.trans S.toBelow)
  · rw [if_neg (by simp [h0]), if_pos h1] at hC
    repeat (first | (refine M0 ?_; first | refine SL ?_ | refine SB fun _ _ => ?_) | (refine M1 ?_; refine SC ?_) | (refine M2 ?_; refine SE ?_))
    refine XE.retg tok Try.results18 rfl (by simp only [and_self, and_true]) (fun w' S => ?_)
    exact lst_no hC (by decide) (hB2.trans S.toBelow)
  rw [if_neg (by simp [h0]), if_neg (by simp [h1])] at hC
  have ho := rtOk_of h0
  obtain ⟨hsl, hrow⟩ := shaped_len h1
  have hn6 : t.n ≤ 6 := ho.n6
  have hm4 : t.m ≤ 4 := by have := t.devs_len; unfold RTk.many at this; have := ho.s2; have := ho.p2; unfold RTk.m; omega
  obtain ⟨E, hE⟩ : ∃ E, E = (t.flw 0 t.s t.on p).2 := ⟨_, rfl⟩
  rw [← hE] at hC ⊢
  repeat (first | (refine M0 ?_; first | refine SL ?_ | refine SB fun _ _ => ?_) | (refine M1 ?_; refine SC ?_) | (refine M2 ?_; refine SE ?_))
  refine XC.cond _ rfl (fun h2 => ?_) (fun h2 => ?_)
  · repeat (first | (refine M0 ?_; first | refine SL ?_ | refine SB fun _ _ => ?_) | (refine M1 ?_; refine SC ?_) | (refine M2 ?_; refine SE ?_))
    refine XE.retg tok Try.results18 rfl (by simp only [and_self, and_true]) (fun w' S => ?_)
    exact lst_no hC (by simpa using h2) (hB2.trans S.toBelow)
  have hE0 : E = 0 := by simpa using h2
  subst hE0
  have hP0 : Pln0 w2 _ g gt gm v r t := hF2.held (hPln g gt gm v r t) (.tail _ (.head _))
  have hkm := hP0.km
  have hgm : w.heap.size ≤ gm ∧ gm < w2.heap.size := ⟨hkm.1, hkm.2.1⟩
  have hg2m : g2 ≠ gm := fun e => hkm.2.2.1 (by rw [e]; simp)
  repeat (first | (refine M0 ?_; first | refine SL ?_ | refine SB fun _ _ => ?_) | (refine M1 ?_; refine SC ?_) | (refine M2 ?_; refine SE ?_))
  refine XC.grab hP0.hm hgm.1 (fun e he => by rw [List.mem_singleton.1 he]; exact hg2m) (fun W3 S3 => ?_)
  have hfr : ∀ j, Free w2 w.heap.size ([g2] ++ [g2]) [] j → j ≠ gm → Free w2 w.heap.size [gm, g2] [] j := fun j hj hne => ⟨hj.1, hj.2.1, fun h => by
    rcases List.mem_cons.1 h with h | h
    · exact hne h
    · exact hj.2.2.1 (List.mem_append_right _ h), fun x hx => by cases hx⟩
  have F2 : Fam w2 w.heap.size [gm, g2] [] [hPA g gt gm v r t, hList donK q ds, hMemG gm t []] := (((Fam.start hB2.size).hold (x := hMemG gm t []) (ok := fun _ => False) hMem_nil (fun j hj => hj.elim)).hold (x := hList donK q ds) (ok := fun j => Free w2 w.heap.size ([g2] ++ [g2]) [] j ∧ j ≠ gm) (dons_ne (hF2.held (hList donK q ds) (.head _)) hP0.hm) (fun j hj => hfr j hj.1 hj.2)).hold (x := hPA g gt gm v r t) (ok := Ng gm (Free w2 w.heap.size ([g2] ++ [g2]) [])) hP0.p (fun j hj => hfr j hj.1 hj.2)
  have F3 := F2.sys S3 (fun e he => .inl (.tail _ (by rw [List.mem_singleton.1 he]; exact .head _)))
  have hk3 : ∀ k, k ∈ [gm, g2] → k < W3.heap.size := fun k hk => by
    rcases List.mem_cons.1 hk with rfl | hk
    · exact Nat.lt_of_lt_of_le hgm.2 S3.size
    · rw [List.mem_singleton.1 hk]; exact S3.lt (e := (g2, _)) (.head _)
  have hB3 := hB2.trans S3.toBelow
  have hgm3 : w.heap.size ≤ gm ∧ gm < W3.heap.size := ⟨hgm.1, hk3 gm (.head _)⟩
  clear F2 hF2 hk2 hB2 S3 S0 hfr
  refine XC.cutn [1, 2, 4, 6, 7] rfl (fun g9 : Nat => [(9, .pointer (some ⟨g9, 0, none⟩)), (10, .slice v.on.A v.on.n v.on.c)]) (fun g9 => [(g9, cel 28 [.int .i64 t.s.vol, .slice v.q.A v.q.n v.q.c]), (gm, mapO []), (g2, cel 33 (tskC v t))]) (fun _ => W3) (fun g9 => W3.heap.size ≤ g9) ?_ (fun g9 hg9 => ?_)
  · refine XC.drawR _ [0, 1, 2, 3] [4, 5, 6] mixed (fun _ h => h) rfl (by kernel_rfl) ?_
    repeat (any_goals (first | (refine M0 ?_; first | refine SL ?_ | refine SB fun _ _ => ?_) | (refine M1 ?_; refine SC ?_) | (refine M2 ?_; refine SE ?_) | (refine M3 ?_; first | refine SG ?_ | refine SF ?_) | (refine M4 ?_; refine SR ?_) | (refine M5 ?_; first | exact M7 | refine YM ?_ | refine YN ?_ ?_)))
    any_goals (repeat (first | exact AnyR.nil | refine AnyR.skip rfl ?_))
    all_goals exact XE.leaf _ ZZSUB (fun _ S' => by first | exact S' | exact S'.perm (by repeat (first | exact List.Perm.refl _ | refine perm1 ?_ | refine List.Perm.cons _ ?_ | refine perm2 ?_)) | exact (S'.pop (by assumption)) | exact (S'.pop2 (by assumption))) (by assumption)
  refine XC.rebase (List.Sublist.refl _) (fun W1 S1 => ?_)
  have F1 : Fam W1 w.heap.size [g9, gm, g2] [] [hPA g gt gm v r t, hList donK q ds, hMemG gm t []] := (Fam.atEnd F3 S1 ZZHL).add (fun k hk => by left; simp only [List.mem_cons, List.not_mem_nil, or_false] at hk; simp only [List.map_cons, List.map_nil, List.mem_append, List.mem_cons, List.not_mem_nil, or_false]; omega)
  have hk1 : ∀ k, k ∈ [g9, gm, g2] → k < W1.heap.size := fun k hk => S1.keyLt k hk
  have hB1 := hB3.trans S1.toBelow
  have hgm1 : w.heap.size ≤ gm := hgm.1
  have F1' := (F1.hold (x := hMix w v.q t.s.fil) (ok := fun _ => False) (.inl ht.fil) (fun _ h => h.elim)).nil winK
  clear F1 S1 F3 hB3 hk3 hgm3
  have hfl : (t.flw 0 t.s t.on p).1.length = p.length := flw_len hE.symm
  have hdl : ds.length = p.length := by rw [← hfl, ← hds]; simp
  have hone0 : t.flw 0 t.s t.on (p.drop 0) = ((ds.map (·.2)).drop 0, 0) := by
    rw [List.drop_zero, List.drop_zero, hds]
    exact Prod.ext rfl hE.symm
  obtain ⟨Aq, nq, cq⟩ := q
  have hlq : ListAt donK W1 _ ⟨Aq, nq, cq⟩ ds := F1'.held (hList donK ⟨Aq, nq, cq⟩ ds) (by simp)
  have hlnq := hlq.len (by decide)
  simp only at hlnq
  subst hlnq
  clear hlq
  simp only [svV]
  refine XC.hint 9 2 ?_
  repeat (first | (refine M0 ?_; first | refine SL ?_ | refine SB fun _ _ => ?_) | (refine M1 ?_; refine SC ?_) | (refine M2 ?_; refine SE ?_))
  refine XC.loopk [1, 6, 9, 31, 32] rfl (fun z : LsSt => [(33, .int .i64 (z.k : Nat)), (4, svV z.rl), (10, svV z.bq)]) (fun z => [(g9, cel 28 (staC z.sq z.s)), (gm, mapO z.kvs), (g2, cel 33 (tskC v t))]) (fun z => z.W) (LsInv w v t p [g9, gm, g2] g gt gm r ⟨Aq, ds.length, cq⟩ ds) (fun z => p.length - z.k) ⟨0, W1, ⟨none, 0, 0⟩, v.q, v.on, t.s, t.on, [], []⟩ ⟨Nat.zero_le _, hB1, F1', hk1, KeysOk.nil, ht.on, ho.on, ho.sta, hone0, by rw [List.drop_zero]; rfl, rfl⟩ ZZSUB (fun _ h => h) ?_
  rintro ⟨k, W, rl, sq, bq, s, b, l, kvs⟩ ⟨hk, hBW, hFW, hkW, hkeys, hbef, hbl, hsta, hone, hlst, hlen⟩
  simp only at hk hBW hFW hkW hkeys hbef hbl hsta hone hlst hlen
  simp only [staC, svV]
  dsimp only [List.cons_append, List.nil_append]
  repeat (first | (refine M0 ?_; first | refine SL ?_ | refine SB fun _ _ => ?_) | (refine M1 ?_; refine SC ?_) | (refine M2 ?_; refine SE ?_))
  refine XC.cond _ rfl (fun h3 => ?_) (fun h3 => ?_)
  rotate_left
  · have hkn : k = p.length := by have := of_decide_eq_false h3; omega
    subst hkn
    rw [List.drop_length] at hlst
    have hl6 : l.length ≤ 6 := by omega
    repeat (first | (refine M0 ?_; first | refine SL ?_ | refine SB fun _ _ => ?_ | refine XL.buildSlice tok rfl rfl rfl rfl rfl rfl rfl rfl rfl (fun _ _ => ?_)) | (refine M1 ?_; refine SC ?_) | (refine M2 ?_; refine SE ?_))
    refine XL.push (K := winK) (a := 0) (wE := w) 0 ints_el6 (by decide) rfl rfl rfl hFW rfl hkW hBW (Nat.le_refl _) rfl (by omega) (by decide) (fun x hx => by cases hx) (fun w7 v7 hF7 hB7 hk7 => ?_)
    obtain ⟨r7, rfl, hn7⟩ := hF7.sv (K := winK) (l := l ++ [0]) (.head _)
    simp only [svV]
    repeat (first | (refine M0 ?_; first | refine SL ?_ | refine SB fun _ _ => ?_) | (refine M1 ?_; refine SC ?_) | (refine M2 ?_; refine SE ?_))
    refine XE.retg tok Try.results18 rfl (by simp only [and_self, and_true]) (fun w' S => ?_)
    have F9 := Fam.freeze (hF7.sys S ZZHL)
    refine ⟨_, _, rfl, ⟨r7, by rw [hC]; rfl, rfl⟩, fun x hx => ?_, hB7.trans S.toBelow⟩
    rw [List.mem_singleton.1 hx]
    unfold lstL
    rw [if_pos hC, ← hlst]
    exact winInts (F9.get (x := hList winK r7 (l ++ [0])) (.head _))
  have hkn : k < p.length := by have := of_decide_eq_true h3; omega
  have hke : k < es.length := by omega
  have hkd : k < ds.length := by omega
  have hpk : p[k] = es[k].2 := by simp [← hes]
  have hdrop : p.drop k = es[k].2 :: p.drop (k + 1) := by rw [List.drop_eq_getElem_cons hkn, hpk]
  rw [hdrop] at hone hlst
  obtain ⟨ap, rfl, hlp⟩ := hp.addr (by decide) (by omega)
  have hcell := hp.elem (List.getElem?_eq_getElem hke) 0 (svV es[k].1) rfl
  rw [add_add, Nat.add_zero] at hcell
  have hon : ListAt boolK w (Lt w.heap.size) es[k].1 es[k].2 := hp.ins es[k] (List.getElem_mem hke) (hList boolK es[k].1 es[k].2) (.head _)
  have honl : es[k].2.length = t.m := hrow _ (by rw [← hpk]; exact List.getElem_mem hkn)
  obtain ⟨oq, hoq⟩ : ∃ oq, oq = es[k].1 := ⟨_, rfl⟩
  obtain ⟨on, hon'⟩ : ∃ on, on = es[k].2 := ⟨_, rfl⟩
  rw [← hoq] at hcell hon
  rw [← hon'] at hone hlst hon honl
  have hnn : t.n = t.outer.length := rfl
  have hi : k < t.outer.length := by omega
  obtain ⟨hd0, hd1, hd2⟩ := flw_cons (t := t) (by rw [hone])
  have hdd : (ds.map (·.2)).drop k = ds[k].2 :: (ds.map (·.2)).drop (k + 1) := by
    rw [List.drop_eq_getElem_cons (by simpa using hkd)]; simp
  rw [hone, hdd] at hd2
  obtain ⟨⟨q1, d1⟩, hqd⟩ : ∃ z, z = ds[k] := ⟨_, rfl⟩
  rw [← hqd] at hd2
  simp only [List.cons.injEq] at hd2
  obtain ⟨hd3, hd4⟩ := hd2
  rw [← hd3] at hd1 hd4
  obtain ⟨hsta', _, _, _⟩ := do_sta ho hsta hi hd0
  rw [← hd3] at hsta'
  have hlq : ListAt donK W _ ⟨Aq, ds.length, cq⟩ ds := hFW.held (hList donK ⟨Aq, ds.length, cq⟩ ds) (by simp)
  obtain ⟨aq, haq, hfl⟩ := hlq.addr (by decide) (by omega)
  subst haq
  have hel := hlq.elem (List.getElem?_eq_getElem hkd)
  rw [← hqd] at hel
  have hel' : ∀ j u, ([.int .i64 d1.s.vol, .slice q1.A q1.n q1.c, .int .i64 d1.out, .int .i64 d1.energy, .int .i64 d1.cost] : List Value)[j]? = some u → W.cell? ((aq.add (k * 5)).add j) = some u := hel
  repeat (first | (refine M0 ?_; first | refine SL ?_ | refine SB fun _ _ => ?_ | refine Y4 (Ev.load_far_agg tok [.int .i64 d1.s.vol, .slice q1.A q1.n q1.c, .int .i64 d1.out, .int .i64 d1.energy, .int .i64 d1.cost] rfl rfl rfl (by rw [add_block]; exact hfl.2.1) (Free.far hfl (by intro e he; left; exact (show e.1 ∈ [g9, gm, g2] from List.mem_map.2 ⟨e, he, rfl⟩))) hel') ?_) | (refine M1 ?_; refine SC ?_) | (refine M2 ?_; refine SE ?_))
  rename_i g12 hg12
  have hgW : gm < W.heap.size := hkW gm (by simp)
  have hk' : t.n - (t.n - k) = k := by omega
  obtain ⟨ks2, hks2⟩ : ∃ ks2, ks2 = [g12, g9, gm, g2] ++ (svV rl).ownBlock.toList := ⟨_, rfl⟩
  have hFA := hFW.add (ks' := [g12, g9, gm, g2]) (fun x hx => by
    rcases List.mem_cons.1 hx with rfl | hx
    · exact .inr hg12
    · exact .inl hx)
  have hin2 : ∀ j, j ∉ ks2 → j ∉ [g12, g9, gm, g2] ∧ (svV rl).ownBlock ≠ some j := fun j hj => ⟨fun h => hj (by rw [hks2]; exact List.mem_append_left _ h), fun h => hj (by rw [hks2, h]; simp)⟩
  refine XL.callr (fst := []) (cap := []) (fun w4 x w5 => RestR t gm (t.n - k) ks2 kvs s b w4 x w5) (ck rfl) rfl rfl rfl (fun w4 S4 => ?_) (fun w4 x w5 S4 hR => ?_)
  · have F4 := hFA.sys S4 (fun e he => .inl (show e.1 ∈ [g12, g9, gm, g2] from List.mem_map.2 ⟨e, he, rfl⟩))
    have B4 := hBW.trans S4.toBelow
    have hgm4 : gm < w4.heap.size := Nat.lt_of_lt_of_le hgW S4.size
    have hre := rest_any (v := v) (r := r) (g := g) (gt := gt) (gm := gm) ho (chk_rt h0) (t.n - k) (Nat.sub_le _ _) (w := w4) (ks := ks2) (kvs := kvs) (sq := sq) (p := bq) (s := s) (b := b)
      ((F4.held (hPA g gt gm v r t) (by simp)).mono fun j hj => ⟨hj.2.1, fun e => hj.2.2.1 (by rw [e]; simp)⟩) ((ht.below B4).more hgm1) (S4.own (gm, mapO kvs) (by simp)).2
      ((Fam.start (Nat.le_of_lt hgm4)).hold (x := hMem t kvs) (ok := fun j => gm ≤ j ∧ Free w4 w.heap.size [g12, g9, gm, g2] _ j) (F4.held (hMemG gm t kvs) (by simp)) (fun j hj => ⟨hj.1, hj.2.2.1, fun h => by
        rw [hks2] at h
        rcases List.mem_append.1 h with h | h
        · exact hj.2.2.2.1 h
        · exact hj.2.2.2.2 _ (.head _) (by simpa using h), fun x hx => by cases hx⟩)) (by rw [hks2]; simp) (fun x hx => by
        rw [hks2] at hx
        rcases List.mem_append.1 hx with h | h
        · exact S4.keyLt x h
        · exact (F4.lt (.head _) (by simpa using h)).2) hkeys hsta hbl
      (by
        rcases F4.held (hMix w sq s.fil) (.head _) with h | h
        · exact (h.keep fun j hj => B4.block j hj).mono fun j hj => ⟨Nat.lt_of_lt_of_le hj B4.size, fun e => by have hj' : j < w.heap.size := hj; omega⟩
        · exact h.mono fun j hj => ⟨hj.2.1, fun e => hj.2.2.1 (by rw [e]; simp)⟩)
      ((hbef.keep fun j hj => B4.block j hj).mono fun j hj => ⟨Nat.lt_of_lt_of_le hj B4.size, fun e => by have hj' : j < w.heap.size := hj; omega⟩)
    rw [hk'] at hre
    exact hre
  obtain ⟨q5, new, rfl, S5, F5, hkeys5, _⟩ := hR
  have F4 := hFA.sys S4 (fun e he => .inl (show e.1 ∈ [g12, g9, gm, g2] from List.mem_map.2 ⟨e, he, rfl⟩))
  have S5' := S4.turned 2 rfl rfl S5
  refine ⟨_, w5, S5'.rebase (List.Sublist.refl _), ?_⟩
  have B5 := hBW.trans S5'.toBelow
  have F6 := (F4.sys S5 (fun e he => .inl (by rw [List.mem_singleton.1 he]; simp))).hold (x := hMemG gm t (kvs ++ new)) (ok := Free w5 gm ks2 []) ((hMem t (kvs ++ new)).mono (F5.held (hMem t (kvs ++ new)) (.head _)) fun j hj => ⟨hj.1, hj⟩) (fun j hj => ⟨Nat.le_trans hgm1 hj.1, hj.2.1, (hin2 j hj.2.2.1).1, fun x hx => by rw [List.mem_singleton.1 hx]; exact (hin2 j hj.2.2.1).2⟩)
  have hk5 : ∀ x, x ∈ [g12, g9, gm, g2] → x < w5.heap.size := fun x hx => S5'.keyLt x hx
  clear F4 S5' F5 S5 S4 hFA hkW
  obtain ⟨co, hco⟩ : ∃ co, co = fdC (t.rest (t.n - k) s b) := ⟨_, rfl⟩
  simp only [tailV, tailC]
  rw [← hco]
  have hl6 : l.length ≤ 6 := by omega
  repeat (first | (refine M0 ?_; first | refine SL ?_ | refine SB fun _ _ => ?_ | refine XL.buildSlice tok rfl rfl rfl rfl rfl rfl rfl rfl rfl (fun _ _ => ?_)) | (refine M1 ?_; refine SC ?_) | (refine M2 ?_; refine SE ?_))
  refine XL.push (K := winK) (a := co) (wE := w) 0 ints_el6 (by decide) rfl rfl rfl F6 rfl hk5 B5 (Nat.le_refl _) rfl (by omega) (by decide) (fun x hx => by cases hx) (fun w7 v7 hF7 hB7 hk7 => ?_)
  obtain ⟨r7, rfl, hn7⟩ := hF7.sv (K := winK) (l := l ++ [co]) (.head _)
  simp only [svV]
  repeat (first | (refine M0 ?_; first | refine SL ?_ | refine SB fun _ _ => ?_) | (refine M1 ?_; refine SC ?_) | (refine M2 ?_; refine SE ?_))
  refine XC.drawRS _ [(g12, cel 66 [.int .i64 d1.s.vol, .slice q1.A q1.n q1.c, .int .i64 d1.out, .int .i64 d1.energy, .int .i64 d1.cost])] [0, 1, 2, 3, 4, 5] [6, 7] mixed (fun _ h => Sys.anchor2 (by assumption) h ZZSM) rfl (by kernel_rfl) ?_
  repeat (any_goals (first | (refine M0 ?_; first | refine SL ?_ | refine SB fun _ _ => ?_ | refine Y4 (Ev.load_old tok rfl rfl (add_lt hlp) hcell) ?_) | (refine M1 ?_; refine SC ?_) | (refine M2 ?_; refine SE ?_) | (refine M3 ?_; first | refine SG ?_ | refine SF ?_ | refine YF (Ev.load_old tok rfl rfl (add_lt hlp) hcell) ?_) | (refine M4 ?_; refine SR ?_) | (refine M5 ?_; first | exact M7 | refine YM ?_ | refine YN ?_ ?_)))
  any_goals (repeat (first | exact AnyR.nil | refine AnyR.skip rfl ?_))
  all_goals
    refine XE.roundW (s := LsSt.mk k W rl sq bq s b l kvs) (fun w8 S8 => ⟨LsSt.mk (k + 1) w8 r7 q1 oq d1.s on (l ++ [co]) (kvs ++ new), ⟨hkn, hB7.trans S8.toBelow, ?_, fun x hx => S8.keyLt x (by simp only [List.map_cons, List.map_nil, List.mem_cons, List.not_mem_nil, or_false] at hx ⊢; omega), hkeys5, hon, honl, hsta', ?_, ?_, by simp [hlen]⟩, by simp only; omega, ZZSUB, S8.rebase ZZSL⟩)
    · have F8 := (hF7.sys S8 ZZHL).add (ks' := [g9, gm, g2]) (fun x hx => .inl (List.mem_append_right _ (.tail _ hx)))
      have h9 := F8.held (hList donK ⟨some aq, ds.length, cq⟩ ds) (by simp)
      have h8 : IntsAt w8 _ q1 d1.s.fil := h9.ins (q1, d1) (by rw [hqd]; exact List.getElem_mem hkd) (hInts q1 d1.s.fil) (.head _)
      refine Fam.forget (F8.hold (x := hMix w q1 d1.s.fil) (ok := Free w8 w.heap.size [g9, gm, g2] _) (.inr h8) (fun j hj => hj)) (fun x hx => ?_)
      simp only [List.mem_cons, List.not_mem_nil, or_false] at hx ⊢
      rcases hx with rfl | rfl | rfl | rfl <;> simp
    · exact Prod.ext hd4.symm hd1
    · rw [← hlst]
      simp only [RTk.lst, List.append_assoc, List.cons_append, List.nil_append]
      rw [← hco, ← hd3]
end Go.Proofs.Ytlfjdbilblfknaa.X
