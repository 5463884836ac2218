/-
  The walk of slices.Reverse: a row is turned round in place (closure).
-/
import Derived.Test.YtmpaiphakjogjaaDoorPart4
import Derived.Test.YtmpaiphakjogjaaDoorPart3
set_option linter.unusedVariables false
set_option linter.unusedSimpArgs false
namespace Go.Proofs.YtmpaiphakjogjaaDoor.Bs
open Go Go.Proofs.YtmpaiphakjogjaaDoor.X
set_option linter.unusedVariables false
def rvI (n k x : Nat) : Nat := if x < k ∨ n - k ≤ x then n - 1 - x else x
def rv (l : List II) (k : Nat) : List II := (List.range l.length).map fun x => l[rvI l.length k x]?.getD (0, 0)
theorem rv_len (l : List II) (k : Nat) : (rv l k).length = l.length := by simp [rv]
theorem rv_at {l : List II} {k x : Nat} (hx : x < l.length) : (rv l k)[x]? = some (l[rvI l.length k x]?.getD (0, 0)) := by
  unfold rv
  rw [List.getElem?_map, List.getElem?_range hx]; rfl
theorem rv_none {l : List II} {k x : Nat} (hx : l.length ≤ x) : (rv l k)[x]? = none := List.getElem?_eq_none (by rw [rv_len]; exact hx)
theorem rv_0 (l : List II) : rv l 0 = l := by
  refine List.ext_getElem? fun x => ?_
  by_cases hx : x < l.length
  · rw [rv_at hx, show rvI l.length 0 x = x from if_neg (by omega), List.getElem?_eq_getElem hx]; rfl
  · rw [rv_none (by omega), List.getElem?_eq_none (by omega)]
theorem rv_all {l : List II} {k : Nat} (h : ¬ k < l.length - 1 - k) : rv l k = l.reverse := by
  refine List.ext_getElem? fun x => ?_
  by_cases hx : x < l.length
  · rw [rv_at hx, List.getElem?_reverse hx]
    have e : rvI l.length k x = l.length - 1 - x := by
      unfold rvI
      split
      · rfl
      · omega
    rw [e, List.getElem?_eq_getElem (by omega)]; rfl
  · rw [rv_none (by omega), List.getElem?_eq_none (by simp; omega)]
theorem rv_step {l : List II} {k : Nat} {a b : II} (h : k < l.length - 1 - k) (ha : (rv l k)[k]? = some a) (hb : (rv l k)[l.length - 1 - k]? = some b) : ((rv l k).set k b).set (l.length - 1 - k) a = rv l (k + 1) := by
  have h1 : rvI l.length k k = k := if_neg (by omega)
  have h2 : rvI l.length k (l.length - 1 - k) = l.length - 1 - k := if_neg (by omega)
  rw [rv_at (by omega), h1] at ha
  rw [rv_at (by omega), h2] at hb
  refine List.ext_getElem? fun x => ?_
  by_cases hx : x < l.length
  · rw [rv_at hx]
    by_cases h3 : x = l.length - 1 - k
    · subst h3
      rw [List.getElem?_set_self (by simp [rv_len]; omega), ← ha]
      have : rvI l.length (k + 1) (l.length - 1 - k) = k := by unfold rvI; rw [if_pos (by omega)]; omega
      rw [this]
    · rw [List.getElem?_set_ne (Ne.symm h3)]
      by_cases h4 : x = k
      · subst h4
        rw [List.getElem?_set_self (by simp [rv_len]; omega), ← hb]
        have : rvI l.length (x + 1) x = l.length - 1 - x := by unfold rvI; rw [if_pos (by omega)]
        rw [this]
      · rw [List.getElem?_set_ne (Ne.symm h4), rv_at hx]
        have : rvI l.length (k + 1) x = rvI l.length k x := by
          unfold rvI
          by_cases h5 : x < k ∨ l.length - k ≤ x
          · rw [if_pos h5, if_pos (by omega)]
          · rw [if_neg h5, if_neg (by omega)]
        rw [this]
  · rw [rv_none (by omega), List.getElem?_eq_none (by simp [rv_len]; omega)]
end Go.Proofs.YtmpaiphakjogjaaDoor.Bs
namespace Go.Proofs.YtmpaiphakjogjaaDoor.X
open Go Go.RowKit Go.Proofs.YtmpaiphakjogjaaDoor.Bs
set_option linter.unusedVariables false
def wtnK5 : Kind II := ⟨121, 2, fun x => [.int .i64 x.1, .int .i64 x.2], fun _ => [], fun _ => rfl⟩
theorem wtn5_el : elemOk Tryd.prog 75 wtnK5.ty wtnK5.m 16 = true := by kernel_rfl
section
variable {P : Program} {T : TT} {N : Nat} {B : Nat} {w0 : World} {ds : List Deferred} {Q : Exit → Act → World → Prop} {F : Fr} {L L' : Lo} {ops : Array Oper} {rest : List Oper} {ty : TypeId} {p : String} {af : Array Edge}
/-- an element of two cells is stored. -/
theorem XL.store_row2 {α : Type} (K : Kind α) (hT : TOK P T) (i : Nat) {l : List α} {sp : List Value} {a : α} {t : TypeId} {x y : Operand} {g j : Nat} {tg : TypeId}
    (hx : evo F x = some (.pointer (some ((⟨g, 0, none⟩ : Addr).add (j * K.m))))) (hy : evo F y = some (.agg (K.c a).toArray)) (hL : L[i]? = some (g, cel tg (l.flatMap K.c ++ sp))) (ht : lkG T.agg t = some 2) (hm : K.m = 2) (h1 : ∀ a, (K.c a).all one1 = true)
    (hj : j < l.length) (hL' : setN L i (g, cel tg ((l.set j a).flatMap K.c ++ sp)) = some L') (k : XL P N B w0 ds Q ops rest F L') :
    XL P N B w0 ds Q ops ({ dst := none, op := .store t x y, type := ty, pos := p, after := af, guard := none } :: rest) F L := by
  rw [add_off, Nat.zero_add] at hx
  have hp : putN (l.flatMap K.c ++ sp) (j * K.m) (K.c a) = some ((l.set j a).flatMap K.c ++ sp) := by
    have hK := K.len
    have key : ∀ (l : List α) (j : Nat), j < l.length → putN (l.flatMap K.c ++ sp) (j * K.m) (K.c a) = some ((l.set j a).flatMap K.c ++ sp) := by
      intro l
      induction l with
      | nil => intro j h; simp at h
      | cons b l ih =>
        intro j h
        have hb := hK b
        have ha := hK a
        rw [hm] at hb ha ih ⊢
        obtain ⟨b1, b2, eb⟩ : ∃ x y, K.c b = [x, y] := by
          match hc : K.c b, hb with
          | [x, y], _ => exact ⟨x, y, rfl⟩
        obtain ⟨a1, a2, ea⟩ : ∃ x y, K.c a = [x, y] := by
          match hc : K.c a, ha with
          | [x, y], _ => exact ⟨x, y, rfl⟩
        cases j with
        | zero =>
          rw [List.flatMap_cons, eb, List.set_cons_zero, List.flatMap_cons, ea]
          rfl
        | succ j =>
          have hi := ih j (by simpa using h)
          rw [List.flatMap_cons, eb, List.set_cons_succ, List.flatMap_cons, eb, ea]
          rw [ea] at hi
          have e2 : (j + 1) * 2 = j * 2 + 1 + 1 := by omega
          rw [e2]
          simp only [putN, setN, List.cons_append, List.nil_append] at hi ⊢
          cases h3 : setN (List.flatMap K.c l ++ sp) (j * 2) a1 with
          | none => rw [h3] at hi; cases hi
          | some l3 =>
            rw [h3] at hi
            simp only at hi ⊢
            rw [show j * 2 + 1 + 1 + 1 = (j * 2 + 1) + 1 + 1 from rfl]
            simp only [setN]
            cases h4 : setN l3 (j * 2 + 1) a2 with
            | none => rw [h4] at hi; cases hi
            | some l4 => rw [h4] at hi; simp only [Option.some.injEq] at hi ⊢; rw [hi]
    exact key l j hj
  exact XL.store hT i hx hy hL rfl (.inr (by rw [K.len, hm]; exact ht)) (h1 a) hp hL' k
end
set_option maxHeartbeats 8000000 in
theorem rev_any {gq cap : Nat} {l : List II} {sp : List Value} {w : World} (hq : w.heap[gq]? = some (cel 121 (l.flatMap wtnK5.c ++ sp))) (hl : l.length ≤ 1000) :
    Calls Tryd.prog 38 #[.slice (some ⟨gq, 0, none⟩) l.length cap] w fun e w' => e = .returned (.tuple #[]) ∧ Sys gq w [(gq, cel 121 (l.reverse.flatMap wtnK5.c ++ sp))] w' := by
  have S0 := Sys.start1 (Nat.le_refl gq) hq
  have hlt := (Array.getElem?_eq_some_iff.1 hq).1
  have hBw : Below gq w w := Below.refl _ _
  have hle : gq ≤ w.heap.size := by omega
  refine enterL Tryd.func38 rfl Tryd.ntmps38 rfl (S0) ?_; simp only [frame, Nat.zero_add, Nat.reduceAdd]
  repeat (first | (refine M0 ?_; first | refine SL ?_ | refine SB fun _ _ => ?_) | (refine M1 ?_; refine SC ?_) | (refine M2 ?_; refine SE ?_))
  refine XC.loopk [0] rfl (fun k : Nat => [(2, .int .i64 (k : Nat)), (3, .int .i64 ((l.length : Int) - 1 - (k : Nat)))]) (fun k => [(gq, cel 121 ((rv l k).flatMap wtnK5.c ++ sp))]) (fun _ => w) (fun k => k ≤ l.length) (fun k => l.length - k) 0 (Nat.zero_le _) (Sub.cons rfl (Sub.cons (by show some _ = some _; congr 2; omega) Sub.nil)) (fun w' h => by rw [rv_0]; exact h) ?_
  intro k hk
  dsimp only [List.cons_append, List.nil_append]
  repeat (first | (refine M0 ?_; first | refine SL ?_ | refine SB fun _ _ => ?_) | (refine M1 ?_; refine SC ?_) | (refine M2 ?_; refine SE ?_))
  refine XC.cond _ rfl (fun h2 => ?_) (fun h2 => ?_)
  rotate_left
  · have hn : ¬ k < l.length - 1 - k := by have := of_decide_eq_false h2; omega
    repeat (first | (refine M0 ?_; first | refine SL ?_ | refine SB fun _ _ => ?_) | (refine M1 ?_; refine SC ?_) | (refine M2 ?_; refine SE ?_))
    refine XE.end0 Tryd.results38 (fun w' S => ?_)
    rw [rv_all hn] at S
    exact ⟨rfl, S⟩
  have hkn : k < l.length - 1 - k := by have := of_decide_eq_true h2; omega
  obtain ⟨m, hm⟩ : ∃ m, m = l.length - 1 - k := ⟨_, rfl⟩
  have em : (l.length : Int) - 1 - (k : Nat) = (m : Nat) := by omega
  rw [em]
  obtain ⟨a, ha⟩ : ∃ a, (rv l k)[k]? = some a := ⟨_, rv_at (by omega)⟩
  obtain ⟨b, hb⟩ : ∃ b, (rv l k)[m]? = some b := ⟨_, rv_at (by omega)⟩
  have hstep := rv_step hkn ha (by rw [← hm]; exact hb)
  rw [← hm] at hstep
  have hge : ∀ (j : Nat) (y : II), (rv l k)[j]? = some y → ∀ i u, (wtnK5.c y)[i]? = some u → ((rv l k).flatMap wtnK5.c ++ sp)[0 + j * 2 + i]? = some u := fun j y hj i u hu => by
    have hi : i < 2 := (List.getElem?_eq_some_iff.1 hu).1
    rw [Nat.zero_add, fget (C := wtnK5.c) (m := 2) (fun _ => rfl) sp hj hi]
    exact hu
  have hlr := rv_len l k
  repeat (first | (refine M0 ?_; first | refine SL ?_ | refine SB fun _ _ => ?_) | (refine M1 ?_; refine SC ?_) | (refine M2 ?_; refine SE ?_))
  refine XC.drawRS (trunc w gq) [] [0, 1, 2, 3, 4, 5, 6, 8, 9, 10] [7, 11, 12, 13, 14, 15] mixed (fun _ h => Sys.anchorT hBw h (fun e he => by cases he) (by simp) hle) rfl (by kernel_rfl) ?_
  repeat (any_goals (first | (refine M0 ?_; first | refine SL ?_ | refine SB fun _ _ => ?_ | refine Y4 (Ev.load_at_agg tok 0 (g := gq) (o := 0) (j := m * 2) (vs := wtnK5.c b) rfl rfl rfl rfl (hge m b hb)) ?_ | refine Y4 (Ev.load_at_agg tok 0 (g := gq) (o := 0) (j := k * 2) (vs := wtnK5.c a) rfl rfl rfl rfl (hge k a ha)) ?_ | refine XL.store_row2 wtnK5 tok 0 (j := k) (a := b) (l := rv l k) (sp := sp) rfl rfl rfl rfl rfl (fun _ => rfl) (by omega) rfl ?_ | refine XL.store_row2 wtnK5 tok 0 (j := m) (a := a) (l := (rv l k).set k b) (sp := sp) rfl rfl rfl rfl rfl (fun _ => rfl) (by simp; omega) rfl ?_) | (refine M1 ?_; refine SC ?_) | (refine M2 ?_; first | refine SE ?_ | ((with_reducible refine atHeld ?_); refine z7 ?_)) | (refine M3 ?_; first | refine SG ?_ | refine SF ?_ | refine YF (Ev.load_at_agg tok 0 (g := gq) (o := 0) (j := m * 2) (vs := wtnK5.c b) rfl rfl rfl rfl (hge m b hb)) ?_ | refine YF (Ev.load_at_agg tok 0 (g := gq) (o := 0) (j := k * 2) (vs := wtnK5.c a) rfl rfl rfl rfl (hge k a ha)) ?_) | (refine M4 ?_; refine SR ?_) | (refine M5 ?_; first | exact M7 | refine YM ?_ | refine YN ?_ ?_)))
  any_goals (repeat (first | exact AnyR.nil | refine AnyR.skip rfl ?_))
  all_goals
    rw [hstep]
    exact XE.round (s := k) (k + 1) (by omega) (by omega) (Sub.cons rfl (Sub.cons (by show some _ = some _; congr 2; omega) ZZSUB)) (fun _ h => h)
/-- the same of a row that grows no more: nil, or a block of its own. -/
theorem rev_row {w : World} {b0 : Nat} {q : SV} {l : List II} (h : w.ownsRow b0 121 2 (svV q) l.length (l.flatMap wtnK5.c)) (hl : l.length ≤ 1000) :
    Calls Tryd.prog 38 #[svV q] w fun e w' => e = .returned (.tuple #[]) ∧ w'.ownsRow b0 121 2 (svV q) l.length (l.reverse.flatMap wtnK5.c) ∧ w'.os = w.os ∧ w'.tape = w.tape ∧ w'.output = w.output ∧ w.heap.size ≤ w'.heap.size ∧ ∀ j, j < w.heap.size → (svV q).ownBlock ≠ some j → w'.heap[j]? = w.heap[j]? := by
  obtain ⟨A, n, c⟩ := q
  obtain ⟨h1, h2 | ⟨g, cap, cur, e, hb, hg, hn, hc, hs, ht⟩⟩ := h
  · obtain ⟨e, h3⟩ := h2
    have hl0 : l = [] := List.length_eq_zero_iff.1 h3
    subst hl0
    simp only [svV, Value.slice.injEq] at e
    obtain ⟨rfl, rfl, rfl⟩ := e
    simp only [svV]
    have S0 : Sys w.heap.size w [] w := Sys.enter w
    refine enter Tryd.func38 rfl Tryd.ntmps38 rfl ?_; simp only [frame, Nat.zero_add, Nat.reduceAdd]
    repeat (first | (refine M0 ?_; first | refine SL ?_ | refine SB fun _ _ => ?_) | (refine M1 ?_; refine SC ?_) | (refine M2 ?_; refine SE ?_))
    refine XC.loopk [0] rfl (fun k : Unit => [(2, .int .i64 0), (3, .int .i64 (-1))]) (fun k => []) (fun _ => w) (fun k => True) (fun k => 1) () trivial ZZSUB (fun w' h => h) ?_
    intro k hk
    dsimp only [List.cons_append, List.nil_append]
    repeat (first | (refine M0 ?_; first | refine SL ?_ | refine SB fun _ _ => ?_) | (refine M1 ?_; refine SC ?_) | (refine M2 ?_; refine SE ?_))
    refine XE.end0 Tryd.results38 (fun w' S => ?_)
    exact ⟨rfl, ⟨rfl, .inl ⟨rfl, rfl⟩⟩, S.os, S.tape, S.output, S.size, fun j hj _ => S.old j hj (fun e he => by cases he)⟩
  · simp only [svV, Value.slice.injEq] at e
    obtain ⟨rfl, rfl, rfl⟩ := e
    have hcur : cur.toList = l.flatMap wtnK5.c ++ cur.toList.drop (l.length * 2) := by rw [← ht, List.take_append_drop]
    have hg' : w.heap[g]? = some (cel 121 (l.flatMap wtnK5.c ++ cur.toList.drop (l.length * 2))) := by rw [← hcur]; exact hg
    have hlen : (l.reverse.flatMap wtnK5.c).length = l.length * 2 := by rw [flat_len wtnK5.c 2 (fun _ => rfl), List.length_reverse]
    refine (rev_any hg' hl).mono fun e w' ⟨e1, S⟩ => ⟨e1, ⟨hlen, .inr ⟨g, _, _, rfl, hb, (S.own _ (.head _)).2, hn, hc, ?_, ?_⟩⟩, S.os, S.tape, S.output, S.size, fun j hj hne => S.old j hj (fun e he e2 => ?_)⟩
    · have : cur.toList.length = cur.size := by simp
      simp only [List.size_toArray, List.length_append, hlen, List.length_drop, this]
      omega
    · rw [List.take_left' hlen]
    · rw [List.mem_singleton.1 he] at e2
      exact hne (by rw [← e2]; rfl)
end Go.Proofs.YtmpaiphakjogjaaDoor.X
/-
  A call of Reverse beside a game; the plain words of Decide's search (closure).
-/
namespace Go.Proofs.YtmpaiphakjogjaaDoor.Bs
open Go Go.Proofs.YtmpaiphakjogjaaDoor.X
set_option linter.unusedVariables false
/-- the witnesses, the last tick first, down to tick i. -/
noncomputable def CTk.downL (t : CTk) (i : Nat) : List II := (List.range (t.beg - i)).map fun x => t.witC ((t.beg - 1 - x : Nat) : Int)
theorem downL_len (t : CTk) (i : Nat) : (t.downL i).length = t.beg - i := by simp [CTk.downL]
theorem downL_0 (t : CTk) : t.downL t.beg = [] := by unfold CTk.downL; rw [Nat.sub_self]; rfl
theorem downL_push {t : CTk} {i : Nat} (hi : i < t.beg) : t.downL i = t.downL (i + 1) ++ [t.witC (i : Nat)] := by
  unfold CTk.downL
  rw [show t.beg - i = (t.beg - (i + 1)) + 1 by omega, List.range_succ, List.map_append]
  congr 1
  rw [List.map_singleton, show t.beg - 1 - (t.beg - (i + 1)) = i by omega]
theorem downL_rev {t : CTk} {i : Nat} (hi : i < t.beg) : (t.downL (i + 1)).reverse = t.laterL i := by
  refine List.ext_getElem? fun x => ?_
  have hl := downL_len t (i + 1)
  have hl2 : (t.laterL i).length = t.beg - (i + 1) := by simp [CTk.laterL]
  by_cases hx : x < t.beg - (i + 1)
  · rw [List.getElem?_reverse (by omega), hl]
    unfold CTk.downL CTk.laterL
    rw [List.getElem?_map, List.getElem?_map, List.getElem?_range (by omega), List.getElem?_range hx]
    simp only [Option.map_some]
    congr 3
    omega
  · rw [List.getElem?_eq_none (by simp [hl]; omega), List.getElem?_eq_none (by omega)]
theorem beg_le {t : CTk} (ho : CtOk t) : t.beg ≤ 60 := by have := ho.n60; have := ho.dly; unfold CTk.beg CTk.last; omega
/-- a plan that holds for all has all levels. -/
theorem all_ins {t : CTk} {p : CPl} (h : ∀ k, k < t.m → t.holds k p = true) : ∀ k i, k < t.m → i < t.n → (t.ins k p i).isSome = true := fun k i hk hi => by
  obtain ⟨x, hx, _⟩ := above_f.1 (holds_iff.1 (h k hk) i hi)
  rw [hx]; rfl
theorem nev_ins (t : CTk) : ∀ k i, k < t.m → i < t.n → (t.ins k nev i).isSome = true := fun k i _ _ => by
  unfold CTk.ins CTk.isOpen
  simp
theorem dec_0 {t : CTk} {r : CRu} (h : ruE t r = 0) (hc : t.called r = false) : t.decE r = 0 ∧ t.decD r = ⟨nev, t.peaks nev, []⟩ := by
  constructor
  · simp [CTk.decE, h, hc]
  · simp [CTk.decD, h, hc]
theorem dec_ru {t : CTk} {r : CRu} (h : ruE t r ≠ 0) : t.decE r = ruE t r ∧ t.decD r = CDe.zero := by
  unfold CTk.decE CTk.decD
  rw [if_pos h, if_pos h]
  exact ⟨rfl, rfl⟩
theorem dec_none {t : CTk} {r : CRu} (h : ruE t r = 0) (hc : t.called r = true) (hl : t.lastOk = none) : t.decE r = 9 ∧ t.decD r = CDe.zero := by
  constructor
  · simp [CTk.decE, h, hc, hl]
  · simp [CTk.decD, h, hc, hl]
theorem dec_some {t : CTk} {r : CRu} (h : ruE t r = 0) (hc : t.called r = true) {i : Nat} (hl : t.lastOk = some i) :
    t.decE r = (if t.may r (i : Nat) = true then 0 else 9) ∧ t.decD r = (if t.may r (i : Nat) = true then ⟨t.plan (i : Nat), t.peaks (t.plan (i : Nat)), t.laterL i⟩ else CDe.zero) := by
  constructor
  · simp [CTk.decE, h, hc, hl]
  · simp [CTk.decD, h, hc, hl]
end Go.Proofs.YtmpaiphakjogjaaDoor.Bs
namespace Go.Proofs.YtmpaiphakjogjaaDoor.X
open Go Go.RowKit Go.Proofs.YtmpaiphakjogjaaDoor.Bs
set_option linter.unusedVariables false
def decC (q1 q2 : SV) (d : CDe) : List Value := [.int .i64 d.plan.close, .int .i64 d.plan.open_, svV q1, svV q2]
def decV (q1 q2 : SV) (d : CDe) : Value := .agg ⟨decC q1 q2 d⟩
def DecR (t : CTk) (r : CRu) (x : Value) (new : List Held) : Prop := ∃ q1 q2 : SV, x = .tuple ⟨[decV q1 q2 (t.decD r), .int .i64 (t.decE r)]⟩ ∧ new = [hList pekK5 q1 (t.decD r).peaks, hList wtnK5 q2 (t.decD r).later]
/-- a row of plain elements is another list now. -/
theorem Fam.turn1 {α : Type} {K : Kind α} {W W' : World} {b0 : Nat} {ks : List Nat} {v : Value} {l l' : List α} {hs : List Held} (h : Fam W b0 ks [⟨α, K, v, l⟩] hs) (hsl : ∀ a, K.sl a = []) (hrow : W'.ownsRow b0 K.ty K.m v l'.length (l'.flatMap K.c)) (hsz : W.heap.size ≤ W'.heap.size)
    (ho : ∀ j, j < W.heap.size → v.ownBlock ≠ some j → W'.heap[j]? = W.heap[j]?) : Fam W' b0 ks [⟨α, K, v, l'⟩] hs := by
  have hm : (⟨α, K, v, l⟩ : RowX) ∈ [(⟨α, K, v, l⟩ : RowX)] := .head _
  have hf : ∀ j, Free W b0 ks [⟨α, K, v, l⟩] j → Free W' b0 ks [⟨α, K, v, l'⟩] j := fun j hj => ⟨hj.1, Nat.lt_of_lt_of_le hj.2.1 hsz, hj.2.2.1, fun r hr => by rw [List.mem_singleton.1 hr]; exact fun e => hj.2.2.2 _ hm e⟩
  refine ⟨Nat.le_trans h.base hsz, fun r hr => by rw [List.mem_singleton.1 hr]; exact hrow, fun r hr k hk => by rw [List.mem_singleton.1 hr] at hk; exact h.sep _ hm k hk, List.pairwise_singleton _ _, fun r hr a ha x hx => ?_, fun x hx => (x.keep (h.held x hx) fun j hj => ho j hj.2.1 fun e => hj.2.2.2 _ hm e) |> fun y => x.mono y hf⟩
  cases List.mem_singleton.1 hr
  have : x ∈ K.sl a := hx
  rw [hsl] at this
  cases this
section
variable {t : CTk} {v : CTV} {b0 g gm : Nat} {ks : List Nat} {hs : List Held} {w w' w0 : World} {L : Lo} {B : Nat}
variable {N : Nat} {ds : List Deferred} {Q : Exit → Act → World → Prop} {F : Fr} {ops : Array Oper} {rest : List Oper} {ty : TypeId} {p : String} {af : Array Edge}
/-- a call of Reverse: the row is turned round. -/
theorem XL.callRev {d : Nat} {args : Array Operand} {ats : Array TypeId} {q : SV} {l : List II} (ha : evos F args.toList = some [svV q]) (hd : Nat.blt d N = true) (hG : Gam t v b0 g gm ks [⟨II, wtnK5, svV q, l⟩] hs w0) (hg : (g, gamO v t gm) ∈ L) (hl : l.length ≤ 1000)
    (k : ∀ w', Gam t v b0 g gm (L.map (·.1) ++ ks) [⟨II, wtnK5, svV q, l.reverse⟩] hs w' → Below b0 w0 w' → XL Tryd.prog N b0 w' ds Q ops rest ((d, .tuple #[]) :: F) L)
    (hL : ∀ e, e ∈ L → e.1 ∈ ks ∨ w0.heap.size ≤ e.1) :
    XL Tryd.prog N b0 w0 ds Q ops ({ dst := some d, op := .call { callee := .value (.func 38), args := args, argTypes := ats }, type := ty, pos := p, after := af, guard := none } :: rest) F L := by
  refine XL.callr (fst := []) (cap := []) (fun w x w' => x = .tuple #[] ∧ Gam t v b0 g gm (L.map (·.1) ++ ks) [⟨II, wtnK5, svV q, l.reverse⟩] hs w' ∧ Below b0 w w' ∧ ∀ e, e ∈ L → w'.heap[e.1]? = w.heap[e.1]?) (ck rfl) rfl ha hd (fun w S => ?_) (fun w x w' S hR => ?_)
  · have hA := hG.add S hg hL
    have hm : (⟨II, wtnK5, svV q, l⟩ : RowX) ∈ [(⟨II, wtnK5, svV q, l⟩ : RowX)] := .head _
    have hrow := hA.fam.row _ hm
    simp only [List.nil_append, List.append_nil]
    refine (rev_row hrow hl).mono fun e w' ⟨e1, e2, e3, e4, e5, e6, e7⟩ => ⟨_, e1, rfl, ?_, ?_, ?_⟩
    · have hb0 : b0 ≤ w.heap.size := hA.fam.base
      have hB : Below b0 w w' := ⟨e3, e4, e5, e6, fun j hj => e7 j (by omega) fun e => by have := (hA.fam.lt hm e).1; omega⟩
      have hsep : ∀ q', q' ∈ gm :: (L.map (·.1) ++ ks) → w'.heap[q']? = w.heap[q']? := fun q' hq' => e7 q' (hA.lt q' hq') fun e => hA.fam.sep _ hm q' e hq'
      refine ⟨hA.fam.turn1 (fun _ => rfl) (by rw [List.length_reverse]; exact e2) e6 e7, hA.nin, hA.gin, fun k hk => Nat.lt_of_lt_of_le (hA.lt k hk) e6, hA.bg, hA.bm, (hsep g (.tail _ hA.gin)).trans hA.game, hA.task.below hB, ?_⟩
      refine (hA.memo.keep (w' := w') fun j hj => ?_).mono fun j hj => ⟨hj.1, Nat.lt_of_lt_of_le hj.2.1 e6, hj.2.2.1, fun r hr => by rw [List.mem_singleton.1 hr]; exact fun e => hj.2.2.2 _ hm e⟩
      rcases hj with hj | rfl
      · exact e7 j hj.2.1 fun e => hj.2.2.2 _ hm e
      · exact hsep _ (.head _)
    · exact ⟨e3, e4, e5, e6, fun j hj => e7 j (Nat.lt_of_lt_of_le hj hA.fam.base) fun e => by have := (hA.fam.lt hm e).1; omega⟩
    · intro e he
      have hmem : e.1 ∈ gm :: (L.map (·.1) ++ ks) := .tail _ (List.mem_append_left _ (List.mem_map.2 ⟨e, he, rfl⟩))
      exact e7 e.1 (hA.lt e.1 hmem) fun e1 => hA.fam.sep _ hm e.1 e1 hmem
  · obtain ⟨rfl, hG', hB, hsame⟩ := hR
    have S' : Sys b0 w' L w' := Sys.start hG'.fam.base (fun e he => ⟨(S.own e he).1, by rw [hsame e he]; exact (S.own e he).2⟩) S.nd
    exact ⟨L, w', S', k w' hG' (S.toBelow.trans hB)⟩
end
end Go.Proofs.YtmpaiphakjogjaaDoor.X
/-
  The walk of Decide (closure).
-/
namespace Go.Proofs.YtmpaiphakjogjaaDoor.X
open Go Go.RowKit Go.Proofs.YtmpaiphakjogjaaDoor.Bs
set_option linter.unusedVariables false
theorem decZ {t : CTk} {r : CRu} {e : Int} (h1 : t.decE r = e) (h2 : t.decD r = CDe.zero) {w w' : World} (hB : Below w.heap.size w w') :
    Made w (DecR t r) (.returned (.tuple ⟨[.agg ⟨[.int .i64 0, .int .i64 0, .slice none 0 0, .slice none 0 0]⟩, .int .i64 e]⟩)) w' := by
  refine ⟨_, _, rfl, ⟨⟨none, 0, 0⟩, ⟨none, 0, 0⟩, by rw [h1, h2]; rfl, rfl⟩, fun x hx => ?_, hB⟩
  rw [h2] at hx
  simp only [List.mem_cons, List.not_mem_nil, or_false] at hx
  rcases hx with rfl | rfl
  · exact ListAt.nil
  · exact ListAt.nil
set_option maxHeartbeats 16000000 in
theorem Decide_made {v : CTV} {t : CTk} {r : CRu} {w : World} (h : CtAt w w.heap.size v t) :
    Calls Tryd.prog 19 #[ctkV v t, ruV r] w (Made w (DecR t r)) := by
  simp only [ctkV, ctkC, ruV]
  refine enterM Tryd.func19 rfl Tryd.ntmps19 rfl ?_; simp only [frame, Nat.zero_add, Nat.reduceAdd]
  repeat (first | (refine M0 ?_; first | refine SL ?_ | refine SB fun _ _ => ?_) | (refine M1 ?_; refine SC ?_) | (refine M2 ?_; refine SE ?_))
  rename_i g2 hg2 g3 hg3 g4 hg4 g5 hg5
  refine XL.with5 (v := v) (t := t) (r := r) h rfl rfl (fun hc w1 hB1 => ?_) (fun hc ho hq w1 gr g gm hG1 hB1 hgl hgrl => ?_)
  · obtain ⟨d1, d2⟩ := dec_ru hc
    repeat (first | (refine M0 ?_; first | refine SL ?_ | refine SB fun _ _ => ?_) | (refine M1 ?_; refine SC ?_) | (refine M2 ?_; refine SE ?_))
    rw [show decide (ruE t r ≠ 0) = true from decide_eq_true hc]
    repeat (first | (refine M0 ?_; first | refine SL ?_ | refine SB fun _ _ => ?_) | (refine M1 ?_; refine SC ?_) | (refine M2 ?_; refine SE ?_))
    refine XE.retM0 tok Tryd.results19 rfl (by simp only [and_self, and_true]) (fun w' S => ?_)
    exact decZ d1 d2 (hB1.trans S.toBelow)
  have hal := fun {L : Lo} {W : World} (hGW : CtAt W w.heap.size v t) (w5 : World) (S5 : Sys w.heap.size W L w5) (m1 : (gr, rulO g r) ∈ L) (m2 : (g, gamO v t gm) ∈ L) => allowed_any (r := r) ((hGW.below S5.toBelow).more (Nat.le_trans S5.base S5.size)) ho hq (S5.own _ m1).2 (S5.own _ m2).2
  have hgs1 : g ∈ gr :: g :: [(g5, cel 32 [.int .i64 0]), (g4, cel 77 [.int .i64 0, .int .i64 0, .slice none 0 0, .slice none 0 0]), (g3, cel 81 [.int .i64 r.count, .int .i64 r.early]), (g2, cel 29 (ctkC v t))].map (·.1) := .tail _ (.head _)
  have h60 := ho.n60
  have hdl := ho.dly
  have hfr := ho.frm
  have hm8 := ho.m8
  simp only [gamO, gamC, rulO, rulC]
  repeat (first | (refine M0 ?_; first | refine SL ?_ | refine SB fun _ _ => ?_) | (refine M1 ?_; refine SC ?_) | (refine M2 ?_; refine SE ?_))
  rename_i g6 hg6
  have hle : w.heap.size ≤ w.heap.size := Nat.le_refl _
  have hz1 := hB1.size
  repeat (first | (refine M0 ?_; first | refine SL ?_ | refine SB fun _ _ => ?_ | refine Y4 (Ev.call (f := 34) (ck rfl) rfl (fun w5 S5 => hal hG1.task w5 S5 (.tail _ (.head _)) (.tail _ (.tail _ (.head _))))) ?_) | (refine M1 ?_; refine SC ?_) | (refine M2 ?_; refine SE ?_))
  cases hcl : t.called r with
  | false =>
    obtain ⟨d1, d2⟩ := dec_0 hc hcl
    repeat (first | (refine M0 ?_; first | refine SL ?_ | refine SB fun _ _ => ?_) | (refine M1 ?_; refine SC ?_) | (refine M2 ?_; refine SE ?_))
    refine XC.drawRS (trunc w w.heap.size) [(g6, cel 112 [.pointer (some ⟨gr, 0, none⟩)])] [1] [0, 2, 3, 4, 5, 6] mixed (fun _ h => Sys.anchorT hB1 h (fun e he => by rw [List.mem_singleton.1 he]; exact .head _) (by simp) hle) rfl (by kernel_rfl) ?_
    repeat (any_goals (first | (refine M0 ?_; first | refine SL ?_ | refine SB fun _ _ => ?_ | refine Y4 (Ev.load_loc tok 0 (g := g6) (o := 0) rfl rfl rfl rfl) ?_ | refine Y4 (Ev.call (f := 27) (ck rfl) rfl (fun w S => nev_any w)) ?_ | (refine XL.at_call 35 ?_; refine XL.callJ (PksX t nev) (ck rfl) rfl rfl hG1 (by repeat (first | exact List.mem_cons_self | apply List.mem_cons_of_mem)) (fun w5 ks2 S5 hL5 hG5 => peaks_any hG5 ho (S5.own (gr, rulO g r) (by repeat (first | exact List.mem_cons_self | apply List.mem_cons_of_mem))).2 (hL5 (gr, rulO g r) (by repeat (first | exact List.mem_cons_self | apply List.mem_cons_of_mem))) hgrl (nev_ok t) (nev_ins t)) (fun w5 x new hR hG5 hB5 => ?_) ZZMK; obtain ⟨q, rfl, rfl⟩ := hR; simp only [svV]; have hB15 : Below w.heap.size w w5 := hB1.trans hB5)) | (refine M1 ?_; refine SC ?_) | (refine M2 ?_; first | refine SE ?_ | ((with_reducible refine atHeld ?_); refine z7 ?_)) | (refine M3 ?_; first | refine SG ?_ | refine SF ?_ | refine YF (Ev.load_loc tok 0 (g := g6) (o := 0) rfl rfl rfl rfl) ?_ | refine YF (Ev.call (f := 27) (ck rfl) rfl (fun w S => nev_any w)) ?_) | (refine M4 ?_; refine SR ?_) | (refine M5 ?_; first | exact M7 | refine YM ?_ | refine YN ?_ ?_)))
    any_goals (repeat (first | exact AnyR.nil | refine AnyR.skip rfl ?_))
    all_goals
      refine XE.retM0 tok Tryd.results19 rfl (by simp only [and_self, and_true]) (fun w' S => ?_)
      refine ⟨_, _, rfl, ⟨q, ⟨none, 0, 0⟩, by rw [d1, d2]; rfl, rfl⟩, fun x hx => ?_, hB15.trans S.toBelow⟩
      rw [d2] at hx
      simp only [List.mem_cons, List.not_mem_nil, or_false] at hx
      rcases hx with rfl | rfl
      · exact (hG5.sys S (by repeat (first | exact List.mem_cons_self | apply List.mem_cons_of_mem)) ZZMK).fam.get (.head _)
      · exact ListAt.nil
  | true =>
  repeat (first | (refine M0 ?_; first | refine SL ?_ | refine SB fun _ _ => ?_ | refine Y4 (Ev.load_loc tok 2 (g := gr) (o := 0) rfl rfl rfl rfl) ?_) | (refine M1 ?_; refine SC ?_) | (refine M2 ?_; refine SE ?_))
  rename_i g10 hg10
  refine XL.callr (fst := []) (cap := []) (fun w1 x w2 => ∃ gp, x = .func (.func 53) #[] #[.pointer (some ⟨gp, 0, none⟩)] ∧ Sys w1.heap.size w1 [(gp, cel 60 [.pointer (some ⟨g, 0, none⟩)])] w2) (ck rfl) rfl rfl rfl (fun w1 S1 => begs0_any) (fun wX x w2 S1 hR => ?_)
  obtain ⟨gp, rfl, S2⟩ := hR
  refine ⟨_, w2, (S1.join S2 (List.Sublist.refl _)).rebase (List.sublist_cons_self _ _), ?_⟩
  have hB2 : Below w.heap.size w w2 := hB1.trans (S1.toBelow.trans (S2.toBelow.mono (Nat.le_trans S1.base S1.size)))
  have hgpL : ∀ x, x ∈ [g10, g6, gr, g, g5, g4, g3, g2] → x < gp := fun x hx => Nat.lt_of_lt_of_le (S1.keyLt x hx) (S2.own _ (.head _)).1
  have hn106 : g10 ≠ g6 := by
    have := S1.nd
    simp only [List.map_cons, List.nodup_cons, List.mem_cons, not_or] at this
    exact this.1.1
  have hgpc : w2.cell? ⟨gp, 0, none⟩ = some (.pointer (some ⟨g, 0, none⟩)) := by
    have := (S2.own _ (.head _)).2
    simp [World.cell?, this]
  have hgpl : gp < w2.heap.size := S2.lt (.head _)
  have hG2 : Gam t v w.heap.size g gm [g10, g6, gr, g, g5, g4, g3, g2] [⟨II, wtnK5, .slice none 0 0, []⟩] [] w2 := by
    have h1 := (hG1.add S1 (by repeat (first | exact List.mem_cons_self | apply List.mem_cons_of_mem)) ZZMK).made (new := []) S2.toBelow (fun x hx => by cases hx)
    exact (h1.less (fun x hx => List.mem_append_left _ hx) (by simp)).nil wtnK5
  clear S1 S2
  repeat (first | (refine M0 ?_; first | refine SL ?_ | refine SB fun _ _ => ?_) | (refine M1 ?_; refine SC ?_) | (refine M2 ?_; refine SE ?_))
  refine XC.rangeFuncD (cap := [.pointer (some ⟨gp, 0, none⟩)]) rfl (ck rfl) (fun fn a D w3 hD hf S3 => ?_)
  have hfS : Fits 76 [] [(10, .pointer (some ⟨g10, 0, none⟩)), (6, .pointer (some ⟨g6, 0, none⟩)), (5, .pointer (some ⟨g5, 0, none⟩)), (4, .pointer (some ⟨g4, 0, none⟩))] { tmps := a.tmps, defers := [] } := by
    have h4 := Sub.fits (G := [(10, .pointer (some ⟨g10, 0, none⟩)), (6, .pointer (some ⟨g6, 0, none⟩)), (5, .pointer (some ⟨g5, 0, none⟩)), (4, .pointer (some ⟨g4, 0, none⟩))]) ZZSUB hf
    exact ⟨h4.size, rfl, h4.get⟩
  have hG3 : Gam t v w.heap.size g gm [D + 1, D, g10, g6, gr, g, g5, g4, g3, g2] [⟨II, wtnK5, .slice none 0 0, []⟩] [] w3 := by
    have h1 := hG2.add S3 (by repeat (first | exact List.mem_cons_self | apply List.mem_cons_of_mem)) (fun e he => by
      have h5 : e.1 ∈ [D + 1, D, g10, g6, gr, g, g5, g4, g3, g2] := List.mem_map.2 ⟨e, he, rfl⟩
      rcases List.mem_cons.1 h5 with h5 | h5
      · right; omega
      rcases List.mem_cons.1 h5 with h5 | h5
      · right; omega
      · left; exact h5)
    exact h1.less (fun x hx => List.mem_append_left _ hx) (by simp)
  have hB3 : Below w.heap.size w w3 := hB2.trans S3.toBelow
  have hbg := begs_any (B := w.heap.size) (l := D + 1) (gp := gp) (g := g) (gm := gm) (v := v) (t := t) (σ := World × SV × Option (List Value × Int))
    (fun s => [(D + 1, .loop (recO fn a.tmps #[42] _ _ D (match s.2.2 with | none => .ready | some _ => .done) (match s.2.2 with | none => none | some _ => some .ret))), (D, .deferred (some [])), (g10, cel 75 [svV s.2.1]), (g6, cel 112 [.pointer (some ⟨gr, 0, none⟩)]), (gr, rulO g r), (g, gamO v t gm), (g5, cel 32 [.int .i64 (match s.2.2 with | none => 0 | some x => x.2)]), (g4, cel 77 (match s.2.2 with | none => [.int .i64 0, .int .i64 0, .slice none 0 0, .slice none 0 0] | some x => x.1)), (g3, cel 81 [.int .i64 r.count, .int .i64 r.early]), (g2, cel 29 (ctkC v t))])
    (fun s => s.1)
    (fun i s => s.2.2 = none ∧ Gam t v w.heap.size g gm [D + 1, D, g10, g6, gr, g, g5, g4, g3, g2] [⟨II, wtnK5, svV s.2.1, t.downL i⟩] [] s.1 ∧ Below w.heap.size w s.1 ∧ ∀ j, i ≤ j → j < t.beg → t.wit (j : Nat) ≠ none)
    (fun s => ∃ cs e q1 q2, s.2.2 = some (cs, e) ∧ Below w.heap.size w s.1 ∧ cs = decC q1 q2 (t.decD r) ∧ e = t.decE r ∧ Fam s.1 w.heap.size [D + 1, D, g10, g6, gr, g, g5, g4, g3, g2] [] [hList pekK5 q1 (t.decD r).peaks, hList wtnK5 q2 (t.decD r).later])
    (w3, ⟨none, 0, 0⟩, none) ho (S3.rebase (List.Sublist.refl _)) ⟨rfl, by rw [downL_0]; exact hG3, hB3, fun j h1 h2 => by omega⟩ ?_ ?_ ?_ ?_ ?_
  rotate_left
  · have h := S3.farCell (a := ⟨gp, 0, none⟩) hgpl (fun e he => by
      have h5 : e.1 ∈ [D + 1, D, g10, g6, gr, g, g5, g4, g3, g2] := List.mem_map.2 ⟨e, he, rfl⟩
      show e.1 ≠ gp
      rcases List.mem_cons.1 h5 with h5 | h5
      · omega
      rcases List.mem_cons.1 h5 with h5 | h5
      · omega
      · have := hgpL e.1 h5; omega)
    exact h.trans hgpc
  · exact Nat.lt_of_lt_of_le hgpl S3.size
  · intro e he
    have h5 : e.1 ∈ [D + 1, D, g10, g6, gr, g, g5, g4, g3, g2] := List.mem_map.2 ⟨e, he, rfl⟩
    rcases List.mem_cons.1 h5 with h5 | h5
    · omega
    rcases List.mem_cons.1 h5 with h5 | h5
    · omega
    · have := hgpL e.1 h5; omega
  · repeat (first | exact List.mem_cons_self | apply List.mem_cons_of_mem)
  · rintro i ⟨W, q, s⟩ hi ⟨rfl, hGW, hBW, hJ⟩ w1' S1
    simp only at hGW hBW hJ S1
    have hloop := (S1.own _ (.head _)).2
    refine ⟨_, _, _, _, run_yield (args := #[.int .i64 (i : Nat)]) hloop rfl, ?_⟩
    refine round_of (hfS.one5 rfl) S1 ?_
    clear hloop
    have hil : (i : Int) ≤ t.last := by unfold CTk.beg at hi; omega
    have hl1 : -31 ≤ t.last ∧ t.last ≤ 60 := by unfold CTk.last; omega
    simp only [gamO, gamC, ctkC, rulO, rulC, svV]
    repeat (first | (refine M0 ?_; first | refine SL ?_ | refine SB fun _ _ => ?_) | (refine XI.id ?_; first | refine XI.done ?_ | refine XI.one1 rfl ?_) | (refine XR'.id ?_; first | refine XR'.seq ?_ | refine XR'.region ?_ | refine XR'.block ?_ | refine XR'.skip ?_ | refine XR'.ret ?_ | refine XR'.cond_t rfl ?_ | refine XR'.cond_f rfl ?_ | refine XR'.exit ?_) | (refine M1 ?_; first | refine SC ?_ | refine SD ?_) | (refine M2 ?_; first | refine XE.nextI ?_ | refine XE.nextR ?_ | refine SE ?_))
    refine XE.begin (i := 0) rfl rfl rfl ?_
    repeat (first | (refine M0 ?_; first | refine SL ?_ | refine SB fun _ _ => ?_) | (refine XI.id ?_; first | refine XI.done ?_ | refine XI.one1 rfl ?_) | (refine XR'.id ?_; first | refine XR'.seq ?_ | refine XR'.region ?_ | refine XR'.block ?_ | refine XR'.skip ?_ | refine XR'.ret ?_ | refine XR'.cond_t rfl ?_ | refine XR'.cond_f rfl ?_ | refine XR'.exit ?_) | (refine M1 ?_; first | refine SC ?_ | refine SD ?_) | (refine M2 ?_; first | refine XE.nextI ?_ | refine XE.nextR ?_ | refine SE ?_))
    repeat (first | (refine M0 ?_; first | refine SL ?_ | refine SB fun _ _ => ?_ | refine Y4 (Ev.load_loc tok 3 (g := g6) (o := 0) rfl rfl rfl rfl) ?_) | (refine XI.id ?_; first | refine XI.done ?_ | refine XI.one1 rfl ?_) | (refine XR'.id ?_; first | refine XR'.seq ?_ | refine XR'.region ?_ | refine XR'.block ?_ | refine XR'.skip ?_ | refine XR'.ret ?_ | refine XR'.cond_t rfl ?_ | refine XR'.cond_f rfl ?_ | refine XR'.exit ?_) | (refine M1 ?_; first | refine SC ?_ | refine SD ?_) | (refine M2 ?_; first | refine XE.nextI ?_ | refine XE.nextR ?_ | refine SE ?_))
    refine XL.callJ (WitX t (i : Nat)) (ck rfl) rfl rfl hGW (by repeat (first | exact List.mem_cons_self | apply List.mem_cons_of_mem)) (fun w5 ks2 S5 hL5 hG5 => witness_any hG5 ho (S5.own (gr, rulO g r) (by repeat (first | exact List.mem_cons_self | apply List.mem_cons_of_mem))).2 (hL5 (gr, rulO g r) (by repeat (first | exact List.mem_cons_self | apply List.mem_cons_of_mem))) hgrl hil) (fun w5 x new hR hG5 hB5 => ?_) ZZMK
    obtain ⟨rfl, rfl⟩ := hR
    have hBW5 : Below w.heap.size w w5 := hBW.trans hB5
    simp only [iiV]
    have hbl := beg_le ho
    cases hwt : t.wit (i : Nat) with
    | some y =>
      repeat (first | (refine M0 ?_; first | refine SL ?_ | refine SB fun _ _ => ?_) | (refine XI.id ?_; first | refine XI.done ?_ | refine XI.one1 rfl ?_) | (refine XR'.id ?_; first | refine XR'.seq ?_ | refine XR'.region ?_ | refine XR'.block ?_ | refine XR'.skip ?_ | refine XR'.ret ?_ | refine XR'.cond_t rfl ?_ | refine XR'.cond_f rfl ?_ | refine XR'.exit ?_) | (refine M1 ?_; first | refine SC ?_ | refine SD ?_) | (refine M2 ?_; first | refine XE.nextI ?_ | refine XE.nextR ?_ | refine SE ?_))
      rename_i g12 hg12
      repeat (first | (refine M0 ?_; first | refine SL ?_ | refine SB fun _ _ => ?_ | refine Y4 (Ev.load_loc tok 3 (g := g10) (o := 0) rfl rfl rfl rfl) ?_ | refine XL.buildSlice tok rfl rfl rfl rfl rfl rfl rfl rfl rfl (fun _ _ => ?_)) | (refine XI.id ?_; first | refine XI.done ?_ | refine XI.one1 rfl ?_) | (refine XR'.id ?_; first | refine XR'.seq ?_ | refine XR'.region ?_ | refine XR'.block ?_ | refine XR'.skip ?_ | refine XR'.ret ?_ | refine XR'.cond_t rfl ?_ | refine XR'.cond_f rfl ?_ | refine XR'.exit ?_) | (refine M1 ?_; first | refine SC ?_ | refine SD ?_) | (refine M2 ?_; first | refine XE.nextI ?_ | refine XE.nextR ?_ | refine SE ?_))
      rename_i g53 hg53
      refine XL.pushG (K := wtnK5) (a := t.witC (i : Nat)) 0 wtn5_el (by decide) rfl rfl rfl hG5 (by repeat (first | exact List.mem_cons_self | apply List.mem_cons_of_mem)) rfl (.head _) rfl (fun _ => rfl) (by rw [downL_len]; omega) (by decide) (fun w6 r6 hG6 hB6 => ?_) ZZMK
      rw [← downL_push hi] at hG6
      simp only [svV]
      repeat (first | (refine M0 ?_; first | refine SL ?_ | refine SB fun _ _ => ?_ | refine XL.store_at tok 4 (g := g10) (o := 0) (j := 0) (cs := [.slice q.A q.n q.c]) rfl rfl rfl rfl rfl (Nat.le_of_ble_eq_true rfl) rfl ?_) | (refine XI.id ?_; first | refine XI.done ?_ | refine XI.one1 rfl ?_) | (refine XR'.id ?_; first | refine XR'.seq ?_ | refine XR'.region ?_ | refine XR'.block ?_ | refine XR'.skip ?_ | refine XR'.ret ?_ | refine XR'.cond_t rfl ?_ | refine XR'.cond_f rfl ?_ | refine XR'.exit ?_) | (refine M1 ?_; first | refine SC ?_ | refine SD ?_) | (refine M2 ?_; first | refine XE.nextI ?_ | refine XE.nextR ?_ | refine SE ?_))
      refine XE.endR (i := 2) rfl rfl (fun w' S => ?_)
      refine ⟨_, rfl, .inl ⟨rfl, (w', r6, none), ⟨rfl, ?_, (hBW5.trans hB6).trans S.toBelow, fun j h3 h4 => ?_⟩, S.rebase ZZSM⟩⟩
      · exact hG6.on S (by repeat (first | exact List.mem_cons_self | apply List.mem_cons_of_mem)) ZZMK ZZSB (by simp) (fun x hx => by cases hx)
      · rcases Nat.lt_or_ge i j with h5 | h5
        · exact hJ j h5 h4
        · have : i = j := by omega
          subst this
          rw [hwt]; simp
    | none =>
      have hlo : t.lastOk = some i := lastOk_some.2 ⟨hil, hwt, fun j h3 h4 => hJ j (by omega) (beg_lt.2 h4)⟩
      obtain ⟨d1, d2⟩ := dec_some hc hcl hlo
      have hml := fun {L : Lo} (w9 : World) (S9 : Sys w.heap.size w5 L w9) (m1 : (gr, rulO g r) ∈ L) (m2 : (g, gamO v t gm) ∈ L) => may_any (r := r) (i := (i : Nat)) ((hG5.task.below S9.toBelow).more (Nat.le_trans S9.base S9.size)) ho hq (S9.own _ m1).2 (S9.own _ m2).2
      repeat (first | (refine M0 ?_; first | refine SL ?_ | refine SB fun _ _ => ?_) | (refine XI.id ?_; first | refine XI.done ?_ | refine XI.one1 rfl ?_) | (refine XR'.id ?_; first | refine XR'.seq ?_ | refine XR'.region ?_ | refine XR'.block ?_ | refine XR'.skip ?_ | refine XR'.ret ?_ | refine XR'.cond_t rfl ?_ | refine XR'.cond_f rfl ?_ | refine XR'.exit ?_) | (refine M1 ?_; first | refine SC ?_ | refine SD ?_) | (refine M2 ?_; first | refine XE.nextI ?_ | refine XE.nextR ?_ | refine SE ?_))
      rename_i g12 hg12
      repeat (first | (refine M0 ?_; first | refine SL ?_ | refine SB fun _ _ => ?_ | refine Y4 (Ev.load_loc tok 4 (g := g6) (o := 0) rfl rfl rfl rfl) ?_ | refine Y4 (Ev.call (f := 37) (ck rfl) rfl (fun w9 S9 => hml w9 S9 (by repeat (first | exact List.mem_cons_self | apply List.mem_cons_of_mem)) (by repeat (first | exact List.mem_cons_self | apply List.mem_cons_of_mem)))) ?_) | (refine XI.id ?_; first | refine XI.done ?_ | refine XI.one1 rfl ?_) | (refine XR'.id ?_; first | refine XR'.seq ?_ | refine XR'.region ?_ | refine XR'.block ?_ | refine XR'.skip ?_ | refine XR'.ret ?_ | refine XR'.cond_t rfl ?_ | refine XR'.cond_f rfl ?_ | refine XR'.exit ?_) | (refine M1 ?_; first | refine SC ?_ | refine SD ?_) | (refine M2 ?_; first | refine XE.nextI ?_ | refine XE.nextR ?_ | refine SE ?_))
      cases hmy : t.may r (i : Nat) with
      | false =>
        rw [hmy] at d1 d2
        repeat (first | (refine M0 ?_; first | refine SL ?_ | refine SB fun _ _ => ?_ | refine XL.store tok 8 (g := g4) (o := 0) (cs := [.int .i64 0, .int .i64 0, .slice none 0 0, .slice none 0 0]) rfl rfl rfl rfl (.inr rfl) rfl rfl rfl ?_ | refine XL.store_at tok 7 (g := g5) (o := 0) (j := 0) (cs := [.int .i64 0]) rfl rfl rfl rfl rfl (Nat.le_of_ble_eq_true rfl) rfl ?_) | (refine XI.id ?_; first | refine XI.done ?_ | refine XI.one1 rfl ?_) | (refine XR'.id ?_; first | refine XR'.seq ?_ | refine XR'.region ?_ | refine XR'.block ?_ | refine XR'.skip ?_ | refine XR'.ret ?_ | refine XR'.cond_t rfl ?_ | refine XR'.cond_f rfl ?_ | refine XR'.exit ?_) | (refine M1 ?_; first | refine SC ?_ | refine SD ?_) | (refine M2 ?_; first | refine XE.nextI ?_ | refine XE.nextR ?_ | refine SE ?_))
        refine XE.endRet (i := 1) rfl rfl (fun w' S => ?_)
        refine ⟨_, rfl, .inr ⟨rfl, (w', q, some ([.int .i64 0, .int .i64 0, .slice none 0 0, .slice none 0 0], 9)), ⟨_, _, ⟨none, 0, 0⟩, ⟨none, 0, 0⟩, rfl, hBW5.trans S.toBelow, by rw [d2]; rfl, by rw [d1]; rfl, ?_⟩, S.rebase ZZSM⟩⟩
        rw [d2]
        exact ((Fam.start (hBW5.trans S.toBelow).size).hold (ok := fun _ => False) (x := hList wtnK5 ⟨none, 0, 0⟩ []) ListAt.nil (fun _ h => h.elim)).hold (ok := fun _ => False) (x := hList pekK5 ⟨none, 0, 0⟩ []) ListAt.nil (fun _ h => h.elim)
      | true =>
        rw [hmy] at d1 d2
        repeat (first | (refine M0 ?_; first | refine SL ?_ | refine SB fun _ _ => ?_ | refine Y4 (Ev.load_loc tok 3 (g := g10) (o := 0) rfl rfl rfl rfl) ?_) | (refine XI.id ?_; first | refine XI.done ?_ | refine XI.one1 rfl ?_) | (refine XR'.id ?_; first | refine XR'.seq ?_ | refine XR'.region ?_ | refine XR'.block ?_ | refine XR'.skip ?_ | refine XR'.ret ?_ | refine XR'.cond_t rfl ?_ | refine XR'.cond_f rfl ?_ | refine XR'.exit ?_) | (refine M1 ?_; first | refine SC ?_ | refine SD ?_) | (refine M2 ?_; first | refine XE.nextI ?_ | refine XE.nextR ?_ | refine SE ?_))
        have hst : t.strange (t.plan (i : Nat)) = false := (plan_ok ho (Int.natCast_nonneg i) hil).1
        have hal2 := all_ins (wit_none.1 hwt)
        refine XL.callRev rfl rfl hG5 (by repeat (first | exact List.mem_cons_self | apply List.mem_cons_of_mem)) (by rw [downL_len]; omega) (fun w6 hG6 hB6 => ?_) ZZMK
        rw [downL_rev hi] at hG6
        have hG6 := hG6.freeze
        have hBW6 : Below w.heap.size w w6 := hBW5.trans hB6
        have hpl := fun {L : Lo} {B : Nat} {W1 : World} (w9 : World) (S9 : Sys B W1 L w9) (hm : (g, gamO v t gm) ∈ L) => plan_any (v := v) (t := t) (gm := gm) (i := (i : Nat)) (S9.own _ hm).2 ho ⟨by omega, by omega⟩
        repeat (first | (refine M0 ?_; first | refine SL ?_ | refine SB fun _ _ => ?_ | refine Y4 (Ev.load_loc tok 4 (g := g6) (o := 0) rfl rfl rfl rfl) ?_ | refine Y4 (Ev.load_loc tok 5 (g := gr) (o := 0) rfl rfl rfl rfl) ?_ | refine Y4 (Ev.call (f := 14) (ck rfl) rfl (fun w9 S9 => hpl w9 S9 (by repeat (first | exact List.mem_cons_self | apply List.mem_cons_of_mem)))) ?_) | (refine XI.id ?_; first | refine XI.done ?_ | refine XI.one1 rfl ?_) | (refine XR'.id ?_; first | refine XR'.seq ?_ | refine XR'.region ?_ | refine XR'.block ?_ | refine XR'.skip ?_ | refine XR'.ret ?_ | refine XR'.cond_t rfl ?_ | refine XR'.cond_f rfl ?_ | refine XR'.exit ?_) | (refine M1 ?_; first | refine SC ?_ | refine SD ?_) | (refine M2 ?_; first | refine XE.nextI ?_ | refine XE.nextR ?_ | refine SE ?_))
        rename_i g14 hg14
        have hz6 := hB6.size
        have hz5 := hB5.size
        have l10 : g10 < W.heap.size := hGW.lt g10 (by simp)
        have l6 : g6 < W.heap.size := hGW.lt g6 (by simp)
        refine XR'.drawRS (trunc w w.heap.size) [(g14, cel 31 [.int .i64 (t.plan (i : Nat)).close, .int .i64 (t.plan (i : Nat)).open_]), (g10, cel 75 [.slice q.A q.n q.c]), (g6, cel 112 [.pointer (some ⟨gr, 0, none⟩)])] [0, 1, 2, 4] [3, 5, 6, 7] mixed (fun _ h => Sys.anchorT hBW6 h (by intro e he; repeat (first | (cases he; done) | (rcases List.mem_cons.1 he with rfl | he; · repeat (first | exact List.mem_cons_self | apply List.mem_cons_of_mem)))) (by simp; omega) hle) rfl rfl (by kernel_rfl) ?_
        repeat (any_goals (first | (refine M0 ?_; first | refine SL ?_ | refine SB fun _ _ => ?_ | refine Y4 (Ev.load_loc_agg tok 0 (g := g14) (o := 0) rfl rfl rfl rfl) ?_ | refine Y4 (Ev.load_loc tok 1 (g := g10) (o := 0) rfl rfl rfl rfl) ?_ | refine Y4 (Ev.load_loc tok 2 (g := g6) (o := 0) rfl rfl rfl rfl) ?_ | (refine XL.at_call 35 ?_; refine XL.callJ (PksX t (t.plan (i : Nat))) (ck rfl) rfl rfl hG6 (by repeat (first | exact List.mem_cons_self | apply List.mem_cons_of_mem)) (fun w9 ks2 S9 hL9 hG9 => peaks_any hG9 ho (S9.own (gr, rulO g r) (by repeat (first | exact List.mem_cons_self | apply List.mem_cons_of_mem))).2 (hL9 (gr, rulO g r) (by repeat (first | exact List.mem_cons_self | apply List.mem_cons_of_mem))) hgrl hst hal2) (fun w9 x new hR hG9 hB9 => ?_) ZZMK; obtain ⟨q9, rfl, rfl⟩ := hR; simp only [svV]; have hBW9 : Below w.heap.size w w9 := hBW6.trans hB9) | refine XL.store tok 9 (g := g4) (o := 0) (cs := [.int .i64 0, .int .i64 0, .slice none 0 0, .slice none 0 0]) rfl rfl rfl rfl (.inr rfl) rfl rfl rfl ?_ | refine XL.store_at tok 8 (g := g5) (o := 0) (j := 0) (cs := [.int .i64 0]) rfl rfl rfl rfl rfl (Nat.le_of_ble_eq_true rfl) rfl ?_) | (refine M1 ?_; refine SC ?_) | (refine M2 ?_; first | refine SE ?_ | ((with_reducible refine atHeld ?_); refine z7 ?_)) | (refine M3 ?_; first | refine SG ?_ | refine SF ?_ | refine YF (Ev.load_loc_agg tok 0 (g := g14) (o := 0) rfl rfl rfl rfl) ?_ | refine YF (Ev.load_loc tok 1 (g := g10) (o := 0) rfl rfl rfl rfl) ?_ | refine YF (Ev.load_loc tok 2 (g := g6) (o := 0) rfl rfl rfl rfl) ?_) | (refine M4 ?_; refine SR ?_) | (refine M5 ?_; first | exact M7 | refine YM ?_ | refine YN ?_ ?_)))
        any_goals (repeat (first | exact AnyR.nil | refine AnyR.skip rfl ?_))
        all_goals
          refine XE.onlyN ?_
          repeat (first | (refine M0 ?_; first | refine SL ?_ | refine SB fun _ _ => ?_) | (refine XI.id ?_; first | refine XI.done ?_ | refine XI.one1 rfl ?_) | (refine XR'.id ?_; first | refine XR'.seq ?_ | refine XR'.region ?_ | refine XR'.block ?_ | refine XR'.skip ?_ | refine XR'.ret ?_ | refine XR'.cond_t rfl ?_ | refine XR'.cond_f rfl ?_ | refine XR'.exit ?_) | (refine M1 ?_; first | refine SC ?_ | refine SD ?_) | (refine M2 ?_; first | refine XE.nextI ?_ | refine XE.nextR ?_ | refine SE ?_))
          refine XE.endRet (i := 2) rfl rfl (fun w' S => ?_)
          refine ⟨_, rfl, .inr ⟨rfl, (w', q, some ([.int .i64 (t.plan (i : Nat)).close, .int .i64 (t.plan (i : Nat)).open_, .slice q9.A q9.n q9.c, .slice q.A q.n q.c], 0)), ⟨_, _, q9, q, rfl, hBW9.trans S.toBelow, by rw [d2]; rfl, by rw [d1]; rfl, ?_⟩, S.rebase ZZSM⟩⟩
          rw [d2]
          exact Fam.add (ks' := [D + 1, D, g10, g6, gr, g, g5, g4, g3, g2]) (hG9.on (ks := [D + 1, D, g10, g6, gr, g, g5, g4, g3, g2]) S (by repeat (first | exact List.mem_cons_self | apply List.mem_cons_of_mem)) ZZMK ZZSB (by simp) (fun x hx => hx)).fam (fun x hx => .inl (.tail _ hx))
  refine hbg.mono fun e w4 ⟨v4, e4, hz⟩ => ⟨v4, e4, ?_⟩
  rcases hz with ⟨⟨W, q, s⟩, ⟨rfl, hGW, hBW, hall⟩, S4⟩ | ⟨⟨W, q, s⟩, ⟨cs, e, q1, q2, rfl, hBW, rfl, rfl, hF⟩, S4⟩
  · refine ⟨.ready, none, _, W, by decide, S4, ?_⟩
    dsimp only [RFEnd]
    have hlo : t.lastOk = none := lastB_none.2 fun j hj => by
      have := hall j (Nat.zero_le _) hj
      cases hx : t.wit (j : Nat) with
      | none => exact absurd hx this
      | some y => rfl
    obtain ⟨d1, d2⟩ := dec_none hc hcl hlo
    repeat (first | (refine M0 ?_; first | refine SL ?_ | refine SB fun _ _ => ?_) | (refine M1 ?_; refine SC ?_) | (refine M2 ?_; refine SE ?_))
    refine XE.retM (i := 1) tok Tryd.results19 rfl rfl rfl (by simp only [and_self, and_true]) (fun w' S => ?_)
    exact decZ d1 d2 (hBW.trans S.toBelow)
  · refine ⟨.done, some .ret, _, W, by decide, S4, ?_⟩
    dsimp only [RFEnd]
    refine XE.blk_ret (XE.then_ret ?_)
    refine XE.retM (i := 1) tok Tryd.results19 rfl rfl rfl (by simp only [and_self, and_true]) (fun w' S => ?_)
    refine ⟨_, _, rfl, ⟨q1, q2, rfl, rfl⟩, fun x hx => ?_, hBW.trans S.toBelow⟩
    exact (hF.sys S ZZMK).get hx
end Go.Proofs.YtmpaiphakjogjaaDoor.X
/-
  The walks of the example's Task, Rules and of Awake (closure).
-/
namespace Go.Proofs.YtmpaiphakjogjaaDoor.X
open Go Go.RowKit Go.Proofs.YtmpaiphakjogjaaDoor.Bs
set_option linter.unusedVariables false
/-- a task in blocks of ok. -/
structure CtAtP (w : World) (ok : Nat → Prop) (v : CTV) (t : CTk) : Prop where
  bas : BasAtP w ok v.p t.b
  fil : IntsAt w ok v.f t.fil
  his : ∃ es : List (SV × His), ListAt hisK w ok v.h es ∧ es.map (·.2) = t.his
  river : IntsAt w ok v.r t.river
  cap : v.h.n ≤ v.h.c
theorem CtAtP.keep {w w' : World} {ok : Nat → Prop} {v : CTV} {t : CTk} (h : CtAtP w ok v t) (hk : ∀ k, ok k → w'.heap[k]? = w.heap[k]?) : CtAtP w' ok v t := by
  obtain ⟨es, h1, h2⟩ := h.his
  exact ⟨h.bas.keep hk, h.fil.keep hk, ⟨es, h1.keep hk, h2⟩, h.river.keep hk, h.cap⟩
theorem CtAtP.mono {w : World} {ok ok' : Nat → Prop} {v : CTV} {t : CTk} (h : CtAtP w ok v t) (hk : ∀ k, ok k → ok' k) : CtAtP w ok' v t := by
  obtain ⟨es, h1, h2⟩ := h.his
  exact ⟨h.bas.mono hk, h.fil.mono hk, ⟨es, h1.mono hk, h2⟩, h.river.mono hk, h.cap⟩
theorem CtAtP.to {w : World} {ok : Nat → Prop} {v : CTV} {t : CTk} {B : Nat} (h : CtAtP w ok v t) (hk : ∀ k, ok k → k < B) : CtAt w B v t := by
  obtain ⟨es, h1, h2⟩ := h.his
  exact ⟨(h.bas.mono hk).to, h.fil.mono hk, ⟨es, h1.mono hk, h2⟩, h.river.mono hk, h.cap⟩
def hCt (v : CTV) (t : CTk) : Held := ⟨fun w ok => CtAtP w ok v t, CtAtP.keep, CtAtP.mono⟩
def hBas5 (p : BV) (b : Bas) : Held := ⟨fun w ok => BasAtP w ok p b, BasAtP.keep, BasAtP.mono⟩
def Tsk5V (x : Value) (new : List Held) : Prop := ∃ v : CTV, x = ctkV v cxT ∧ new = [hCt v cxT]
def Bas5V (v : Value) (new : List Held) : Prop := ∃ p : BV, v = basV p exB ∧ new = [hBas5 p exB]
theorem Basin5_made (w : World) : Calls Tryd.prog 32 #[] w (Made w Bas5V) := (Basin_any w).mono fun e w' ⟨v, h1, ⟨p, h2, h3⟩, h4⟩ =>
  ⟨v, _, h1, ⟨p, h2, rfl⟩, fun x hx => by rw [List.mem_singleton] at hx; subst hx; exact h3, h4⟩
theorem task5_end {w W w' : World} {B : Nat} {L : Lo} {A A2 : Option Addr} {n c n2 c2 ga gb gh gr : Nat} (hbas : BasAtP w' (Btw w.heap.size w'.heap.size) ⟨A, n, c, A2, n2, c2⟩ exB) (S : Sys B W L w') (hB : Below w.heap.size w w')
    (h3 : (gh, cel 41 [.int .i64 10, .slice (some ⟨ga, 0, none⟩) 6 6, .int .i64 10, .slice (some ⟨gb, 0, none⟩) 6 6]) ∈ L) (h4 : (gr, cel 3 [.int .i64 60000, .int .i64 60000, .int .i64 60000, .int .i64 60000, .int .i64 60000, .int .i64 60000]) ∈ L)
    (h1 : (ga, cel 3 [.int .i64 0, .int .i64 500, .int .i64 1500, .int .i64 2500, .int .i64 1500, .int .i64 500]) ∈ L) (h2 : (gb, cel 3 (ints (List.replicate 6 0))) ∈ L)
    (b1 : w.heap.size ≤ ga) (b2 : w.heap.size ≤ gb) (b3 : w.heap.size ≤ gh) (b4 : w.heap.size ≤ gr) :
    Made w Tsk5V (.returned (.agg ⟨[.slice A n c, .int .i64 100, .int .i64 3000, .int .i64 500, .slice none 0 0, .slice none 0 0, .slice (some ⟨gh, 0, none⟩) 2 2, .slice (some ⟨gr, 0, none⟩) 6 6, .int .i64 0, .int .i64 800, .int .i64 1]⟩)) w' := by
  refine ⟨_, _, rfl, ⟨⟨⟨A, n, c, none, 0, 0⟩, ⟨none, 0, 0⟩, ⟨some ⟨gh, 0, none⟩, 2, 2⟩, ⟨some ⟨gr, 0, none⟩, 6, 6⟩⟩, rfl, rfl⟩, fun x hx => ?_, hB⟩
  rw [List.mem_singleton.1 hx]
  have k1 : IntsAt w' (Btw w.heap.size w'.heap.size) ⟨some ⟨ga, 0, none⟩, 6, 6⟩ [0, 500, 1500, 2500, 1500, 500] := ⟨ReadsP.block (S.own _ h1).2 b1 rfl, by simp⟩
  have k2 : IntsAt w' (Btw w.heap.size w'.heap.size) ⟨some ⟨gb, 0, none⟩, 6, 6⟩ [0, 0, 0, 0, 0, 0] := ⟨ReadsP.block (S.own _ h2).2 b2 rfl, by simp⟩
  have k4 : IntsAt w' (Btw w.heap.size w'.heap.size) ⟨some ⟨gr, 0, none⟩, 6, 6⟩ [60000, 60000, 60000, 60000, 60000, 60000] := ⟨ReadsP.block (S.own _ h4).2 b4 rfl, by simp⟩
  refine ⟨⟨hbas.rows, ReadsP.nil, hbas.cap, hbas.len, by simp, fun d hd => by cases hd⟩, ⟨ReadsP.nil, by simp⟩, ⟨[(⟨some ⟨ga, 0, none⟩, 6, 6⟩, ⟨10, [0, 500, 1500, 2500, 1500, 500]⟩), (⟨some ⟨gb, 0, none⟩, 6, 6⟩, ⟨10, [0, 0, 0, 0, 0, 0]⟩)], ⟨ReadsP.block (S.own _ h3).2 b3 rfl, by simp, fun a ha x hx => ?_⟩, rfl⟩, k4, by simp⟩
  simp only [List.mem_cons, List.not_mem_nil, or_false] at ha
  rcases ha with rfl | rfl
  · rw [List.mem_singleton.1 hx]; exact k1
  · rw [List.mem_singleton.1 hx]; exact k2
theorem ser_el5 : elemOk Tryd.prog 26 3 1 8 = true := by kernel_rfl
set_option maxHeartbeats 4000000 in
theorem Task5_made (w : World) : Calls Tryd.prog 18 #[] w (Made w Tsk5V) := by
  refine enter Tryd.func18 rfl Tryd.ntmps18 rfl ?_; simp only [frame, Nat.zero_add, Nat.reduceAdd]
  repeat (first | (refine M0 ?_; first | refine SL ?_ | refine SB fun _ _ => ?_) | (refine M1 ?_; refine SC ?_) | (refine M2 ?_; refine SE ?_))
  rename_i g0 hg0
  refine XL.callF (ks := []) (rs := []) (hs := []) (b0 := w.heap.size) (wE := w) Bas5V (ck rfl) rfl rfl (Fam.start (Nat.le_refl w.heap.size)) (fun _ h => by cases h) (Below.refl w.heap.size w) (fun w1 S1 _ _ => Basin5_made w1) (fun w2 x new hR hF2 hB2 hk2 => ?_) ZZHL
  obtain ⟨⟨A, n, c, A2, n2, c2⟩, rfl, rfl⟩ := hR
  simp only [basV, basC]
  repeat (first | (refine M0 ?_; first | refine SL ?_ | refine SB fun _ _ => ?_) | (refine M1 ?_; refine SC ?_) | (refine M2 ?_; refine SE ?_))
  rename_i g1 hg1
  have hz2 := hB2.size
  have l0 : g0 < w2.heap.size := hk2 g0 (by simp)
  have hle : w.heap.size ≤ w.heap.size := Nat.le_refl _
  refine XC.drawRS (trunc w w.heap.size) [(g1, cel 25 [.slice A n c, .int .i64 100, .int .i64 3000, .int .i64 500, .slice none 0 0])] [0] [1, 2, 3, 4, 5, 6, 7, 8] mixed (fun _ h => Sys.anchorT hB2 h (fun e he => by rw [List.mem_singleton.1 he]; exact .head _) (by simp) hle) rfl (by kernel_rfl) ?_
  repeat (any_goals (first | (refine M0 ?_; first | refine SL ?_ | refine SB fun _ _ => ?_ | refine Y4 (Ev.load_loc_agg tok 0 (g := g1) (o := 0) rfl rfl rfl rfl) ?_ | refine XL.buildSlice tok rfl rfl rfl rfl rfl rfl rfl rfl rfl (fun _ _ => ?_) | refine XL.makeInts (n := 6) ser_el5 (by kernel_rfl) rfl rfl rfl (by omega) (fun _ _ => ?_)) | (refine M1 ?_; refine SC ?_) | (refine M2 ?_; first | refine SE ?_ | ((with_reducible refine atHeld ?_); refine z7 ?_)) | (refine M3 ?_; first | refine SG ?_ | refine SF ?_ | refine YF (Ev.load_loc_agg tok 0 (g := g1) (o := 0) rfl rfl rfl rfl) ?_) | (refine M4 ?_; refine SR ?_) | (refine M5 ?_; first | exact M7 | refine YM ?_ | refine YN ?_ ?_)))
  any_goals (repeat (first | exact AnyR.nil | refine AnyR.skip rfl ?_))
  all_goals
    refine XE.retg tok Tryd.results18 rfl (by simp only [and_self, and_true]) (fun w' S => ?_)
    apply task5_end (A2 := A2) (n2 := n2) (c2 := c2) (S := S) (hB := hB2.trans S.toBelow)
    case h3 => repeat (first | exact List.mem_cons_self | apply List.mem_cons_of_mem)
    case h4 => repeat (first | exact List.mem_cons_self | apply List.mem_cons_of_mem)
    case h1 => repeat (first | exact List.mem_cons_self | apply List.mem_cons_of_mem)
    case h2 => repeat (first | exact List.mem_cons_self | apply List.mem_cons_of_mem)
    case b1 => omega
    case b2 => omega
    case b3 => omega
    case b4 => omega
    case hbas => exact (hF2.sys S (by intro e he; repeat (first | (cases he; done) | (rcases List.mem_cons.1 he with rfl | he; · first | (left; simp; done) | (right; assumption))))).get (x := hBas5 ⟨A, n, c, A2, n2, c2⟩ exB) (.head _)
set_option maxHeartbeats 4000000 in
theorem Rules5_any (w : World) : Calls Tryd.prog 20 #[] w fun e w' => e = .returned (ruV cxR) ∧ Below w.heap.size w w' := by
  refine enter Tryd.func20 rfl Tryd.ntmps20 rfl ?_; simp only [frame, Nat.zero_add, Nat.reduceAdd]
  repeat (first | (refine M0 ?_; first | refine SL ?_ | refine SB fun _ _ => ?_) | (refine M1 ?_; refine SC ?_) | (refine M2 ?_; refine SE ?_))
  refine XE.retg tok Tryd.results20 rfl (by simp only [and_self, and_true]) (fun w' S => ?_)
  exact ⟨rfl, S.toBelow⟩
end Go.Proofs.YtmpaiphakjogjaaDoor.X
/-
  The walk of Awake (closure).
-/
namespace Go.Proofs.YtmpaiphakjogjaaDoor.X
open Go Go.RowKit Go.Proofs.YtmpaiphakjogjaaDoor.Bs
set_option linter.unusedVariables false
theorem Fam.ct {W : World} {b0 : Nat} {ks : List Nat} {rs : List RowX} {hs : List Held} {v : CTV} {t : CTk} (h : Fam W b0 ks rs hs) (hm : hCt v t ∈ hs) : CtAt W W.heap.size v t := CtAtP.to (h.get hm) fun k hk => hk.2
set_option maxHeartbeats 4000000 in
theorem Awake5_any {w : World} : Calls Tryd.prog 7 #[] w fun e w' => e = .returned (.bool true) ∧ Below w.heap.size w w' := by
  obtain ⟨d1, d2, d3⟩ := cx_dec
  refine enter Tryd.func7 rfl Tryd.ntmps7 rfl ?_; simp only [frame, Nat.zero_add, Nat.reduceAdd]
  repeat (first | (refine M0 ?_; first | refine SL ?_ | refine SB fun _ _ => ?_) | (refine M1 ?_; refine SC ?_) | (refine M2 ?_; refine SE ?_))
  refine XL.callF (ks := []) (rs := []) (hs := []) (b0 := w.heap.size) (wE := w) Tsk5V (ck rfl) rfl rfl (Fam.start (Nat.le_refl w.heap.size)) (fun _ h => by cases h) (Below.refl w.heap.size w) (fun w1 S1 _ _ => Task5_made w1) (fun w1 x new hR hF1 hB1 hk1 => ?_) ZZHL
  obtain ⟨v1, rfl, rfl⟩ := hR
  repeat (first | (refine M0 ?_; first | refine SL ?_ | refine SB fun _ _ => ?_ | refine Y4 (Ev.call (f := 17) (ck rfl) rfl (fun w5 S5 => Last_any (t := cxT) (v := v1) (h0 := 0) ((hF1.sys S5 ZZHL).ct (.head _)))) ?_) | (refine M1 ?_; refine SC ?_) | (refine M2 ?_; refine SE ?_))
  rw [cx_las.1, cx_las.2]
  repeat (first | (refine M0 ?_; first | refine SL ?_ | refine SB fun _ _ => ?_) | (refine M1 ?_; refine SC ?_) | (refine M2 ?_; refine SE ?_))
  refine XL.callF (wE := w) Tsk5V (ck rfl) rfl rfl hF1 hk1 hB1 (fun w1 S1 _ _ => Task5_made w1) (fun w2 x new hR hF2 hB2 hk2 => ?_) ZZHL
  obtain ⟨v2, rfl, rfl⟩ := hR
  repeat (first | (refine M0 ?_; first | refine SL ?_ | refine SB fun _ _ => ?_ | refine Y4 (Ev.call (f := 20) (ck rfl) rfl (fun w5 S5 => Rules5_any w5)) ?_) | (refine M1 ?_; refine SC ?_) | (refine M2 ?_; refine SE ?_))
  refine XL.callF (wE := w) (DecR cxT cxR) (ck rfl) rfl rfl hF2 hk2 hB2 (fun w1 S1 hFx _ => Decide_made (t := cxT) (v := v2) (r := cxR) (hFx.ct (.head _))) (fun w3 x new hR hF3 hB3 hk3 => ?_) ZZHL
  obtain ⟨q1, q2, rfl, rfl⟩ := hR
  have hl2 : ListAt wtnK5 w3 (Free w3 w.heap.size _ []) q2 (cxT.decD cxR).later := hF3.held (hList wtnK5 q2 (cxT.decD cxR).later) (.tail _ (.head _))
  have hq2 := hl2.len (by decide)
  rw [d3] at hq2
  obtain ⟨A2, n2, c2⟩ := q2
  simp only at hq2
  subst hq2
  simp only [decV, decC, d1, d2, svV]
  repeat (first | (refine M0 ?_; first | refine SL ?_ | refine SB fun _ _ => ?_) | (refine M1 ?_; refine SC ?_) | (refine M2 ?_; refine SE ?_))
  rename_i g3 hg3
  refine XL.callF (wE := w) Tsk5V (ck rfl) rfl rfl hF3 hk3 hB3 (fun w1 S1 _ _ => Task5_made w1) (fun w4 x new hR hF4 hB4 hk4 => ?_) ZZHL
  obtain ⟨v4, rfl, rfl⟩ := hR
  have hla := fun (w5 : World) (h5 : CtAt w5 w5.heap.size v4 cxT) => Last_any (t := cxT) (v := v4) (h0 := 2) h5
  obtain ⟨z, hz⟩ : ∃ z, z = cxT.lasN 2 := ⟨_, rfl⟩
  rw [cx_las2, ← hz] at hla
  repeat (first | (refine M0 ?_; first | refine SL ?_ | refine SB fun _ _ => ?_ | refine Y4 (Ev.call (f := 17) (ck rfl) rfl (fun w5 S5 => hla w5 ((hF4.sys S5 ZZHL).ct (.head _)))) ?_) | (refine M1 ?_; refine SC ?_) | (refine M2 ?_; refine SE ?_))
  repeat (first | (refine M0 ?_; first | refine SL ?_ | refine SB fun _ _ => ?_ | refine Y4 (Ev.plnEql rfl rfl) ?_) | (refine M1 ?_; first | refine SC ?_ | refine SD ?_) | (refine M2 ?_; refine SE ?_) | (refine M3 ?_; first | refine SG ?_ | refine SF ?_ | refine YF (Ev.plnEql rfl rfl) ?_) | (refine M4 ?_; refine SR ?_) | (refine M5 ?_; first | exact M7 | refine YM ?_ | refine YN ?_ ?_))
  refine XE.retg tok Tryd.results7 rfl (by simp only [and_self, and_true]) (fun w' S => ?_)
  exact ⟨rfl, hB4.trans S.toBelow⟩
end Go.Proofs.YtmpaiphakjogjaaDoor.X
/-
  The law ClosureOpens.
-/
namespace Go.Proofs.YtmpaiphakjogjaaDoor.Bs
open Go Go.Proofs.YtmpaiphakjogjaaDoor.X
set_option linter.unusedVariables false
end Go.Proofs.YtmpaiphakjogjaaDoor.Bs
namespace Go.Proofs.YtmpaiphakjogjaaDoor.X
open Go Go.RowKit Go.Proofs.YtmpaiphakjogjaaDoor.Bs
set_option linter.unusedVariables false
end Go.Proofs.YtmpaiphakjogjaaDoor.X
/-
  The walks of whole, Long and levels of the statements (closure).
-/
namespace Go.Proofs.YtmpaiphakjogjaaDoor.Bs
open Go Go.Proofs.YtmpaiphakjogjaaDoor.X
set_option linter.unusedVariables false
def CTk.wholeB (t : CTk) : Bool := decide (0 < t.m) && (List.range t.m).all fun k => decide ((t.h k).vals.length = t.river.length) && decide ((t.h k).from_ = t.from_)
def CTk.longB (t : CTk) : Bool := (decide (12 < t.river.length) && decide (t.river.length ≤ 60)) || (decide (4 < t.m) && decide (t.m ≤ 8))
theorem whole_ok {t : CTk} (ho : CtOk t) : t.wholeB = true := by
  unfold CTk.wholeB
  rw [decide_eq_true (by have := ho.m1; omega), Bool.true_and, List.all_eq_true]
  intro k hk
  have hk' := List.mem_range.1 hk
  rw [decide_eq_true (by rw [ho.len k hk', ho.river]), decide_eq_true (ho.from_ k hk')]; rfl
theorem whole_t {t : CTk} (h : t.wholeB = true) : 0 < t.m ∧ ∀ k, k < t.m → (t.h k).vals.length = t.river.length ∧ (t.h k).from_ = t.from_ := by
  unfold CTk.wholeB at h
  rw [Bool.and_eq_true, decide_eq_true_eq, List.all_eq_true] at h
  exact ⟨h.1, fun k hk => by have := h.2 k (List.mem_range.2 hk); rw [Bool.and_eq_true, decide_eq_true_eq, decide_eq_true_eq] at this; exact this⟩
end Go.Proofs.YtmpaiphakjogjaaDoor.Bs
namespace Go.Proofs.YtmpaiphakjogjaaDoor.X
open Go Go.RowKit Go.Proofs.YtmpaiphakjogjaaDoor.Bs
set_option linter.unusedVariables false
set_option maxHeartbeats 8000000 in
theorem whole5_any {v : CTV} {t : CTk} {w : World} (hT : CtAt w w.heap.size v t) :
    Calls Tryd.prog 6 #[ctkV v t] w fun e w' => e = .returned (.bool t.wholeB) ∧ Below w.heap.size w w' := by
  have hhn := hT.hn
  have hhm := hT.hmax
  have hhis := fun k hk => hT.hisAt (k := k) hk
  have hrn := hT.river.len
  have hrm := hT.river.max
  obtain ⟨vp, vf, ⟨Ah, nh, ch⟩, ⟨Ar, nr, cr⟩⟩ := v
  simp only at hhn hrn hhis hhm hrm
  subst hhn hrn
  simp only [ctkV, ctkC]
  refine enter Tryd.func6 rfl Tryd.ntmps6 rfl ?_; simp only [frame, Nat.zero_add, Nat.reduceAdd]
  repeat (first | (refine M0 ?_; first | refine SL ?_ | refine SB fun _ _ => ?_) | (refine M1 ?_; refine SC ?_) | (refine M2 ?_; refine SE ?_))
  rename_i g1 hg1
  refine XC.loopk [1] rfl (fun k : Nat => [(3, .int .i64 (k : Nat))]) (fun _ => [(g1, cel 29 (ctkC ⟨vp, vf, ⟨Ah, t.m, ch⟩, ⟨Ar, t.river.length, cr⟩⟩ t))]) (fun _ => w) (fun k => k ≤ t.m ∧ ∀ j, j < k → (t.h j).vals.length = t.river.length ∧ (t.h j).from_ = t.from_) (fun k => t.m - k) 0 ⟨Nat.zero_le _, fun j h => absurd h (by omega)⟩ ZZSUB (fun _ h => h) ?_
  rintro k ⟨hk, h0⟩
  simp only [ctkC]
  dsimp only [List.cons_append, List.nil_append]
  repeat (first | (refine M0 ?_; first | refine SL ?_ | refine SB fun _ _ => ?_) | (refine M1 ?_; refine SC ?_) | (refine M2 ?_; refine SE ?_))
  refine XC.cond _ rfl (fun h2 => ?_) (fun h2 => ?_)
  rotate_left
  · have hkn : k = t.m := by have := of_decide_eq_false h2; omega
    subst hkn
    repeat (first | (refine M0 ?_; first | refine SL ?_ | refine SB fun _ _ => ?_) | (refine M1 ?_; refine SC ?_) | (refine M2 ?_; refine SE ?_))
    refine XE.retg tok Tryd.results6 rfl (by simp only [and_self, and_true]) (fun w' S => ?_)
    refine ⟨?_, S.toBelow⟩
    have e : t.wholeB = decide ((0 : Int) < (t.m : Int)) := by
      unfold CTk.wholeB
      rw [show ((List.range t.m).all fun k => decide ((t.h k).vals.length = t.river.length) && decide ((t.h k).from_ = t.from_)) = true from List.all_eq_true.2 fun k hk => by
        obtain ⟨a, b⟩ := h0 k (List.mem_range.1 hk)
        rw [decide_eq_true a, decide_eq_true b]; rfl, Bool.and_true]
      by_cases h : 0 < t.m
      · rw [decide_eq_true h, decide_eq_true (by omega)]
      · rw [decide_eq_false h, decide_eq_false (by omega)]
    rw [e]; rfl
  have hkn : k < t.m := by have := of_decide_eq_true h2; omega
  obtain ⟨ad, q, e1, hlt, hc, hq⟩ := hhis k hkn
  obtain ⟨ad', q0, e1', hlt', hc', hq0⟩ := hhis 0 (by omega)
  obtain rfl := e1
  obtain rfl : ad = ad' := Option.some.inj e1'
  have hql := hq.len
  have hqm := hq.max
  have c0 := hc 0 _ rfl
  have c1 := hc 1 _ rfl
  have d0 := hc' 0 _ rfl
  obtain ⟨qA, qn, qc⟩ := q
  simp only at hql hqm
  subst hql
  simp only [svV] at c1
  have hno : ∀ j, j < t.m → ¬((t.h j).vals.length = t.river.length ∧ (t.h j).from_ = t.from_) → t.wholeB = false := fun j hj hn => by
    cases hw : t.wholeB with
    | false => rfl
    | true => exact absurd ((whole_t hw).2 j hj) hn
  have hadd : ∀ j, (ad.add j).block < w.heap.size := fun j => add_lt hlt
  repeat (any_goals (first | (refine M0 ?_; first | refine SL ?_ | refine SB fun _ _ => ?_ | (refine XL.split _ _ rfl (fun h => ?_) (fun h => ?_) <;> rw [h]) | refine Y4 (Ev.load_old tok rfl rfl (add_lt2 hlt) c1) ?_ | refine Y4 (Ev.load_old tok rfl rfl (add_lt2 hlt) c0) ?_ | refine Y4 (Ev.load_old tok rfl rfl (add_lt2 hlt) d0) ?_) | (refine M1 ?_; first | refine SC ?_ | refine SD ?_ | refine XC.cond _ rfl (fun h => ?_) (fun h => ?_)) | (refine M2 ?_; refine SE ?_) | (refine M3 ?_; first | refine SG ?_ | refine SF ?_ | (refine Fw.split _ _ rfl (fun h => ?_) (fun h => ?_) <;> rw [h]) | refine YF (Ev.load_old tok rfl rfl (add_lt2 hlt) c1) ?_ | refine YF (Ev.load_old tok rfl rfl (add_lt2 hlt) c0) ?_ | refine YF (Ev.load_old tok rfl rfl (add_lt2 hlt) d0) ?_) | (refine M4 ?_; refine SR ?_) | (refine M5 ?_; first | exact M7 | refine YM ?_ | refine YN ?_ ?_)))
  · have hl : (t.h k).vals.length ≠ t.river.length := by have := of_decide_eq_true h; omega
    refine XE.retg tok Tryd.results6 rfl (by simp only [and_self, and_true]) (fun w' S => ?_)
    rw [hno k hkn (fun h => hl h.1)]
    exact ⟨rfl, S.toBelow⟩
  · have hl : (t.h k).from_ ≠ (t.h 0).from_ := of_decide_eq_true h
    refine XE.retg tok Tryd.results6 rfl (by simp only [and_self, and_true]) (fun w' S => ?_)
    rw [hno k hkn (fun h => hl h.2)]
    exact ⟨rfl, S.toBelow⟩
  · rename_i h5
    have e5 : (t.h k).vals.length = t.river.length := by have := of_decide_eq_false h5; omega
    have e6 : (t.h k).from_ = t.from_ := Decidable.byContradiction fun hn => of_decide_eq_false h hn
    refine XE.round (s := k) (k + 1) ⟨hkn, fun j hj => ?_⟩ (by omega) ZZSUB (fun _ h => h)
    rcases Nat.lt_or_ge j k with h6 | h6
    · exact h0 j h6
    · have : j = k := by omega
      subst this
      exact ⟨e5, e6⟩
end Go.Proofs.YtmpaiphakjogjaaDoor.X
/-
  The walk of lower of the statements (closure).
-/
namespace Go.Proofs.YtmpaiphakjogjaaDoor.Bs
open Go Go.Proofs.YtmpaiphakjogjaaDoor.X
set_option linter.unusedVariables false
def lowV (bs : List Int) (v : Int) (i : Nat) : Int := if 0 < bs.length then max (-20000) (v - at0 bs (i % bs.length)) else v
def lowTo (l bs : List Int) (n : Nat) : List Int := (List.range n).map fun i => lowV bs (at0 l i) i
end Go.Proofs.YtmpaiphakjogjaaDoor.Bs
namespace Go.Proofs.YtmpaiphakjogjaaDoor.X
open Go Go.RowKit Go.Proofs.YtmpaiphakjogjaaDoor.Bs
set_option linter.unusedVariables false
def u16K5 : Kind Int := ⟨216, 1, fun k => [.int .u16 k], fun _ => [], fun _ => rfl⟩
def LowR (h : His) (bs : List Int) (x : Value) (new : List Held) : Prop := ∃ q : SV, x = .agg ⟨[.int .i64 h.from_, svV q]⟩ ∧ new = [hInts q (lowTo h.vals bs h.vals.length)]
end Go.Proofs.YtmpaiphakjogjaaDoor.X
/-
  The plain law of ClosureWater: the states of a run of the basin are those inside.
-/
namespace Go.Proofs.YtmpaiphakjogjaaDoor.Bs
open Go Go.Proofs.YtmpaiphakjogjaaDoor.X
set_option linter.unusedVariables false
/-- the ticks from s on. -/
def CTk.tks (t : CTk) (k s K : Nat) : List Tick := (List.range K).map fun j => t.tick k (s + j)
theorem tks_len (t : CTk) (k s K : Nat) : (t.tks k s K).length = K := by simp [CTk.tks]
theorem tks_tk {t : CTk} {k s K j : Nat} (hj : j < K) : tk (t.tks k s K) j = t.tick k (s + j) := by
  unfold tk CTk.tks
  rw [List.getElem?_map, List.getElem?_range hj]
  rfl
theorem tks_succ (t : CTk) (k s K : Nat) : t.tks k s (K + 1) = t.tks k s K ++ [t.tick k (s + K)] := by
  unfold CTk.tks
  rw [List.range_succ, List.map_append]
  rfl
theorem wat_run {t : CTk} {k s K : Nat} (h : ∀ j, j ≤ K → (t.rs k s j).isSome = true) : ∀ j, j ≤ K → t.rs k s j = some (staAt t.b ⟨t.vol0 k s, t.fil⟩ (t.tks k s K) j) ∧ (j < K → errAt t.b ⟨t.vol0 k s, t.fil⟩ (t.tks k s K) j = 0) := by
  have step : ∀ j, j < K → t.rs k s j = some (staAt t.b ⟨t.vol0 k s, t.fil⟩ (t.tks k s K) j) → errAt t.b ⟨t.vol0 k s, t.fil⟩ (t.tks k s K) j = 0 ∧ t.rs k s (j + 1) = some (staAt t.b ⟨t.vol0 k s, t.fil⟩ (t.tks k s K) (j + 1)) := by
    intro j hj hs
    have h1 := h (j + 1) (by omega)
    have e : t.rs k s (j + 1) = if stepE t.b (staAt t.b ⟨t.vol0 k s, t.fil⟩ (t.tks k s K) j) (t.tick k (s + j)) = 0 then some (outS t.b (staAt t.b ⟨t.vol0 k s, t.fil⟩ (t.tks k s K) j) (t.tick k (s + j))) else none := by rw [CTk.rs, hs]
    rw [e] at h1 ⊢
    by_cases hz : stepE t.b (staAt t.b ⟨t.vol0 k s, t.fil⟩ (t.tks k s K) j) (t.tick k (s + j)) = 0
    · refine ⟨by unfold errAt; rw [tks_tk hj]; exact hz, ?_⟩
      rw [if_pos hz]
      show some _ = some (outS t.b _ (tk _ j))
      rw [tks_tk hj]
    · rw [if_neg hz] at h1; cases h1
  intro j
  induction j with
  | zero => intro _; exact ⟨rfl, fun hj => (step 0 hj rfl).1⟩
  | succ j ih =>
    intro hj
    have a := (ih (by omega)).1
    have b := (step j (by omega) a).2
    exact ⟨b, fun h2 => (step (j + 1) h2 b).1⟩
theorem wat_all {t : CTk} (ho : CtOk t) {k s K : Nat} (hk : k < t.m) (hs : s < t.n) (hK : K ≤ 60) (h : ∀ j, j ≤ K → (t.rs k s j).isSome = true) :
    runE t.b ⟨t.vol0 k s, t.fil⟩ (t.tks k s K) = 0 ∧ runS t.b ⟨t.vol0 k s, t.fil⟩ (t.tks k s K) = (List.range K).map fun j => staAt t.b ⟨t.vol0 k s, t.fil⟩ (t.tks k s K) (j + 1) := by
  have h0 : StaOk t.b ⟨t.vol0 k s, t.fil⟩ := rs_ok ho hk hs (j := 0) rfl
  have e : runE t.b ⟨t.vol0 k s, t.fil⟩ (t.tks k s K) = 0 := by
    unfold runE
    rw [if_neg (by simp [staErr_ok ho.chk h0]), if_neg (by rw [tks_len]; omega), badAt_none fun j hj => by rw [tks_len] at hj; exact (wat_run h j (by omega)).2 hj]
  exact ⟨e, by unfold runS; rw [if_neg (by simp [e]), tks_len]⟩
/-- the plan from index i shuts at tick s and opens at tick O. -/
theorem wat_in {t : CTk} (ho : CtOk t) {k : Nat} (hk : k < t.m) {i : Int} (h0 : 0 ≤ i) (h1 : i ≤ t.last) (hins : ∀ j, j < t.n → (t.ins k (t.plan i) j).isNone = false) :
    ∃ s O : Nat, t.shutI (t.plan i) = (s : Nat) ∧ (t.plan i).open_ - t.from_ = (O : Nat) ∧ s < t.n ∧ s + 1 ≤ O ∧ O ≤ t.n ∧ (∀ j, j ≤ O - 1 - s → (t.rs k s j).isSome = true) ∧
      ∀ x, x < t.n → (t.lo (lvD (t.ins k (t.plan i) x)), t.hi (lvD (t.ins k (t.plan i) x))) = if s < x ∧ x < O then (lvlLo t.b (staAt t.b ⟨t.vol0 k s, t.fil⟩ (t.tks k s (O - 1 - s)) (x - s)).vol, lvlHi t.b (staAt t.b ⟨t.vol0 k s, t.fil⟩ (t.tks k s (O - 1 - s)) (x - s)).vol) else (t.v k x, t.v k x) := by
  obtain ⟨hst, hnv⟩ := plan_ok ho h0 h1
  obtain ⟨⟨b1, b2⟩, b3, b4⟩ := strange_f hst hnv
  have hd := ho.dly
  have hsI : t.shutI (t.plan i) = (t.plan i).close - t.from_ + t.delay := rfl
  have hlast : t.last = (t.n : Int) - 1 - t.delay := rfl
  obtain ⟨s, hs⟩ : ∃ s : Nat, t.shutI (t.plan i) = (s : Nat) := ⟨(t.shutI (t.plan i)).toNat, by omega⟩
  obtain ⟨O, hO⟩ : ∃ O : Nat, (t.plan i).open_ - t.from_ = (O : Nat) := ⟨((t.plan i).open_ - t.from_).toNat, by omega⟩
  have hopen : ∀ x : Nat, t.isOpen (t.plan i) x = (decide (x ≤ s) || decide (O ≤ x)) := fun x => by
    unfold CTk.isOpen
    rw [decide_eq_false hnv, hs, hO, Bool.false_or]
    congr 1 <;> exact decide_eq_decide.2 (by omega)
  have hsome : ∀ j, j ≤ O - 1 - s → (t.rs k s j).isSome = true := fun j hj => by
    rcases Nat.eq_zero_or_pos j with rfl | hp
    · rfl
    · have h2 := hins (s + j) (by omega)
      have h3 : t.isOpen (t.plan i) (s + j) = false := by rw [hopen]; simp; omega
      unfold CTk.ins at h2
      rw [if_neg (by simp [h3]), hs, Int.toNat_natCast, show s + j - s = j by omega] at h2
      cases hr : t.rs k s j with
      | none => rw [hr] at h2; cases h2
      | some st => rfl
  refine ⟨s, O, hs, hO, by omega, by omega, by omega, hsome, fun x hx => ?_⟩
  by_cases hb : s < x ∧ x < O
  · rw [if_pos hb]
    have h3 : t.isOpen (t.plan i) x = false := by rw [hopen]; simp; omega
    have h4 : t.ins k (t.plan i) x = some ⟨true, (staAt t.b ⟨t.vol0 k s, t.fil⟩ (t.tks k s (O - 1 - s)) (x - s)).vol⟩ := by
      unfold CTk.ins
      rw [if_neg (by simp [h3]), hs, Int.toNat_natCast, (wat_run hsome (x - s) (by omega)).1]
      rfl
    rw [h4]
    rfl
  · rw [if_neg hb]
    have h3 : t.isOpen (t.plan i) x = true := by rw [hopen]; simp; omega
    have h4 : t.ins k (t.plan i) x = some ⟨false, t.v k x⟩ := by unfold CTk.ins; rw [if_pos h3]
    rw [h4]
    rfl
theorem inn_0 {t : CTk} {h0 : Int} {p : CPl} (h : t.innE h0 p = 0) : ctE t = 0 ∧ CtOk t ∧ outB h0 0 ((t.m : Int) - 1) = false ∧ t.strange p = false ∧ (∀ j, j < t.n → (t.ins h0.toNat p j).isNone = false) ∧ t.innL h0 p = t.spans h0.toNat p t.n := by
  have hl : t.innL h0 p = t.spans h0.toNat p t.n := by unfold CTk.innL; rw [if_neg (by simp [h])]
  unfold CTk.innE at h
  by_cases hc : ctE t = 0
  rotate_left
  · rw [if_pos hc] at h; exact absurd h hc
  rw [if_neg (by simp [hc])] at h
  cases h1 : outB h0 0 ((t.m : Int) - 1) with
  | true => rw [h1, if_pos rfl] at h; cases h
  | false =>
  rw [h1, if_neg (by simp)] at h
  cases h2 : t.strange p with
  | true => rw [h2, if_pos rfl] at h; cases h
  | false =>
  rw [h2, if_neg (by simp)] at h
  cases h3 : firstB (fun i => (t.ins h0.toNat p i).isNone) t.n with
  | some x => rw [h3] at h; simp at h
  | none => exact ⟨hc, ctOk_of hc, rfl, rfl, firstB_none.1 h3, hl⟩
theorem pln_0 {t : CTk} {i : Int} (h : t.plnE i = 0) : t.plnP i = t.plan (i - t.from_) ∧ 0 ≤ i - t.from_ ∧ i - t.from_ ≤ t.last := by
  have hp : t.plnP i = t.plan (i - t.from_) := by unfold CTk.plnP; rw [if_neg (by simp [h])]
  unfold CTk.plnE at h
  by_cases hc : ctE t = 0
  rotate_left
  · rw [if_pos hc] at h; exact absurd h hc
  rw [if_neg (by simp [hc])] at h
  cases h1 : outB i t.from_ (t.from_ + t.last) with
  | true => rw [h1, if_pos rfl] at h; cases h
  | false =>
    have := outB_f.1 h1
    exact ⟨hp, by omega, by omega⟩
end Go.Proofs.YtmpaiphakjogjaaDoor.Bs
/-
  The law ClosureWater.
-/
namespace Go.Proofs.YtmpaiphakjogjaaDoor.X
open Go Go.RowKit Go.Proofs.YtmpaiphakjogjaaDoor.Bs
set_option linter.unusedVariables false
set_option maxHeartbeats 16000000 in
theorem ClosureWater_any {v : CTV} {t : CTk} {h0 i0 : Int} {w : World} (hLw : Laid w) (hT : CtAt w w.heap.size v t) :
    Calls Tryd.prog 3 #[ctkV v t, .int .i64 h0, .int .i64 i0] w fun e w' => e = .returned (.bool true) ∧ Below w.heap.size w w' := by
  have haw := fun {L : Lo} {W : World} (w5 : World) (S5 : Sys w.heap.size W L w5) => Awake5_any (w := w5)
  have hwh := fun (w5 : World) (hB : Below w.heap.size w w5) => whole5_any (hT.sys (Sys.ofBelow hB))
  have hpl := fun (w5 : World) (hB : Below w.heap.size w w5) => Plan_any (i := i0) (hT.sys (Sys.ofBelow hB))
  have hin := fun (w5 : World) (hB : Below w.heap.size w w5) => Inner_made (h0 := h0) (p := t.plnP i0) (hT.sys (Sys.ofBelow hB))
  have hvo := fun (l : Int) (w5 : World) (hB : Below w.heap.size w w5) => Volume_any (l := l) (hT.sys (Sys.ofBelow hB)).bas
  have hlv := fun (l : Int) (w5 : World) (hB : Below w.heap.size w w5) => Level_any (v := l) (hT.sys (Sys.ofBelow hB)).bas
  have hhn := hT.hn
  have hhis := fun k hk => hT.hisAt (k := k) hk
  have hbas := hT.bas
  have hrows := hbas.n_eq
  have hriv := hT.river
  have hrn := hriv.len
  have hfil := hT.fil
  obtain ⟨⟨A1, n1, cb, Ab2, nb2, cb2⟩, ⟨Af, nf, cf⟩, ⟨Ah, nh, ch⟩, ⟨Ar, nr, cr⟩⟩ := v
  simp only at hhn hhis hrows hbas hriv hrn hfil
  subst hhn hrows
  obtain ⟨p, hp⟩ : ∃ p, t.plnP i0 = p := ⟨_, rfl⟩
  simp only [hp, ctkV, ctkC, plnV, basV, basC, spanV] at hwh hpl hin hvo hlv ⊢
  refine enter Tryd.func3 rfl Tryd.ntmps3 rfl ?_; simp only [frame, Nat.zero_add, Nat.reduceAdd]
  repeat (first | (refine M0 ?_; first | refine SL ?_ | refine SB fun _ _ => ?_ | refine Y4 (Ev.call (f := 4) (ck rfl) rfl (fun w5 S5 => hpl w5 S5.toBelow)) ?_) | (refine M1 ?_; refine SC ?_) | (refine M2 ?_; refine SE ?_))
  rename_i g3 hg3 g7 hg7
  refine XL.callF (ks := []) (rs := []) (hs := []) (b0 := w.heap.size) (wE := w) (InnR t h0 p) (ck rfl) rfl rfl (Fam.start (Nat.le_refl w.heap.size)) (fun _ h => by cases h) (Below.refl w.heap.size w) (fun w1 S1 _ hB1 => hin w1 hB1) (fun w1 x new hR hF1 hB1 hk1 => ?_) ZZHL
  obtain ⟨⟨lA, ln, lc⟩, rfl, rfl⟩ := hR
  simp only [svV]
  repeat (first | (refine M0 ?_; first | refine SL ?_ | refine SB fun _ _ => ?_) | (refine M1 ?_; refine SC ?_) | (refine M2 ?_; refine SE ?_))
  by_cases hE : t.plnE i0 = 0
  rotate_left
  · rw [show decide (t.plnE i0 ≠ 0) = true from decide_eq_true hE]
    repeat (first | (refine M0 ?_; first | refine SL ?_ | refine SB fun _ _ => ?_ | refine Y4 (Ev.call (f := 7) (ck rfl) rfl (fun w5 S5 => haw w5 S5)) ?_) | (refine M1 ?_; refine SC ?_) | (refine M2 ?_; refine SE ?_))
    refine XE.retg tok Tryd.results3 rfl (by simp only [and_self, and_true]) (fun w' S => ?_)
    exact ⟨rfl, hB1.trans S.toBelow⟩
  rw [show decide (t.plnE i0 ≠ 0) = false from decide_eq_false (fun h => h hE)]
  by_cases hI : t.innE h0 p = 0
  rotate_left
  · repeat (first | (refine M0 ?_; first | refine SL ?_ | refine SB fun _ _ => ?_) | (refine M1 ?_; refine SC ?_) | (refine M2 ?_; refine SE ?_))
    rw [show decide (t.innE h0 p ≠ 0) = true from decide_eq_true hI]
    repeat (first | (refine M0 ?_; first | refine SL ?_ | refine SB fun _ _ => ?_ | refine Y4 (Ev.call (f := 7) (ck rfl) rfl (fun w5 S5 => haw w5 S5)) ?_) | (refine M1 ?_; refine SC ?_) | (refine M2 ?_; refine SE ?_))
    refine XE.retg tok Tryd.results3 rfl (by simp only [and_self, and_true]) (fun w' S => ?_)
    exact ⟨rfl, hB1.trans S.toBelow⟩
  obtain ⟨hc, ho, hk0, hst, hins, hil⟩ := inn_0 hI
  obtain ⟨hpp, b0, b1⟩ := pln_0 hE
  have hpe : p = t.plan (i0 - t.from_) := hp.symm.trans hpp
  have hkb := outB_f.1 hk0
  obtain ⟨k, rfl⟩ : ∃ k : Nat, h0 = (k : Nat) := ⟨h0.toNat, by omega⟩
  have hkm : k < t.m := by omega
  rw [Int.toNat_natCast] at hins hil
  rw [hpe] at hins
  obtain ⟨s, O, e1, e2, e3, e4, e5, hsome, hspan⟩ := wat_in ho hkm b0 b1 hins
  rw [← hpe] at e1 e2 hspan
  have e1' : p.close - t.from_ + t.delay = (s : Nat) := e1
  have h60 := ho.n60
  have h1n := ho.n1
  have hm8 := ho.m8
  have hm1 := ho.m1
  have hfm := ho.frm
  have hdl := ho.dly
  have hr2 := ho.ok.n2
  have hpc : 0 ≤ p.close ∧ p.close ≤ 300000 := by
    rw [hpe]; show 0 ≤ t.from_ + (i0 - t.from_) ∧ t.from_ + (i0 - t.from_) ≤ 300000
    have : t.last = (t.n : Int) - 1 - t.delay := rfl
    omega
  have hpo : p.open_ = t.from_ + (O : Nat) := by omega
  rw [whole_ok ho] at hwh
  repeat (first | (refine M0 ?_; first | refine SL ?_ | refine SB fun _ _ => ?_) | (refine M1 ?_; refine SC ?_) | (refine M2 ?_; refine SE ?_))
  rw [show decide (t.innE (k : Nat) p ≠ 0) = false from decide_eq_false (fun h => h hI)]
  repeat (first | (refine M0 ?_; first | refine SL ?_ | refine SB fun _ _ => ?_ | refine Y4 (Ev.call (f := 6) (ck rfl) rfl (fun w5 S5 => hwh w5 (hB1.trans S5.toBelow))) ?_) | (refine M1 ?_; refine SC ?_) | (refine M2 ?_; refine SE ?_))
  rw [show decide (((k : Nat) : Int) < 0) = false from decide_eq_false (by omega)]
  repeat (first | (refine M0 ?_; first | refine SL ?_ | refine SB fun _ _ => ?_) | (refine M1 ?_; refine SC ?_) | (refine M2 ?_; refine SE ?_))
  rw [show decide ((t.m : Int) ≤ ((k : Nat) : Int)) = false from decide_eq_false (by omega)]
  repeat (first | (refine M0 ?_; first | refine SL ?_ | refine SB fun _ _ => ?_) | (refine M1 ?_; refine SC ?_) | (refine M2 ?_; refine SE ?_))
  rw [show decide ((t.b.rows.length : Int) = 0) = false from decide_eq_false (by omega)]
  repeat (first | (refine M0 ?_; first | refine SL ?_ | refine SB fun _ _ => ?_) | (refine M1 ?_; refine SC ?_) | (refine M2 ?_; refine SE ?_))
  have hlen : (t.h k).vals.length = t.n := ho.len k hkm
  obtain ⟨ah, ⟨A0, n0, c0⟩, ea, hlth, hc0, hq0⟩ := hhis 0 (by omega)
  obtain ⟨ah', ⟨Ak, nk, ck1⟩, eb, -, hck, hqk⟩ := hhis k hkm
  obtain rfl := ea
  obtain rfl := Option.some.inj eb
  have hlk := hqk.len
  simp only at hlk
  rw [hlen] at hlk
  subst hlk
  obtain ⟨ak, rfl, hltk, hvk⟩ := hqk.at_ (by omega)
  have dV : ∀ i, i < t.n → w.cell? (ak.add (i * 1)) = some (.int .i64 (t.v k i)) := fun i hi => hvk i (by rw [hlen]; exact hi)
  obtain ⟨ab, rfl, hltb⟩ := hbas.rows.addr (by simp only; omega)
  have dlev : w.cell? ((ab.add (0 * 2)).add 0) = some (.int .i64 (t.b.row 0).level) := hbas.rowLevel (by omega)
  have hrl : t.river.length = t.n := ho.river
  rw [hrl] at hrn
  subst hrn
  obtain ⟨ar, rfl, hltr, hrv⟩ := hriv.at_ (by omega)
  have dR : ∀ i, i < t.n → w.cell? (ar.add (i * 1)) = some (.int .i64 (at0 t.river i)) := fun i hi => hrv i (by omega)
  have c00 : w1.cell? ((ah.add (0 * 2)).add 0) = some (.int .i64 t.from_) := (below_cell5 hB1 (add_lt2 hlth)).trans (hc0 0 _ rfl)
  have ckk : w1.cell? ((ah.add (k * 2)).add 1) = some (.slice (some ak) t.n ck1) := (below_cell5 hB1 (add_lt2 hlth)).trans (hck 1 _ rfl)
  refine XC.drawT mixed rfl rfl (by kernel_rfl) ?_
  repeat (first | (refine M0 ?_; first | refine SL ?_ | refine SB fun _ _ => ?_ | refine Y4 (Ev.load_old tok rfl rfl (add_lt2 hlth) c00) ?_ | refine Y4 (Ev.load_old tok rfl rfl (add_lt2 hlth) ckk) ?_) | (refine M2 ?_; refine SE ?_) | (refine M3 ?_; first | refine SG ?_ | refine SF ?_ | refine YF (Ev.load_old tok rfl rfl (add_lt2 hlth) c00) ?_ | refine YF (Ev.load_old tok rfl rfl (add_lt2 hlth) ckk) ?_) | (refine M4 ?_; refine SRJ ?_) | (refine M5 ?_; first | exact M7 | refine YM ?_ | refine YN ?_ ?_))
  repeat (first | (refine M0 ?_; first | refine SL ?_ | refine SB fun _ _ => ?_) | (refine M1 ?_; refine SC ?_) | (refine M2 ?_; refine SE ?_))
  rw [e1']
  have hL1 : ListAt spnK5 w1 (Free w1 w.heap.size _ []) ⟨lA, ln, lc⟩ (t.innL (k : Nat) p) := hF1.held (hList spnK5 ⟨lA, ln, lc⟩ (t.innL (k : Nat) p)) (.head _)
  have hln := hL1.len (by decide)
  have hsl : (t.innL (k : Nat) p).length = t.n := by rw [hil]; unfold CTk.spans; rw [List.length_map, List.length_range]
  simp only [hsl] at hln
  subst hln
  rw [show decide ((t.n : Int) ≠ (t.n : Int)) = false from decide_eq_false (by omega)]
  repeat (first | (refine M0 ?_; first | refine SL ?_ | refine SB fun _ _ => ?_) | (refine M1 ?_; refine SC ?_) | (refine M2 ?_; refine SE ?_))
  rw [show decide (((s : Nat) : Int) < 0) = false from decide_eq_false (by omega)]
  repeat (first | (refine M0 ?_; first | refine SL ?_ | refine SB fun _ _ => ?_) | (refine M1 ?_; refine SC ?_) | (refine M2 ?_; refine SE ?_))
  rw [show decide ((t.n : Int) ≤ ((s : Nat) : Int)) = false from decide_eq_false (by omega)]
  repeat (first | (refine M0 ?_; first | refine SL ?_ | refine SB fun _ _ => ?_) | (refine M1 ?_; refine SC ?_) | (refine M2 ?_; refine SE ?_))
  rw [show decide (p.open_ ≤ t.from_ + ((s : Nat) : Int)) = false from decide_eq_false (by omega)]
  repeat (first | (refine M0 ?_; first | refine SL ?_ | refine SB fun _ _ => ?_) | (refine M1 ?_; refine SC ?_) | (refine M2 ?_; refine SE ?_))
  have hvl := ho.val k s hkm e3
  have hlm := ho.lim
  have dVs : w1.cell? (ak.add (s * 1)) = some (.int .i64 (t.v k s)) := (below_cell5 hB1 (add_lt hltk)).trans (dV s e3)
  have dl1 : w1.cell? ((ab.add (0 * 2)).add 0) = some (.int .i64 (t.b.row 0).level) := (below_cell5 hB1 (add_lt2 hltb)).trans dlev
  have hvo := hvo (max (t.v k s) (t.b.row 0).level)
  obtain ⟨v1, v2⟩ := vol_0 ho.chk (v := max (t.v k s) (t.b.row 0).level) (outB_f.2 (by omega))
  have v2 : volN t.b (max (t.v k s) (t.b.row 0).level) = t.vol0 k s := v2
  simp only [v1, v2] at hvo
  refine XC.drawT mixed rfl rfl (by kernel_rfl) ?_
  repeat (first | (refine M0 ?_; first | refine SL ?_ | refine SB fun _ _ => ?_ | refine Y4 (Ev.load_old tok rfl rfl (add_lt hltk) dVs) ?_ | refine Y4 (Ev.load_old tok rfl rfl (add_lt2 hltb) dl1) ?_ | refine Y4 (Ev.call (f := 8) (ck rfl) rfl (fun w5 S5 => hvo w5 (hB1.trans S5.toBelow))) ?_) | (refine M2 ?_; refine SE ?_) | (refine M3 ?_; first | refine SG ?_ | refine SF ?_ | refine YF (Ev.load_old tok rfl rfl (add_lt hltk) dVs) ?_ | refine YF (Ev.load_old tok rfl rfl (add_lt2 hltb) dl1) ?_ | refine YF (Ev.call (f := 8) (ck rfl) rfl (fun w5 S5 => hvo w5 (hB1.trans S5.toBelow))) ?_) | (refine M4 ?_; refine SRJ ?_) | (refine M5 ?_; first | exact M7 | refine YM ?_ | refine YN ?_ ?_))
  repeat (first | (refine M0 ?_; first | refine SL ?_ | refine SB fun _ _ => ?_) | (refine M1 ?_; refine SC ?_) | (refine M2 ?_; refine SE ?_))
  obtain ⟨K, hK⟩ : ∃ K, K = O - 1 - s := ⟨_, rfl⟩
  rw [← hK] at hsome hspan
  have hle : w.heap.size ≤ w.heap.size := Nat.le_refl _
  have dVt : ∀ i, i < t.n → (trunc w w.heap.size).cell? (ak.add (i * 1)) = some (.int .i64 (t.v k i)) := fun i hi => (trunc_cell (by rw [add_block]; exact hltk)).trans (dV i hi)
  have dRt : ∀ i, i < t.n → (trunc w w.heap.size).cell? (ar.add (i * 1)) = some (.int .i64 (at0 t.river i)) := fun i hi => (trunc_cell (by rw [add_block]; exact hltr)).trans (dR i hi)
  refine XC.rebase (List.Sublist.refl _) (fun W0 S0 => ?_)
  have hF0 : Fam W0 w.heap.size [g7, g3] [⟨Tick, tickK, .slice none 0 0, t.tks k s 0⟩] [hList spnK5 ⟨lA, t.n, lc⟩ (t.innL (k : Nat) p)] := Fam.nil tickK ((hF1.sys S0 ZZHL).add fun x hx => .inl (by simpa using hx))
  have hks0 : ∀ x, x ∈ [g7, g3] → x < W0.heap.size := fun x hx => S0.keyLt x hx
  refine XC.loopk [3, 7, 9, 11, 12, 13, 14] rfl (fun z : Nat × World × SV => [(15, svV z.2.2), (16, .int .i64 ((s + z.1 : Nat) : Int))]) (fun _ => [(g7, cel 31 [.int .i64 p.close, .int .i64 p.open_]), (g3, cel 29 (ctkC ⟨⟨some ab, t.b.rows.length, cb, Ab2, nb2, cb2⟩, ⟨Af, nf, cf⟩, ⟨some ah, t.m, ch⟩, ⟨some ar, t.n, cr⟩⟩ t))]) (fun z => z.2.1)
    (fun z => z.1 ≤ K ∧ Below w.heap.size w z.2.1 ∧ Fam z.2.1 w.heap.size [g7, g3] [⟨Tick, tickK, svV z.2.2, t.tks k s z.1⟩] [hList spnK5 ⟨lA, t.n, lc⟩ (t.innL (k : Nat) p)] ∧ ∀ x, x ∈ [g7, g3] → x < z.2.1.heap.size) (fun z => K - z.1) (0, W0, ⟨none, 0, 0⟩) ⟨Nat.zero_le _, hB1.trans S0.toBelow, hF0, hks0⟩ ZZSUB (fun _ h => h) ?_
  rintro ⟨j, W, ⟨qA, qn, qc⟩⟩ ⟨hj, hB, hF, hks⟩
  simp only at hj hB hF hks
  simp only [svV, ctkC]
  dsimp only [List.cons_append, List.nil_append]
  refine XC.seq ?_
  refine XC.seq ?_
  refine XC.cutn [3, 7, 9, 11, 12, 13, 14, 15, 16] rfl (fun _ : World => [(141, .bool (decide (j < K)))]) (fun _ => [(g7, cel 31 [.int .i64 p.close, .int .i64 p.open_]), (g3, cel 29 (ctkC ⟨⟨some ab, t.b.rows.length, cb, Ab2, nb2, cb2⟩, ⟨Af, nf, cf⟩, ⟨some ah, t.m, ch⟩, ⟨some ar, t.n, cr⟩⟩ t))]) (fun z => z) (fun z => Below w.heap.size w z ∧ Fam z w.heap.size [g7, g3] [⟨Tick, tickK, svV ⟨qA, qn, qc⟩, t.tks k s j⟩] [hList spnK5 ⟨lA, t.n, lc⟩ (t.innL (k : Nat) p)] ∧ ∀ x, x ∈ [g7, g3] → x < z.heap.size) ?_ ?_
  · by_cases hjK : j < K
    · skip
      repeat (first | (refine M0 ?_; first | refine SL ?_ | refine SB fun _ _ => ?_) | (refine M1 ?_; refine SC ?_) | (refine M2 ?_; refine SE ?_))
      rw [show decide (((s + j : Nat) : Int) + 1 < (t.n : Int)) = true from decide_eq_true (by omega)]
      repeat (first | (refine M0 ?_; first | refine SL ?_ | refine SB fun _ _ => ?_) | (refine M1 ?_; refine SC ?_) | (refine M2 ?_; refine SE ?_))
      rw [show decide (t.from_ + ((s + j : Nat) : Int) + 1 < p.open_) = true from decide_eq_true (by omega)]
      repeat (first | (refine M0 ?_; first | refine SL ?_ | refine SB fun _ _ => ?_) | (refine M1 ?_; refine SC ?_) | (refine M2 ?_; refine SE ?_))
      exact XE.leafW (fun z9 S9 => ⟨z9, ⟨hB.trans S9.toBelow, hF.sys S9 ZZHL, fun x hx => Nat.lt_of_lt_of_le (hks x hx) S9.size⟩, Sub.cons (by show some _ = some _; rw [decide_eq_true hjK]) ZZSUB, S9.rebase ZZSM⟩)
    · by_cases hn : s + j + 1 < t.n
      · repeat (first | (refine M0 ?_; first | refine SL ?_ | refine SB fun _ _ => ?_) | (refine M1 ?_; refine SC ?_) | (refine M2 ?_; refine SE ?_))
        rw [show decide (((s + j : Nat) : Int) + 1 < (t.n : Int)) = true from decide_eq_true (by omega)]
        repeat (first | (refine M0 ?_; first | refine SL ?_ | refine SB fun _ _ => ?_) | (refine M1 ?_; refine SC ?_) | (refine M2 ?_; refine SE ?_))
        rw [show decide (t.from_ + ((s + j : Nat) : Int) + 1 < p.open_) = false from decide_eq_false (by omega)]
        repeat (first | (refine M0 ?_; first | refine SL ?_ | refine SB fun _ _ => ?_) | (refine M1 ?_; refine SC ?_) | (refine M2 ?_; refine SE ?_))
        exact XE.leafW (fun z9 S9 => ⟨z9, ⟨hB.trans S9.toBelow, hF.sys S9 ZZHL, fun x hx => Nat.lt_of_lt_of_le (hks x hx) S9.size⟩, Sub.cons (by show some _ = some _; rw [decide_eq_false hjK]) ZZSUB, S9.rebase ZZSM⟩)
      · repeat (first | (refine M0 ?_; first | refine SL ?_ | refine SB fun _ _ => ?_) | (refine M1 ?_; refine SC ?_) | (refine M2 ?_; refine SE ?_))
        rw [show decide (((s + j : Nat) : Int) + 1 < (t.n : Int)) = false from decide_eq_false (by omega)]
        repeat (first | (refine M0 ?_; first | refine SL ?_ | refine SB fun _ _ => ?_) | (refine M1 ?_; refine SC ?_) | (refine M2 ?_; refine SE ?_))
        exact XE.leafW (fun z9 S9 => ⟨z9, ⟨hB.trans S9.toBelow, hF.sys S9 ZZHL, fun x hx => Nat.lt_of_lt_of_le (hks x hx) S9.size⟩, Sub.cons (by show some _ = some _; rw [decide_eq_false hjK]) ZZSUB, S9.rebase ZZSM⟩)
  clear hB hF hks
  rintro Wz ⟨hB, hF, hks⟩
  simp only [ctkC]
  dsimp only [List.cons_append, List.nil_append]
  repeat (first | (refine M0 ?_; first | refine SL ?_ | refine SB fun _ _ => ?_) | (refine M1 ?_; refine SC ?_) | (refine M2 ?_; refine SE ?_))
  refine XC.cond _ rfl (fun h1 => ?_) (fun h1 => ?_)
  · have hjK : j < K := of_decide_eq_true h1
    repeat (first | (refine M0 ?_; first | refine SL ?_ | refine SB fun _ _ => ?_) | (refine M1 ?_; refine SC ?_) | (refine M2 ?_; refine SE ?_))
    have l3 := hks g3 (by simp)
    refine XC.drawRS (trunc w w.heap.size) [(g3, cel 29 (ctkC ⟨⟨some ab, t.b.rows.length, cb, Ab2, nb2, cb2⟩, ⟨Af, nf, cf⟩, ⟨some ah, t.m, ch⟩, ⟨some ar, t.n, cr⟩⟩ t))] [0, 1, 2, 3, 4, 5, 6, 7, 8, 9, 10, 11, 12] [13, 14, 15] mixed (fun _ h => Sys.anchorT hB h (fun e he => by rw [List.mem_singleton.1 he]; exact .tail _ (.head _)) (by simp) hle) rfl (by kernel_rfl) ?_
    simp only [ctkC]
    repeat (any_goals (first | (refine M0 ?_; first | refine SL ?_ | refine SB fun _ _ => ?_ | refine Y4 (Ev.load_old tok rfl rfl (add_lt hltk) (dVt (s + j) (by omega))) ?_ | refine Y4 (Ev.load_old tok rfl rfl (add_lt hltr) (dRt (s + j) (by omega))) ?_ | refine Y4 (Ev.load_loc tok 0 (g := g3) (o := 7) rfl rfl rfl rfl) ?_ | refine Y4 (Ev.load_loc tok 0 (g := g3) (o := 8) rfl rfl rfl rfl) ?_ | refine XL.buildSlice tok rfl rfl rfl rfl rfl rfl rfl rfl rfl (fun _ _ => ?_) | (refine XL.at_push 46 ?_; refine XL.push (K := tickK) (a := t.tick k (s + j)) (wE := w) 0 tick_el (by decide) rfl rfl rfl hF rfl hks hB (Nat.le_refl _) rfl (by rw [tks_len]; omega) (by decide) (fun x hx => by cases hx) (fun w2 v2 hF2 hB2 hk2 => ?_); simp only [List.set_cons_zero, ← tks_succ] at hF2; obtain ⟨⟨sA, sn, sc⟩, rfl, _⟩ := hF2.sv (K := tickK) (l := t.tks k s (j + 1)) (v := v2) (.head _); simp only [svV])) | (refine M1 ?_; refine SC ?_) | (refine M2 ?_; first | refine SE ?_ | ((with_reducible refine atHeld ?_); refine z7 ?_)) | (refine M3 ?_; first | refine SG ?_ | refine SF ?_ | refine YF (Ev.load_old tok rfl rfl (add_lt hltk) (dVt (s + j) (by omega))) ?_ | refine YF (Ev.load_old tok rfl rfl (add_lt hltr) (dRt (s + j) (by omega))) ?_ | refine YF (Ev.load_loc tok 0 (g := g3) (o := 7) rfl rfl rfl rfl) ?_ | refine YF (Ev.load_loc tok 0 (g := g3) (o := 8) rfl rfl rfl rfl) ?_) | (refine M4 ?_; refine SRJ ?_) | (refine M5 ?_; first | exact M7 | refine YM ?_ | refine YN ?_ ?_)))
    any_goals (repeat (first | exact AnyR.nil | refine AnyR.skip rfl ?_))
    all_goals
      repeat (first | (refine M0 ?_; first | refine SL ?_ | refine SB fun _ _ => ?_) | (refine M1 ?_; refine SC ?_) | (refine M2 ?_; refine SE ?_))
      exact XE.roundW (s := (j, W, ⟨qA, qn, qc⟩)) (fun w9 S9 => ⟨(j + 1, w9, ⟨sA, sn, sc⟩), ⟨hjK, hB2.trans S9.toBelow, (hF2.sys S9 ZZHL).add (fun x hx => .inl (List.mem_append_right _ hx)), fun x hx => Nat.lt_of_lt_of_le (hk2 x (List.mem_append_right _ hx)) S9.size⟩, by simp only; omega, (Sub.cons rfl (Sub.cons (by show some _ = some _; rw [show ((s + (j + 1) : Nat) : Int) = ((s + j : Nat) : Int) + 1 from by omega]) ZZSUB)), S9.rebase ZZSM⟩)
  have hjk : j = K := by have := of_decide_eq_false h1; omega
  subst hjk
  have hF := hF.freeze
  obtain ⟨ra, rb⟩ := wat_all ho hkm e3 (by omega) hsome
  repeat (first | (refine M0 ?_; first | refine SL ?_ | refine SB fun _ _ => ?_) | (refine M1 ?_; refine SC ?_) | (refine M2 ?_; refine SE ?_))
  have hrun := fun (w5 : World) (hB5 : Below w.heap.size w w5) (ht : TksAt w5 (Lt w5.heap.size) ⟨qA, qn, qc⟩ (t.tks k s j)) => Run_made (s := ⟨t.vol0 k s, t.fil⟩) (hLw.below hB5) (hT.sys (Sys.ofBelow hB5)).bas (hT.sys (Sys.ofBelow hB5)).fil ht
  simp only [basV, basC, staV, staC, svV] at hrun
  refine XL.callF (wE := w) (RunV t.b ⟨t.vol0 k s, t.fil⟩ (t.tks k s j)) (ck rfl) rfl rfl hF hks hB (fun w5 S5 hF5 hB5 => hrun w5 hB5 (ListAt.tks (Held.lt (x := hList tickK ⟨qA, qn, qc⟩ (t.tks k s j)) (hF5.get (.head _))))) (fun w6 x new hR hF6 hB6 hk6 => ?_) ZZHL
  obtain ⟨⟨r1A, r1n, r1c⟩, ⟨r2A, r2n, r2c⟩, l1, l2, rfl, rfl, hl1, hl2⟩ := hR
  rw [ra]
  rw [rb] at hl1
  simp only [svV]
  have hll1 : l1.length = j := by have := congrArg List.length hl1; simpa using this
  have hqn := (hF.held (hList tickK ⟨qA, qn, qc⟩ (t.tks k s j)) (.head _)).len (by decide)
  simp only [tks_len] at hqn
  subst hqn
  have hLS : ListAt staK w6 (Free w6 w.heap.size _ _) ⟨r1A, r1n, r1c⟩ l1 := hF6.held (hList staK ⟨r1A, r1n, r1c⟩ l1) (.head _)
  have hrn := hLS.len (by decide)
  simp only [hll1] at hrn
  subst hrn
  repeat (first | (refine M0 ?_; first | refine SL ?_ | refine SB fun _ _ => ?_) | (refine M1 ?_; refine SC ?_) | (refine M2 ?_; refine SE ?_))
  rw [show decide ((r1n : Int) ≠ (r1n : Int)) = false from decide_eq_false (fun h => h rfl)]
  repeat (first | (refine M0 ?_; first | refine SL ?_ | refine SB fun _ _ => ?_) | (refine M1 ?_; refine SC ?_) | (refine M2 ?_; refine SE ?_))
  have hFL : Fam w6 w.heap.size [g7, g3] [] [hList staK ⟨r1A, r1n, r1c⟩ l1, hList spnK5 ⟨lA, t.n, lc⟩ (t.innL (k : Nat) p)] := Fam.forget (hF6.add (ks' := [g7, g3]) (fun x hx => .inl (List.mem_append_right _ hx))) (fun x hx => by
    rcases List.mem_cons.1 hx with rfl | hx
    · exact .head _
    · rw [List.mem_singleton.1 hx]; exact .tail _ (.tail _ (.tail _ (.head _))))
  have hkL : ∀ x, x ∈ [g7, g3] → x < w6.heap.size := fun x hx => hk6 x (List.mem_append_right _ hx)
  clear hF hks hB hF6 hk6 hLS
  refine XC.loopk [3, 9, 12, 13, 17] rfl (fun z : Nat × World => [(19, .int .i64 (z.1 : Nat))]) (fun _ => [(g7, cel 31 [.int .i64 p.close, .int .i64 p.open_]), (g3, cel 29 (ctkC ⟨⟨some ab, t.b.rows.length, cb, Ab2, nb2, cb2⟩, ⟨Af, nf, cf⟩, ⟨some ah, t.m, ch⟩, ⟨some ar, t.n, cr⟩⟩ t))]) (fun z => z.2) (fun z => z.1 ≤ t.n ∧ Below w.heap.size w z.2 ∧ Fam z.2 w.heap.size [g7, g3] [] [hList staK ⟨r1A, r1n, r1c⟩ l1, hList spnK5 ⟨lA, t.n, lc⟩ (t.innL (k : Nat) p)] ∧ ∀ x, x ∈ [g7, g3] → x < z.2.heap.size) (fun z => t.n - z.1) (0, w6) ⟨Nat.zero_le _, hB6, hFL, hkL⟩ ZZSUB (fun _ h => h) ?_
  rintro ⟨x, W7⟩ ⟨hx, hB7, hF7, hk7⟩
  simp only at hx hB7 hF7 hk7
  simp only [ctkC]
  dsimp only [List.cons_append, List.nil_append]
  repeat (first | (refine M0 ?_; first | refine SL ?_ | refine SB fun _ _ => ?_) | (refine M1 ?_; refine SC ?_) | (refine M2 ?_; refine SE ?_))
  refine XC.cond _ rfl (fun h3 => ?_) (fun h3 => ?_)
  rotate_left
  · repeat (first | (refine M0 ?_; first | refine SL ?_ | refine SB fun _ _ => ?_ | refine Y4 (Ev.call (f := 7) (ck rfl) rfl (fun w5 S5 => haw w5 S5)) ?_) | (refine M1 ?_; refine SC ?_) | (refine M2 ?_; refine SE ?_))
    refine XE.retg tok Tryd.results3 rfl (by simp only [and_self, and_true]) (fun w' S => ?_)
    exact ⟨rfl, hB7.trans S.toBelow⟩
  have hxn : x < t.n := by have := of_decide_eq_true h3; omega
  have hsp := hspan x hxn
  have hpel : (t.innL (k : Nat) p)[x]? = some (t.lo (lvD (t.ins k p x)), t.hi (lvD (t.ins k p x))) := by rw [hil]; unfold CTk.spans; rw [List.getElem?_map, List.getElem?_range hxn]; rfl
  rw [hsp] at hpel
  have hLW : ListAt spnK5 W7 (Free W7 w.heap.size _ _) ⟨lA, t.n, lc⟩ (t.innL (k : Nat) p) := hF7.held (hList spnK5 ⟨lA, t.n, lc⟩ (t.innL (k : Nat) p)) (.tail _ (.head _))
  obtain ⟨al, rfl, hfl⟩ := hLW.addr (by decide) (by omega)
  have hcl := hLW.elem hpel
  have lal : (al.add (x * 2)).block < W7.heap.size := by rw [add_block]; exact hfl.2.1
  repeat (first | (refine M0 ?_; first | refine SL ?_ | refine SB fun _ _ => ?_) | (refine M1 ?_; refine SC ?_) | (refine M2 ?_; refine SE ?_))
  refine XC.drawRS (trunc w w.heap.size) [] [0, 1, 2, 3, 4, 5, 6, 7] [8, 9, 10] mixed (fun _ h => Sys.anchorT hB7 h (fun e he => by cases he) (by simp) hle) rfl (by kernel_rfl) ?_
  repeat (any_goals (first | (refine M0 ?_; first | refine SL ?_ | refine SB fun _ _ => ?_ | refine Y4 (Ev.load_old tok rfl rfl (add_lt hltk) (dVt x hxn)) ?_) | (refine M1 ?_; refine SC ?_) | (refine M2 ?_; first | refine SE ?_ | ((with_reducible refine atHeld ?_); refine z7 ?_)) | (refine M3 ?_; first | refine SG ?_ | refine SF ?_ | refine YF (Ev.load_old tok rfl rfl (add_lt hltk) (dVt x hxn)) ?_) | (refine M4 ?_; refine SRJ ?_) | (refine M5 ?_; first | exact M7 | refine YM ?_ | refine YN ?_ ?_)))
  any_goals (repeat (first | exact AnyR.nil | refine AnyR.skip rfl ?_))
  repeat (first | (refine M0 ?_; first | refine SL ?_ | refine SB fun _ _ => ?_) | (refine M1 ?_; refine SC ?_) | (refine M2 ?_; refine SE ?_))
  rename_i g20 hg20
  by_cases hsx : s < x
  rotate_left
  · rw [if_neg (fun h => hsx h.1)] at hcl
    rw [show decide ((0 : Int) ≤ (x : Int) - (s : Int) - 1) = false from decide_eq_false (by omega)]
    repeat (first | (refine M0 ?_; first | refine SL ?_ | refine SB fun _ _ => ?_) | (refine M1 ?_; refine SC ?_) | (refine M2 ?_; refine SE ?_))
    refine XC.drawT mixed rfl rfl (by kernel_rfl) ?_
    repeat (first | (refine M0 ?_; first | refine SL ?_ | refine SB fun _ _ => ?_ | refine Y4 (Ev.load_far_agg tok [.int .i64 (t.v k x), .int .i64 (t.v k x)] rfl rfl rfl lal (hfl.far ZZHL) hcl) ?_ | refine Y4 (Ev.spcNeq rfl rfl) ?_) | (refine M2 ?_; refine SE ?_) | (refine M3 ?_; first | refine SG ?_ | refine SF ?_ | refine YF (Ev.load_far_agg tok [.int .i64 (t.v k x), .int .i64 (t.v k x)] rfl rfl rfl lal (hfl.far ZZHL) hcl) ?_ | refine YF (Ev.spcNeq rfl rfl) ?_) | (refine M4 ?_; refine SRJ ?_) | (refine M5 ?_; first | exact M7 | refine YM ?_ | refine YN ?_ ?_))
    rw [show (!(decide ((t.v k x) = (t.v k x)) && decide ((t.v k x) = (t.v k x)))) = false from by simp]
    repeat (first | (refine M0 ?_; first | refine SL ?_ | refine SB fun _ _ => ?_) | (refine M1 ?_; refine SC ?_) | (refine M2 ?_; refine SE ?_))
    exact XE.roundW (s := (x, W7)) (fun w9 S9 => ⟨(x + 1, w9), ⟨hxn, hB7.trans S9.toBelow, hF7.sys S9 ZZHL, fun y hy => Nat.lt_of_lt_of_le (hk7 y hy) S9.size⟩, by simp only; omega, ZZSUB, S9.rebase ZZSM⟩)
  obtain ⟨jj, hjj⟩ : ∃ jj : Nat, x = s + 1 + jj := ⟨x - (s + 1), by omega⟩
  rw [show (x : Int) - (s : Int) - 1 = ((jj : Nat) : Int) from by omega]
  rw [show decide ((0 : Int) ≤ ((jj : Nat) : Int)) = true from decide_eq_true (by omega)]
  by_cases hxO : x < O
  rotate_left
  · rw [if_neg (fun h => hxO h.2)] at hcl
    repeat (first | (refine M0 ?_; first | refine SL ?_ | refine SB fun _ _ => ?_) | (refine M1 ?_; refine SC ?_) | (refine M2 ?_; refine SE ?_))
    rw [show decide (((jj : Nat) : Int) < (r1n : Int)) = false from decide_eq_false (by omega)]
    repeat (first | (refine M0 ?_; first | refine SL ?_ | refine SB fun _ _ => ?_) | (refine M1 ?_; refine SC ?_) | (refine M2 ?_; refine SE ?_))
    refine XC.drawT mixed rfl rfl (by kernel_rfl) ?_
    repeat (first | (refine M0 ?_; first | refine SL ?_ | refine SB fun _ _ => ?_ | refine Y4 (Ev.load_far_agg tok [.int .i64 (t.v k x), .int .i64 (t.v k x)] rfl rfl rfl lal (hfl.far ZZHL) hcl) ?_ | refine Y4 (Ev.spcNeq rfl rfl) ?_) | (refine M2 ?_; refine SE ?_) | (refine M3 ?_; first | refine SG ?_ | refine SF ?_ | refine YF (Ev.load_far_agg tok [.int .i64 (t.v k x), .int .i64 (t.v k x)] rfl rfl rfl lal (hfl.far ZZHL) hcl) ?_ | refine YF (Ev.spcNeq rfl rfl) ?_) | (refine M4 ?_; refine SRJ ?_) | (refine M5 ?_; first | exact M7 | refine YM ?_ | refine YN ?_ ?_))
    rw [show (!(decide ((t.v k x) = (t.v k x)) && decide ((t.v k x) = (t.v k x)))) = false from by simp]
    repeat (first | (refine M0 ?_; first | refine SL ?_ | refine SB fun _ _ => ?_) | (refine M1 ?_; refine SC ?_) | (refine M2 ?_; refine SE ?_))
    exact XE.roundW (s := (x, W7)) (fun w9 S9 => ⟨(x + 1, w9), ⟨hxn, hB7.trans S9.toBelow, hF7.sys S9 ZZHL, fun y hy => Nat.lt_of_lt_of_le (hk7 y hy) S9.size⟩, by simp only; omega, ZZSUB, S9.rebase ZZSM⟩)
  have hjr : jj < r1n := by omega
  rw [if_pos ⟨hsx, hxO⟩, show x - s = jj + 1 from by omega] at hcl
  obtain ⟨e, hel1⟩ : ∃ e, l1[jj]? = some e := ⟨_, List.getElem?_eq_getElem (by omega)⟩
  have hes : e.s = staAt t.b ⟨t.vol0 k s, t.fil⟩ (t.tks k s r1n) (jj + 1) := by
    have h1 : (l1.map (·.s))[jj]? = some e.s := by rw [List.getElem?_map, hel1]; rfl
    rw [hl1, List.getElem?_map, List.getElem?_range hjr] at h1
    exact (Option.some.inj h1).symm
  have hso : StaOk t.b (staAt t.b ⟨t.vol0 k s, t.fil⟩ (t.tks k s r1n) (jj + 1)) := rs_ok ho hkm e3 (wat_run hsome (jj + 1) (by omega)).1
  have hl0 := (lvl_0 ho.chk (outB_f.2 hso.vol)).1
  have hLS : ListAt staK W7 (Free W7 w.heap.size _ _) ⟨r1A, r1n, r1c⟩ l1 := hF7.held (hList staK ⟨r1A, r1n, r1c⟩ l1) (.head _)
  obtain ⟨aS, rfl, hfs⟩ := hLS.addr (by decide) (by omega)
  have cvs := hLS.elem hel1 0 (.int .i64 e.s.vol) rfl
  rw [hes] at cvs
  have cvs : W7.cell? ((aS.add (jj * 2)).add 0) = some (.int .i64 (staAt t.b ⟨t.vol0 k s, t.fil⟩ (t.tks k s r1n) (jj + 1)).vol) := cvs
  have lvs : ((aS.add (jj * 2)).add 0).block < W7.heap.size := by rw [add_block, add_block]; exact hfs.2.1
  have hlv := hlv (staAt t.b ⟨t.vol0 k s, t.fil⟩ (t.tks k s r1n) (jj + 1)).vol
  rw [hl0] at hlv
  repeat (first | (refine M0 ?_; first | refine SL ?_ | refine SB fun _ _ => ?_) | (refine M1 ?_; refine SC ?_) | (refine M2 ?_; refine SE ?_))
  rw [show decide (((jj : Nat) : Int) < (r1n : Int)) = true from decide_eq_true (by omega)]
  repeat (first | (refine M0 ?_; first | refine SL ?_ | refine SB fun _ _ => ?_) | (refine M1 ?_; refine SC ?_) | (refine M2 ?_; refine SE ?_))
  have l37 := hk7 g3 (by simp)
  refine XC.drawRS (trunc w w.heap.size) [(g3, cel 29 (ctkC ⟨⟨some ab, t.b.rows.length, cb, Ab2, nb2, cb2⟩, ⟨Af, nf, cf⟩, ⟨some ah, t.m, ch⟩, ⟨some ar, t.n, cr⟩⟩ t))] [0, 1, 2, 3] [4, 5, 6, 7, 8, 9, 10, 11, 12, 13] mixed (fun _ h => Sys.anchorT hB7 h (fun e he => by rw [List.mem_singleton.1 he]; exact .tail _ (.tail _ (.head _))) (by simp) hle) rfl (by kernel_rfl) ?_
  simp only [ctkC]
  repeat (any_goals (first | (refine M0 ?_; first | refine SL ?_ | refine SB fun _ _ => ?_ | refine Y4 (Ev.load_loc_agg tok 0 (g := g3) (o := 0) rfl rfl rfl rfl) ?_ | refine Y4 (Ev.load_far tok rfl rfl lvs (hfs.far2 ZZHL) cvs) ?_ | refine Y4 (Ev.call (f := 10) (ck rfl) rfl (fun w5 S5 => hlv w5 (hB7.trans S5.toBelow))) ?_) | (refine M1 ?_; refine SC ?_) | (refine M2 ?_; first | refine SE ?_ | ((with_reducible refine atHeld ?_); refine z7 ?_)) | (refine M3 ?_; first | refine SG ?_ | refine SF ?_ | refine YF (Ev.load_loc_agg tok 0 (g := g3) (o := 0) rfl rfl rfl rfl) ?_ | refine YF (Ev.load_far tok rfl rfl lvs (hfs.far2 ZZHL) cvs) ?_ | refine YF (Ev.call (f := 10) (ck rfl) rfl (fun w5 S5 => hlv w5 (hB7.trans S5.toBelow))) ?_) | (refine M4 ?_; refine SRJ ?_) | (refine M5 ?_; first | exact M7 | refine YM ?_ | refine YN ?_ ?_)))
  any_goals (repeat (first | exact AnyR.nil | refine AnyR.skip rfl ?_))
  all_goals
    repeat (first | (refine M0 ?_; first | refine SL ?_ | refine SB fun _ _ => ?_) | (refine M1 ?_; refine SC ?_) | (refine M2 ?_; refine SE ?_))
    refine XC.drawT mixed rfl rfl (by kernel_rfl) ?_
    repeat (first | (refine M0 ?_; first | refine SL ?_ | refine SB fun _ _ => ?_ | refine Y4 (Ev.load_far_agg tok [.int .i64 (lvlLo t.b (staAt t.b ⟨t.vol0 k s, t.fil⟩ (t.tks k s r1n) (jj + 1)).vol), .int .i64 (lvlHi t.b (staAt t.b ⟨t.vol0 k s, t.fil⟩ (t.tks k s r1n) (jj + 1)).vol)] rfl rfl rfl lal (hfl.far ZZHL) hcl) ?_ | refine Y4 (Ev.spcNeq rfl rfl) ?_) | (refine M2 ?_; refine SE ?_) | (refine M3 ?_; first | refine SG ?_ | refine SF ?_ | refine YF (Ev.load_far_agg tok [.int .i64 (lvlLo t.b (staAt t.b ⟨t.vol0 k s, t.fil⟩ (t.tks k s r1n) (jj + 1)).vol), .int .i64 (lvlHi t.b (staAt t.b ⟨t.vol0 k s, t.fil⟩ (t.tks k s r1n) (jj + 1)).vol)] rfl rfl rfl lal (hfl.far ZZHL) hcl) ?_ | refine YF (Ev.spcNeq rfl rfl) ?_) | (refine M4 ?_; refine SRJ ?_) | (refine M5 ?_; first | exact M7 | refine YM ?_ | refine YN ?_ ?_))
    rw [show (!(decide ((lvlLo t.b (staAt t.b ⟨t.vol0 k s, t.fil⟩ (t.tks k s r1n) (jj + 1)).vol) = (lvlLo t.b (staAt t.b ⟨t.vol0 k s, t.fil⟩ (t.tks k s r1n) (jj + 1)).vol)) && decide ((lvlHi t.b (staAt t.b ⟨t.vol0 k s, t.fil⟩ (t.tks k s r1n) (jj + 1)).vol) = (lvlHi t.b (staAt t.b ⟨t.vol0 k s, t.fil⟩ (t.tks k s r1n) (jj + 1)).vol)))) = false from by simp]
    repeat (first | (refine M0 ?_; first | refine SL ?_ | refine SB fun _ _ => ?_) | (refine M1 ?_; refine SC ?_) | (refine M2 ?_; refine SE ?_))
    exact XE.roundW (s := (x, W7)) (fun w9 S9 => ⟨(x + 1, w9), ⟨hxn, hB7.trans S9.toBelow, hF7.sys S9 ZZHL, fun y hy => Nat.lt_of_lt_of_le (hk7 y hy) S9.size⟩, by simp only; omega, ZZSUB, S9.rebase ZZSM⟩)
end Go.Proofs.YtmpaiphakjogjaaDoor.X
