/-
  A walk by lemmas (7): a region that draws its order AND writes: what only reads is taken first; of what is left every order is walked.
-/
import Derived.Test.YtoiepgcjinccpaaDoorEng6
import Derived.OrdersHeld
namespace Go.Proofs.YtoiepgcjinccpaaDoor.X
open Go Go.RowKit
set_option linter.unusedVariables false

def only (K : Act → World → Prop) : Exit → Act → World → Prop
  | .normal, a, w => K a w
  | _, _, _ => False
def setAll (D : Array Bool) : List Nat → Array Bool
  | [] => D
  | i :: r => setAll (D.setIfInBounds i true) r
/-- each of these, one after the other, may come up, and nobody who could come before it touches its slots. -/
def pureOk (ops : Array Oper) : Array Bool → List Nat → Bool
  | _, [] => Region.noSelect ops
  | D, i :: r => (Region.ready .any ops D).contains i && Region.free .any ops D i && pureOk ops (D.setIfInBounds i true) r
def pickO (ops : Array Oper) : List Nat → List Oper
  | [] => []
  | i :: r => match ops[i]? with
    | some o => o :: pickO ops r
    | none => pickO ops r

section
variable {P : Program} {N : Nat} {B : Nat} {wS w0 : World} {ds : List Deferred} {Q : Exit → Act → World → Prop} {F : Fr} {L Ls : Lo} {ops : Array Oper} {D : Array Bool}

theorem Sys.pick {w : World} {L' : Lo} (h : Sys B w0 L w) (hs : ∀ e, e ∈ L' → e ∈ L) (hn : (L'.map (·.1)).Nodup) (hd : ∀ e, e ∈ L → e ∈ L' ∨ w0.heap.size ≤ e.1) : Sys B w0 L' w := by
  refine ⟨h.os, h.tape, h.output, h.size, h.base, fun k hk hnn => h.old k hk fun e he e1 => ?_, fun e he => h.own e (hs e he), hn⟩
  rcases hd e he with h1 | h1
  · exact hnn e h1 e1
  · omega

variable (P N B wS w0 ds Q Ls ops) in
structure XH (D : Array Bool) (F : Fr) (L : Lo) : Prop where
  run : ∀ fuel a w, D.toList.count false ≤ fuel → Fits N ds F a → Sys B w0 L w → Sys B wS Ls w → wpAnyH P .any ops (only fun a w => Q .normal a w) (Sys B wS Ls) fuel D a w
theorem XC.drawH {id : Nat} {l : List Oper} (wS : World) (Ls : Lo) (hm : P.follows .mixedOrders = true) (hL : ∀ w, Sys B w0 L w → Sys B wS Ls w)
    (h : XH P N B wS w0 ds Q Ls l.toArray (Array.replicate l.toArray.size false) F L) : XC P N B w0 ds Q (.region id l.toArray true) F L := by
  refine ⟨fun a w hf hs => ?_⟩
  refine wp_mono (wp_region_held hm (h.run _ a _ ?_ hf hs.drew (hL _ hs.drew))) fun e a' w' q => ?_
  · simp
  · cases e <;> first | exact q | exact q.elim

theorem ready_count {i : Nat} {fuel : Nat} (hr : i ∈ Region.ready .any ops D) (hc : D.toList.count false ≤ fuel) : ∃ n, fuel = n + 1 ∧ (D.setIfInBounds i true).toList.count false ≤ n := by
  obtain ⟨h0, _⟩ := mem_ready.1 hr
  have hlt : i < D.size := by
    rcases Nat.lt_or_ge i D.size with h | h
    · exact h
    · rw [Array.getD_eq_getD_getElem?, Array.getElem?_eq_none h] at h0; cases h0
  have hn : on D i = false := by
    unfold on
    rw [Array.getD_eq_getD_getElem?] at h0 ⊢
    rw [Array.getElem?_eq_getElem hlt] at h0 ⊢
    exact h0
  have := count_set hlt hn
  exact ⟨fuel - 1, by omega, by omega⟩
theorem pureOk_select : ∀ (idxs : List Nat) (D : Array Bool), pureOk ops D idxs = true → Region.noSelect ops = true := by
  intro idxs
  induction idxs with
  | nil => intro D h; exact h
  | cons i r ih => intro D h; simp only [pureOk, Bool.and_eq_true] at h; exact ih _ h.2
theorem okOp.yieldsIf {o : Oper} {v : Value} {a : Act} (h : okOp P N B w0 ds False ops F Ls o v) (hf : Fits N ds F a) : YieldsIf P ops (Sys B w0 Ls) o v a := by
  obtain ⟨_, h⟩ := h
  cases hg : o.guard with
  | none =>
    rw [hg] at h
    exact .inl ⟨by simp [Region.wanted, hg], fun w hw => (h.run a w hf hw).pure⟩
  | some gw =>
    obtain ⟨j, wb⟩ := gw
    rw [hg] at h
    rcases h with ⟨c, h1, h2, h3⟩ | ⟨h1, h2⟩
    · by_cases hc : c = wb
      · subst hc
        exact .inl ⟨by simp [Region.wanted, hg, asked_spec h1 hf], fun w hw => ((h2 rfl).run a w hf hw).pure⟩
      · have : c = !wb := by cases c <;> cases wb <;> simp_all
        subst this
        exact .inr ⟨by simp [Region.wanted, hg, asked_spec h1 hf], h3 rfl⟩
    · exact .inr ⟨by simp [Region.wanted, hg, askedU_spec h1 hf], h2⟩
theorem XH.pure0 : ∀ (idxs : List Nat) (D : Array Bool) (F : Fr), pureOk ops D idxs = true → Fw0 P N B wS ds False ops Ls (fun F' => ∃ G', Alike F' G' ∧ XH P N B wS w0 ds Q Ls ops (setAll D idxs) G' L) (pickO ops idxs) F →
    XH P N B wS w0 ds Q Ls ops D F L := by
  intro idxs
  induction idxs with
  | nil =>
    rintro D F _ ⟨G', hal, h⟩
    exact ⟨fun fuel a w hc hf hs hS => h.run fuel a w hc (hal.fits hf) hs hS⟩
  | cons i r ih =>
    intro D F hp h
    have hsel := pureOk_select _ _ hp
    simp only [pureOk, Bool.and_eq_true] at hp
    obtain ⟨⟨h1, h2⟩, h3⟩ := hp
    have hmem : i ∈ Region.ready .any ops D := by simpa using h1
    obtain ⟨_, o, ho, _⟩ := mem_ready.1 hmem
    rw [pickO, ho] at h
    obtain ⟨v, hok, h⟩ := h
    refine ⟨fun fuel a w hc hf hs hS => ?_⟩
    obtain ⟨n, rfl, hn⟩ := ready_count hmem hc
    refine wpAnyH_take ho hsel h2 h1 (fun c a w q => q.elim) (hok.yieldsIf hf) hS ?_
    exact (ih _ _ h3 h).run n _ w hn (hf.putF hok.1) hs hS
/-- these, which only read, come first. -/
theorem XH.pure (idxs : List Nat) (hp : pureOk ops D idxs = true) (h : Fw P N B wS ds False (fun F' => XH P N B wS w0 ds Q Ls ops (setAll D idxs) F' L) ops Ls (pickO ops idxs) F) : XH P N B wS w0 ds Q Ls ops D F L :=
  XH.pure0 idxs D F hp h.run
theorem wpOp_of_list {i : Nat} {o : Oper} {a : Act} {w : World} {K : Act → World → Prop} {Q' : Exit → Act → World → Prop} (hi : ops[i]? = some o) (h : wpList P ops (only K) [o] a w) : wpOp P ops Q' i K a w := by
  unfold wpOp
  rw [hi]
  unfold wpList at h
  simp only
  split
  · rename_i hw
    rw [if_pos hw] at h
    rcases h with h | ⟨_, _, _, h⟩
    · refine .inl ?_
      unfold Oper.wp at h ⊢
      generalize (execOp a.eval o).run P w = r at h ⊢
      cases r with
      | ok n w' =>
        cases n <;> simp only [Oper.upon] at h ⊢ <;> first
          | exact h
          | exact Calls.mono h (fun e w'' he => by
              cases e with
              | returned v => exact he
              | panicked c => exact he.elim
              | outgrown => exact he.elim fun _ h => h.elim fun _ h => h.elim)
          | exact Rows.mono h (fun _ _ he => he)
      | halt x w' => cases x <;> simp only [Oper.upon] at h ⊢ <;> exact h.elim
    · exact h.elim
  · rename_i hw
    rw [if_neg hw] at h
    exact h
end
end Go.Proofs.YtoiepgcjinccpaaDoor.X
