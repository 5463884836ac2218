/-
  A walk by lemmas (1): the frame as a list of known slots, the world as 'what it was at a base world, but for some blocks of the call's own', and the rules of the code's control.
-/
import Derived.WalkKit
import Derived.Orders
import Derived.Deep.LoopGhost
namespace Go.Proofs.YtoiepgcjinccpaaDoor.X
open Go Go.RowKit
set_option linter.unusedVariables false

abbrev Fr := List (Nat × Value)
abbrev Lo := List (Nat × Obj)
/-- a row of variables, none frozen. -/
abbrev cel (t : TypeId) (cs : List Value) : Obj := .cells ⟨cs⟩ t (0, 0)

/-- the newest value that is known of a slot. -/
def lk : Fr → Nat → Option Value
  | [], _ => none
  | (d, v) :: F, t => match Nat.beq d t with
    | true => some v
    | false => lk F t

/-- an operand's value, out of the known slots. (A key from 1000000 on is no slot: it bears a hint.) -/
def evo (F : Fr) : Operand → Option Value
  | .tmp t => match Nat.blt t 1000000 with
    | true => lk F t
    | false => none
  | .const v => some v
  | .global g => some (.pointer (some ⟨g, 0, none⟩))
  | .func f => some (.func (.func f) #[] #[])

structure Fits (N : Nat) (ds : List Deferred) (F : Fr) (a : Act) : Prop where
  size : a.tmps.size = N
  defers : a.defers = ds
  get : ∀ t v, t < 1000000 → lk F t = some v → a.tmps.getD t undef = v

/-- the world w: as w0 was, but for the blocks of L (which hold what L says) and for new ones; all of L from B on. -/
structure Sys (B : Nat) (w0 : World) (L : Lo) (w : World) : Prop where
  os : w.os = w0.os
  tape : w.tape = w0.tape
  output : w.output = w0.output
  size : w0.heap.size ≤ w.heap.size
  base : B ≤ w0.heap.size
  old : ∀ k, k < w0.heap.size → (∀ e, e ∈ L → e.1 ≠ k) → w.heap[k]? = w0.heap[k]?
  own : ∀ e, e ∈ L → B ≤ e.1 ∧ w.heap[e.1]? = some e.2
  nd : (L.map (·.1)).Nodup

theorem Fits.eval {N : Nat} {ds : List Deferred} {F : Fr} {a : Act} {x : Operand} {v : Value} (h : Fits N ds F a) (hx : evo F x = some v) : a.eval x = v := by
  cases x with
  | tmp t =>
    simp only [evo] at hx
    cases hb : Nat.blt t 1000000 with
    | true => rw [hb] at hx; exact h.get t v (Nat.le_of_ble_eq_true hb) hx
    | false => rw [hb] at hx; cases hx
  | const u => exact Option.some.inj hx
  | global g => exact Option.some.inj hx
  | func f => exact Option.some.inj hx

theorem lk_cons_eq {F : Fr} {d : Nat} {v u : Value} {t : Nat} (h : lk ((d, v) :: F) t = some u) : (d = t ∧ v = u) ∨ (d ≠ t ∧ lk F t = some u) := by
  unfold lk at h
  cases hb : Nat.beq d t with
  | true => rw [hb] at h; exact .inl ⟨Nat.eq_of_beq_eq_true hb, Option.some.inj h⟩
  | false => rw [hb] at h; exact .inr ⟨Nat.ne_of_beq_eq_false hb, h⟩

theorem Fits.put {N : Nat} {ds : List Deferred} {F : Fr} {a : Act} {d : Nat} {v : Value} (h : Fits N ds F a) (hd : Nat.blt d N = true) : Fits N ds ((d, v) :: F) (a.put (some d) v) := by
  have hd' : d < N := Nat.le_of_ble_eq_true hd
  refine ⟨by simp [Act.put, h.size], h.defers, fun t u ht hu => ?_⟩
  rcases lk_cons_eq hu with ⟨rfl, rfl⟩ | ⟨hne, hl⟩
  · simp [Act.put, h.size, hd', Array.getElem?_setIfInBounds]
  · have := h.get t u ht hl
    simp only [Act.put, Array.getD_eq_getD_getElem?] at this ⊢
    rw [Array.getElem?_setIfInBounds_ne hne]
    exact this

theorem Sys.drew {B : Nat} {w0 w : World} {L : Lo} (h : Sys B w0 L w) : Sys B w0 L { w with drawn := w.drawn + 1 } :=
  ⟨h.os, h.tape, h.output, h.size, h.base, h.old, h.own, h.nd⟩

theorem Sys.lt {B : Nat} {w0 w : World} {L : Lo} (h : Sys B w0 L w) {e : Nat × Obj} (he : e ∈ L) : e.1 < w.heap.size := by
  rcases Nat.lt_or_ge e.1 w.heap.size with hlt | hge
  · exact hlt
  · have := (h.own e he).2; rw [Array.getElem?_eq_none hge] at this; cases this

/-- What a callee that only makes new blocks leaves. -/
theorem Sys.below {B : Nat} {w0 w w' : World} {L : Lo} (h : Sys B w0 L w) (hb : Below w.heap.size w w') : Sys B w0 L w' :=
  ⟨hb.os.trans h.os, hb.tape.trans h.tape, hb.output.trans h.output, Nat.le_trans h.size hb.size, h.base,
   fun k hk hn => (hb.block k (Nat.lt_of_lt_of_le hk h.size)).trans (h.old k hk hn),
   fun e he => ⟨(h.own e he).1, (hb.block e.1 (h.lt he)).trans (h.own e he).2⟩, h.nd⟩

/-- Below B nothing has turned since the base world. -/
theorem Sys.toBelow {B : Nat} {w0 w : World} {L : Lo} (h : Sys B w0 L w) : Below B w0 w :=
  ⟨h.os, h.tape, h.output, h.size, fun k hk => h.old k (Nat.lt_of_lt_of_le hk h.base) (fun e he e1 => by have := (h.own e he).1; omega)⟩

theorem Sys.enter (w : World) : Sys w.heap.size w [] w :=
  ⟨rfl, rfl, rfl, Nat.le_refl _, Nat.le_refl _, fun _ _ _ => rfl, fun _ he => (by cases he), .nil⟩

/-- A new block. -/
theorem Sys.box {B : Nat} {w0 w : World} {L : Lo} (h : Sys B w0 L w) (o : Obj) : Sys B w0 ((w.heap.size, o) :: L) (w.alloc o) := by
  refine ⟨h.os, h.tape, h.output, ?_, h.base, ?_, ?_, ?_⟩
  · exact Nat.le_trans h.size (by simp)
  · intro k hk hn
    rw [Below.heap_alloc w _ k (Nat.lt_of_lt_of_le hk h.size)]
    exact h.old k hk fun e he => hn e (List.mem_cons_of_mem _ he)
  · intro e he
    rcases List.mem_cons.1 he with rfl | he
    · refine ⟨Nat.le_trans h.base h.size, ?_⟩
      show (w.heap.push _)[w.heap.size]? = _
      simp
    · refine ⟨(h.own e he).1, ?_⟩
      rw [Below.heap_alloc w _ e.1 (h.lt he)]
      exact (h.own e he).2
  · simp only [List.map_cons, List.nodup_cons]
    refine ⟨fun hm => ?_, h.nd⟩
    obtain ⟨e, he, e1⟩ := List.mem_map.1 hm
    have := h.lt he
    omega

/-- One block of L holds something else now, and nothing else has turned. -/
theorem Sys.turn {B : Nat} {w0 w w' : World} {L L' : Lo} (h : Sys B w0 L w) {i : Nat} {g : Nat} {o o' : Obj} (hi : L[i]? = some (g, o)) (hL : L' = L.set i (g, o')) (hos : w'.os = w.os) (ht : w'.tape = w.tape) (hout : w'.output = w.output)
    (hsz : w.heap.size ≤ w'.heap.size) (hg : w'.heap[g]? = some o') (hk : ∀ k, k < w.heap.size → k ≠ g → w'.heap[k]? = w.heap[k]?) : Sys B w0 L' w' := by
  have hlt : i < L.length := (List.getElem?_eq_some_iff.1 hi).1
  have hLi : L[i] = (g, o) := (List.getElem?_eq_some_iff.1 hi).2
  have hmem : (g, o) ∈ L := List.mem_of_getElem? hi
  have hids : L'.map (·.1) = L.map (·.1) := by
    rw [hL, List.map_set]
    have : (L.map (·.1))[i]'(by simpa using hlt) = g := by simp [hLi]
    conv => rhs; rw [← List.set_getElem_self (as := L.map (·.1)) (i := i) (by simpa using hlt)]
    rw [this]
  have hcases : ∀ e, e ∈ L' → e = (g, o') ∨ (e ∈ L ∧ e.1 ≠ g) := by
    intro e he
    rw [hL] at he
    obtain ⟨j, hj, rfl⟩ := List.mem_iff_getElem.1 he
    by_cases hij : i = j
    · subst hij; left; simp
    · right
      rw [List.getElem_set_ne hij]
      simp at hj
      refine ⟨List.getElem_mem _, fun e2 => ?_⟩
      have hn := List.getElem_inj (xs := L.map (·.1)) (i := i) (j := j) (h₀ := by simpa using hlt) (h₁ := by simpa using hj) h.nd
      exact hij (hn.1 (by simp [hLi, e2]))
  refine ⟨hos.trans h.os, ht.trans h.tape, hout.trans h.output, Nat.le_trans h.size hsz, h.base, ?_, ?_, by rw [hids]; exact h.nd⟩
  · intro q hq hn
    have hqg : q ≠ g := by
      intro e2
      subst e2
      exact hn (q, o') (by rw [hL]; exact List.mem_iff_getElem.2 ⟨i, by simpa using hlt, by simp⟩) rfl
    rw [hk q (Nat.lt_of_lt_of_le hq h.size) hqg]
    refine h.old q hq fun e he e2 => ?_
    have hm : q ∈ L'.map (·.1) := by rw [hids]; exact List.mem_map.2 ⟨e, he, e2⟩
    obtain ⟨e', he', e3⟩ := List.mem_map.1 hm
    exact hn e' he' e3
  · intro e he
    rcases hcases e he with rfl | ⟨he', hne⟩
    · exact ⟨(h.own _ hmem).1, hg⟩
    · exact ⟨(h.own e he').1, (hk e.1 (h.lt he') hne).trans (h.own e he').2⟩

/-- Some entries are let go: each is a block that was made behind the base world. -/
theorem Sys.drop {B : Nat} {w0 w : World} {L L' : Lo} (h : Sys B w0 L w) (hs : List.Sublist L' L) (hd : ∀ e, e ∈ L → e ∈ L' ∨ w0.heap.size ≤ e.1) : Sys B w0 L' w := by
  refine ⟨h.os, h.tape, h.output, h.size, h.base, fun k hk hn => h.old k hk fun e he e1 => ?_, fun e he => h.own e (hs.subset he), List.Nodup.sublist (hs.map _) h.nd⟩
  rcases hd e he with h1 | h1
  · exact hn e h1 e1
  · omega

/-- The same world as the new base; any entries may be let go. -/
theorem Sys.rebase {B : Nat} {w0 w : World} {L L' : Lo} (h : Sys B w0 L w) (hs : List.Sublist L' L) : Sys B w L' w :=
  ⟨rfl, rfl, rfl, Nat.le_refl _, Nat.le_trans h.base h.size, fun _ _ _ => rfl, fun e he => h.own e (hs.subset he), List.Nodup.sublist (hs.map _) h.nd⟩

section
variable (P : Program) (N : Nat) (B : Nat) (w0 : World) (ds : List Deferred)

structure XC (Q : Exit → Act → World → Prop) (c : Code) (F : Fr) (L : Lo) : Prop where
  run : ∀ a w, Fits N ds F a → Sys B w0 L w → c.wp P Q a w
structure XL (Q : Exit → Act → World → Prop) (ops : Array Oper) (rest : List Oper) (F : Fr) (L : Lo) : Prop where
  run : ∀ a w, Fits N ds F a → Sys B w0 L w → wpList P ops Q rest a w
structure XE (Q : Exit → Act → World → Prop) (e : Exit) (F : Fr) (L : Lo) : Prop where
  run : ∀ a w, Fits N ds F a → Sys B w0 L w → Q e a w
/-- what an operation's run from the world w0' comes to: the value v; the world as it was, or, if q, behind a call that only makes new blocks. -/
def Yields (q : Prop) (v : Value) (wx : World) : Result Next → Prop
  | .ok (.value u) w => u = v ∧ w = wx
  | .ok (.enter f args) w => q ∧ w = wx ∧ Calls P f args w fun e w' => e = .returned v ∧ Below w.heap.size w w'
  | _ => False
/-- An operation that leaves L as it is, and whose result is v. (q false: it leaves the whole world.) -/
structure Ev (q : Prop) (F : Fr) (L : Lo) (o : Oper) (v : Value) : Prop where
  run : ∀ a w, Fits N ds F a → Sys B w0 L w → Yields P q v w ((execOp a.eval o).run P w)
end

section
variable {P : Program} {N : Nat} {B : Nat} {w0 : World} {ds : List Deferred} {Q : Exit → Act → World → Prop} {F : Fr} {L : Lo}

theorem Yields.upon {q : Prop} {v : Value} {wx : World} {r : Result Next} (h : Yields P q v wx r) {o : Oper} {a : Act} {K : Act → World → Prop} (hk : ∀ w', Below wx.heap.size wx w' → K (a.put o.dst v) w') : o.upon P a K Q r := by
  cases r with
  | ok n w =>
    cases n with
    | value u => obtain ⟨rfl, rfl⟩ := h; exact hk _ (Below.refl _ _)
    | enter f args => obtain ⟨_, rfl, h⟩ := h; exact Calls.mono h fun e w' he => by obtain ⟨rfl, hs⟩ := he; exact hk w' hs
    | _ => exact h.elim
  | halt x w => exact h.elim
theorem Yields.pure {v : Value} {wx : World} {r : Result Next} (h : Yields P False v wx r) : r = .ok (.value v) wx := by
  cases r with
  | ok n w =>
    cases n with
    | value u => obtain ⟨rfl, rfl⟩ := h; rfl
    | enter f args => exact h.1.elim
    | _ => exact h.elim
  | halt x w => exact h.elim
theorem XC.seq {x y : Code} (h : XC P N B w0 ds (Exit.then (y.wp P Q) Q) x F L) : XC P N B w0 ds Q (.seq x y) F L :=
  ⟨fun a w hf hs => wp_seq (h.run a w hf hs)⟩
theorem XC.skip (h : XE N B w0 ds Q .normal F L) : XC P N B w0 ds Q .skip F L := ⟨fun a w hf hs => wp_skip (h.run a w hf hs)⟩
theorem XC.ret (h : XE N B w0 ds Q .ret F L) : XC P N B w0 ds Q .ret F L := ⟨fun a w hf hs => wp_ret (h.run a w hf hs)⟩
theorem XC.exit {id : Nat} (h : XE N B w0 ds Q (.exit id) F L) : XC P N B w0 ds Q (.exit id) F L := ⟨fun a w hf hs => wp_exit (h.run a w hf hs)⟩
theorem XC.block {id : Nat} {c : Code} (h : XC P N B w0 ds (Exit.inBlock id Q) c F L) : XC P N B w0 ds Q (.block id c) F L := ⟨fun a w hf hs => wp_block (h.run a w hf hs)⟩
theorem XC.cond {c : Operand} {x y : Code} (b : Bool) (hc : evo F c = some (.bool b)) (ht : b = true → XC P N B w0 ds Q x F L) (he : b = false → XC P N B w0 ds Q y F L) :
    XC P N B w0 ds Q (.cond c x y) F L := ⟨fun a w hf hs => by
  cases b with
  | true => exact wp_cond_true (hf.eval hc) ((ht rfl).run a w hf hs)
  | false => exact wp_cond_false (hf.eval hc) ((he rfl).run a w hf hs)⟩
theorem XC.cond_t {c : Operand} {x y : Code} (hc : evo F c = some (.bool true)) (ht : XC P N B w0 ds Q x F L) : XC P N B w0 ds Q (.cond c x y) F L :=
  XC.cond true hc (fun _ => ht) (fun h => by cases h)
theorem XC.cond_f {c : Operand} {x y : Code} (hc : evo F c = some (.bool false)) (ht : XC P N B w0 ds Q y F L) : XC P N B w0 ds Q (.cond c x y) F L :=
  XC.cond false hc (fun h => by cases h) (fun _ => ht)
theorem XC.region {id : Nat} {l : List Oper} (h : XL P N B w0 ds Q l.toArray l F L) : XC P N B w0 ds Q (.region id l.toArray false) F L :=
  ⟨fun a w hf hs => wp_region_lit (h.run a w hf hs)⟩

/-- less is known of the slots: what is said of G holds in F. -/
def Sub : Fr → Fr → Prop
  | [], _ => True
  | e :: G, F => lk F e.1 = some e.2 ∧ Sub G F
theorem Sub.fits {G : Fr} (h : Sub G F) {a : Act} (hf : Fits N ds F a) : Fits N ds G a := by
  refine ⟨hf.size, hf.defers, ?_⟩
  induction G with
  | nil => intro t v _ hv; cases hv
  | cons e G ih =>
    intro t v ht hv
    rcases lk_cons_eq (d := e.1) (v := e.2) hv with ⟨h1, h2⟩ | ⟨_, h2⟩
    · exact hf.get t v ht (by rw [← h1, ← h2]; exact h.1)
    · exact ih h.2 t v ht h2
/-- the same code from fewer known slots. -/
theorem XC.weak {c : Code} {G : Fr} (hs : Sub G F) (h : XC P N B w0 ds Q c G L) : XC P N B w0 ds Q c F L := ⟨fun a w hf hw => h.run a w (hs.fits hf) hw⟩
theorem XC.mono {c : Code} {Q' : Exit → Act → World → Prop} (h : XC P N B w0 ds Q' c F L) (hq : ∀ e a w, Q' e a w → Q e a w) : XC P N B w0 ds Q c F L :=
  ⟨fun a w hf hs => wp_mono (h.run a w hf hs) hq⟩

/-- A loop. σ: what a round's head is told by; G, M: the known slots and the own blocks at it; W: the base world. -/
theorem XC.loop {c : Code} {σ : Type} (G : σ → Fr) (M : σ → Lo) (W : σ → World) (pre : σ → Prop) (μ : σ → Nat) (s0 : σ)
    (h0 : pre s0) (hG : Sub (G s0) F) (hM : ∀ w, Sys B w0 L w → Sys B (W s0) (M s0) w)
    (round : ∀ s, pre s → XC P N B (W s) ds (Exit.then (fun a w => ∃ s', pre s' ∧ μ s' < μ s ∧ Fits N ds (G s') a ∧ Sys B (W s') (M s') w) Q) c (G s) (M s)) :
    XC P N B w0 ds Q (.loop c) F L := by
  refine ⟨fun a w hf hs => ?_⟩
  refine wp_loop_ghost (fun n a w => ∃ s, μ s = n ∧ pre s ∧ Fits N ds (G s) a ∧ Sys B (W s) (M s) w) (μ s0) ⟨s0, rfl, h0, hG.fits hf, hM w hs⟩ ?_
  rintro n a w ⟨s, rfl, hp, hf, hs⟩
  refine wp_mono ((round s hp).run a w hf hs) fun e a' w' q => ?_
  cases e with
  | normal =>
    obtain ⟨s', hp', hlt, hf', hs'⟩ := q
    exact ⟨μ s', hlt, s', rfl, hp', hf', hs'⟩
  | exit id => exact q
  | goto l => exact q
  | ret => exact q
  | panic ch => exact q
  | outgrown => exact q
end
end Go.Proofs.YtoiepgcjinccpaaDoor.X
