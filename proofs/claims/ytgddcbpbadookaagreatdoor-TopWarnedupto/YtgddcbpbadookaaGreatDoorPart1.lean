/-
  A walk by lemmas (1): the frame as a list of known slots, the world as 'what it was at a base world, but for some blocks of the call's own', and the rules of the code's control.
-/
import Derived.WalkKit
import Derived.Orders
import Derived.Deep.LoopGhost
import Derived.OrdersHeld
import Derived.Laws.AppendOwn
namespace Go.Proofs.YtgddcbpbadookaaGreatDoor
set_option linter.unusedVariables false
set_option linter.unusedSimpArgs false
namespace X
open Go Go.RowKit
abbrev Fr := List (Nat × Value)
abbrev Lo := List (Nat × Obj)
abbrev cel (t : TypeId) (cs : List Value) : Obj := .cells ⟨cs⟩ t (0, 0)
def lk : Fr → Nat → Option Value
  | [], _ => none
  | (d, v) :: F, t => match Nat.beq d t with
    | true => some v
    | false => lk F t
def evo (F : Fr) : Operand → Option Value
  | .tmp t => match Nat.blt t 1000000 with
    | true => lk F t
    | false => none
  | .const v => some v
  | .global g => some (.pointer (some ⟨g, 0, none⟩))
  | .func f => some (.func (.func f) #[] #[])
structure Fits (N : Nat) (ds : List Deferred) (F : Fr) (a : Act) : Prop where
  size : a.tmps.size = N
  defers : a.defers = ds
  get : ∀ t v, t < 1000000 → lk F t = some v → a.tmps.getD t undef = v
structure Sys (B : Nat) (w0 : World) (L : Lo) (w : World) : Prop where
  os : w.os = w0.os
  tape : w.tape = w0.tape
  output : w.output = w0.output
  size : w0.heap.size ≤ w.heap.size
  base : B ≤ w0.heap.size
  old : ∀ k, k < w0.heap.size → (∀ e, e ∈ L → e.1 ≠ k) → w.heap[k]? = w0.heap[k]?
  own : ∀ e, e ∈ L → B ≤ e.1 ∧ w.heap[e.1]? = some e.2
  nd : (L.map (·.1)).Nodup
theorem Fits.eval {N : Nat} {ds : List Deferred} {F : Fr} {a : Act} {x : Operand} {v : Value} (h : Fits N ds F a) (hx : evo F x = some v) : a.eval x = v := by
  cases x with
  | tmp t =>
    simp only [evo] at hx
    cases hb : Nat.blt t 1000000 with
    | true => rw [hb] at hx; exact h.get t v (Nat.le_of_ble_eq_true hb) hx
    | false => rw [hb] at hx; cases hx
  | const u => exact Option.some.inj hx
  | global g => exact Option.some.inj hx
  | func f => exact Option.some.inj hx
theorem lk_cons_eq {F : Fr} {d : Nat} {v u : Value} {t : Nat} (h : lk ((d, v) :: F) t = some u) : (d = t ∧ v = u) ∨ (d ≠ t ∧ lk F t = some u) := by
  unfold lk at h
  cases hb : Nat.beq d t with
  | true => rw [hb] at h; exact .inl ⟨Nat.eq_of_beq_eq_true hb, Option.some.inj h⟩
  | false => rw [hb] at h; exact .inr ⟨Nat.ne_of_beq_eq_false hb, h⟩
theorem Fits.put {N : Nat} {ds : List Deferred} {F : Fr} {a : Act} {d : Nat} {v : Value} (h : Fits N ds F a) (hd : Nat.blt d N = true) : Fits N ds ((d, v) :: F) (a.put (some d) v) := by
  have hd' : d < N := Nat.le_of_ble_eq_true hd
  refine ⟨by simp [Act.put, h.size], h.defers, fun t u ht hu => ?_⟩
  rcases lk_cons_eq hu with ⟨rfl, rfl⟩ | ⟨hne, hl⟩
  · simp [Act.put, h.size, hd', Array.getElem?_setIfInBounds]
  · have := h.get t u ht hl
    simp only [Act.put, Array.getD_eq_getD_getElem?] at this ⊢
    rw [Array.getElem?_setIfInBounds_ne hne]
    exact this
theorem Sys.drew {B : Nat} {w0 w : World} {L : Lo} (h : Sys B w0 L w) : Sys B w0 L { w with drawn := w.drawn + 1 } :=
  ⟨h.os, h.tape, h.output, h.size, h.base, h.old, h.own, h.nd⟩
theorem Sys.lt {B : Nat} {w0 w : World} {L : Lo} (h : Sys B w0 L w) {e : Nat × Obj} (he : e ∈ L) : e.1 < w.heap.size := by
  rcases Nat.lt_or_ge e.1 w.heap.size with hlt | hge
  · exact hlt
  · have := (h.own e he).2; rw [Array.getElem?_eq_none hge] at this; cases this
theorem Sys.below {B : Nat} {w0 w w' : World} {L : Lo} (h : Sys B w0 L w) (hb : Below w.heap.size w w') : Sys B w0 L w' :=
  ⟨hb.os.trans h.os, hb.tape.trans h.tape, hb.output.trans h.output, Nat.le_trans h.size hb.size, h.base,
   fun k hk hn => (hb.block k (Nat.lt_of_lt_of_le hk h.size)).trans (h.old k hk hn),
   fun e he => ⟨(h.own e he).1, (hb.block e.1 (h.lt he)).trans (h.own e he).2⟩, h.nd⟩
theorem Sys.toBelow {B : Nat} {w0 w : World} {L : Lo} (h : Sys B w0 L w) : Below B w0 w :=
  ⟨h.os, h.tape, h.output, h.size, fun k hk => h.old k (Nat.lt_of_lt_of_le hk h.base) (fun e he e1 => by have := (h.own e he).1; omega)⟩
theorem Sys.enter (w : World) : Sys w.heap.size w [] w :=
  ⟨rfl, rfl, rfl, Nat.le_refl _, Nat.le_refl _, fun _ _ _ => rfl, fun _ he => (by cases he), .nil⟩
theorem Sys.box {B : Nat} {w0 w : World} {L : Lo} (h : Sys B w0 L w) (o : Obj) : Sys B w0 ((w.heap.size, o) :: L) (w.alloc o) := by
  refine ⟨h.os, h.tape, h.output, ?_, h.base, ?_, ?_, ?_⟩
  · exact Nat.le_trans h.size (by simp)
  · intro k hk hn
    rw [Below.heap_alloc w _ k (Nat.lt_of_lt_of_le hk h.size)]
    exact h.old k hk fun e he => hn e (List.mem_cons_of_mem _ he)
  · intro e he
    rcases List.mem_cons.1 he with rfl | he
    · refine ⟨Nat.le_trans h.base h.size, ?_⟩
      show (w.heap.push _)[w.heap.size]? = _
      simp
    · refine ⟨(h.own e he).1, ?_⟩
      rw [Below.heap_alloc w _ e.1 (h.lt he)]
      exact (h.own e he).2
  · simp only [List.map_cons, List.nodup_cons]
    refine ⟨fun hm => ?_, h.nd⟩
    obtain ⟨e, he, e1⟩ := List.mem_map.1 hm
    have := h.lt he
    omega
theorem Sys.turn {B : Nat} {w0 w w' : World} {L L' : Lo} (h : Sys B w0 L w) {i : Nat} {g : Nat} {o o' : Obj} (hi : L[i]? = some (g, o)) (hL : L' = L.set i (g, o')) (hos : w'.os = w.os) (ht : w'.tape = w.tape) (hout : w'.output = w.output)
    (hsz : w.heap.size ≤ w'.heap.size) (hg : w'.heap[g]? = some o') (hk : ∀ k, k < w.heap.size → k ≠ g → w'.heap[k]? = w.heap[k]?) : Sys B w0 L' w' := by
  have hlt : i < L.length := (List.getElem?_eq_some_iff.1 hi).1
  have hLi : L[i] = (g, o) := (List.getElem?_eq_some_iff.1 hi).2
  have hmem : (g, o) ∈ L := List.mem_of_getElem? hi
  have hids : L'.map (·.1) = L.map (·.1) := by
    rw [hL, List.map_set]
    have : (L.map (·.1))[i]'(by simpa using hlt) = g := by simp [hLi]
    conv => rhs; rw [← @List.set_getElem_self _ (L.map (·.1)) i (by simpa using hlt)]
    rw [this]
  have hcases : ∀ e, e ∈ L' → e = (g, o') ∨ (e ∈ L ∧ e.1 ≠ g) := by
    intro e he
    rw [hL] at he
    obtain ⟨j, hj, rfl⟩ := List.mem_iff_getElem.1 he
    by_cases hij : i = j
    · subst hij; left; simp
    · right
      rw [List.getElem_set_ne hij]
      simp at hj
      refine ⟨List.getElem_mem _, fun e2 => ?_⟩
      have hn := List.getElem_inj (xs := L.map (·.1)) (i := i) (j := j) (h₀ := by simpa using hlt) (h₁ := by simpa using hj) h.nd
      exact hij (hn.1 (by simp [hLi, e2]))
  refine ⟨hos.trans h.os, ht.trans h.tape, hout.trans h.output, Nat.le_trans h.size hsz, h.base, ?_, ?_, by rw [hids]; exact h.nd⟩
  · intro q hq hn
    have hqg : q ≠ g := by
      intro e2
      subst e2
      exact hn (q, o') (by rw [hL]; exact List.mem_iff_getElem.2 ⟨i, by simpa using hlt, by simp⟩) rfl
    rw [hk q (Nat.lt_of_lt_of_le hq h.size) hqg]
    refine h.old q hq fun e he e2 => ?_
    have hm : q ∈ L'.map (·.1) := by rw [hids]; exact List.mem_map.2 ⟨e, he, e2⟩
    obtain ⟨e', he', e3⟩ := List.mem_map.1 hm
    exact hn e' he' e3
  · intro e he
    rcases hcases e he with rfl | ⟨he', hne⟩
    · exact ⟨(h.own _ hmem).1, hg⟩
    · exact ⟨(h.own e he').1, (hk e.1 (h.lt he') hne).trans (h.own e he').2⟩
theorem Sys.drop {B : Nat} {w0 w : World} {L L' : Lo} (h : Sys B w0 L w) (hs : List.Sublist L' L) (hd : ∀ e, e ∈ L → e ∈ L' ∨ w0.heap.size ≤ e.1) : Sys B w0 L' w := by
  refine ⟨h.os, h.tape, h.output, h.size, h.base, fun k hk hn => h.old k hk fun e he e1 => ?_, fun e he => h.own e (hs.subset he), List.Nodup.sublist (hs.map _) h.nd⟩
  rcases hd e he with h1 | h1
  · exact hn e h1 e1
  · omega
theorem Sys.rebase {B : Nat} {w0 w : World} {L L' : Lo} (h : Sys B w0 L w) (hs : List.Sublist L' L) : Sys B w L' w :=
  ⟨rfl, rfl, rfl, Nat.le_refl _, Nat.le_trans h.base h.size, fun _ _ _ => rfl, fun e he => h.own e (hs.subset he), List.Nodup.sublist (hs.map _) h.nd⟩
section
variable (P : Program) (N : Nat) (B : Nat) (w0 : World) (ds : List Deferred)
structure XC (Q : Exit → Act → World → Prop) (c : Code) (F : Fr) (L : Lo) : Prop where
  run : ∀ a w, Fits N ds F a → Sys B w0 L w → c.wp P Q a w
structure XL (Q : Exit → Act → World → Prop) (ops : Array Oper) (rest : List Oper) (F : Fr) (L : Lo) : Prop where
  run : ∀ a w, Fits N ds F a → Sys B w0 L w → wpList P ops Q rest a w
structure XE (Q : Exit → Act → World → Prop) (e : Exit) (F : Fr) (L : Lo) : Prop where
  run : ∀ a w, Fits N ds F a → Sys B w0 L w → Q e a w
def Yields (q : Prop) (v : Value) (wx : World) : Result Next → Prop
  | .ok (.value u) w => u = v ∧ w = wx
  | .ok (.enter f args) w => q ∧ w = wx ∧ Calls P f args w fun e w' => e = .returned v ∧ Below w.heap.size w w'
  | _ => False
structure Ev (q : Prop) (F : Fr) (L : Lo) (o : Oper) (v : Value) : Prop where
  run : ∀ a w, Fits N ds F a → Sys B w0 L w → Yields P q v w ((execOp a.eval o).run P w)
end
section
variable {P : Program} {N : Nat} {B : Nat} {w0 : World} {ds : List Deferred} {Q : Exit → Act → World → Prop} {F : Fr} {L : Lo}
theorem Yields.upon {q : Prop} {v : Value} {wx : World} {r : Result Next} (h : Yields P q v wx r) {o : Oper} {a : Act} {K : Act → World → Prop} (hk : ∀ w', Below wx.heap.size wx w' → K (a.put o.dst v) w') : o.upon P a K Q r := by
  cases r with
  | ok n w =>
    cases n with
    | value u => obtain ⟨rfl, rfl⟩ := h; exact hk _ (Below.refl _ _)
    | enter f args => obtain ⟨_, rfl, h⟩ := h; exact Calls.mono h fun e w' he => by obtain ⟨rfl, hs⟩ := he; exact hk w' hs
    | _ => exact h.elim
  | halt x w => exact h.elim
theorem Yields.pure {v : Value} {wx : World} {r : Result Next} (h : Yields P False v wx r) : r = .ok (.value v) wx := by
  cases r with
  | ok n w =>
    cases n with
    | value u => obtain ⟨rfl, rfl⟩ := h; rfl
    | enter f args => exact h.1.elim
    | _ => exact h.elim
  | halt x w => exact h.elim
theorem XC.seq {x y : Code} (h : XC P N B w0 ds (Exit.then (y.wp P Q) Q) x F L) : XC P N B w0 ds Q (.seq x y) F L :=
  ⟨fun a w hf hs => wp_seq (h.run a w hf hs)⟩
theorem XC.skip (h : XE N B w0 ds Q .normal F L) : XC P N B w0 ds Q .skip F L := ⟨fun a w hf hs => wp_skip (h.run a w hf hs)⟩
theorem XC.ret (h : XE N B w0 ds Q .ret F L) : XC P N B w0 ds Q .ret F L := ⟨fun a w hf hs => wp_ret (h.run a w hf hs)⟩
theorem XC.exit {id : Nat} (h : XE N B w0 ds Q (.exit id) F L) : XC P N B w0 ds Q (.exit id) F L := ⟨fun a w hf hs => wp_exit (h.run a w hf hs)⟩
theorem XC.block {id : Nat} {c : Code} (h : XC P N B w0 ds (Exit.inBlock id Q) c F L) : XC P N B w0 ds Q (.block id c) F L := ⟨fun a w hf hs => wp_block (h.run a w hf hs)⟩
theorem XC.cond {c : Operand} {x y : Code} (b : Bool) (hc : evo F c = some (.bool b)) (ht : b = true → XC P N B w0 ds Q x F L) (he : b = false → XC P N B w0 ds Q y F L) :
    XC P N B w0 ds Q (.cond c x y) F L := ⟨fun a w hf hs => by
  cases b with
  | true => exact wp_cond_true (hf.eval hc) ((ht rfl).run a w hf hs)
  | false => exact wp_cond_false (hf.eval hc) ((he rfl).run a w hf hs)⟩
theorem XC.cond_t {c : Operand} {x y : Code} (hc : evo F c = some (.bool true)) (ht : XC P N B w0 ds Q x F L) : XC P N B w0 ds Q (.cond c x y) F L :=
  XC.cond true hc (fun _ => ht) (fun h => by cases h)
theorem XC.cond_f {c : Operand} {x y : Code} (hc : evo F c = some (.bool false)) (ht : XC P N B w0 ds Q y F L) : XC P N B w0 ds Q (.cond c x y) F L :=
  XC.cond false hc (fun h => by cases h) (fun _ => ht)
theorem XC.region {id : Nat} {l : List Oper} (h : XL P N B w0 ds Q l.toArray l F L) : XC P N B w0 ds Q (.region id l.toArray false) F L :=
  ⟨fun a w hf hs => wp_region_lit (h.run a w hf hs)⟩
def Sub : Fr → Fr → Prop
  | [], _ => True
  | e :: G, F => lk F e.1 = some e.2 ∧ Sub G F
theorem Sub.fits {G : Fr} (h : Sub G F) {a : Act} (hf : Fits N ds F a) : Fits N ds G a := by
  refine ⟨hf.size, hf.defers, ?_⟩
  induction G with
  | nil => intro t v _ hv; cases hv
  | cons e G ih =>
    intro t v ht hv
    rcases lk_cons_eq (d := e.1) (v := e.2) hv with ⟨h1, h2⟩ | ⟨_, h2⟩
    · exact hf.get t v ht (by rw [← h1, ← h2]; exact h.1)
    · exact ih h.2 t v ht h2
theorem XC.weak {c : Code} {G : Fr} (hs : Sub G F) (h : XC P N B w0 ds Q c G L) : XC P N B w0 ds Q c F L := ⟨fun a w hf hw => h.run a w (hs.fits hf) hw⟩
theorem XC.mono {c : Code} {Q' : Exit → Act → World → Prop} (h : XC P N B w0 ds Q' c F L) (hq : ∀ e a w, Q' e a w → Q e a w) : XC P N B w0 ds Q c F L :=
  ⟨fun a w hf hs => wp_mono (h.run a w hf hs) hq⟩
theorem XC.loop {c : Code} {σ : Type} (G : σ → Fr) (M : σ → Lo) (W : σ → World) (pre : σ → Prop) (μ : σ → Nat) (s0 : σ)
    (h0 : pre s0) (hG : Sub (G s0) F) (hM : ∀ w, Sys B w0 L w → Sys B (W s0) (M s0) w)
    (round : ∀ s, pre s → XC P N B (W s) ds (Exit.then (fun a w => ∃ s', pre s' ∧ μ s' < μ s ∧ Fits N ds (G s') a ∧ Sys B (W s') (M s') w) Q) c (G s) (M s)) :
    XC P N B w0 ds Q (.loop c) F L := by
  refine ⟨fun a w hf hs => ?_⟩
  refine wp_loop_ghost (fun n a w => ∃ s, μ s = n ∧ pre s ∧ Fits N ds (G s) a ∧ Sys B (W s) (M s) w) (μ s0) ⟨s0, rfl, h0, hG.fits hf, hM w hs⟩ ?_
  rintro n a w ⟨s, rfl, hp, hf, hs⟩
  refine wp_mono ((round s hp).run a w hf hs) fun e a' w' q => ?_
  cases e with
  | normal =>
    obtain ⟨s', hp', hlt, hf', hs'⟩ := q
    exact ⟨μ s', hlt, s', rfl, hp', hf', hs'⟩
  | exit id => exact q
  | goto l => exact q
  | ret => exact q
  | panic ch => exact q
  | outgrown => exact q
end
end X
namespace X
open Go Go.RowKit
section
variable {P : Program} {N : Nat} {B : Nat} {w0 : World} {ds : List Deferred} {Q : Exit → Act → World → Prop} {F : Fr} {L : Lo}
theorem XE.next {y : Code} (h : XC P N B w0 ds Q y F L) : XE N B w0 ds (Exit.then (y.wp P Q) Q) .normal F L := ⟨h.run⟩
theorem XE.then_ret {K : Act → World → Prop} (h : XE N B w0 ds Q .ret F L) : XE N B w0 ds (Exit.then K Q) .ret F L := ⟨h.run⟩
theorem XE.then_exit {K : Act → World → Prop} {id : Nat} (h : XE N B w0 ds Q (.exit id) F L) : XE N B w0 ds (Exit.then K Q) (.exit id) F L := ⟨h.run⟩
theorem XE.block_normal {id : Nat} (h : XE N B w0 ds Q .normal F L) : XE N B w0 ds (Exit.inBlock id Q) .normal F L := ⟨h.run⟩
theorem XE.block_ret {id : Nat} (h : XE N B w0 ds Q .ret F L) : XE N B w0 ds (Exit.inBlock id Q) .ret F L := ⟨h.run⟩
theorem XE.block_here {id : Nat} (h : XE N B w0 ds Q .normal F L) : XE N B w0 ds (Exit.inBlock id Q) (.exit id) F L := ⟨fun a w hf hs => by
  simp only [Exit.inBlock, if_true]; exact h.run a w hf hs⟩
theorem XE.block_on {id id' : Nat} (hne : Nat.beq id' id = false) (h : XE N B w0 ds Q (.exit id') F L) : XE N B w0 ds (Exit.inBlock id Q) (.exit id') F L := ⟨fun a w hf hs => by
  simp only [Exit.inBlock, if_neg (Nat.ne_of_beq_eq_false hne)]; exact h.run a w hf hs⟩
theorem XE.round {σ : Type} {G : σ → Fr} {M : σ → Lo} {W : σ → World} {pre : σ → Prop} {μ : σ → Nat} {s : σ} (s' : σ) (hp : pre s') (hlt : μ s' < μ s) (hG : Sub (G s') F)
    (hM : ∀ w, Sys B w0 L w → Sys B (W s') (M s') w) :
    XE N B w0 ds (Exit.then (fun a w => ∃ s', pre s' ∧ μ s' < μ s ∧ Fits N ds (G s') a ∧ Sys B (W s') (M s') w) Q) .normal F L :=
  ⟨fun a w hf hs => ⟨s', hp, hlt, hG.fits hf, hM w hs⟩⟩
theorem _root_.Go.Proofs.YtgddcbpbadookaaGreatDoor.X.Sys.pop {g : Nat} {o : Obj} {w : World} (h : Sys B w0 ((g, o) :: L) w) (hg : w0.heap.size ≤ g) : Sys B w0 L w :=
  h.drop (List.sublist_cons_self _ _) fun e he => by
    rcases List.mem_cons.1 he with rfl | he
    · exact .inr hg
    · exact .inl he
theorem Sub.nil : Sub [] F := trivial
theorem Sub.cons {d : Nat} {v : Value} {G : Fr} (h : lk F d = some v) (r : Sub G F) : Sub ((d, v) :: G) F := ⟨h, r⟩
theorem Sub.append {G H : Fr} (h : Sub G F) (k : Sub H F) : Sub (G ++ H) F := by
  induction G with
  | nil => exact k
  | cons e G ih => exact ⟨h.1, ih h.2⟩
def keepO (F : Fr) : List Nat → Option Fr
  | [] => some []
  | t :: ts => match keepO F ts with
    | none => none
    | some G => match lk F t with
      | none => none
      | some v => match lk F (1000000 + t) with
        | none => some ((t, v) :: G)
        | some h => some ((1000000 + t, h) :: (t, v) :: G)
theorem keepO_sub : ∀ (ts : List Nat) (G : Fr), keepO F ts = some G → Sub G F := by
  intro ts
  induction ts with
  | nil => intro G h; cases h; trivial
  | cons t ts ih =>
    intro G h
    simp only [keepO] at h
    split at h
    · cases h
    · rename_i G' hG
      split at h
      · cases h
      · rename_i v hv
        split at h
        · cases h; exact ⟨hv, ih _ hG⟩
        · rename_i u hu; cases h; exact ⟨hu, hv, ih _ hG⟩
theorem XC.loopk {c : Code} {σ : Type} (ts : List Nat) {G0 : Fr} (hk : keepO F ts = some G0) (G : σ → Fr) (M : σ → Lo) (W : σ → World) (pre : σ → Prop) (μ : σ → Nat) (s0 : σ)
    (h0 : pre s0) (hG : Sub (G s0) F) (hM : ∀ w, Sys B w0 L w → Sys B (W s0) (M s0) w)
    (round : ∀ s, pre s → XC P N B (W s) ds (Exit.then (fun a w => ∃ s', pre s' ∧ μ s' < μ s ∧ Fits N ds (G s' ++ G0) a ∧ Sys B (W s') (M s') w) Q) c (G s ++ G0) (M s)) :
    XC P N B w0 ds Q (.loop c) F L :=
  XC.loop (fun s => G s ++ G0) M W pre μ s0 h0 (hG.append (keepO_sub _ _ hk)) hM round
theorem XC.keep {c : Code} (ts : List Nat) {G0 : Fr} (hk : keepO F ts = some G0) (h : XC P N B w0 ds Q c G0 L) : XC P N B w0 ds Q c F L := XC.weak (keepO_sub _ _ hk) h
theorem XE.ret0 {fn : Func} {R : Ending → World → Prop} (h : fn.results = #[]) (hR : ∀ w, Sys B w0 L w → R (.returned (.tuple #[])) w) : XE N B w0 [] (bodyPost P fn R) .ret F L :=
  ⟨fun a w hf hs => ⟨hf.defers, _, results_none h _ _ _, hR w hs⟩⟩
theorem XE.end0 {fn : Func} {R : Ending → World → Prop} (h : fn.results = #[]) (hR : ∀ w, Sys B w0 L w → R (.returned (.tuple #[])) w) : XE N B w0 [] (bodyPost P fn R) .normal F L :=
  ⟨fun a w hf hs => ⟨hf.defers, _, results_none h _ _ _, hR w hs⟩⟩
theorem XE.ret1 {fn : Func} {R : Ending → World → Prop} {t : Nat} {v : Value} (h : fn.results = #[.tmp t]) (hv : evo F (.tmp t) = some v) (hR : ∀ w, Sys B w0 L w → R (.returned v) w) :
    XE N B w0 [] (bodyPost P fn R) .ret F L :=
  ⟨fun a w hf hs => ⟨hf.defers, _, results_tmp h _ _ _, by have e1 := hf.eval hv; simp only [Act.eval] at e1; rw [e1]; exact hR w hs⟩⟩
theorem XE.ret2 {fn : Func} {R : Ending → World → Prop} {t u : Nat} {v x : Value} (h : fn.results = #[.tmp t, .tmp u]) (hv : evo F (.tmp t) = some v) (hx : evo F (.tmp u) = some x)
    (hR : ∀ w, Sys B w0 L w → R (.returned (.tuple #[v, x])) w) : XE N B w0 [] (bodyPost P fn R) .ret F L :=
  ⟨fun a w hf hs => ⟨hf.defers, _, results_tmp2 h _ _ _, by have e1 := hf.eval hv; have e2 := hf.eval hx; simp only [Act.eval] at e1 e2; rw [e1, e2]; exact hR w hs⟩⟩
theorem results_tmp3' {fn : Func} {t u x : Tmp} (h : fn.results = #[.tmp t, .tmp u, .tmp x]) (tmps : Array Value) (P : Program) (w : World) :
    (results fn tmps).run P w = .ok (.tuple #[tmps.getD t undef, tmps.getD u undef, tmps.getD x undef]) w := by simp [results, h]
theorem XE.ret3 {fn : Func} {R : Ending → World → Prop} {t u s : Nat} {v x y : Value} (h : fn.results = #[.tmp t, .tmp u, .tmp s]) (hv : evo F (.tmp t) = some v) (hx : evo F (.tmp u) = some x) (hy : evo F (.tmp s) = some y)
    (hR : ∀ w, Sys B w0 L w → R (.returned (.tuple #[v, x, y])) w) : XE N B w0 [] (bodyPost P fn R) .ret F L :=
  ⟨fun a w hf hs => ⟨hf.defers, _, results_tmp3' h _ _ _, by have e1 := hf.eval hv; have e2 := hf.eval hx; have e3 := hf.eval hy; simp only [Act.eval] at e1 e2 e3; rw [e1, e2, e3]; exact hR w hs⟩⟩
def frame : Nat → List Value → Fr
  | _, [] => []
  | n, v :: vs => (n, v) :: frame (n + 1) vs
theorem lk_frame : ∀ (vs : List Value) (n t : Nat) (v : Value), lk (frame n vs) t = some v → n ≤ t ∧ vs[t - n]? = some v := by
  intro vs
  induction vs with
  | nil => intro n t v h; cases h
  | cons u vs ih =>
    intro n t v h
    rcases lk_cons_eq h with ⟨rfl, rfl⟩ | ⟨hne, h2⟩
    · exact ⟨Nat.le_refl _, by simp⟩
    · obtain ⟨h3, h4⟩ := ih (n + 1) t v h2
      refine ⟨by omega, ?_⟩
      rw [show t - n = (t - (n + 1)) + 1 from by omega]
      simpa using h4
theorem enter {f : FuncId} {fn : Func} {c : Code} {vs : List Value} {w : World} {R : Ending → World → Prop} {n : Nat} (hf : P.funcs[f]? = some fn) (hb : fn.body = some c) (hN : fn.ntmps = n)
    (hn : Nat.ble vs.length n = true) (h : XC P n w.heap.size w [] (bodyPost P fn R) c (frame 0 vs) []) : Calls P f vs.toArray w R := by
  subst hN
  have hn' := Nat.le_of_ble_eq_true hn
  refine calls_of_wp hf hb (h.run _ w ⟨?_, rfl, fun t v _ hv => ?_⟩ (Sys.enter w))
  · simp; omega
  · obtain ⟨_, h2⟩ := lk_frame vs 0 t v hv
    have hlt : t < vs.length := (List.getElem?_eq_some_iff.1 h2).1
    simp only [Array.getD_eq_getD_getElem?]
    rw [Array.getElem?_append_left (by simpa using hlt)]
    simp at h2 ⊢
    rw [h2]; rfl
theorem XL.done {ops : Array Oper} (h : XE N B w0 ds Q .normal F L) : XL P N B w0 ds Q ops [] F L := ⟨fun a w hf hs => wpList_nil (h.run a w hf hs)⟩
theorem XL.step {ops : Array Oper} {rest : List Oper} {d : Nat} {op : Op} {ty : TypeId} {p : String} {af : Array Edge} (v : Value)
    (he : Ev P N B w0 ds True F L { dst := some d, op := op, type := ty, pos := p, after := af, guard := none } v) (hd : Nat.blt d N = true)
    (k : XL P N B w0 ds Q ops rest ((d, v) :: F) L) : XL P N B w0 ds Q ops ({ dst := some d, op := op, type := ty, pos := p, after := af, guard := none } :: rest) F L :=
  ⟨fun a w hf hs => wpList_plain rfl fun K hK => (he.run a w hf hs).upon fun w' hb => hK _ _ (k.run _ _ (hf.put hd) (hs.below hb))⟩
def asked (ops : Array Oper) (F : Fr) (j : Nat) : Option Bool :=
  match (ops[j]?).bind (·.dst) with
  | some d => match evo F (.tmp d) with
    | some (.bool b) => some b
    | _ => none
  | none => none
theorem asked_spec {ops : Array Oper} {j : Nat} {b : Bool} (h : asked ops F j = some b) {a : Act} (hf : Fits N ds F a) : yielded ops a.tmps j = some b := by
  unfold asked at h
  split at h
  · rename_i d hd
    split at h
    · rename_i c hl
      have := hf.eval hl
      simp only [Act.eval] at this
      unfold yielded
      rw [hd]
      simp only [Option.bind_some]
      simp only [Array.getD_eq_getD_getElem?] at this
      cases hx : a.tmps[d]? with
      | none => rw [hx] at this; cases this
      | some u => rw [hx] at this; simp at this; subst this; simpa using h
    · cases h
  · cases h
theorem Fits.hint {a : Act} (h : Fits N ds F a) (t : Nat) (u : Value) : Fits N ds ((1000000 + t, u) :: F) a :=
  ⟨h.size, h.defers, fun t' v ht hv => by
    rcases lk_cons_eq hv with ⟨h1, _⟩ | ⟨_, h2⟩
    · omega
    · exact h.get t' v ht h2⟩
def askedAt (ops : Array Oper) (F : Fr) (j : Nat) : Option (Nat × Bool) :=
  match (ops[j]?).bind (·.dst) with
  | some d => match evo F (.tmp d) with
    | some (.bool b) => some (d, b)
    | _ => none
  | none => none
theorem XL.guard_y {ops : Array Oper} {rest : List Oper} {d j : Nat} {wb : Bool} {op : Op} {ty : TypeId} {p : String} {af : Array Edge} (hj : asked ops F j = some wb)
    (h : XL P N B w0 ds Q ops ({ dst := some d, op := op, type := ty, pos := p, after := af, guard := none } :: rest) F L) :
    XL P N B w0 ds Q ops ({ dst := some d, op := op, type := ty, pos := p, after := af, guard := some (j, wb) } :: rest) F L := by
  refine ⟨fun a w hf hs => ?_⟩
  have hw : Region.wanted { dst := some d, op := op, type := ty, pos := p, after := af, guard := some (j, wb) } (yielded ops a.tmps) = true := by
    simp [Region.wanted, asked_spec hj hf]
  have h1 := h.run a w hf hs
  unfold wpList at h1 ⊢
  rw [if_pos (by simp [Region.wanted])] at h1
  rw [hw, if_pos rfl]
  exact h1
theorem XL.guard_n {ops : Array Oper} {rest : List Oper} {d j : Nat} {wb : Bool} {op : Op} {ty : TypeId} {p : String} {af : Array Edge} (hj : asked ops F j = some (!wb))
    (h : XL P N B w0 ds Q ops rest ((d, undef) :: F) L) (hd : Nat.blt d N = true) :
    XL P N B w0 ds Q ops ({ dst := some d, op := op, type := ty, pos := p, after := af, guard := some (j, wb) } :: rest) F L := by
  refine ⟨fun a w hf hs => ?_⟩
  have hw : Region.wanted { dst := some d, op := op, type := ty, pos := p, after := af, guard := some (j, wb) } (yielded ops a.tmps) = false := by
    simp [Region.wanted, asked_spec hj hf]
  unfold wpList
  rw [hw, if_neg (by simp)]
  exact h.run _ w (hf.put hd) hs
def askedU (ops : Array Oper) (F : Fr) (j : Nat) : Bool :=
  match (ops[j]?).bind (·.dst) with
  | some d => match evo F (.tmp d) with
    | some (.tuple _) => true
    | _ => false
  | none => false
theorem askedU_spec {ops : Array Oper} {j : Nat} (h : askedU ops F j = true) {a : Act} (hf : Fits N ds F a) : yielded ops a.tmps j = none := by
  unfold askedU at h
  split at h
  · rename_i d hd
    split at h
    · rename_i vs hl
      have := hf.eval hl
      simp only [Act.eval] at this
      unfold yielded
      rw [hd]
      simp only [Option.bind_some]
      simp only [Array.getD_eq_getD_getElem?] at this
      cases hx : a.tmps[d]? with
      | none => rfl
      | some u => rw [hx] at this; simp at this; subst this; rfl
    · cases h
  · cases h
theorem XL.guard_u {ops : Array Oper} {rest : List Oper} {d j : Nat} {wb : Bool} {op : Op} {ty : TypeId} {p : String} {af : Array Edge} (hj : askedU ops F j = true)
    (h : XL P N B w0 ds Q ops rest ((d, undef) :: F) L) (hd : Nat.blt d N = true) :
    XL P N B w0 ds Q ops ({ dst := some d, op := op, type := ty, pos := p, after := af, guard := some (j, wb) } :: rest) F L := by
  refine ⟨fun a w hf hs => ?_⟩
  have hw : Region.wanted { dst := some d, op := op, type := ty, pos := p, after := af, guard := some (j, wb) } (yielded ops a.tmps) = false := by
    simp [Region.wanted, askedU_spec hj hf]
  unfold wpList
  rw [hw, if_neg (by simp)]
  exact h.run _ w (hf.put hd) hs
theorem XL.split {ops : Array Oper} {rest : List Oper} {j : Nat} {wb : Bool} {dst : Option Nat} {op : Op} {ty : TypeId} {p : String} {af : Array Edge} (s : Nat) (c : Bool) (hj : askedAt ops F j = some (s, c))
    (ht : c = true → XL P N B w0 ds Q ops ({ dst := dst, op := op, type := ty, pos := p, after := af, guard := some (j, wb) } :: rest) F L)
    (hf : c = false → XL P N B w0 ds Q ops ({ dst := dst, op := op, type := ty, pos := p, after := af, guard := some (j, wb) } :: rest) F L) :
    XL P N B w0 ds Q ops ({ dst := dst, op := op, type := ty, pos := p, after := af, guard := some (j, wb) } :: rest) F L := by
  cases c with
  | true => exact ht rfl
  | false => exact hf rfl
end
end X
namespace X
open Go Go.RowKit
def runD (D : Nat → Bool) : Nat → List (Oper × Value) → Act → Act
  | _, [], a => a
  | k, (o, v) :: r, a => runD D (k + 1) r (if D k then a.put o.dst v else a)
theorem put_get (a : Act) (d : Option Tmp) (v : Value) (t : Nat) : (a.put d v).tmps[t]? = if d = some t then (if t < a.tmps.size then some v else none) else a.tmps[t]? := by
  cases d with
  | none => simp [Act.put]
  | some d =>
    simp only [Act.put, Array.getElem?_setIfInBounds]
    by_cases h : d = t
    · subst h; simp
    · rw [if_neg h, if_neg (by intro e; exact h (Option.some.inj e))]
theorem put_size (a : Act) (d : Option Tmp) (v : Value) : (a.put d v).tmps.size = a.tmps.size := by cases d <;> simp [Act.put]
theorem put_defers (a : Act) (d : Option Tmp) (v : Value) : (a.put d v).defers = a.defers := by cases d <;> rfl
theorem runD_size (D : Nat → Bool) : ∀ (r : List (Oper × Value)) (k : Nat) (a : Act), (runD D k r a).tmps.size = a.tmps.size := by
  intro r
  induction r with
  | nil => intro k a; rfl
  | cons x r ih =>
    intro k a
    obtain ⟨o, v⟩ := x
    simp only [runD, ih]
    split
    · exact put_size _ _ _
    · rfl
theorem runD_defers (D : Nat → Bool) : ∀ (r : List (Oper × Value)) (k : Nat) (a : Act), (runD D k r a).defers = a.defers := by
  intro r
  induction r with
  | nil => intro k a; rfl
  | cons x r ih =>
    intro k a
    obtain ⟨o, v⟩ := x
    simp only [runD, ih]
    split
    · exact put_defers _ _ _
    · rfl
theorem runD_get (D D' : Nat → Bool) (t : Nat) : ∀ (r : List (Oper × Value)) (k : Nat) (a a' : Act), (∀ j o v, r[j]? = some (o, v) → o.dst = some t → D (k + j) = D' (k + j)) →
    a.tmps[t]? = a'.tmps[t]? → a.tmps.size = a'.tmps.size → (runD D k r a).tmps[t]? = (runD D' k r a').tmps[t]? := by
  intro r
  induction r with
  | nil => intro k a a' _ h _; exact h
  | cons x r ih =>
    intro k a a' hw h hsz
    obtain ⟨o, v⟩ := x
    simp only [runD]
    refine ih (k + 1) _ _ (fun j o' v' hj hd => by have := hw (j + 1) o' v' (by simpa using hj) hd; rwa [show k + 1 + j = k + (j + 1) from by omega]) ?_ ?_
    · by_cases hd : o.dst = some t
      · have := hw 0 o v rfl hd
        simp only [Nat.add_zero] at this
        rw [this]
        split
        · rw [put_get, put_get, if_pos hd, if_pos hd, hsz]
        · exact h
      · have e1 : ∀ (b : Bool) (a : Act), (if b = true then a.put o.dst v else a).tmps[t]? = a.tmps[t]? := by
          intro b a
          cases b
          · rfl
          · simp only [if_true]; rw [put_get, if_neg hd]
        rw [e1, e1]; exact h
    · have e1 : ∀ (b : Bool) (a : Act), (if b = true then a.put o.dst v else a).tmps.size = a.tmps.size := by
        intro b a
        cases b
        · rfl
        · simp only [if_true]; exact put_size _ _ _
      rw [e1, e1]; exact hsz
theorem runD_put (D : Nat → Bool) (i : Nat) (o : Oper) (v : Value) (t : Nat) : ∀ (r : List (Oper × Value)) (k : Nat) (a : Act), r[i]? = some (o, v) → D (k + i) = false →
    (∀ j o' v', r[j]? = some (o', v') → o'.dst = some t → o.dst = some t → i < j → D (k + j) = false) →
    (runD (fun x => D x || x == k + i) k r a).tmps[t]? = ((runD D k r a).put o.dst v).tmps[t]? := by
  intro r
  induction r generalizing i with
  | nil => intro k a h; simp at h
  | cons x r ih =>
    intro k a hi hD hw
    obtain ⟨o1, v1⟩ := x
    cases i with
    | zero =>
      simp only [List.getElem?_cons_zero, Option.some.injEq, Prod.mk.injEq] at hi
      obtain ⟨rfl, rfl⟩ := hi
      simp only [Nat.add_zero] at hD
      simp only [runD, Nat.add_zero, beq_self_eq_true, Bool.or_true, if_true, hD, Bool.false_eq_true, if_false]
      rw [put_get]
      by_cases hd : o1.dst = some t
      · rw [if_pos hd, runD_size]
        have : (runD (fun x => D x || x == k) (k + 1) r (a.put o1.dst v1)).tmps[t]? = (runD (fun _ => false) (k + 1) r (a.put o1.dst v1)).tmps[t]? := by
          refine runD_get _ _ t r _ _ _ (fun j o' v' hj hd' => ?_) rfl rfl
          have := hw (j + 1) o' v' (by simpa using hj) hd' hd (by omega)
          rw [show k + 1 + j = k + (j + 1) from by omega, this]
          simp
        rw [this]
        have nothing : ∀ (r : List (Oper × Value)) (k : Nat) (a : Act), runD (fun _ => false) k r a = a := by
          intro r
          induction r with
          | nil => intro k a; rfl
          | cons x r ih => intro k a; obtain ⟨o, v⟩ := x; simp [runD, ih]
        rw [nothing, put_get, if_pos hd]
      · rw [if_neg hd]
        refine runD_get _ _ t r _ _ _ (fun j o' v' hj hd' => ?_) ?_ (put_size _ _ _)
        · have : (k + 1 + j == k) = false := by simp; omega
          rw [this]; simp
        · rw [put_get, if_neg hd]
    | succ i =>
      have e0 : (k == k + (i + 1)) = false := by simp
      simp only [runD, e0, Bool.or_false]
      have := ih i (k + 1) (if D k = true then a.put o1.dst v1 else a) (by simpa using hi) (by rw [show k + 1 + i = k + (i + 1) from by omega]; exact hD)
        (fun j o' v' hj hd' hd hlt => by have := hw (j + 1) o' v' (by simpa using hj) hd' hd (by omega); rwa [show k + 1 + j = k + (j + 1) from by omega])
      rw [show k + 1 + i = k + (i + 1) from by omega] at this
      exact this
def binds (o : Oper) : List Nat := (o.after.toList.filter fun e => Region.binds .any e).map (·.on)
def ahead : List Oper → List (List Nat) → List (List Nat)
  | [], acc => acc
  | o :: r, acc => ahead r (acc ++ [(binds o).flatMap fun j => j :: (acc[j]?).getD []])
def names (ops : Array Oper) (o : Oper) : List Nat := o.dst.toList ++ o.looksAt ops
def notSelect (o : Oper) : Bool := match o.op with | .select .. => false | _ => true
def low (n : Nat) : List Oper → Nat → Bool
  | [], _ => true
  | o :: r, i => (binds o).all (fun j => Nat.blt j i) && notSelect o && low n r (i + 1)
def pairOk (ops : Array Oper) (A : List (List Nat)) (i : Nat) (oi : Oper) (j : Nat) (oj : Oper) : Bool :=
  match oj.dst with
  | none => true
  | some t => Nat.beq i j || !(names ops oi).contains t || (if Nat.blt j i then ((A[i]?).getD []).contains j else ((A[j]?).getD []).contains i)
def edgesOk (l : List Oper) : Bool :=
  let A := ahead l []
  low l.length l 0 && (List.range l.length).all fun i => (List.range l.length).all fun j =>
    match l[i]?, l[j]? with
    | some oi, some oj => pairOk l.toArray A i oi j oj
    | _, _ => true
theorem ahead_pre : ∀ (l : List Oper) (acc : List (List Nat)) (i : Nat), i < acc.length → (ahead l acc)[i]? = acc[i]? := by
  intro l
  induction l with
  | nil => intro acc i _; rfl
  | cons o r ih => intro acc i h; rw [ahead, ih _ i (by simp; omega), List.getElem?_append_left h]
theorem ahead_at : ∀ (l : List Oper) (acc : List (List Nat)) (i : Nat) (o : Oper), l[i]? = some o → (∀ j ∈ binds o, j < acc.length + i) →
    (ahead l acc)[acc.length + i]? = some ((binds o).flatMap fun j => j :: ((ahead l acc)[j]?).getD []) := by
  intro l
  induction l with
  | nil => intro acc i o h; simp at h
  | cons o1 r ih =>
    intro acc i o h hb
    cases i with
    | zero =>
      simp only [List.getElem?_cons_zero, Option.some.injEq] at h
      subst h
      rw [ahead, ahead_pre _ _ _ (by simp)]
      simp only [Nat.add_zero]
      rw [List.getElem?_append_right (by omega)]
      simp only [Nat.sub_self, List.getElem?_cons_zero, Option.some.injEq]
      have key : ∀ m : List Nat, (∀ j ∈ m, j < acc.length) → (m.flatMap fun j => j :: (acc[j]?).getD []) =
          (m.flatMap fun j => j :: ((ahead r (acc ++ [(binds o1).flatMap fun j => j :: (acc[j]?).getD []]))[j]?).getD []) := by
        intro m
        induction m with
        | nil => intro _; rfl
        | cons j m ihm =>
          intro hm
          have hj := hm j (by simp)
          simp only [List.flatMap_cons]
          rw [ihm (fun x hx => hm x (List.mem_cons_of_mem _ hx)), ahead_pre _ _ j (by simp; omega), List.getElem?_append_left hj]
      exact key _ (fun j hj => by simpa using hb j hj)
    | succ i =>
      rw [ahead]
      have := ih (acc ++ [(binds o1).flatMap fun j => j :: (acc[j]?).getD []]) i o (by simpa using h) (fun j hj => by have := hb j hj; simp; omega)
      simp only [List.length_append, List.length_cons, List.length_nil] at this
      rw [show acc.length + (i + 1) = acc.length + (0 + 1) + i from by omega]
      exact this
theorem low_at {n : Nat} : ∀ (l : List Oper) (k i : Nat) (o : Oper), low n l k = true → l[i]? = some o → (∀ j ∈ binds o, j < k + i) ∧ notSelect o = true := by
  intro l
  induction l with
  | nil => intro k i o _ h; simp at h
  | cons o1 r ih =>
    intro k i o hl h
    simp only [low, Bool.and_eq_true, List.all_eq_true] at hl
    cases i with
    | zero =>
      simp only [List.getElem?_cons_zero, Option.some.injEq] at h
      subst h
      exact ⟨fun j hj => by have := hl.1.1 j hj; have := Nat.le_of_ble_eq_true this; omega, hl.1.2⟩
    | succ i =>
      obtain ⟨h1, h2⟩ := ih (k + 1) i o hl.2 (by simpa using h)
      exact ⟨fun j hj => by have := h1 j hj; omega, h2⟩
section
variable {P : Program} {N : Nat} {B : Nat} {w0 : World} {ds : List Deferred} {Q : Exit → Act → World → Prop} {F : Fr} {L : Lo}
def putF (F : Fr) : Option Nat → Value → Fr
  | some d, v => (d, v) :: F
  | none, _ => F
def okOp (P : Program) (N B : Nat) (w0 : World) (ds : List Deferred) (q : Prop) (ops : Array Oper) (F : Fr) (L : Lo) (o : Oper) (v : Value) : Prop :=
  (∀ d, o.dst = some d → d < N) ∧ match o.guard with
  | none => Ev P N B w0 ds q F L o v
  | some (j, wb) => (∃ c, asked ops F j = some c ∧ (c = wb → Ev P N B w0 ds q F L o v) ∧ (c = (!wb) → v = undef)) ∨ (askedU ops F j = true ∧ v = undef)
def Fw0 (P : Program) (N B : Nat) (w0 : World) (ds : List Deferred) (q : Prop) (ops : Array Oper) (L : Lo) (K : Fr → Prop) : List Oper → Fr → Prop
  | [], F => K F
  | o :: r, F => ∃ v, okOp P N B w0 ds q ops F L o v ∧ Fw0 P N B w0 ds q ops L K r (putF F o.dst v)
def Alike (F G : Fr) : Prop := ∀ t, t < 1000000 → lk F t = lk G t
theorem Alike.fits {F G : Fr} (h : Alike F G) {a : Act} (hf : Fits N ds F a) : Fits N ds G a :=
  ⟨hf.size, hf.defers, fun t v ht hv => hf.get t v ht ((h t ht).trans hv)⟩
structure Fw (P : Program) (N B : Nat) (w0 : World) (ds : List Deferred) (q : Prop) (K : Fr → Prop) (ops : Array Oper) (L : Lo) (l : List Oper) (F : Fr) : Prop where
  run : Fw0 P N B w0 ds q ops L (fun F' => ∃ G', Alike F' G' ∧ K G') l F
def seqF : List (Oper × Value) → Fr → Fr
  | [], F => F
  | (o, v) :: r, F => seqF r (putF F o.dst v)
theorem Fw0.values {q : Prop} {ops : Array Oper} {K : Fr → Prop} : ∀ (l : List Oper) (F : Fr), Fw0 P N B w0 ds q ops L K l F →
    ∃ vs : List (Oper × Value), vs.map (·.1) = l ∧ K (seqF vs F) ∧ ∀ i o v, vs[i]? = some (o, v) → okOp P N B w0 ds q ops (seqF (vs.take i) F) L o v := by
  intro l
  induction l with
  | nil => intro F h; exact ⟨[], rfl, h, fun i o v hi => by simp at hi⟩
  | cons o r ih =>
    rintro F ⟨v, hv, hr⟩
    obtain ⟨vs, h1, h2, h3⟩ := ih _ hr
    refine ⟨(o, v) :: vs, by simp [h1], h2, fun i o' v' hi => ?_⟩
    cases i with
    | zero =>
      simp only [List.getElem?_cons_zero, Option.some.injEq, Prod.mk.injEq] at hi
      obtain ⟨rfl, rfl⟩ := hi
      exact hv
    | succ i => exact h3 i o' v' (by simpa using hi)
theorem Fits.putF {a : Act} {o : Oper} {v : Value} (h : Fits N ds F a) (hd : ∀ d, o.dst = some d → d < N) : Fits N ds (putF F o.dst v) (a.put o.dst v) := by
  cases hdst : o.dst with
  | none => exact h
  | some d => exact h.put (by simp [Nat.blt]; exact hd d hdst)
theorem runD_all : ∀ (r : List (Oper × Value)) (k : Nat) (a : Act) (F : Fr), Fits N ds F a → (∀ (i : Nat) o v, r[i]? = some (o, v) → ∀ d, o.dst = some d → d < N) →
    Fits N ds (seqF r F) (runD (fun _ => true) k r a) := by
  intro r
  induction r with
  | nil => intro k a F h _; exact h
  | cons x r ih =>
    intro k a F h hd
    obtain ⟨o, v⟩ := x
    exact ih (k + 1) _ _ (h.putF (hd 0 o v rfl)) (fun i o' v' hi => hd (i + 1) o' v' (by simpa using hi))
theorem runD_congr (D D' : Nat → Bool) : ∀ (r : List (Oper × Value)) (k : Nat) (a : Act), (∀ j, j < r.length → D (k + j) = D' (k + j)) → runD D k r a = runD D' k r a := by
  intro r
  induction r with
  | nil => intro k a _; rfl
  | cons x r ih =>
    intro k a h
    obtain ⟨o, v⟩ := x
    have h0 := h 0 (by simp)
    simp only [Nat.add_zero] at h0
    simp only [runD, h0]
    exact ih (k + 1) _ (fun j hj => by have := h (j + 1) (by simp; omega); rwa [show k + 1 + j = k + (j + 1) from by omega])
theorem runD_take (i : Nat) : ∀ (r : List (Oper × Value)) (k : Nat) (a : Act), runD (fun x => decide (x < k + i)) k r a = runD (fun _ => true) k (r.take i) a := by
  induction i with
  | zero =>
    intro r k a
    simp only [List.take_zero, runD]
    have nothing : ∀ (r : List (Oper × Value)) (k m : Nat) (a : Act), m ≤ k → runD (fun x => decide (x < m)) k r a = a := by
      intro r
      induction r with
      | nil => intro k m a _; rfl
      | cons x r ih =>
        intro k m a h
        obtain ⟨o, v⟩ := x
        simp only [runD]
        rw [if_neg (by simp; omega)]
        exact ih (k + 1) m a (by omega)
    exact nothing r k _ a (by omega)
  | succ i ih =>
    intro r k a
    cases r with
    | nil => rfl
    | cons x r =>
      obtain ⟨o, v⟩ := x
      simp only [List.take_succ_cons, runD]
      rw [if_pos (by simp), if_pos trivial]
      rw [← ih r (k + 1)]
      exact runD_congr _ _ _ _ _ (fun j _ => by congr 1; simp; omega)
def on (D : Array Bool) (j : Nat) : Bool := D.getD j false
def Closed (l : List Oper) (D : Array Bool) : Prop := ∀ i, on D i = true → ∀ o, l[i]? = some o → ∀ j ∈ binds o, on D j = true
theorem ahead_closed {l : List Oper} {D : Array Bool} (hl : low l.length l 0 = true) (hD : Closed l D) : ∀ (i : Nat) (o : Oper), l[i]? = some o → (∀ j ∈ binds o, on D j = true) →
    ∀ k ∈ ((ahead l [])[i]?).getD [], on D k = true := by
  intro i
  induction i using Nat.strongRecOn with
  | _ i ih =>
    intro o ho hb k hk
    obtain ⟨hlo, _⟩ := low_at l 0 i o hl ho
    have := ahead_at l [] i o ho (by simpa using hlo)
    simp only [List.length_nil, Nat.zero_add] at this
    rw [this] at hk
    simp only [Option.getD_some, List.mem_flatMap, List.mem_cons] at hk
    obtain ⟨j, hj, rfl | hk⟩ := hk
    · exact hb _ hj
    · have hji : j < i := by simpa using hlo j hj
      have hjl : j < l.length := by have := (List.getElem?_eq_some_iff.1 ho).1; omega
      exact ih j hji l[j] (List.getElem?_eq_getElem hjl) (hD j (hb j hj) _ (List.getElem?_eq_getElem hjl)) k hk
theorem ready_spec {l : List Oper} {D : Array Bool} {i : Nat} (hsz : D.size = l.length) (h : i ∈ Region.ready .any l.toArray D) :
    ∃ o, l[i]? = some o ∧ on D i = false ∧ ∀ j ∈ binds o, on D j = true := by
  unfold Region.ready at h
  simp only [List.mem_filter, List.mem_range, List.size_toArray, Bool.and_eq_true] at h
  obtain ⟨hlt, h1, h2⟩ := h
  refine ⟨l[i], List.getElem?_eq_getElem hlt, ?_, ?_⟩
  · unfold on
    simp only [Array.getD_eq_getD_getElem?] at h1 ⊢
    rw [Array.getElem?_eq_getElem (by omega)] at h1 ⊢
    simpa using h1
  · intro j hj
    have e : l.toArray[i]? = some l[i] := by simp [hlt]
    rw [e] at h2
    simp only [Option.map_some, Option.getD_some, Array.all_eq_true_iff_forall_mem] at h2
    unfold binds at hj
    simp only [List.mem_map, List.mem_filter] at hj
    obtain ⟨e1, ⟨hm, hb⟩, rfl⟩ := hj
    have := h2 e1 (by simpa using hm)
    simp only [hb, Bool.not_true, Bool.false_or] at this
    exact this
theorem ready_of {l : List Oper} {D : Array Bool} {i : Nat} {o : Oper} (hsz : D.size = l.length) (ho : l[i]? = some o) (hn : on D i = false) (hb : ∀ j ∈ binds o, on D j = true) :
    i ∈ Region.ready .any l.toArray D := by
  have hlt := (List.getElem?_eq_some_iff.1 ho).1
  unfold Region.ready
  simp only [List.mem_filter, List.mem_range, List.size_toArray, Bool.and_eq_true]
  refine ⟨hlt, ?_, ?_⟩
  · unfold on at hn
    simp only [Array.getD_eq_getD_getElem?] at hn ⊢
    rw [Array.getElem?_eq_getElem (by omega)] at hn ⊢
    simpa using hn
  · have e : l.toArray[i]? = some o := by simpa using ho
    rw [e]
    simp only [Option.map_some, Option.getD_some, Array.all_eq_true_iff_forall_mem]
    intro e1 hm
    cases hbd : Region.binds .any e1 with
    | false => simp
    | true =>
      simp only [Bool.not_true, Bool.false_or]
      exact hb e1.on (by unfold binds; simp only [List.mem_map, List.mem_filter]; exact ⟨e1, ⟨by simpa using hm, hbd⟩, rfl⟩)
theorem all_done {l : List Oper} {D : Array Bool} (hsz : D.size = l.length) (hl : low l.length l 0 = true) (hr : Region.ready .any l.toArray D = []) : ∀ i, i < l.length → on D i = true := by
  intro i
  induction i using Nat.strongRecOn with
  | _ i ih =>
    intro hi
    cases hc : on D i with
    | true => rfl
    | false =>
      exfalso
      have hm := ready_of hsz (List.getElem?_eq_getElem hi) hc (fun j hj => by
        have hji : j < i := by simpa using (low_at l 0 i l[i] hl (List.getElem?_eq_getElem hi)).1 j hj
        exact ih j hji (by omega))
      rw [hr] at hm
      cases hm
theorem act_ext {a b : Act} (h : ∀ t : Nat, a.tmps[t]? = b.tmps[t]?) (hd : a.defers = b.defers) : a = b := by
  obtain ⟨x, d⟩ := a
  obtain ⟨y, e⟩ := b
  have : x = y := Array.ext_getElem? h
  subst this
  simp only at hd
  rw [hd]
theorem eval_of {a b : Act} {x : Operand} (h : ∀ t, x = .tmp t → a.tmps[t]? = b.tmps[t]?) : a.eval x = b.eval x := by
  cases x with
  | tmp t => simp only [Act.eval, Array.getD_eq_getD_getElem?, h t rfl]
  | const v => rfl
  | global g => rfl
  | func f => rfl
theorem on_set {D : Array Bool} {i : Nat} (hi : i < D.size) (j : Nat) : on (D.setIfInBounds i true) j = (on D j || j == i) := by
  unfold on
  simp only [Array.getD_eq_getD_getElem?, Array.getElem?_setIfInBounds]
  by_cases h : i = j
  · subst h; simp [hi]
  · rw [if_neg h]
    have : (j == i) = false := by simp; omega
    rw [this]; simp
theorem edgesOk_pair {l : List Oper} (hc : edgesOk l = true) {i j : Nat} {oi oj : Oper} (hi : l[i]? = some oi) (hj : l[j]? = some oj) : pairOk l.toArray (ahead l []) i oi j oj = true := by
  unfold edgesOk at hc
  simp only [Bool.and_eq_true, List.all_eq_true, List.mem_range] at hc
  have := hc.2 i (List.getElem?_eq_some_iff.1 hi).1 j (List.getElem?_eq_some_iff.1 hj).1
  rw [hi, hj] at this
  exact this
theorem edgesOk_low {l : List Oper} (hc : edgesOk l = true) : low l.length l 0 = true := by
  unfold edgesOk at hc
  simp only [Bool.and_eq_true] at hc
  exact hc.1
theorem writer_iff {l : List Oper} {D : Array Bool} (hc : edgesOk l = true) (hD : Closed l D) {i : Nat} {oi : Oper} (hi : l[i]? = some oi) (hn : on D i = false) (hb : ∀ j ∈ binds oi, on D j = true)
    {j : Nat} {oj : Oper} {t : Nat} (hj : l[j]? = some oj) (ht : oj.dst = some t) (hm : t ∈ names l.toArray oi) (hne : i ≠ j) : on D j = decide (j < i) := by
  have hp := edgesOk_pair hc hi hj
  unfold pairOk at hp
  rw [ht] at hp
  simp only [Bool.or_eq_true] at hp
  rcases hp with (hp | hp) | hp
  · exact absurd (Nat.eq_of_beq_eq_true hp) hne
  · simp [hm] at hp
  · by_cases hlt : j < i
    · have : Nat.blt j i = true := by simp [Nat.blt]; omega
      rw [if_pos this] at hp
      have hk : j ∈ ((ahead l [])[i]?).getD [] := by simpa using hp
      rw [ahead_closed (edgesOk_low hc) hD i oi hi hb j hk]
      simp [hlt]
    · have : ¬ Nat.blt j i = true := by intro h; exact hlt (Nat.le_of_ble_eq_true h)
      rw [if_neg this] at hp
      have hk : i ∈ ((ahead l [])[j]?).getD [] := by simpa using hp
      cases hdj : on D j with
      | false => simp [hlt]
      | true =>
        have := ahead_closed (edgesOk_low hc) hD j oj hj (hD j hdj oj hj) i hk
        rw [hn] at this
        cases this
theorem map_at {l : List Oper} {vs : List (Oper × Value)} (h : vs.map (·.1) = l) {i : Nat} {o : Oper} (hi : l[i]? = some o) : ∃ v, vs[i]? = some (o, v) := by
  subst h
  simp only [List.getElem?_map] at hi
  cases hx : vs[i]? with
  | none => rw [hx] at hi; cases hi
  | some x => obtain ⟨o', v⟩ := x; rw [hx] at hi; simp at hi; subst hi; exact ⟨v, rfl⟩
theorem map_at' {l : List Oper} {vs : List (Oper × Value)} (h : vs.map (·.1) = l) {i : Nat} {o : Oper} {v : Value} (hi : vs[i]? = some (o, v)) : l[i]? = some o := by
  subst h
  simp [hi]
theorem count_set {D : Array Bool} {i : Nat} (hi : i < D.size) (hn : on D i = false) : (D.setIfInBounds i true).toList.count false < D.toList.count false := by
  have h0 : D.toList[i]'(by simpa using hi) = false := by
    unfold on at hn
    simp only [Array.getD_eq_getD_getElem?] at hn
    rw [Array.getElem?_eq_getElem hi] at hn
    simpa using hn
  rw [Array.toList_setIfInBounds, List.count_set (by simpa using hi)]
  have hpos : 0 < D.toList.count false := List.count_pos_iff.2 (h0 ▸ List.getElem_mem _)
  rw [h0]
  have e1 : (false == false) = true := rfl
  have e2 : (true == false) = false := rfl
  rw [e1, e2]
  simp only [if_true, Bool.false_eq_true, if_false]
  omega
def quietO (o : Oper) : Bool := match o.op with
  | .alloc .. | .store .. | .box .. | .buildSlice .. | .makeSlice .. | .makeMap .. | .mapUpdate .. | .insert .. => false
  | .call { callee := .builtin .append, .. } => false
  | _ => true
theorem XC.draw {id : Nat} {l : List Oper} (hm : P.follows .mixedOrders = true) (hq : l.all quietO = true) (hc : edgesOk l = true)
    (h : Fw P N B w0 ds True (fun F' => XE N B w0 ds Q .normal F' L) l.toArray L l F) : XC P N B w0 ds Q (.region id l.toArray true) F L := by
  refine ⟨fun a w hf hs => ?_⟩
  obtain ⟨vs, hmap, ⟨G', hal, hK⟩, hok⟩ := Fw0.values l F h.run
  have hlen : vs.length = l.length := by rw [← hmap]; simp
  have hdN : ∀ (i : Nat) o v, vs[i]? = some (o, v) → ∀ d, o.dst = some d → d < N := fun i o v hi => (hok i o v hi).1
  have hfin : ∀ (D : Array Bool) a' w', (∀ i, i < l.length → on D i = true) → (∀ t : Nat, a'.tmps[t]? = (runD (on D) 0 vs a).tmps[t]?) → a'.defers = a.defers → Sys B w0 L w' → Q .normal a' w' := by
    intro D a' w' hall hpt hdf hs'
    have : a' = runD (fun _ => true) 0 vs a := act_ext (fun t => by
      rw [hpt t]
      exact runD_get _ _ t vs 0 _ _ (fun j o v hj _ => by rw [Nat.zero_add]; exact hall j (by have := (List.getElem?_eq_some_iff.1 hj).1; omega)) rfl rfl) (by rw [hdf, runD_defers])
    rw [this]
    exact hK.run _ _ (hal.fits (runD_all vs 0 a F hf hdN)) hs'
  have key : ∀ fuel (D : Array Bool) a' w', D.size = l.length → Closed l D → D.toList.count false ≤ fuel → (∀ t : Nat, a'.tmps[t]? = (runD (on D) 0 vs a).tmps[t]?) → a'.defers = a.defers →
      Sys B w0 L w' → wpAny P .any l.toArray Q fuel D a' w' := by
    intro fuel
    induction fuel with
    | zero =>
      intro D a' w' hsz hcl hcnt hpt hdf hs'
      have hall : ∀ i, i < l.length → on D i = true := by
        intro i hi
        cases hx : on D i with
        | true => rfl
        | false => have := count_set (by omega) hx; omega
      refine ⟨?_, hfin D a' w' hall hpt hdf hs'⟩
      apply List.eq_nil_iff_forall_not_mem.2
      intro i hi
      obtain ⟨o, ho, hn, _⟩ := ready_spec hsz hi
      rw [hall i (List.getElem?_eq_some_iff.1 ho).1] at hn
      cases hn
    | succ fuel ih =>
      intro D a' w' hsz hcl hcnt hpt hdf hs'
      refine ⟨fun hr => hfin D a' w' (all_done hsz (edgesOk_low hc) hr) hpt hdf hs', fun i hi => ?_⟩
      obtain ⟨o, ho, hn, hb⟩ := ready_spec hsz hi
      have hilt : i < l.length := (List.getElem?_eq_some_iff.1 ho).1
      obtain ⟨v, hv⟩ := map_at hmap ho
      -- the slots that i names hold what they hold in the text's order
      have hsame : ∀ t ∈ names l.toArray o, a'.tmps[t]? = (runD (fun x => decide (x < 0 + i)) 0 vs a).tmps[t]? := by
        intro t ht
        rw [hpt t]
        refine runD_get _ _ t vs 0 _ _ (fun j oj vj hj hdj => ?_) rfl rfl
        simp only [Nat.zero_add]
        by_cases hij : i = j
        · subst hij; rw [hn]; simp
        · exact writer_iff hc hcl ho hn hb (map_at' hmap hj) hdj ht hij
      have hfi : Fits N ds (seqF (vs.take i) F) (runD (fun x => decide (x < 0 + i)) 0 vs a) := by
        rw [runD_take]
        exact runD_all _ 0 a F hf (fun j oj vj hj => by
          rw [List.getElem?_take] at hj
          split at hj
          · exact hdN j oj vj hj
          · cases hj)
      have hexec : execOp a'.eval o = execOp (runD (fun x => decide (x < 0 + i)) 0 vs a).eval o := by
        refine execOp_congr o ?_ ?_
        · intro cs b e
          have := (low_at l 0 i o (edgesOk_low hc) ho).2
          simp [notSelect, e] at this
        · intro x hx
          refine eval_of fun t e => hsame t ?_
          subst e
          unfold names Oper.looksAt
          simp only [List.mem_append, List.mem_filterMap]
          exact .inr (.inl ⟨.tmp t, by simpa using hx, rfl⟩)
      -- what follows
      have hgo : ∀ w'', Sys B w0 L w'' → wpAny P .any l.toArray Q fuel (D.setIfInBounds i true) (a'.put o.dst v) w'' := by
        intro w'' hs''
        have hD' : on (D.setIfInBounds i true) = fun x => on D x || x == 0 + i := by funext x; rw [on_set (by omega), Nat.zero_add]
        refine ih _ _ _ (by simpa using hsz) ?_ (by have := count_set (D := D) (i := i) (by omega) hn; omega) ?_ (by rw [put_defers]; exact hdf) hs''
        · intro k hk ok hok' j hj
          rw [on_set (by omega)] at hk ⊢
          simp only [Bool.or_eq_true, beq_iff_eq] at hk ⊢
          rcases hk with hk | rfl
          · exact .inl (hcl k hk ok hok' j hj)
          · rw [ho] at hok'
            obtain rfl := Option.some.inj hok'
            exact .inl (hb j hj)
        · intro t
          rw [hD', runD_put (on D) i o v t vs 0 a hv (by rw [Nat.zero_add]; exact hn) (fun j oj vj hj hdj hdo hlt => ?_)]
          · rw [put_get, put_get, hpt t]
            have : a'.tmps.size = (runD (on D) 0 vs a).tmps.size := by
              have e : a'.tmps = (runD (on D) 0 vs a).tmps := Array.ext_getElem? hpt
              rw [e]
            rw [this]
          · rw [Nat.zero_add]
            have := writer_iff hc hcl ho hn hb (map_at' hmap hj) hdj (show t ∈ names l.toArray o by unfold names; simp [hdo]) (by omega)
            rw [this]
            simp; omega
      unfold wpOp
      have hoi : l.toArray[i]? = some o := by simpa using ho
      rw [hoi]
      simp only
      obtain ⟨_, hcase⟩ := hok i o v hv
      cases hg : o.guard with
      | none =>
        rw [hg] at hcase
        simp only at hcase
        rw [if_pos (by simp [Region.wanted, hg])]
        refine .inl ?_
        unfold Oper.wp
        rw [hexec]
        exact (hcase.run _ w' hfi hs').upon fun w'' hb => hgo w'' (hs'.below hb)
      | some gw =>
        obtain ⟨j, wb⟩ := gw
        rw [hg] at hcase
        simp only at hcase
        have hsj : yielded l.toArray a'.tmps j = yielded l.toArray (runD (fun x => decide (x < 0 + i)) 0 vs a).tmps j := by
          unfold yielded
          cases hdj : (l.toArray[j]?).bind (·.dst) with
          | none => rfl
          | some t =>
            simp only [Option.bind_some]
            rw [hsame t (by unfold names Oper.looksAt; rw [hg]; simp only [List.mem_append]; right; right; rw [hdj]; exact List.mem_singleton.2 rfl)]
        rcases hcase with ⟨c, hask, hy, hno⟩ | ⟨hask, hno⟩
        case inr =>
          have hyn : yielded l.toArray a'.tmps j = none := by rw [hsj]; exact askedU_spec hask hfi
          have hwant : Region.wanted o (yielded l.toArray a'.tmps) = false := by simp [Region.wanted, hg, hyn]
          rw [hwant, if_neg (by simp)]
          have := hgo w' hs'
          rw [hno] at this
          exact this
        have hyl : yielded l.toArray a'.tmps j = some c := by
          rw [hsj, asked_spec hask hfi]
        have hwant : Region.wanted o (yielded l.toArray a'.tmps) = (c == wb) := by simp [Region.wanted, hg, hyl]
        rw [hwant]
        by_cases hcw : c = wb
        · rw [if_pos (by simp [hcw])]
          refine .inl ?_
          unfold Oper.wp
          rw [hexec]
          exact ((hy hcw).run _ w' hfi hs').upon fun w'' hb => hgo w'' (hs'.below hb)
        · have hc' : c = !wb := by cases c <;> cases wb <;> simp_all
          rw [if_neg (by simpa using hcw)]
          have := hgo w' hs'
          rw [hno hc'] at this
          exact this
  refine wp_region_any hm (key _ _ _ _ (by simp) ?_ ?_ ?_ rfl hs.drew)
  · intro i hi
    exfalso
    unfold on at hi
    simp only [Array.getD_eq_getD_getElem?, Array.getElem?_replicate] at hi
    split at hi <;> simp at hi
  · simp
  · intro t
    have nothing : ∀ (r : List (Oper × Value)) (k : Nat) (a : Act), runD (on (Array.replicate l.toArray.size false)) k r a = a := by
      intro r
      induction r with
      | nil => intro k a; rfl
      | cons x r ih =>
        intro k a
        obtain ⟨o, v⟩ := x
        have : on (Array.replicate l.toArray.size false) k = false := by
          unfold on
          simp only [Array.getD_eq_getD_getElem?, Array.getElem?_replicate]
          split <;> simp
        simp only [runD, this]
        exact ih _ _
    rw [nothing]
section
variable {q : Prop} {K : Fr → Prop} {ops : Array Oper} {rest : List Oper} {d j : Nat} {wb : Bool} {op : Op} {ty : TypeId} {p : String} {af : Array Edge}
theorem Fw.done (h : K F) : Fw P N B w0 ds q K ops L [] F := ⟨⟨F, fun _ _ => rfl, h⟩⟩
theorem Fw.step (v : Value) (he : Ev P N B w0 ds q F L { dst := some d, op := op, type := ty, pos := p, after := af, guard := none } v) (hd : Nat.blt d N = true)
    (k : Fw P N B w0 ds q K ops L rest ((d, v) :: F)) : Fw P N B w0 ds q K ops L ({ dst := some d, op := op, type := ty, pos := p, after := af, guard := none } :: rest) F :=
  ⟨⟨v, ⟨fun x hx => by have := Option.some.inj hx; subst this; exact Nat.le_of_ble_eq_true hd, he⟩, k.run⟩⟩
theorem Fw.guard_u (hj : askedU ops F j = true) (k : Fw P N B w0 ds q K ops L rest ((d, undef) :: F)) (hd : Nat.blt d N = true) :
    Fw P N B w0 ds q K ops L ({ dst := some d, op := op, type := ty, pos := p, after := af, guard := some (j, wb) } :: rest) F :=
  ⟨undef, ⟨fun x hx => by have := Option.some.inj hx; subst this; exact Nat.le_of_ble_eq_true hd, Or.inr ⟨hj, rfl⟩⟩, k.run⟩
theorem Fw.guard_y (hj : asked ops F j = some wb) (h : Fw P N B w0 ds q K ops L ({ dst := some d, op := op, type := ty, pos := p, after := af, guard := none } :: rest) F) :
    Fw P N B w0 ds q K ops L ({ dst := some d, op := op, type := ty, pos := p, after := af, guard := some (j, wb) } :: rest) F := by
  obtain ⟨v, ⟨hd, he⟩, k⟩ := h.run
  exact ⟨v, ⟨hd, Or.inl ⟨wb, hj, fun _ => ⟨he.run⟩, fun e => absurd e (by cases wb <;> simp)⟩⟩, k⟩
theorem Fw.guard_n (hj : asked ops F j = some (!wb)) (k : Fw P N B w0 ds q K ops L rest ((d, undef) :: F)) (hd : Nat.blt d N = true) :
    Fw P N B w0 ds q K ops L ({ dst := some d, op := op, type := ty, pos := p, after := af, guard := some (j, wb) } :: rest) F :=
  ⟨⟨undef, ⟨fun x hx => by have := Option.some.inj hx; subst this; exact Nat.le_of_ble_eq_true hd, Or.inl ⟨!wb, hj, fun e => absurd e (by cases wb <;> simp), fun _ => rfl⟩⟩, k.run⟩⟩
theorem Fw.split {dst : Option Nat} (s : Nat) (c : Bool) (hj : askedAt ops F j = some (s, c))
    (ht : c = true → Fw P N B w0 ds q K ops L ({ dst := dst, op := op, type := ty, pos := p, after := af, guard := some (j, wb) } :: rest) F)
    (hf : c = false → Fw P N B w0 ds q K ops L ({ dst := dst, op := op, type := ty, pos := p, after := af, guard := some (j, wb) } :: rest) F) :
    Fw P N B w0 ds q K ops L ({ dst := dst, op := op, type := ty, pos := p, after := af, guard := some (j, wb) } :: rest) F := by
  cases c with
  | true => exact ht rfl
  | false => exact hf rfl
end
end
end X
namespace X
open Go Go.RowKit
def lkG {α : Type} : List (Nat × α) → Nat → Option α
  | [], _ => none
  | (d, v) :: l, t => match Nat.beq d t with
    | true => some v
    | false => lkG l t
theorem tab_ok {α : Type} {f : Nat → Option α} : ∀ {l : List (Nat × α)}, l.map (fun e => f e.1) = l.map (fun e => some e.2) → ∀ {t : Nat} {a : α}, lkG l t = some a → f t = some a := by
  intro l
  induction l with
  | nil => intro _ t a h; cases h
  | cons e l ih =>
    intro h t a ha
    obtain ⟨d, v⟩ := e
    simp only [List.map_cons, List.cons.injEq] at h
    unfold lkG at ha
    cases hb : Nat.beq d t with
    | true =>
      rw [hb] at ha
      have := Nat.eq_of_beq_eq_true hb
      subst this
      rw [h.1, ← Option.some.inj ha]
    | false => rw [hb] at ha; exact ih h.2 ha
def aggSize (P : Program) (t : Nat) : Option Nat :=
  match P.underlying t with
  | some (.struct _) | some (.array _ _) => (P.info? t).map (·.size)
  | _ => none
def oneCell (P : Program) (t : Nat) : Option Unit :=
  match P.underlying t with
  | some (.struct _) | some (.array _ _) => none
  | some _ => if (P.info? t).map (·.size) = some 1 then some () else none
  | none => none
def fldOf (P : Program) (t : Nat) : Option (List (Nat × Nat × Nat)) :=
  match P.underlying t with
  | some (.struct fs) => some (fs.toList.map fun f => (f.offset, ((P.info? f.type).map (·.size)).getD 0, f.type))
  | _ => none
def slOf (P : Program) (t : Nat) : Option (Nat × Nat) :=
  match P.underlying t with
  | some (.slice e) => (P.info? e).map fun i => (e, i.size)
  | _ => none
def zeroOf (P : Program) (t : Nat) : Option Value := (P.info? t).bind (·.zero)
structure TT where
  agg : List (Nat × Nat)
  one : List (Nat × Unit)
  fld : List (Nat × List (Nat × Nat × Nat))
  sl : List (Nat × Nat × Nat)
  zero : List (Nat × Value)
structure TOK (P : Program) (T : TT) : Prop where
  agg : T.agg.map (fun e => aggSize P e.1) = T.agg.map (fun e => some e.2)
  one : T.one.map (fun e => oneCell P e.1) = T.one.map (fun e => some e.2)
  fld : T.fld.map (fun e => fldOf P e.1) = T.fld.map (fun e => some e.2)
  sl : T.sl.map (fun e => slOf P e.1) = T.sl.map (fun e => some e.2)
  zero : T.zero.map (fun e => zeroOf P e.1) = T.zero.map (fun e => some e.2)
def takeN : List Value → Nat → Option (List Value)
  | _, 0 => some []
  | [], _ + 1 => none
  | v :: r, n + 1 => match takeN r n with
    | some l => some (v :: l)
    | none => none
def sliceN : List Value → Nat → Nat → Option (List Value)
  | cs, 0, n => takeN cs n
  | [], _ + 1, _ => none
  | _ :: r, o + 1, n => sliceN r o n
def setN {α : Type} : List α → Nat → α → Option (List α)
  | [], _, _ => none
  | _ :: r, 0, x => some (x :: r)
  | a :: r, n + 1, x => match setN r n x with
    | some l => some (a :: l)
    | none => none
def putN : List Value → Nat → List Value → Option (List Value)
  | cs, _, [] => some cs
  | cs, o, v :: vs => match setN cs o v with
    | some cs' => putN cs' (o + 1) vs
    | none => none
def evos (F : Fr) : List Operand → Option (List Value)
  | [] => some []
  | x :: r => match evo F x with
    | some v => match evos F r with
      | some l => some (v :: l)
      | none => none
    | none => none
def one1 : Value → Bool
  | .agg _ => false
  | .tuple _ => false
  | _ => true
def cellsO : Value → Option (List Value)
  | .agg ⟨l⟩ => some l
  | v => some [v]
theorem takeN_spec : ∀ (cs : List Value) (n : Nat) (vs : List Value), takeN cs n = some vs → vs = cs.take n ∧ vs.length = n := by
  intro cs
  induction cs with
  | nil => intro n vs h; cases n with
    | zero => simp [takeN] at h; subst h; simp
    | succ n => simp [takeN] at h
  | cons v r ih =>
    intro n vs h
    cases n with
    | zero => simp [takeN] at h; subst h; simp
    | succ n =>
      simp only [takeN] at h
      cases hx : takeN r n with
      | none => rw [hx] at h; cases h
      | some l =>
        rw [hx] at h
        obtain ⟨h1, h2⟩ := ih n l hx
        have := Option.some.inj h
        subst this
        simp [h1] at h2 ⊢
        omega
theorem sliceN_spec : ∀ (o : Nat) (cs : List Value) (n : Nat) (vs : List Value), sliceN cs o n = some vs → vs = (cs.drop o).take n ∧ vs.length = n := by
  intro o
  induction o with
  | zero => intro cs n vs h; simpa using takeN_spec cs n vs (by cases cs <;> exact h)
  | succ o ih => intro cs n vs h; cases cs with
    | nil => simp [sliceN] at h
    | cons v r => simpa using ih r n vs h
theorem setN_spec {α : Type} : ∀ (cs : List α) (n : Nat) (x : α) (cs' : List α), setN cs n x = some cs' → cs' = cs.set n x ∧ n < cs.length := by
  intro cs
  induction cs with
  | nil => intro n x cs' h; cases h
  | cons v r ih =>
    intro n x cs' h
    cases n with
    | zero => simp [setN] at h; subst h; simp
    | succ n =>
      simp only [setN] at h
      cases hx : setN r n x with
      | none => rw [hx] at h; cases h
      | some l =>
        rw [hx] at h
        obtain ⟨h1, h2⟩ := ih n x l hx
        have := Option.some.inj h
        subst this
        simp [h1, h2]
theorem evos_spec {N : Nat} {ds : List Deferred} {F : Fr} {a : Act} (hf : Fits N ds F a) : ∀ (l : List Operand) (vs : List Value), evos F l = some vs → l.map a.eval = vs := by
  intro l
  induction l with
  | nil => intro vs h; simp [evos] at h; subst h; rfl
  | cons x r ih =>
    intro vs h
    simp only [evos] at h
    cases hx : evo F x with
    | none => rw [hx] at h; cases h
    | some v =>
      rw [hx] at h
      simp only at h
      cases hr : evos F r with
      | none => rw [hr] at h; cases h
      | some l =>
        rw [hr] at h
        have := Option.some.inj h
        subst this
        simp [hf.eval hx, ih l hr]
theorem cellsO_spec {v : Value} {l : List Value} (h : cellsO v = some l) : v.cells = l.toArray := by
  cases v <;> simp [cellsO, Value.cells] at h ⊢ <;> first | (rw [← h]; done) | (subst h; rfl)
section
variable {P : Program} {T : TT}
theorem sizeOf_run {t : Nat} {i : TypeInfo} (h : P.info? t = some i) (w : World) : (sizeOf t).run P w = .ok i.size w := by simp [sizeOf, typeInfo, h]
theorem isAgg_of_agg {t n : Nat} (h : aggSize P t = some n) (w : World) : (isAgg t).run P w = .ok true w ∧ (sizeOf t).run P w = .ok n w := by
  unfold aggSize at h
  cases hu : P.underlying t with
  | none => rw [hu] at h; cases h
  | some d =>
    rw [hu] at h
    have h' : (P.info? t).map (·.size) = some n ∧ (isAgg t).run P w = .ok true w := by
      cases d <;> simp at h <;> exact ⟨by simpa using h, by simp [isAgg, run_underlying hu]⟩
    obtain ⟨h1, h2⟩ := h'
    cases hi : P.info? t with
    | none => rw [hi] at h1; cases h1
    | some i => rw [hi] at h1; simp at h1; exact ⟨h2, by rw [sizeOf_run hi]; simp [h1]⟩
theorem isAgg_of_one {t : Nat} (h : oneCell P t = some ()) (w : World) : (isAgg t).run P w = .ok false w ∧ (sizeOf t).run P w = .ok 1 w := by
  unfold oneCell at h
  cases hu : P.underlying t with
  | none => rw [hu] at h; cases h
  | some d =>
    rw [hu] at h
    have h' : (P.info? t).map (·.size) = some 1 ∧ (isAgg t).run P w = .ok false w := by
      cases d <;> simp at h <;> exact ⟨by simpa using h, by simp [isAgg, run_underlying hu]⟩
    obtain ⟨h1, h2⟩ := h'
    cases hi : P.info? t with
    | none => rw [hi] at h1; cases h1
    | some i => rw [hi] at h1; simp at h1; exact ⟨h2, by rw [sizeOf_run hi]; simp [h1]⟩
theorem run_load_cell {w : World} {a : Addr} {v : Value} (h : w.cell? a = some v) : (load a).run P w = .ok v w := by simp [load, Sem.run, h]
theorem run_loadCellsFrom {w : World} {a : Addr} : ∀ (vs : List Value) (i : Nat) (acc : Array Value), (∀ j v, vs[j]? = some v → w.cell? (a.add (i + j)) = some v) →
    (loadCellsFrom a i vs.length acc).run P w = .ok (acc ++ vs.toArray) w := by
  intro vs
  induction vs with
  | nil => intro i acc _; simp [loadCellsFrom]
  | cons v r ih =>
    intro i acc h
    have h0 := h 0 v rfl
    simp only [Nat.add_zero] at h0
    simp only [List.length_cons, loadCellsFrom, Sem.run_bind, run_load_cell h0, Result.andThen_ok]
    rw [ih (i + 1) (acc.push v) (fun j u hj => by have := h (j + 1) u (by simpa using hj); rwa [show i + 1 + j = i + (j + 1) from by omega])]
    simp
theorem run_loadVar_agg {t n : Nat} (ht : aggSize P t = some n) {w : World} {a : Addr} {vs : List Value} (hl : vs.length = n) (h : ∀ j v, vs[j]? = some v → w.cell? (a.add j) = some v) :
    (loadVar t a).run P w = .ok (.agg vs.toArray) w := by
  obtain ⟨h1, h2⟩ := isAgg_of_agg ht w
  subst hl
  have := run_loadCellsFrom (P := P) vs 0 #[] (fun j v hj => by rw [Nat.zero_add]; exact h j v hj)
  simp [loadVar, h1, h2, loadCells, this]
theorem run_loadVar_one {t : Nat} (ht : oneCell P t = some ()) {w : World} {a : Addr} {v : Value} (h : w.cell? a = some v) : (loadVar t a).run P w = .ok v w := by
  have := run_load_cell (P := P) h
  simp only [loadVar, Sem.run_bind, (isAgg_of_one ht w).1, Result.andThen_ok, Bool.false_eq_true, if_false, this]
end
theorem Sys.cell {B : Nat} {w0 w : World} {L : Lo} (h : Sys B w0 L w) {g : Nat} {ty : TypeId} {cs : List Value} (he : (g, cel ty cs) ∈ L) (o : Nat) : w.cell? ⟨g, o, none⟩ = cs[o]? := by
  have := (h.own _ he).2
  simp only at this
  simp [World.cell?, this, cel]
theorem add_off (g o j : Nat) : (⟨g, o, none⟩ : Addr).add j = ⟨g, o + j, none⟩ := by
  unfold Addr.add
  split
  · rename_i h; subst h; rfl
  · rfl
theorem add_block (a : Addr) (j : Nat) : (a.add j).block = a.block := by unfold Addr.add; split <;> rfl
theorem Sys.oldCell {B : Nat} {w0 w : World} {L : Lo} (h : Sys B w0 L w) {a : Addr} (hb : a.block < B) : w.cell? a = w0.cell? a :=
  World.cell?_of_block (h.old a.block (Nat.lt_of_lt_of_le hb h.base) fun e he e1 => by have := (h.own e he).1; omega)
theorem Sys.farCell {B : Nat} {w0 w : World} {L : Lo} (h : Sys B w0 L w) {a : Addr} (hb : a.block < w0.heap.size) (hn : ∀ e, e ∈ L → e.1 ≠ a.block) : w.cell? a = w0.cell? a :=
  World.cell?_of_block (h.old a.block hb hn)
section
variable {P : Program} {T : TT} {N : Nat} {B : Nat} {w0 : World} {ds : List Deferred} {Q : Exit → Act → World → Prop} {F : Fr} {L : Lo} {pu : Prop}
variable {dst : Option Tmp} {ty : TypeId} {p : String} {af : Array Edge} {gd : Option (Nat × Bool)}
theorem Ev.of_run {o : Oper} {v : Value} (h : ∀ a w, Fits N ds F a → Sys B w0 L w → (execOp a.eval o).run P w = .ok (.value v) w) : Ev P N B w0 ds pu F L o v :=
  ⟨fun a w hf hs => by rw [h a w hf hs]; exact ⟨rfl, rfl⟩⟩
theorem Ev.move {x : Operand} {v : Value} (hx : evo F x = some v) : Ev P N B w0 ds pu F L ⟨dst, .move x, ty, p, af, gd⟩ v :=
  .of_run fun a w hf hs => by simp [execOp, hf.eval hx]
theorem Ev.assign {x : Operand} {v : Value} (hx : evo F x = some v) : Ev P N B w0 ds pu F L ⟨dst, .assign x, ty, p, af, gd⟩ v :=
  .of_run fun a w hf hs => by simp [execOp, hf.eval hx]
theorem Ev.pick_t {c x y : Operand} {v : Value} (hc : evo F c = some (.bool true)) (hx : evo F x = some v) : Ev P N B w0 ds pu F L ⟨dst, .pick c x y, ty, p, af, gd⟩ v :=
  .of_run fun a w hf hs => by simp [execOp, hf.eval hc, hf.eval hx, asBool]
theorem Ev.pick_f {c x y : Operand} {v : Value} (hc : evo F c = some (.bool false)) (hy : evo F y = some v) : Ev P N B w0 ds pu F L ⟨dst, .pick c x y, ty, p, af, gd⟩ v :=
  .of_run fun a w hf hs => by simp [execOp, hf.eval hc, hf.eval hy, asBool]
theorem fieldAt_run (hT : TOK P T) {s i k n : Nat} {l : List (Nat × Nat × Nat)} {b : Nat} (hs : lkG T.fld s = some l) (hi : l[i]? = some (k, n + 1, b)) (a : Addr) (w : World) :
    (Instr.fieldAt s (.pointer (some a)) i).run P w = .ok (.pointer (some (a.add k))) w := by
  have h := tab_ok hT.fld hs
  unfold fldOf at h
  cases hu : P.underlying s with
  | none => rw [hu] at h; cases h
  | some d =>
    rw [hu] at h
    cases d <;> simp at h
    rename_i fs
    subst h
    simp only [List.getElem?_map] at hi
    cases hf : fs.toList[i]? with
    | none => rw [hf] at hi; cases hi
    | some f =>
      rw [hf] at hi
      simp at hi
      obtain ⟨rfl, h2, _⟩ := hi
      have hf' : fs[i]? = some f := by simpa using hf
      cases hn : P.info? f.type with
      | none => rw [hn] at h2; simp at h2
      | some j =>
        rw [hn] at h2
        simp at h2
        have hz : (sizeOf f.type).run P w = .ok (n + 1) w := by rw [sizeOf_run hn, h2]
        simp [Instr.fieldAt, run_underlying hu, hf', Instr.sureAddr, fieldPlace, hz]
theorem Ev.fieldAddr_loc (hT : TOK P T) {s i k n : Nat} {l : List (Nat × Nat × Nat)} {b : Nat} {x : Operand} {g o : Nat} (hx : evo F x = some (.pointer (some ⟨g, o, none⟩))) (hs : lkG T.fld s = some l)
    (hi : l[i]? = some (k, n + 1, b)) : Ev P N B w0 ds pu F L ⟨dst, .fieldAddr s x i, ty, p, af, gd⟩ (.pointer (some ⟨g, o + k, none⟩)) :=
  .of_run fun a w hf hw => by simp [execOp, hf.eval hx, fieldAt_run hT hs hi, add_off]
theorem Ev.fieldAddr (hT : TOK P T) {s i k n : Nat} {l : List (Nat × Nat × Nat)} {b : Nat} {x : Operand} {ad : Addr} (hx : evo F x = some (.pointer (some ad))) (hs : lkG T.fld s = some l)
    (hi : l[i]? = some (k, n + 1, b)) : Ev P N B w0 ds pu F L ⟨dst, .fieldAddr s x i, ty, p, af, gd⟩ (.pointer (some (ad.add k))) :=
  .of_run fun a w hf hw => by simp [execOp, hf.eval hx, fieldAt_run hT hs hi]
theorem fld_at (hT : TOK P T) {s i k n ft : Nat} {l : List (Nat × Nat × Nat)} (hs : lkG T.fld s = some l) (hi : l[i]? = some (k, n, ft)) :
    ∃ (fs : Array Field) (f : Field), P.underlying s = some (.struct fs) ∧ fs[i]? = some f ∧ f.offset = k ∧ f.type = ft := by
  have h := tab_ok hT.fld hs
  unfold fldOf at h
  cases hu : P.underlying s with
  | none => rw [hu] at h; cases h
  | some d =>
    rw [hu] at h
    cases d <;> simp at h
    rename_i fs
    subst h
    simp only [List.getElem?_map] at hi
    cases hff : fs.toList[i]? with
    | none => rw [hff] at hi; cases hi
    | some f =>
      rw [hff] at hi
      simp at hi
      exact ⟨fs, f, rfl, by simpa using hff, hi.1, hi.2.2⟩
theorem Ev.field_one (hT : TOK P T) {s i k n ft : Nat} {l : List (Nat × Nat × Nat)} {x : Operand} {cs : List Value} {v : Value} (hx : evo F x = some (.agg cs.toArray)) (hs : lkG T.fld s = some l)
    (hi : l[i]? = some (k, n, ft)) (h1 : lkG T.one ft = some ()) (hv : cs[k]? = some v) : Ev P N B w0 ds pu F L ⟨dst, .field s x i, ty, p, af, gd⟩ v :=
  .of_run fun a w hf hw => by
    obtain ⟨fs, f, hu, hf', rfl, rfl⟩ := fld_at hT hs hi
    simp [execOp, Instr.field, hf.eval hx, run_underlying hu, hf', part, asAgg, (isAgg_of_one (tab_ok hT.one h1) w).1, hv]
theorem Ev.field_agg (hT : TOK P T) {s i k n ft m : Nat} {l : List (Nat × Nat × Nat)} {x : Operand} {cs vs : List Value} (hx : evo F x = some (.agg cs.toArray)) (hs : lkG T.fld s = some l)
    (hi : l[i]? = some (k, n, ft)) (h1 : lkG T.agg ft = some m) (hv : sliceN cs k m = some vs) : Ev P N B w0 ds pu F L ⟨dst, .field s x i, ty, p, af, gd⟩ (.agg vs.toArray) :=
  .of_run fun a w hf hw => by
    obtain ⟨fs, f, hu, hf', rfl, rfl⟩ := fld_at hT hs hi
    obtain ⟨h2, h3⟩ := isAgg_of_agg (tab_ok hT.agg h1) w
    obtain ⟨hvs, hlen⟩ := sliceN_spec _ _ _ _ hv
    have e : cs.toArray.extract f.offset (f.offset + m) = vs.toArray := by
      apply Array.ext'
      rw [Array.toList_extract, List.extract_eq_take_drop]
      simp [hvs]
    simp [execOp, Instr.field, hf.eval hx, run_underlying hu, hf', part, asAgg, h2, h3, e]
    exact hvs.symm
theorem Ev.load_loc (hT : TOK P T) (i : Nat) {t : TypeId} {x : Operand} {g o : Nat} {tg : TypeId} {cs : List Value} {v : Value} (hx : evo F x = some (.pointer (some ⟨g, o, none⟩))) (hL : L[i]? = some (g, cel tg cs))
    (h1 : lkG T.one t = some ()) (hv : cs[o]? = some v) : Ev P N B w0 ds pu F L ⟨dst, .load t x, ty, p, af, gd⟩ v :=
  .of_run fun a w hf hw => by
    have hc : w.cell? ⟨g, o, none⟩ = some v := (hw.cell (List.mem_of_getElem? hL) o).trans hv
    simp [execOp, Instr.loadAt, Instr.sureAddr, hf.eval hx, run_loadVar_one (tab_ok hT.one h1) hc]
theorem Ev.load_loc_agg (hT : TOK P T) (i : Nat) {t : TypeId} {x : Operand} {g o n : Nat} {tg : TypeId} {cs vs : List Value} (hx : evo F x = some (.pointer (some ⟨g, o, none⟩))) (hL : L[i]? = some (g, cel tg cs))
    (h1 : lkG T.agg t = some n) (hv : sliceN cs o n = some vs) : Ev P N B w0 ds pu F L ⟨dst, .load t x, ty, p, af, gd⟩ (.agg vs.toArray) :=
  .of_run fun a w hf hw => by
    obtain ⟨hvs, hlen⟩ := sliceN_spec _ _ _ _ hv
    have hc : ∀ j u, vs[j]? = some u → w.cell? ((⟨g, o, none⟩ : Addr).add j) = some u := fun j u hj => by
      rw [add_off, hw.cell (List.mem_of_getElem? hL) (o + j)]
      have hjl := (List.getElem?_eq_some_iff.1 hj).1
      rw [hvs, List.getElem?_take, if_pos (by omega), List.getElem?_drop] at hj
      exact hj
    simp [execOp, Instr.loadAt, Instr.sureAddr, hf.eval hx, run_loadVar_agg (tab_ok hT.agg h1) hlen hc]
theorem Ev.load_old (hT : TOK P T) {t : TypeId} {x : Operand} {ad : Addr} {v : Value} (hx : evo F x = some (.pointer (some ad))) (h1 : lkG T.one t = some ()) (hb : ad.block < B) (hv : w0.cell? ad = some v) :
    Ev P N B w0 ds pu F L ⟨dst, .load t x, ty, p, af, gd⟩ v :=
  .of_run fun a w hf hw => by
    have hc := (hw.oldCell hb).trans hv
    simp [execOp, Instr.loadAt, Instr.sureAddr, hf.eval hx, run_loadVar_one (tab_ok hT.one h1) hc]
theorem Ev.load_old_agg (hT : TOK P T) {t : TypeId} {x : Operand} {ad : Addr} {n : Nat} (vs : List Value) (hx : evo F x = some (.pointer (some ad))) (h1 : lkG T.agg t = some n) (hlen : vs.length = n) (hb : ad.block < B)
    (hv : ∀ j v, vs[j]? = some v → w0.cell? (ad.add j) = some v) : Ev P N B w0 ds pu F L ⟨dst, .load t x, ty, p, af, gd⟩ (.agg vs.toArray) :=
  .of_run fun a w hf hw => by
    have hc : ∀ j u, vs[j]? = some u → w.cell? (ad.add j) = some u := fun j u hj => (hw.oldCell (by rw [add_block]; exact hb)).trans (hv j u hj)
    simp [execOp, Instr.loadAt, Instr.sureAddr, hf.eval hx, run_loadVar_agg (tab_ok hT.agg h1) hlen hc]
theorem Ev.load_far (hT : TOK P T) {t : TypeId} {x : Operand} {ad : Addr} {v : Value} (hx : evo F x = some (.pointer (some ad))) (h1 : lkG T.one t = some ()) (hb : ad.block < w0.heap.size) (hn : ∀ e, e ∈ L → e.1 ≠ ad.block)
    (hv : w0.cell? ad = some v) : Ev P N B w0 ds pu F L ⟨dst, .load t x, ty, p, af, gd⟩ v :=
  .of_run fun a w hf hw => by
    have hc := (hw.farCell hb hn).trans hv
    simp [execOp, Instr.loadAt, Instr.sureAddr, hf.eval hx, run_loadVar_one (tab_ok hT.one h1) hc]
theorem Ev.load_far_agg (hT : TOK P T) {t : TypeId} {x : Operand} {ad : Addr} {n : Nat} (vs : List Value) (hx : evo F x = some (.pointer (some ad))) (h1 : lkG T.agg t = some n) (hlen : vs.length = n) (hb : ad.block < w0.heap.size)
    (hn : ∀ e, e ∈ L → e.1 ≠ ad.block) (hv : ∀ j v, vs[j]? = some v → w0.cell? (ad.add j) = some v) : Ev P N B w0 ds pu F L ⟨dst, .load t x, ty, p, af, gd⟩ (.agg vs.toArray) :=
  .of_run fun a w hf hw => by
    have hc : ∀ j u, vs[j]? = some u → w.cell? (ad.add j) = some u := fun j u hj => (hw.farCell (by rw [add_block]; exact hb) (by rw [add_block]; exact hn)).trans (hv j u hj)
    simp [execOp, Instr.loadAt, Instr.sureAddr, hf.eval hx, run_loadVar_agg (tab_ok hT.agg h1) hlen hc]
theorem indexAt_run (hT : TOK P T) {t e es : Nat} (hs : lkG T.sl t = some (e, es)) (ad : Addr) (n c : Nat) (k : IntKind) (j : Int) (h0 : 0 ≤ j) (h1 : j < n) (w : World) :
    (Instr.indexAt t (.slice (some ad) n c) (.int k j)).run P w = .ok (.pointer (some (ad.add (j.toNat * es)))) w := by
  have h := tab_ok hT.sl hs
  unfold slOf at h
  cases hu : P.underlying t with
  | none => rw [hu] at h; cases h
  | some d =>
    rw [hu] at h
    cases d <;> simp at h
    rename_i e'
    obtain ⟨i, hi, rfl, rfl⟩ := h
    have hz := sizeOf_run hi w
    simp [Instr.indexAt, asIntOf, run_underlying hu, h0, h1, hz]
theorem Ev.indexAddr (hT : TOK P T) {t e es : Nat} {x i : Operand} {ad : Addr} {n c : Nat} {k : IntKind} {j : Nat} (hx : evo F x = some (.slice (some ad) n c)) (hi : evo F i = some (.int k (j : Int)))
    (hs : lkG T.sl t = some (e, es)) (h1 : j < n) : Ev P N B w0 ds pu F L ⟨dst, .indexAddr t x i, ty, p, af, gd⟩ (.pointer (some (ad.add (j * es)))) :=
  .of_run fun a w hf hw => by
    have := indexAt_run hT hs ad n c k (j : Int) (by omega) (by omega) w
    simp only [Int.toNat_natCast] at this
    simp [execOp, hf.eval hx, hf.eval hi, this]
theorem Ev.indexAddr_int (hT : TOK P T) {t e es : Nat} {x i : Operand} {ad : Addr} {n c : Nat} {k : IntKind} {q : Int} (j : Nat) (hx : evo F x = some (.slice (some ad) n c)) (hi : evo F i = some (.int k q)) (hq : q = (j : Int))
    (hs : lkG T.sl t = some (e, es)) (h1 : j < n) : Ev P N B w0 ds pu F L ⟨dst, .indexAddr t x i, ty, p, af, gd⟩ (.pointer (some (ad.add (j * es)))) := by
  subst hq
  exact Ev.indexAddr hT hx hi hs h1
def i64in (x : Int) : Prop := -9223372036854775808 ≤ x ∧ x ≤ 9223372036854775807
theorem wrap_in {x : Int} (h : i64in x) : IntKind.i64.wrap x = x := by unfold i64in at h; rw [IntKind.wrap_i64]; omega
theorem eqGuard_run {op : BinOp} {t : TypeId} {x y : Operand} {k j : IntKind} {m n : Int} (w : World) : (eqGuard op t x y (.int k m) (.int j n)).run P w = .ok () w := by
  unfold eqGuard
  cases op <;> simp
theorem Ev.add {x y : Operand} {t u : TypeId} {m n : Int} (hx : evo F x = some (.int .i64 m)) (hy : evo F y = some (.int .i64 n)) (h : i64in (m + n)) :
    Ev P N B w0 ds pu F L ⟨dst, .binOp .add t x y u, ty, p, af, gd⟩ (.int .i64 (m + n)) :=
  .of_run fun a w hf hw => by simp [execOp, hf.eval hx, hf.eval hy, eqGuard_run, binOp, Op.intArith, wrap_in h]
theorem Ev.sub {x y : Operand} {t u : TypeId} {m n : Int} (hx : evo F x = some (.int .i64 m)) (hy : evo F y = some (.int .i64 n)) (h : i64in (m - n)) :
    Ev P N B w0 ds pu F L ⟨dst, .binOp .sub t x y u, ty, p, af, gd⟩ (.int .i64 (m - n)) :=
  .of_run fun a w hf hw => by simp [execOp, hf.eval hx, hf.eval hy, eqGuard_run, binOp, Op.intArith, wrap_in h]
theorem Ev.mul {x y : Operand} {t u : TypeId} {m n : Int} (hx : evo F x = some (.int .i64 m)) (hy : evo F y = some (.int .i64 n)) (h : i64in (m * n)) :
    Ev P N B w0 ds pu F L ⟨dst, .binOp .mul t x y u, ty, p, af, gd⟩ (.int .i64 (m * n)) :=
  .of_run fun a w hf hw => by simp [execOp, hf.eval hx, hf.eval hy, eqGuard_run, binOp, Op.intArith, wrap_in h]
theorem tdiv_in {m n : Int} (hm : i64in m) (hn : 1 ≤ n) : i64in (m.tdiv n) := by
  unfold i64in at *
  rcases Int.lt_or_le m 0 with h | h
  · have e : m.tdiv n = -((-m).tdiv n) := by rw [Int.neg_tdiv]; omega
    have h1 : 0 ≤ (-m).tdiv n := Int.tdiv_nonneg (by omega) (by omega)
    have h2 : (-m).tdiv n ≤ -m := by rw [Int.tdiv_eq_ediv_of_nonneg (by omega)]; exact Int.ediv_le_self _ (by omega)
    omega
  · have h1 : 0 ≤ m.tdiv n := Int.tdiv_nonneg h (by omega)
    have h2 : m.tdiv n ≤ m := by rw [Int.tdiv_eq_ediv_of_nonneg h]; exact Int.ediv_le_self _ h
    omega
theorem Ev.quo {x y : Operand} {t u : TypeId} {m n : Int} (hx : evo F x = some (.int .i64 m)) (hy : evo F y = some (.int .i64 n)) (hn : 1 ≤ n) (hm : i64in m) :
    Ev P N B w0 ds pu F L ⟨dst, .binOp .quo t x y u, ty, p, af, gd⟩ (.int .i64 (m.tdiv n)) :=
  .of_run fun a w hf hw => by
    have h0 : n ≠ 0 := by omega
    simp [execOp, hf.eval hx, hf.eval hy, eqGuard_run, binOp, Op.intDiv, h0, wrap_in (tdiv_in hm hn)]
theorem Ev.rem {x y : Operand} {t u : TypeId} {k : IntKind} {m n : Int} (hx : evo F x = some (.int k m)) (hy : evo F y = some (.int k n)) (hn : n ≠ 0) :
    Ev P N B w0 ds pu F L ⟨dst, .binOp .rem t x y u, ty, p, af, gd⟩ (.int k (m.tmod n)) :=
  .of_run fun a w hf hw => by simp [execOp, hf.eval hx, hf.eval hy, eqGuard_run, binOp, Op.intDiv, hn]
theorem Ev.lss {x y : Operand} {t u : TypeId} {k : IntKind} {m n : Int} (hx : evo F x = some (.int k m)) (hy : evo F y = some (.int k n)) :
    Ev P N B w0 ds pu F L ⟨dst, .binOp .lss t x y u, ty, p, af, gd⟩ (.bool (decide (m < n))) :=
  .of_run fun a w hf hw => by simp [execOp, hf.eval hx, hf.eval hy, eqGuard_run, binOp, Op.intCmp]
theorem Ev.leq {x y : Operand} {t u : TypeId} {k : IntKind} {m n : Int} (hx : evo F x = some (.int k m)) (hy : evo F y = some (.int k n)) :
    Ev P N B w0 ds pu F L ⟨dst, .binOp .leq t x y u, ty, p, af, gd⟩ (.bool (decide (m ≤ n))) :=
  .of_run fun a w hf hw => by simp [execOp, hf.eval hx, hf.eval hy, eqGuard_run, binOp, Op.intCmp]
theorem Ev.gtr {x y : Operand} {t u : TypeId} {k : IntKind} {m n : Int} (hx : evo F x = some (.int k m)) (hy : evo F y = some (.int k n)) :
    Ev P N B w0 ds pu F L ⟨dst, .binOp .gtr t x y u, ty, p, af, gd⟩ (.bool (decide (n < m))) :=
  .of_run fun a w hf hw => by simp [execOp, hf.eval hx, hf.eval hy, eqGuard_run, binOp, Op.intCmp]
theorem Ev.geq {x y : Operand} {t u : TypeId} {k : IntKind} {m n : Int} (hx : evo F x = some (.int k m)) (hy : evo F y = some (.int k n)) :
    Ev P N B w0 ds pu F L ⟨dst, .binOp .geq t x y u, ty, p, af, gd⟩ (.bool (decide (n ≤ m))) :=
  .of_run fun a w hf hw => by simp [execOp, hf.eval hx, hf.eval hy, eqGuard_run, binOp, Op.intCmp]
theorem Ev.eql {x y : Operand} {t u : TypeId} {k : IntKind} {m n : Int} (hx : evo F x = some (.int k m)) (hy : evo F y = some (.int k n)) :
    Ev P N B w0 ds pu F L ⟨dst, .binOp .eql t x y u, ty, p, af, gd⟩ (.bool (decide (m = n))) :=
  .of_run fun a w hf hw => by
    have : (m == n) = decide (m = n) := rfl
    simp [execOp, hf.eval hx, hf.eval hy, eqGuard_run, binOp, Op.intCmp, this]
theorem Ev.neq {x y : Operand} {t u : TypeId} {k : IntKind} {m n : Int} (hx : evo F x = some (.int k m)) (hy : evo F y = some (.int k n)) :
    Ev P N B w0 ds pu F L ⟨dst, .binOp .neq t x y u, ty, p, af, gd⟩ (.bool (decide (m ≠ n))) :=
  .of_run fun a w hf hw => by
    have : (m != n) = decide (m ≠ n) := by by_cases h : m = n <;> simp [h]
    simp [execOp, hf.eval hx, hf.eval hy, eqGuard_run, binOp, Op.intCmp, this]
theorem Ev.neg {x : Operand} {t : TypeId} {m : Int} (hx : evo F x = some (.int .i64 m)) (h : i64in (-m)) : Ev P N B w0 ds pu F L ⟨dst, .unOp .neg t x, ty, p, af, gd⟩ (.int .i64 (-m)) :=
  .of_run fun a w hf hw => by
    have := wrap_in h
    simp [execOp, hf.eval hx, Op.unary, Op.intArith, this]
theorem Ev.not {x : Operand} {t : TypeId} {b : Bool} (hx : evo F x = some (.bool b)) : Ev P N B w0 ds pu F L ⟨dst, .unOp .not t x, ty, p, af, gd⟩ (.bool !b) :=
  .of_run fun a w hf hw => by simp [execOp, hf.eval hx, Op.unary]
theorem Ev.extract {x : Operand} {i : Nat} {vs : List Value} {v : Value} (hx : evo F x = some (.tuple vs.toArray)) (hv : vs[i]? = some v) : Ev P N B w0 ds pu F L ⟨dst, .extract x i, ty, p, af, gd⟩ v :=
  .of_run fun a w hf hw => by simp [execOp, Instr.extract, hf.eval hx, hv]
def callOk (P : Program) (f : FuncId) : Bool :=
  match P.funcs[f]? with
  | some fn => fn.body.isSome && !(fn.name == "runtime.NumGoroutine")
  | none => false
theorem callFunc_run {f : FuncId} (h : callOk P f = true) (args : Array Value) (w : World) : (callFunc f args).run P w = .ok (.enter f args) w := by
  unfold callOk at h
  cases hf : P.funcs[f]? with
  | none => rw [hf] at h; cases h
  | some fn =>
    rw [hf] at h
    simp only [Bool.and_eq_true, Bool.not_eq_true'] at h
    have hb : ¬ fn.body = none := by intro e; rw [e] at h; simp at h
    have hn : ¬ fn.name = "runtime.NumGoroutine" := by simpa using h.2
    simp [callFunc, hf, hn, hb]
theorem callExec_run {f : FuncId} (h : callOk P f = true) {args : Array Operand} {vs : List Value} {c : Operand} {fst cap : List Value} {ats : Array TypeId} {a : Act} (hf : Fits N ds F a)
    (hc : evo F c = some (.func (.func f) fst.toArray cap.toArray)) (ha : evos F args.toList = some vs) (w : World) :
    (execOp a.eval ⟨dst, .call { callee := .value c, args := args, argTypes := ats }, ty, p, af, gd⟩).run P w = .ok (.enter f (fst ++ vs ++ cap).toArray) w := by
  have h1 : args.map a.eval = vs.toArray := by
    apply Array.ext'
    rw [Array.toList_map]
    exact evos_spec hf _ _ ha
  simp [execOp, resolve, hf.eval hc, Deferred.ofValue, invoke, h1, callFunc_run h]
theorem Ev.call {f : FuncId} {args : Array Operand} {vs : List Value} {ats : Array TypeId} {v : Value} (h : callOk P f = true) (ha : evos F args.toList = some vs)
    (hc : ∀ w, Sys B w0 L w → Calls P f vs.toArray w fun e w' => e = .returned v ∧ Below w.heap.size w w') :
    Ev P N B w0 ds True F L ⟨dst, .call { callee := .value (.func f), args := args, argTypes := ats }, ty, p, af, gd⟩ v := .mk fun a w hf hs => by
  have := callExec_run (dst := dst) (ty := ty) (p := p) (af := af) (gd := gd) (ats := ats) h (c := .func f) (fst := []) (cap := []) hf rfl ha w
  simp only [List.nil_append, List.append_nil] at this
  rw [this]
  exact ⟨trivial, rfl, hc w hs⟩
theorem Ev.callv {f : FuncId} {c : Operand} {fst cap : List Value} {args : Array Operand} {vs : List Value} {ats : Array TypeId} {v : Value} (h : callOk P f = true) (hcv : evo F c = some (.func (.func f) fst.toArray cap.toArray))
    (ha : evos F args.toList = some vs) (hc : ∀ w, Sys B w0 L w → Calls P f (fst ++ vs ++ cap).toArray w fun e w' => e = .returned v ∧ Below w.heap.size w w') :
    Ev P N B w0 ds True F L ⟨dst, .call { callee := .value c, args := args, argTypes := ats }, ty, p, af, gd⟩ v := .mk fun a w hf hs => by
  rw [callExec_run (dst := dst) (ty := ty) (p := p) (af := af) (gd := gd) (ats := ats) h hf hcv ha w]
  exact ⟨trivial, rfl, hc w hs⟩
theorem XL.call {f : FuncId} {d : Nat} {c : Operand} {fst cap : List Value} {args : Array Operand} {vs : List Value} {ats : Array TypeId} {ops : Array Oper} {rest : List Oper} {L' : Lo} (h : callOk P f = true)
    (hcv : evo F c = some (.func (.func f) fst.toArray cap.toArray)) (ha : evos F args.toList = some vs) (hd : Nat.blt d N = true) (hL : List.Sublist L' L) (R : World → Value → World → Prop)
    (hc : ∀ w, Sys B w0 L w → Calls P f (fst ++ vs ++ cap).toArray w fun e w' => ∃ v, e = .returned v ∧ R w v w' ∧ Below w.heap.size w w')
    (k : ∀ w v w', Sys B w0 L w → R w v w' → Below w.heap.size w w' → Sys B w0 L w' → XL P N B w' ds Q ops rest ((d, v) :: F) L') :
    XL P N B w0 ds Q ops ({ dst := some d, op := .call { callee := .value c, args := args, argTypes := ats }, type := ty, pos := p, after := af, guard := none } :: rest) F L := by
  refine ⟨fun a w hf hs => ?_⟩
  refine wpList_plain rfl fun K hK => ?_
  unfold Oper.wp
  rw [callExec_run h hf hcv ha w]
  refine (hc w hs).mono fun e w' he => ?_
  obtain ⟨v, rfl, hR, hb⟩ := he
  exact hK _ _ ((k w v w' hs hR hb (hs.below hb)).run _ _ (hf.put hd) ((hs.below hb).rebase hL))
theorem Ev.len_slice (hT : TOK P T) {t e es : Nat} {x : Operand} {A : Option Addr} {n c : Nat} (hx : evo F x = some (.slice A n c)) (hs : lkG T.sl t = some (e, es)) :
    Ev P N B w0 ds pu F L ⟨dst, .call { callee := .builtin .len, args := #[x], argTypes := #[t] }, ty, p, af, gd⟩ (.int .i64 (n : Int)) :=
  .of_run fun a w hf hw => by
    have h := tab_ok hT.sl hs
    unfold slOf at h
    cases hu : P.underlying t with
    | none => rw [hu] at h; cases h
    | some d =>
      rw [hu] at h
      cases d <;> simp at h
      simp [execOp, resolve, invoke, builtin, Builtin.len_, hf.eval hx, run_underlying hu, goInt]
theorem Ev.min {x y : Operand} {ats : Array TypeId} {k : IntKind} {m n : Int} (hx : evo F x = some (.int k m)) (hy : evo F y = some (.int k n)) :
    Ev P N B w0 ds pu F L ⟨dst, .call { callee := .builtin .min, args := #[x, y], argTypes := ats }, ty, p, af, gd⟩ (.int k (Min.min m n)) :=
  .of_run fun a w hf hw => by
    have : (if n < m then n else m) = Min.min m n := by split <;> omega
    simp [execOp, resolve, invoke, builtin, Builtin.min_, Builtin.min2, hf.eval hx, hf.eval hy, this]
theorem Ev.max {x y : Operand} {ats : Array TypeId} {k : IntKind} {m n : Int} (hx : evo F x = some (.int k m)) (hy : evo F y = some (.int k n)) :
    Ev P N B w0 ds pu F L ⟨dst, .call { callee := .builtin .max, args := #[x, y], argTypes := ats }, ty, p, af, gd⟩ (.int k (Max.max m n)) :=
  .of_run fun a w hf hw => by
    have : (if m < n then n else m) = Max.max m n := by split <;> omega
    simp [execOp, resolve, invoke, builtin, Builtin.max_, Builtin.max2, hf.eval hx, hf.eval hy, this]
theorem XL.box {ops : Array Oper} {rest : List Oper} {d : Nat} {x : Operand} {v : Value} {cs : List Value} {t : TypeId} (hx : evo F x = some v) (hcs : cellsO v = some cs) (hd : Nat.blt d N = true)
    (k : ∀ g, w0.heap.size ≤ g → XL P N B w0 ds Q ops rest ((1000000 + d, .slice none L.length 0) :: (d, .pointer (some ⟨g, 0, none⟩)) :: F) ((g, cel t cs) :: L)) :
    XL P N B w0 ds Q ops ({ dst := some d, op := .box t x, type := ty, pos := p, after := af, guard := none } :: rest) F L := by
  refine ⟨fun a w hf hs => ?_⟩
  refine wpList_plain rfl fun K hK => ?_
  unfold Oper.wp
  have : (execOp a.eval { dst := some d, op := .box t x, type := ty, pos := p, after := af, guard := none }).run P w = .ok (.value (.pointer (some ⟨w.heap.size, 0, none⟩))) (w.alloc (.cells cs.toArray t)) := by
    simp [execOp, Instr.box, newVar, newRow, hf.eval hx, cellsO_spec hcs]
  rw [this]
  exact hK _ _ ((k w.heap.size hs.size).run _ _ ((hf.put hd).hint d _) (hs.box (cel t cs)))
theorem storeCells_run {cs : List Value} : ∀ (vs : List Value) (i : Nat) (w : World) (g o : Nat) (ty : TypeId) (cs cs' : List Value), w.heap[g]? = some (.cells cs.toArray ty (0, 0)) → putN cs (o + i) vs = some cs' →
    (∀ v ∈ vs, one1 v = true) → ∃ w', (storeCells ⟨g, o, none⟩ vs i).run P w = .ok () w' ∧ w'.heap[g]? = some (.cells cs'.toArray ty (0, 0)) ∧ w'.os = w.os ∧ w'.tape = w.tape ∧ w'.output = w.output ∧
      w'.heap.size = w.heap.size ∧ ∀ k, k ≠ g → w'.heap[k]? = w.heap[k]? := by
  intro vs
  induction vs with
  | nil => intro i w g o ty cs cs' hg hp _; simp [putN] at hp; subst hp; exact ⟨w, rfl, hg, rfl, rfl, rfl, rfl, fun _ _ => rfl⟩
  | cons v r ih =>
    intro i w g o ty cs cs' hg hp h1
    simp only [putN] at hp
    cases hx : setN cs (o + i) v with
    | none => rw [hx] at hp; cases hp
    | some cs1 =>
      rw [hx] at hp
      obtain ⟨e1, hlt⟩ := setN_spec _ _ _ _ hx
      have hc : w.cell? ⟨g, o + i, none⟩ = some (cs[o + i]) := by simp [World.cell?, hg, hlt]
      have hfz : w.frozen? ⟨g, o + i, none⟩ = false := by simp [World.frozen?, hg]
      have hg1 : (w.setCell ⟨g, o + i, none⟩ v).heap[g]? = some (.cells cs1.toArray ty (0, 0)) := by
        simp [World.setCell, Array.getElem?_modify, hg, e1]
      obtain ⟨w', h2, h3, h4, h5, h6, h7, h8⟩ := ih (i + 1) (w.setCell ⟨g, o + i, none⟩ v) g o ty cs1 cs' hg1 (by rw [show o + (i + 1) = o + i + 1 from by omega]; exact hp) (fun u hu => h1 u (List.mem_cons_of_mem _ hu))
      refine ⟨w', ?_, h3, h4, h5, h6, h7.trans (by simp [World.setCell]), fun k hk => (h8 k hk).trans (Below.heap_setCell _ _ _ _ hk)⟩
      have hst : (store ⟨g, o + i, none⟩ v).run P w = .ok () (w.setCell ⟨g, o + i, none⟩ v) := by
        have hv := h1 v (by simp)
        cases v <;> simp [one1] at hv <;> simp [store, Sem.run, hc, hfz]
      simp only [storeCells, add_off, Sem.run_bind, hst, Result.andThen_ok]
      exact h2
theorem XL.store (hT : TOK P T) (i : Nat) {ops : Array Oper} {rest : List Oper} {t : TypeId} {x y : Operand} {g o : Nat} {tg : TypeId} {v : Value} {cs vs cs' : List Value} {L' : Lo}
    (hx : evo F x = some (.pointer (some ⟨g, o, none⟩))) (hy : evo F y = some v) (hL : L[i]? = some (g, cel tg cs)) (hv : cellsO v = some vs) (hsz : lkG T.one t = some () ∧ vs.length = 1 ∨ lkG T.agg t = some vs.length)
    (h1 : vs.all one1 = true) (hp : putN cs o vs = some cs') (hL' : setN L i (g, cel tg cs') = some L')
    (k : XL P N B w0 ds Q ops rest F L') :
    XL P N B w0 ds Q ops ({ dst := none, op := .store t x y, type := ty, pos := p, after := af, guard := none } :: rest) F L := by
  refine ⟨fun a w hf hs => ?_⟩
  refine wpList_plain rfl fun K hK => ?_
  unfold Oper.wp
  have hmem := List.mem_of_getElem? hL
  obtain ⟨w', h2, h3, h4, h5, h6, h7, h8⟩ := storeCells_run (P := P) (cs := cs) vs 0 w g o tg cs cs' (hs.own _ hmem).2 (by simpa using hp) (by simpa using h1)
  have hsize : (sizeOf t).run P w = .ok vs.length w := by
    rcases hsz with ⟨h, hl⟩ | h
    · rw [hl]; exact (isAgg_of_one (tab_ok hT.one h) w).2
    · exact (isAgg_of_agg (tab_ok hT.agg h) w).2
  have : (execOp a.eval { dst := none, op := .store t x y, type := ty, pos := p, after := af, guard := none }).run P w = .ok .skip w' := by
    simp [execOp, Instr.storeAt, Instr.sureAddr, hf.eval hx, hf.eval hy, storeVar, hsize, cellsO_spec hv, h2]
  rw [this]
  obtain ⟨e1, hlt⟩ := setN_spec _ _ _ _ hL'
  exact hK _ _ (k.run _ _ hf (hs.turn hL e1 h4 h5 h6 (by omega) h3 fun q _ hq => h8 q hq))
end
end X
namespace X
open Go Go.RowKit
def hintOf (F : Fr) : Operand → Option Nat
  | .tmp t => match lk F (1000000 + t) with
    | some (.slice _ i _) => some i
    | _ => none
  | _ => none
def insF (d : Nat) (v : Value) (h : Option Nat) (F : Fr) : Fr :=
  match h with
  | some i => (1000000 + d, .slice none i 0) :: (d, v) :: F
  | none => match lk F (1000000 + d) with
    | some (.slice _ _ _) => (1000000 + d, .tuple #[]) :: (d, v) :: F
    | _ => (d, v) :: F
def insO (d : Nat) (v : Value) (h : Option Nat) (F : Fr) : Option Fr :=
  match h with
  | some i => some ((1000000 + d, .slice none i 0) :: (d, v) :: F)
  | none => match lk F (1000000 + d) with
    | some (.slice _ _ _) => some ((1000000 + d, .tuple #[]) :: (d, v) :: F)
    | _ => some ((d, v) :: F)
theorem insO_spec {d : Nat} {v : Value} {h : Option Nat} {F G : Fr} (e : insO d v h F = some G) : G = insF d v h F := by
  unfold insO at e
  unfold insF
  split at e
  · exact (Option.some.inj e).symm
  · split at e
    · exact (Option.some.inj e).symm
    · exact (Option.some.inj e).symm
def fromEnd (L : Lo) (i : Nat) : Option (Nat × Nat × Obj) :=
  match L[Nat.sub L.length (Nat.succ i)]? with
  | some e => some (Nat.sub L.length (Nat.succ i), e)
  | none => none
def kEq : IntKind → IntKind → Bool
  | .i8, .i8 | .i16, .i16 | .i32, .i32 | .i64, .i64 | .u8, .u8 | .u16, .u16 | .u32, .u32 | .u64, .u64 => true
  | _, _ => false
theorem kEq_eq {k j : IntKind} (h : kEq k j = true) : k = j := by cases k <;> cases j <;> first | rfl | cases h
abbrev Res := Value × Option Nat × Prop
def r2 (F : Fr) (x y : Operand) (f : IntKind → Int → Int → Option Res) : Option Res :=
  match evo F x with
  | some (.int k m) => match evo F y with
    | some (.int j n) => match kEq k j with
      | true => f k m n
      | false => none
    | _ => none
  | _ => none
def bin (op : BinOp) (k : IntKind) (m n : Int) : Option Res :=
  match op with
  | .lss => some (.bool (decide (m < n)), none, True)
  | .leq => some (.bool (decide (m ≤ n)), none, True)
  | .gtr => some (.bool (decide (n < m)), none, True)
  | .geq => some (.bool (decide (n ≤ m)), none, True)
  | .eql => some (.bool (decide (m = n)), none, True)
  | .neq => some (.bool (decide (m ≠ n)), none, True)
  | .add => match k with
    | .i64 => some (.int .i64 (m + n), none, i64in (m + n))
    | _ => none
  | .sub => match k with
    | .i64 => some (.int .i64 (m - n), none, i64in (m - n))
    | _ => none
  | .mul => match k with
    | .i64 => some (.int .i64 (m * n), none, i64in (m * n))
    | _ => none
  | .quo => match k with
    | .i64 => some (.int .i64 (m.tdiv n), none, 1 ≤ n ∧ i64in m)
    | _ => none
  | .rem => some (.int k (m.tmod n), none, n ≠ 0)
  | _ => none
def offOf (T : TT) (s i : Nat) : Option Nat :=
  match lkG T.fld s with
  | some l => match l[i]? with
    | some (k, Nat.succ _, _) => some k
    | _ => none
  | none => none
def fieldV (T : TT) (s i : Nat) (cs : List Value) : Option Value :=
  match lkG T.fld s with
  | some l => match l[i]? with
    | some (k, _, ft) => match lkG T.one ft with
      | some () => cs[k]?
      | none => match lkG T.agg ft with
        | some m => match sliceN cs k m with
          | some vs => some (.agg ⟨vs⟩)
          | none => none
        | none => none
    | none => none
  | none => none
def loadV (T : TT) (t : Nat) (cs : List Value) (o : Nat) : Option Value :=
  match lkG T.one t with
  | some () => cs[o]?
  | none => match lkG T.agg t with
    | some m => match sliceN cs o m with
      | some vs => some (.agg ⟨vs⟩)
      | none => none
    | none => none
def evalOp (T : TT) (L : Lo) (F : Fr) : Op → Option Res
  | .move x => match evo F x with
    | some v => some (v, hintOf F x, True)
    | none => none
  | .assign x => match evo F x with
    | some v => some (v, hintOf F x, True)
    | none => none
  | .fieldAddr s x i => match offOf T s i with
    | some k => match hintOf F x with
      | some h => match evo F x with
        | some (.pointer (some ⟨g, o, none⟩)) => some (.pointer (some ⟨g, Nat.add o k, none⟩), some h, True)
        | _ => none
      | none => match evo F x with
        | some (.pointer (some a)) => some (.pointer (some (a.add k)), none, True)
        | _ => none
    | none => none
  | .field s x i => match evo F x with
    | some (.agg ⟨cs⟩) => match fieldV T s i cs with
      | some v => some (v, none, True)
      | none => none
    | _ => none
  | .load t x => match hintOf F x with
    | some h => match fromEnd L h with
      | some (_, g', .cells ⟨cs⟩ _ (0, 0)) => match evo F x with
        | some (.pointer (some ⟨g, o, none⟩)) => match loadV T t cs o with
          | some v => some (v, none, g' = g)
          | none => none
        | _ => none
      | _ => none
    | none => none
  | .binOp op _ x y _ => r2 F x y (bin op)
  | .unOp .not _ x => match evo F x with
    | some (.bool b) => some (.bool !b, none, True)
    | _ => none
  | .unOp .neg _ x => match evo F x with
    | some (.int .i64 m) => some (.int .i64 (-m), none, i64in (-m))
    | _ => none
  | .extract x i => match evo F x with
    | some (.tuple ⟨vs⟩) => match vs[i]? with
      | some v => some (v, none, True)
      | none => none
    | _ => none
  | .indexAddr t x i => match lkG T.sl t with
    | some (_, es) => match evo F x with
      | some (.slice (some a) n _) => match evo F i with
        | some (.int _ j) => some (.pointer (some (a.add (j.toNat * es))), none, 0 ≤ j ∧ j < (n : Int))
        | _ => none
      | _ => none
    | none => none
  | .call { callee := .builtin .len, args := ⟨[x]⟩, argTypes := ⟨[t]⟩ } => match lkG T.sl t with
    | some _ => match evo F x with
      | some (.slice _ n _) => some (.int .i64 (n : Int), none, True)
      | _ => none
    | none => none
  | .call { callee := .builtin .min, args := ⟨[x, y]⟩, argTypes := _ } => r2 F x y fun k m n => some (.int k (min m n), none, True)
  | .call { callee := .builtin .max, args := ⟨[x, y]⟩, argTypes := _ } => r2 F x y fun k m n => some (.int k (max m n), none, True)
  | .nilCheck x => match evo F x with
    | some (.pointer (some a)) => some (.pointer (some a), hintOf F x, True)
    | _ => none
  | _ => none
def runOps (T : TT) (N : Nat) (L : Lo) : List Oper → Fr → Prop → Option (List Oper × Fr × Prop)
  | [], F, C => some ([], F, C)
  | o :: rest, F, C =>
    match o with
    | { dst := some d, op := op, type := _, pos := _, after := _, guard := none } => match Nat.blt d N with
      | true => match evalOp T L F op with
        | some (v, h, c) => match insO d v h F with
          | some G => runOps T N L rest G (c ∧ C)
          | none => some (o :: rest, F, C)
        | none => some (o :: rest, F, C)
      | false => some (o :: rest, F, C)
    | _ => some (o :: rest, F, C)
def run1 (T : TT) (N : Nat) (L : Lo) : List Oper → Fr → Option (List Oper × Fr × Prop)
  | [], _ => none
  | o :: rest, F =>
    match o with
    | { dst := some d, op := op, type := _, pos := _, after := _, guard := none } => match Nat.blt d N with
      | true => match evalOp T L F op with
        | some (v, h, c) => match insO d v h F with
          | some G' => runOps T N L rest G' (c ∧ True)
          | none => none
        | none => none
      | false => none
    | _ => none
section
variable {P : Program} {T : TT} {N : Nat} {B : Nat} {w0 : World} {ds : List Deferred} {Q : Exit → Act → World → Prop} {F : Fr} {L : Lo} {pu : Prop} {KK : Fr → Prop}
variable {ty : TypeId} {p : String} {af : Array Edge}
theorem r2_some {x y : Operand} {f : IntKind → Int → Int → Option Res} {r : Res} (h : r2 F x y f = some r) : ∃ k m n, evo F x = some (.int k m) ∧ evo F y = some (.int k n) ∧ f k m n = some r := by
  unfold r2 at h
  split at h
  · rename_i k m hx
    split at h
    · rename_i j n hy
      cases hk : kEq k j with
      | true => rw [hk] at h; have := kEq_eq hk; subst this; exact ⟨k, m, n, hx, hy, h⟩
      | false => rw [hk] at h; cases h
    · cases h
  · cases h
theorem fromEnd_some {i p : Nat} {e : Nat × Obj} (h : fromEnd L i = some (p, e)) : L[p]? = some e := by
  unfold fromEnd at h
  split at h
  · rename_i e' he
    have := Option.some.inj h
    simp only [Prod.mk.injEq] at this
    rw [← this.1, ← this.2]; exact he
  · cases h
theorem offOf_some {s i k : Nat} (h : offOf T s i = some k) : ∃ l n ft, lkG T.fld s = some l ∧ l[i]? = some (k, n + 1, ft) := by
  unfold offOf at h
  split at h
  · rename_i l hl
    split at h
    · rename_i k' n ft he
      have := Option.some.inj h
      subst this
      exact ⟨l, n, ft, hl, he⟩
    · cases h
  · cases h
theorem evalOp_ok (hT : TOK P T) {dst : Option Tmp} {op : Op} {ty : TypeId} {p : String} {af : Array Edge} {gd : Option (Nat × Bool)} {v : Value} {h : Option Nat} {c : Prop}
    (he : evalOp T L F op = some (v, h, c)) (hc : c) : Ev P N B w0 ds pu F L ⟨dst, op, ty, p, af, gd⟩ v := by
  unfold evalOp at he
  split at he
  · split at he
    · rename_i hx; cases he; exact Ev.move hx
    · cases he
  · split at he
    · rename_i hx; cases he; exact Ev.assign hx
    · cases he
  · split at he
    · rename_i ho
      obtain ⟨l, n, ft, h1, h2⟩ := offOf_some ho
      split at he
      · split at he
        · rename_i hx; cases he; exact Ev.fieldAddr_loc hT hx h1 h2
        · cases he
      · split at he
        · rename_i hx; cases he; exact Ev.fieldAddr hT hx h1 h2
        · cases he
    · cases he
  · split at he
    · rename_i cs hx
      split at he
      · rename_i u hv
        cases he
        unfold fieldV at hv
        split at hv
        · rename_i l hl
          split at hv
          · rename_i k n ft hi
            split at hv
            · rename_i h1; exact Ev.field_one hT hx hl hi h1 hv
            · split at hv
              · rename_i h1
                split at hv
                · rename_i hs; cases hv; exact Ev.field_agg hT hx hl hi h1 hs
                · cases hv
              · cases hv
          · cases hv
        · cases hv
      · cases he
    · cases he
  · split at he
    · split at he
      · rename_i hfe
        have hL := fromEnd_some hfe
        split at he
        · rename_i hx
          split at he
          · rename_i hv
            cases he
            subst hc
            unfold loadV at hv
            split at hv
            · rename_i h1; exact Ev.load_loc hT _ hx hL h1 hv
            · split at hv
              · rename_i h1
                split at hv
                · rename_i hs; cases hv; exact Ev.load_loc_agg hT _ hx hL h1 hs
                · cases hv
              · cases hv
          · cases he
        · cases he
      · cases he
    · cases he
  · obtain ⟨k, m, n, hx, hy, hb⟩ := r2_some he
    unfold bin at hb
    split at hb
    · cases hb; exact Ev.lss hx hy
    · cases hb; exact Ev.leq hx hy
    · cases hb; exact Ev.gtr hx hy
    · cases hb; exact Ev.geq hx hy
    · cases hb; exact Ev.eql hx hy
    · cases hb; exact Ev.neq hx hy
    · split at hb
      · cases hb; exact Ev.add hx hy hc
      · cases hb
    · split at hb
      · cases hb; exact Ev.sub hx hy hc
      · cases hb
    · split at hb
      · cases hb; exact Ev.mul hx hy hc
      · cases hb
    · split at hb
      · cases hb; exact Ev.quo hx hy hc.1 hc.2
      · cases hb
    · cases hb; exact Ev.rem hx hy hc
    · cases hb
  · split at he
    · rename_i hx; cases he; exact Ev.not hx
    · cases he
  · split at he
    · rename_i hx; cases he; exact Ev.neg hx hc
    · cases he
  · split at he
    · rename_i hx
      split at he
      · rename_i hv; cases he; exact Ev.extract hx hv
      · cases he
    · cases he
  · split at he
    · rename_i hs
      split at he
      · rename_i hx
        split at he
        · rename_i hi
          cases he
          exact Ev.indexAddr_int hT _ hx hi (Int.toNat_of_nonneg hc.1).symm hs (by have := hc.1; have := hc.2; omega)
        · cases he
      · cases he
    · cases he
  · split at he
    · rename_i hs
      split at he
      · rename_i hx; cases he; exact Ev.len_slice hT hx hs
      · cases he
    · cases he
  · obtain ⟨k, m, n, hx, hy, hb⟩ := r2_some he
    cases hb; exact Ev.min hx hy
  · obtain ⟨k, m, n, hx, hy, hb⟩ := r2_some he
    cases hb; exact Ev.max hx hy
  · split at he
    · rename_i hx; cases he; exact Ev.of_run fun a w hf hw => by simp [execOp, hf.eval hx]
    · cases he
  · cases he
theorem Fits.insF_ {a : Act} {d : Nat} {v : Value} (h : Option Nat) (hf : Fits N ds F a) (hd : Nat.blt d N = true) : Fits N ds (insF d v h F) (a.put (some d) v) := by
  unfold insF
  split
  · exact (hf.put hd).hint d _
  · split
    · exact (hf.put hd).hint d _
    · exact hf.put hd
theorem runOps_C : ∀ (ops : List Oper) (F : Fr) (C : Prop) {r : List Oper} {G : Fr} {C' : Prop}, runOps T N L ops F C = some (r, G, C') → C' → C := by
  intro ops
  induction ops with
  | nil => intro F C r G C' h hc; simp only [runOps, Option.some.injEq, Prod.mk.injEq] at h; rw [h.2.2]; exact hc
  | cons o rest ih =>
    intro F C r G C' h hc
    unfold runOps at h
    split at h
    · split at h
      · split at h
        · split at h
          · exact (ih _ _ h hc).2
          · simp only [Option.some.injEq, Prod.mk.injEq] at h; rw [h.2.2]; exact hc
        · simp only [Option.some.injEq, Prod.mk.injEq] at h; rw [h.2.2]; exact hc
      · simp only [Option.some.injEq, Prod.mk.injEq] at h; rw [h.2.2]; exact hc
    · simp only [Option.some.injEq, Prod.mk.injEq] at h; rw [h.2.2]; exact hc
theorem runOps_XL (hT : TOK P T) {all : Array Oper} : ∀ (ops : List Oper) (F : Fr) (C : Prop) {r : List Oper} {G : Fr} {C' : Prop}, runOps T N L ops F C = some (r, G, C') → C' →
    (∀ a w, Fits N ds G a → Sys B w0 L w → wpList P all Q r a w) → ∀ a w, Fits N ds F a → Sys B w0 L w → wpList P all Q ops a w := by
  intro ops
  induction ops with
  | nil => intro F C r G C' h hc k a w hf hs; simp only [runOps, Option.some.injEq, Prod.mk.injEq] at h; obtain ⟨rfl, rfl, _⟩ := h; exact k a w hf hs
  | cons o rest ih =>
    intro F C r G C' h hc k a w hf hs
    unfold runOps at h
    split at h
    · split at h
      · rename_i hd
        split at h
        · rename_i v hh c he
          split at h
          · rename_i hi
            obtain rfl := insO_spec hi
            have hcc := (runOps_C _ _ _ h hc).1
            refine wpList_plain rfl fun K hK => ((evalOp_ok (pu := True) hT he hcc).run a w hf hs).upon fun w' hb => hK _ _ (ih _ _ h hc k _ _ (Fits.insF_ hh hf hd) (hs.below hb))
          · simp only [Option.some.injEq, Prod.mk.injEq] at h; obtain ⟨rfl, rfl, _⟩ := h; exact k a w hf hs
        · simp only [Option.some.injEq, Prod.mk.injEq] at h; obtain ⟨rfl, rfl, _⟩ := h; exact k a w hf hs
      · simp only [Option.some.injEq, Prod.mk.injEq] at h; obtain ⟨rfl, rfl, _⟩ := h; exact k a w hf hs
    · simp only [Option.some.injEq, Prod.mk.injEq] at h; obtain ⟨rfl, rfl, _⟩ := h; exact k a w hf hs
theorem run1_some {ops r : List Oper} {G : Fr} {C : Prop} (h : run1 T N L ops F = some (r, G, C)) : runOps T N L ops F True = some (r, G, C) := by
  unfold run1 at h
  split at h
  · cases h
  · split at h
    · split at h
      · rename_i hd
        split at h
        · rename_i he
          split at h
          · rename_i hi
            unfold runOps
            simp only [hd, he, hi]
            exact h
          · cases h
        · cases h
      · cases h
    · cases h
theorem XL.run1 (hT : TOK P T) {all : Array Oper} {ops r : List Oper} {G : Fr} {C : Prop} (h : run1 T N L ops F = some (r, G, C)) (hc : C) (k : XL P N B w0 ds Q all r G L) : XL P N B w0 ds Q all ops F L :=
  ⟨runOps_XL hT ops F True (run1_some h) hc k.run⟩
theorem Alike.evo_eq {F G : Fr} (h : Alike F G) (x : Operand) : evo F x = evo G x := by
  cases x with
  | tmp t =>
    simp only [evo]
    cases hb : Nat.blt t 1000000 with
    | true => exact h t (Nat.le_of_ble_eq_true hb)
    | false => rfl
  | _ => rfl
theorem Alike.asked_eq {F G : Fr} (h : Alike F G) (ops : Array Oper) (j : Nat) : asked ops F j = asked ops G j := by
  unfold asked
  split
  · rw [h.evo_eq]
  · rfl
theorem Alike.cons {F G : Fr} (h : Alike F G) (d : Nat) (v : Value) : Alike ((d, v) :: F) ((d, v) :: G) := fun t ht => by
  simp only [lk]
  cases Nat.beq d t with
  | true => rfl
  | false => exact h t ht
theorem Alike.putF_ {F G : Fr} (h : Alike F G) (d : Option Nat) (v : Value) : Alike (putF F d v) (putF G d v) := by
  cases d with
  | none => exact h
  | some d => exact h.cons d v
theorem Alike.insF_ (F : Fr) (d : Nat) (v : Value) (h : Option Nat) : Alike ((d, v) :: F) (insF d v h F) := by
  have key : ∀ (u : Value), Alike ((d, v) :: F) ((1000000 + d, u) :: (d, v) :: F) := fun u t ht => by
    conv => rhs; unfold lk
    rw [show Nat.beq (1000000 + d) t = false from by
      cases hb : Nat.beq (1000000 + d) t with
      | true => have := Nat.eq_of_beq_eq_true hb; omega
      | false => rfl]
  unfold insF
  split
  · exact key _
  · split
    · exact key _
    · exact fun _ _ => rfl
theorem Fw0.alike {all : Array Oper} : ∀ (ops : List Oper) (F G : Fr), Alike F G → Fw0 P N B w0 ds pu all L (fun F' => ∃ G', Alike F' G' ∧ KK G') ops G → Fw0 P N B w0 ds pu all L (fun F' => ∃ G', Alike F' G' ∧ KK G') ops F := by
  intro ops
  induction ops with
  | nil => rintro F G h ⟨G', h1, k⟩; exact ⟨G', fun t ht => (h t ht).trans (h1 t ht), k⟩
  | cons o r ih =>
    rintro F G h ⟨v, ⟨hd, hok⟩, hr⟩
    refine ⟨v, ⟨hd, ?_⟩, ih _ _ (h.putF_ _ _) hr⟩
    have hev : ∀ {o : Oper}, Ev P N B w0 ds pu G L o v → Ev P N B w0 ds pu F L o v := fun e => ⟨fun a w hf hs => e.run a w (h.fits hf) hs⟩
    cases hg : o.guard with
    | none => rw [hg] at hok; exact hev hok
    | some gw =>
      obtain ⟨j, wb⟩ := gw
      rw [hg] at hok
      rcases hok with ⟨c, h1, h2, h3⟩ | ⟨h1, h2⟩
      · exact .inl ⟨c, (h.asked_eq all j).trans h1, fun e => hev (h2 e), h3⟩
      · refine .inr ⟨Eq.trans ?_ h1, h2⟩
        unfold askedU
        split
        · rw [h.evo_eq]
        · rfl
theorem runOps_Fw (hT : TOK P T) {all : Array Oper} : ∀ (ops : List Oper) (F : Fr) (C : Prop) {r : List Oper} {G : Fr} {C' : Prop},
    runOps T N L ops F C = some (r, G, C') → C' → Fw0 P N B w0 ds pu all L (fun F' => ∃ G', Alike F' G' ∧ KK G') r G → Fw0 P N B w0 ds pu all L (fun F' => ∃ G', Alike F' G' ∧ KK G') ops F := by
  intro ops
  induction ops with
  | nil => intro F C r G C' h hc k; simp only [runOps, Option.some.injEq, Prod.mk.injEq] at h; obtain ⟨rfl, rfl, _⟩ := h; exact k
  | cons o rest ih =>
    intro F C r G C' h hc k
    unfold runOps at h
    split at h
    · split at h
      · rename_i hd
        split at h
        · rename_i v hh c he
          split at h
          · rename_i hi
            obtain rfl := insO_spec hi
            have hcc := (runOps_C _ _ _ h hc).1
            have hd' := Nat.le_of_ble_eq_true hd
            refine ⟨v, ⟨fun x hx => by have := Option.some.inj hx; subst this; exact hd', evalOp_ok hT he hcc⟩, ?_⟩
            exact Fw0.alike _ _ _ (Alike.insF_ F _ v hh) (ih _ _ h hc k)
          · simp only [Option.some.injEq, Prod.mk.injEq] at h; obtain ⟨rfl, rfl, _⟩ := h; exact k
        · simp only [Option.some.injEq, Prod.mk.injEq] at h; obtain ⟨rfl, rfl, _⟩ := h; exact k
      · simp only [Option.some.injEq, Prod.mk.injEq] at h; obtain ⟨rfl, rfl, _⟩ := h; exact k
    · simp only [Option.some.injEq, Prod.mk.injEq] at h; obtain ⟨rfl, rfl, _⟩ := h; exact k
theorem Fw.run1 (hT : TOK P T) {all : Array Oper} {ops r : List Oper} {G : Fr} {C : Prop} (h : run1 T N L ops F = some (r, G, C)) (hc : C) (k : Fw P N B w0 ds pu KK all L r G) : Fw P N B w0 ds pu KK all L ops F :=
  ⟨runOps_Fw hT ops F True (run1_some h) hc k.run⟩
def sizeOk (T : TT) (t : Nat) (vs : List Value) : Bool :=
  match lkG T.one t with
  | some _ => match vs with
    | [_] => true
    | _ => false
  | none => match lkG T.agg t with
    | some n => Nat.beq n vs.length
    | none => false
def evalStore (T : TT) (F : Fr) (L : Lo) (t : TypeId) (x y : Operand) : Option (Lo × Prop) :=
  match hintOf F x with
  | some i => match fromEnd L i with
    | some (p, (g', .cells ⟨cs⟩ tg (0, 0))) => match evo F x with
      | some (.pointer (some ⟨g, o, none⟩)) => match evo F y with
        | some v => match cellsO v with
          | some vs => match sizeOk T t vs with
            | true => match vs.all one1 with
              | true => match putN cs o vs with
                | some cs' => match setN L p (g', cel tg cs') with
                  | some L' => some (L', g' = g)
                  | none => none
                | none => none
              | false => none
            | false => none
          | none => none
        | none => none
      | _ => none
    | _ => none
  | none => none
theorem sizeOk_spec {t : Nat} {vs : List Value} (h : sizeOk T t vs = true) : lkG T.one t = some () ∧ vs.length = 1 ∨ lkG T.agg t = some vs.length := by
  unfold sizeOk at h
  split at h
  · rename_i h1
    split at h
    · exact .inl ⟨h1, rfl⟩
    · cases h
  · split at h
    · rename_i n h2
      have := Nat.eq_of_beq_eq_true h
      subst this
      exact .inr h2
    · cases h
theorem XL.store1 (hT : TOK P T) {ops : Array Oper} {rest : List Oper} {t : TypeId} {x y : Operand} {L' : Lo} {C : Prop} (h : evalStore T F L t x y = some (L', C)) (hc : C)
    (k : XL P N B w0 ds Q ops rest F L') : XL P N B w0 ds Q ops ({ dst := none, op := .store t x y, type := ty, pos := p, after := af, guard := none } :: rest) F L := by
  unfold evalStore at h
  split at h
  · split at h
    · rename_i hL
      split at h
      · rename_i hx
        split at h
        · rename_i hy
          split at h
          · rename_i hv
            split at h
            · rename_i hs
              split at h
              · rename_i h1
                split at h
                · rename_i hp
                  split at h
                  · rename_i hl
                    simp only [Option.some.injEq, Prod.mk.injEq] at h
                    obtain ⟨rfl, rfl⟩ := h
                    obtain rfl := hc
                    exact XL.store hT _ hx hy (fromEnd_some hL) hv (sizeOk_spec hs) h1 hp hl k
                  · cases h
                · cases h
              · cases h
            · cases h
          · cases h
        · cases h
      · cases h
    · cases h
  · cases h
theorem XL.id {ops : Array Oper} {l : List Oper} (h : XL P N B w0 ds Q ops l F L) : XL P N B w0 ds Q ops l F L := h
theorem XC.id {c : Code} (h : XC P N B w0 ds Q c F L) : XC P N B w0 ds Q c F L := h
theorem XE.id {e : Exit} (h : XE N B w0 ds Q e F L) : XE N B w0 ds Q e F L := h
theorem Fw.id {ops : Array Oper} {l : List Oper} (h : Fw P N B w0 ds pu KK ops L l F) : Fw P N B w0 ds pu KK ops L l F := h
end
end X
namespace X
open Go Go.RowKit
theorem add_add (a : Addr) (i j : Nat) : (a.add i).add j = a.add (i + j) := by
  unfold Addr.add
  by_cases hi : i = 0 <;> by_cases hj : j = 0 <;> simp [hi, hj, Nat.add_assoc]
theorem add_lt {a : Addr} {B j : Nat} (h : a.block < B) : (a.add j).block < B := by rw [add_block]; exact h
theorem add_lt2 {a : Addr} {B i j : Nat} (h : a.block < B) : ((a.add i).add j).block < B := add_lt (add_lt h)
def Reads (w : World) (B size : Nat) (A : Option Addr) (n : Nat) (xs : List Value) : Prop :=
  xs.length = n * size ∧ (0 < n → ∃ ad, A = some ad ∧ ad.block < B ∧ ∀ j u, xs[j]? = some u → w.cell? (ad.add j) = some u)
section
variable {w w' : World} {B B' size n : Nat} {A : Option Addr} {xs : List Value}
theorem Reads.none_ : Reads w B size A 0 [] := ⟨by simp, fun h => absurd h (by omega)⟩
theorem Reads.addr (h : Reads w B size A n xs) (hn : 0 < n) : ∃ ad, A = some ad ∧ ad.block < B := by
  obtain ⟨ad, e, hb, _⟩ := h.2 hn
  exact ⟨ad, e, hb⟩
theorem Reads.at_ {ad : Addr} (h : Reads w B size (some ad) n xs) {k j : Nat} (hk : k < n) (hj : j < size) : ∃ u, xs[k * size + j]? = some u ∧ w.cell? ((ad.add (k * size)).add j) = some u := by
  obtain ⟨ad', e, hb, hc⟩ := h.2 (by omega)
  obtain rfl := Option.some.inj e
  have h1 : k * size + size ≤ n * size := by rw [← Nat.succ_mul]; exact Nat.mul_le_mul_right _ hk
  have hl : k * size + j < xs.length := by rw [h.1]; omega
  exact ⟨xs[k * size + j], List.getElem?_eq_getElem hl, by rw [add_add]; exact hc _ _ (List.getElem?_eq_getElem hl)⟩
theorem Reads.keep (h : Reads w B size A n xs) (hk : ∀ p : Addr, p.block < B → w'.cell? p = w.cell? p) : Reads w' B size A n xs :=
  ⟨h.1, fun hn => by
    obtain ⟨ad, e, hb, hc⟩ := h.2 hn
    exact ⟨ad, e, hb, fun j u hu => (hk _ (by rw [add_block]; exact hb)).trans (hc j u hu)⟩⟩
theorem Reads.more (h : Reads w B size A n xs) (hB : B ≤ B') : Reads w B' size A n xs :=
  ⟨h.1, fun hn => by
    obtain ⟨ad, e, hb, hc⟩ := h.2 hn
    exact ⟨ad, e, by omega, hc⟩⟩
theorem Reads.below (h : Reads w B size A n xs) (hb : Below B w w') : Reads w' B size A n xs := h.keep fun _ hp => hb.cell hp
end
def ints (l : List Int) : List Value := l.map (.int .i64)
theorem ints_len (l : List Int) : (ints l).length = l.length := by simp [ints]
theorem flat_len {α : Type} (f : α → List Value) (s : Nat) (hs : ∀ x, (f x).length = s) : ∀ l : List α, (l.flatMap f).length = l.length * s := by
  intro l
  induction l with
  | nil => simp
  | cons x l ih => simp [hs, ih, Nat.succ_mul]; omega
theorem flat_at {α : Type} (f : α → List Value) (s : Nat) (hs : ∀ x, (f x).length = s) : ∀ (l : List α) (k j : Nat) (x : α), l[k]? = some x → j < s → (l.flatMap f)[k * s + j]? = (f x)[j]? := by
  intro l
  induction l with
  | nil => intro k j x h; simp at h
  | cons y l ih =>
    intro k j x h hj
    cases k with
    | zero =>
      simp only [List.getElem?_cons_zero, Option.some.injEq] at h
      subst h
      simp only [List.flatMap_cons, Nat.zero_mul, Nat.zero_add]
      rw [List.getElem?_append_left (by rw [hs]; exact hj)]
    | succ k =>
      simp only [List.flatMap_cons]
      rw [List.getElem?_append_right (by rw [hs, Nat.succ_mul]; omega), hs, show (k + 1) * s + j - s = k * s + j from by rw [Nat.succ_mul]; omega]
      exact ih k j x (by simpa using h) hj
theorem Reads.fld {α : Type} {w : World} {B s n : Nat} {ad : Addr} {f : α → List Value} (hs : ∀ x, (f x).length = s) {l : List α} (h : Reads w B s (some ad) n (l.flatMap f)) {k j : Nat} {x : α} {u : Value}
    (hx : l[k]? = some x) (hj : (f x)[j]? = some u) : w.cell? ((ad.add (k * s)).add j) = some u := by
  have hjs : j < s := by have := (List.getElem?_eq_some_iff.1 hj).1; rw [hs] at this; exact this
  have hk : k < n := by
    have h1 := h.1
    rw [flat_len f s hs] at h1
    have h2 := (List.getElem?_eq_some_iff.1 hx).1
    have : l.length = n := Nat.eq_of_mul_eq_mul_right (by omega) h1
    omega
  obtain ⟨v, hv, hc⟩ := h.at_ hk hjs
  rw [flat_at f s hs l k j x hx hjs, hj] at hv
  rw [hc, ← hv]
theorem Reads.len {α : Type} {w : World} {B s n : Nat} {A : Option Addr} {f : α → List Value} (hs : ∀ x, (f x).length = s) (h0 : 0 < s) {l : List α} (h : Reads w B s A n (l.flatMap f)) : l.length = n := by
  have h1 := h.1
  rw [flat_len f s hs] at h1
  exact Nat.eq_of_mul_eq_mul_right h0 h1
end X
namespace X
open Go Go.RowKit
theorem ba_beq (a b : ByteArray) : (a == b) = decide (a = b) := by
  obtain ⟨x⟩ := a
  obtain ⟨y⟩ := b
  show (x == y) = _
  rw [Bool.eq_iff_iff]
  simp
theorem ba_list (a b : ByteArray) : (a.toList == b.toList) = decide (a = b) := by
  rw [Bool.eq_iff_iff]
  simp only [beq_iff_eq, decide_eq_true_eq, ByteArray.toList_eq]
  constructor
  · intro h; exact ByteArray.ext (Array.toList_inj.1 h)
  · intro h; rw [h]
def mapO (kvs : List (Value × Value)) : Obj := .map (kvs.zipIdx.map fun x => ({ key := x.1.1, val := x.1.2, born := x.2 } : MapEntry)).toArray kvs.length
def strKV (kvs : List (ByteArray × Value)) : List (Value × Value) := kvs.map fun e => (.string e.1, e.2)
def mapS (kvs : List (ByteArray × Value)) : Obj := mapO (strKV kvs)
def findS (kvs : List (ByteArray × Value)) (k : ByteArray) : Option Value := (kvs.find? fun e => decide (k = e.1)).map (·.2)
section
variable {P : Program} {T : TT} {N : Nat} {B : Nat} {w0 : World} {ds : List Deferred} {Q : Exit → Act → World → Prop} {F : Fr} {L : Lo} {pu : Prop}
variable {dst : Option Tmp} {ty : TypeId} {p : String} {af : Array Edge} {gd : Option (Nat × Bool)}
theorem zero_run (hT : TOK P T) {t : Nat} {z : Value} (h : lkG T.zero t = some z) (w : World) : (zeroValue t).run P w = .ok z w := by
  have h1 := tab_ok hT.zero h
  unfold zeroOf at h1
  cases hi : P.info? t with
  | none => rw [hi] at h1; cases h1
  | some i => rw [hi] at h1; simp at h1; simp [zeroValue, typeInfo, hi, h1]
theorem XL.alloc (hT : TOK P T) {ops : Array Oper} {rest : List Oper} {d : Nat} {t : TypeId} {v : Value} {cs : List Value} (hz : lkG T.zero t = some v) (hcs : cellsO v = some cs) (hd : Nat.blt d N = true)
    (k : ∀ g, w0.heap.size ≤ g → XL P N B w0 ds Q ops rest ((1000000 + d, .slice none L.length 0) :: (d, .pointer (some ⟨g, 0, none⟩)) :: F) ((g, cel t cs) :: L)) :
    XL P N B w0 ds Q ops ({ dst := some d, op := .alloc t, type := ty, pos := p, after := af, guard := none } :: rest) F L := by
  refine ⟨fun a w hf hs => ?_⟩
  refine wpList_plain rfl fun K hK => ?_
  unfold Oper.wp
  have : (execOp a.eval { dst := some d, op := .alloc t, type := ty, pos := p, after := af, guard := none }).run P w = .ok (.value (.pointer (some ⟨w.heap.size, 0, none⟩))) (w.alloc (.cells cs.toArray t)) := by
    simp [execOp, Instr.alloc, zero_run hT hz, newVar, newRow, cellsO_spec hcs]
  rw [this]
  exact hK _ _ ((k w.heap.size hs.size).run _ _ ((hf.put hd).hint d _) (hs.box (cel t cs)))
theorem Ev.slice_lo (hT : TOK P T) {t e es : Nat} {x lo : Operand} {ad : Addr} {n c : Nat} {k : IntKind} {q : Int} (j : Nat) (hx : evo F x = some (.slice (some ad) n c)) (hlo : evo F lo = some (.int k q)) (hq : q = (j : Int))
    (hs : lkG T.sl t = some (e, es)) (h1 : j ≤ n) (h2 : j < c) : Ev P N B w0 ds pu F L ⟨dst, .slice t x (some lo) none none, ty, p, af, gd⟩ (.slice (some (ad.add (j * es))) (n - j) (c - j)) :=
  .of_run fun a w hf hw => by
    have h := tab_ok hT.sl hs
    unfold slOf at h
    cases hu : P.underlying t with
    | none => rw [hu] at h; cases h
    | some d =>
      rw [hu] at h
      cases d <;> simp at h
      obtain ⟨i, hi, rfl, rfl⟩ := h
      subst hq
      have hz := sizeOf_run hi w
      have hne : ¬ c = j := by omega
      simp [execOp, hf.eval hx, hf.eval hlo, Instr.sliceAt, Instr.slice, run_underlying hu, Instr.sliceBounds, Instr.sliceBound, asIntOf, hz, h1, hne]
theorem Ev.slice_hi (hT : TOK P T) {t e es : Nat} {x hi : Operand} {A : Option Addr} {n c : Nat} {k : IntKind} {q : Int} (j : Nat) (hx : evo F x = some (.slice A n c)) (hhi : evo F hi = some (.int k q)) (hq : q = (j : Int))
    (hs : lkG T.sl t = some (e, es)) (h1 : j ≤ c) : Ev P N B w0 ds pu F L ⟨dst, .slice t x none (some hi) none, ty, p, af, gd⟩ (.slice A j c) :=
  .of_run fun a w hf hw => by
    have h := tab_ok hT.sl hs
    unfold slOf at h
    cases hu : P.underlying t with
    | none => rw [hu] at h; cases h
    | some d =>
      rw [hu] at h
      cases d <;> simp at h
      obtain ⟨i, hi, rfl, rfl⟩ := h
      subst hq
      have hz := sizeOf_run hi w
      have e0 : (fun x : Addr => x.add 0) = id := by funext x; simp [Addr.add]
      simp [execOp, hf.eval hx, hf.eval hhi, Instr.sliceAt, Instr.slice, run_underlying hu, Instr.sliceBounds, Instr.sliceBound, asIntOf, hz, h1, e0]
theorem Ev.len_str {t : TypeId} {x : Operand} {s : ByteArray} (ht : P.underlying t = some .string) (hx : evo F x = some (.string s)) :
    Ev P N B w0 ds pu F L ⟨dst, .call { callee := .builtin .len, args := #[x], argTypes := #[t] }, ty, p, af, gd⟩ (.int .i64 (s.size : Int)) :=
  .of_run fun a w hf hw => by simp [execOp, resolve, invoke, builtin, Builtin.len_, hf.eval hx, run_underlying ht, goInt]
theorem Ev.index_str {t : TypeId} {x i : Operand} {s : ByteArray} {k : IntKind} {j : Nat} (c : Int) (ht : P.underlying t = some .string) (hx : evo F x = some (.string s)) (hi : evo F i = some (.int k (j : Int))) (hj : j < s.size) (hc : c = ((s[j]).toNat : Int)) :
    Ev P N B w0 ds pu F L ⟨dst, .index t x i, ty, p, af, gd⟩ (.int .u8 c) :=
  .of_run fun a w hf hw => by subst hc; simp [execOp, Instr.index, hf.eval hx, hf.eval hi, run_underlying ht, asIntOf, hj]
theorem eqGuard_str {op : BinOp} {t : TypeId} {x y : Operand} {a b : ByteArray} (w : World) : (eqGuard op t x y (.string a) (.string b)).run P w = .ok () w := by
  unfold eqGuard
  cases op <;> simp
theorem Ev.neq_str {x y : Operand} {t u : TypeId} {a b : ByteArray} (hx : evo F x = some (.string a)) (hy : evo F y = some (.string b)) :
    Ev P N B w0 ds pu F L ⟨dst, .binOp .neq t x y u, ty, p, af, gd⟩ (.bool (!decide (a = b))) :=
  .of_run fun c w hf hw => by
    have e1 : (Op.stringOp .neq a b).run P w = .ok (.bool (!decide (a = b))) w := by rw [← ba_list]; rfl
    simp only [execOp, hf.eval hx, hf.eval hy, Sem.run_bind, eqGuard_str, Result.andThen_ok, binOp, e1, Sem.run_pure]
theorem XL.makeMap {ops : Array Oper} {rest : List Oper} {d : Nat} {t : TypeId} (hd : Nat.blt d N = true)
    (k : ∀ g, w0.heap.size ≤ g → XL P N B w0 ds Q ops rest ((d, .map (some g)) :: F) ((g, mapO []) :: L)) :
    XL P N B w0 ds Q ops ({ dst := some d, op := .makeMap t none, type := ty, pos := p, after := af, guard := none } :: rest) F L := by
  refine ⟨fun a w hf hs => ?_⟩
  refine wpList_plain rfl fun K hK => ?_
  unfold Oper.wp
  have : (execOp a.eval { dst := some d, op := .makeMap t none, type := ty, pos := p, after := af, guard := none }).run P w = .ok (.value (.map (some w.heap.size))) (w.alloc (mapO [])) := by
    simp [execOp, Instr.makeMap, mapO]
  rw [this]
  exact hK _ _ ((k w.heap.size hs.size).run _ _ (hf.put hd) (hs.box (mapO [])))
theorem findNow_str (k : ByteArray) : ∀ (kvs : List (ByteArray × Value)) (j i : Nat),
    Instr.findNow .string (.string k) (((strKV kvs).zipIdx j).map fun x => ({ key := x.1.1, val := x.1.2, born := x.2 } : MapEntry)) i =
      some ((kvs.findIdx? fun e => decide (k = e.1)).map fun q => (i + q, ((kvs[q]?).map (·.2)).getD undef)) := by
  intro kvs
  induction kvs with
  | nil => intro j i; simp [strKV, Instr.findNow]
  | cons e kvs ih =>
    intro j i
    simp only [strKV, List.map_cons, List.zipIdx_cons, Instr.findNow, Instr.sameNow]
    rw [ba_beq]
    by_cases h : k = e.1
    · simp [h, List.findIdx?_cons]
    · simp only [h, decide_false, List.findIdx?_cons, Bool.false_eq_true, if_false]
      have := ih (j + 1) (i + 1)
      simp only [strKV] at this
      rw [this]
      cases kvs.findIdx? fun e => decide (k = e.1) with
      | none => rfl
      | some q => simp; omega
theorem findS_idx {kvs : List (ByteArray × Value)} {k : ByteArray} : findS kvs k = (kvs.findIdx? fun e => decide (k = e.1)).map fun q => ((kvs[q]?).map (·.2)).getD undef := by
  unfold findS
  induction kvs with
  | nil => rfl
  | cons e kvs ih =>
    simp only [List.find?_cons, List.findIdx?_cons]
    by_cases h : k = e.1
    · simp [h]
    · simp only [h, decide_false, Bool.false_eq_true, if_false]
      rw [ih]
      cases kvs.findIdx? fun e => decide (k = e.1) with
      | none => rfl
      | some q => simp
theorem findKey_str {kt : TypeId} (hk : P.underlying kt = some .string) (kvs : List (ByteArray × Value)) (k : ByteArray) (w : World) :
    (Instr.findKey kt (.string k) ((strKV kvs).zipIdx.map fun x => ({ key := x.1.1, val := x.1.2, born := x.2 } : MapEntry))).run P w =
      .ok ((kvs.findIdx? fun e => decide (k = e.1)).map fun q => (q, ((kvs[q]?).map (·.2)).getD undef)) w := by
  have := findNow_str k kvs 0 0
  simp only [Nat.zero_add] at this
  simp [Instr.findKey, run_underlying hk, this]
theorem checkKey_str {kt : TypeId} (hk : P.underlying kt = some .string) (b : Bool) (k : ByteArray) (w : World) : (Instr.checkKey b 10000 kt (.string k)).run P w = .ok () w := by
  have h : ∀ n, (Instr.checkKey b (n + 1) kt (.string k)).run P w = .ok () w := fun n => by simp [Instr.checkKey, run_underlying hk]
  exact h 9999
theorem getObj_run {r : Nat} {es : Array MapEntry} {c : Nat} {w : World} (h : w.heap[r]? = some (.map es c)) : (getObj r).run P w = .ok (.map es c) w := by simp [getObj, Sem.run, h]
theorem Sys.obj {w : World} (h : Sys B w0 L w) {i g : Nat} {o : Obj} (hL : L[i]? = some (g, o)) : w.heap[g]? = some o := (h.own _ (List.mem_of_getElem? hL)).2
theorem lookupS_run (hT : TOK P T) {t kt et : TypeId} {z : Value} {kvs : List (ByteArray × Value)} {r : Nat} {k : ByteArray} {w : World} {ok : Bool} (ht : P.underlying t = some (.map kt et)) (hkt : P.underlying kt = some .string)
    (hz : lkG T.zero et = some z) (h : w.heap[r]? = some (mapS kvs)) :
    (Instr.lookup t (.map (some r)) (.string k) ok).run P w = .ok (if ok then .tuple #[(findS kvs k).getD z, .bool (findS kvs k).isSome] else (findS kvs k).getD z) w := by
  have h1 := findKey_str hkt kvs k w
  have h2 := getObj_run (P := P) (show w.heap[r]? = some (.map _ _) from h)
  have h3 := findS_idx (kvs := kvs) (k := k)
  cases hq : kvs.findIdx? fun e => decide (k = e.1) with
  | none =>
    rw [hq] at h1 h3
    simp only [Option.map_none] at h1 h3
    rw [h3]
    simp only [Instr.lookup, Sem.run_bind, run_underlying ht, Result.andThen_ok, h2, Sem.run_pure, checkKey_str hkt, h1, zero_run hT hz]
    cases ok <;> simp
  | some q =>
    rw [hq] at h1 h3
    simp only [Option.map_some] at h1 h3
    rw [h3]
    simp only [Instr.lookup, Sem.run_bind, run_underlying ht, Result.andThen_ok, h2, Sem.run_pure, checkKey_str hkt, h1]
    cases ok <;> simp
theorem Ev.lookupS (hT : TOK P T) (i : Nat) {t kt et : TypeId} {x y : Operand} {z : Value} (kvs : List (ByteArray × Value)) {r : Nat} {k : ByteArray} (hx : evo F x = some (.map (some r))) (hy : evo F y = some (.string k)) (hL : L[i]? = some (r, mapS kvs))
    (ht : P.underlying t = some (.map kt et)) (hkt : P.underlying kt = some .string) (hz : lkG T.zero et = some z) :
    Ev P N B w0 ds pu F L ⟨dst, .lookup t x y false, ty, p, af, gd⟩ ((findS kvs k).getD z) :=
  .of_run fun a w hf hw => by
    have := lookupS_run (k := k) (ok := false) hT ht hkt hz (hw.obj hL)
    simp [execOp, hf.eval hx, hf.eval hy, this]
theorem Ev.lookupV (hT : TOK P T) (i : Nat) {t kt et : TypeId} {x y : Operand} {z v : Value} (kvs : List (ByteArray × Value)) {r : Nat} {k : ByteArray} (hx : evo F x = some (.map (some r))) (hy : evo F y = some (.string k)) (hL : L[i]? = some (r, mapS kvs))
    (ht : P.underlying t = some (.map kt et)) (hkt : P.underlying kt = some .string) (hz : lkG T.zero et = some z) (hv : (findS kvs k).getD z = v) :
    Ev P N B w0 ds pu F L ⟨dst, .lookup t x y false, ty, p, af, gd⟩ v := hv ▸ Ev.lookupS hT i kvs hx hy hL ht hkt hz
theorem mapO_push (kvs : List (Value × Value)) (k v : Value) : mapO (kvs ++ [(k, v)]) = .map (((kvs.zipIdx.map fun x => ({ key := x.1.1, val := x.1.2, born := x.2 } : MapEntry)).toArray).push { key := k, val := v, born := kvs.length }) (kvs.length + 1) := by
  simp [mapO, List.zipIdx_append]
theorem setObj_run {r : Nat} {es : Array MapEntry} {c : Nat} {o : Obj} {w : World} (h : w.heap[r]? = some (.map es c)) : (setObj r o).run P w = .ok () { w with heap := w.heap.setIfInBounds r o } := by simp [setObj, Sem.run, h]
theorem Sys.setObj {w : World} (h : Sys B w0 L w) {i g : Nat} {o o' : Obj} (hL : L[i]? = some (g, o)) {L' : Lo} (hL' : L' = L.set i (g, o')) : Sys B w0 L' { w with heap := w.heap.setIfInBounds g o' } := by
  have hlt : g < w.heap.size := h.lt (List.mem_of_getElem? hL)
  refine h.turn hL hL' rfl rfl rfl (by simp) (by simp [hlt]) fun k _ hk => ?_
  show (w.heap.setIfInBounds g o')[k]? = _
  rw [Array.getElem?_setIfInBounds_ne (by omega)]
theorem XL.updateS (i : Nat) {ops : Array Oper} {rest : List Oper} {t kt et : TypeId} {x y u : Operand} (kvs : List (ByteArray × Value)) {r : Nat} {k : ByteArray} {v : Value} {L' : Lo} (hx : evo F x = some (.map (some r))) (hy : evo F y = some (.string k))
    (hu : evo F u = some v) (hL : L[i]? = some (r, mapS kvs)) (ht : P.underlying t = some (.map kt et)) (hkt : P.underlying kt = some .string) (hn : findS kvs k = none) (hL' : setN L i (r, mapS (kvs ++ [(k, v)])) = some L')
    (c : XL P N B w0 ds Q ops rest F L') :
    XL P N B w0 ds Q ops ({ dst := none, op := .mapUpdate t x y u, type := ty, pos := p, after := af, guard := none } :: rest) F L := by
  refine ⟨fun a w hf hs => ?_⟩
  refine wpList_plain rfl fun K hK => ?_
  unfold Oper.wp
  have hh := hs.obj hL
  have h1 := findKey_str hkt kvs k w
  have h2 := getObj_run (P := P) (show w.heap[r]? = some (.map _ _) from hh)
  have hq : (kvs.findIdx? fun e => decide (k = e.1)) = none := by
    rw [findS_idx] at hn
    cases hq : kvs.findIdx? fun e => decide (k = e.1) with
    | none => rfl
    | some q => rw [hq] at hn; cases hn
  rw [hq] at h1
  simp only [Option.map_none] at h1
  have hlen : (strKV kvs).length = kvs.length := by simp [strKV]
  have e1 : mapS (kvs ++ [(k, v)]) = .map ((((strKV kvs).zipIdx.map fun x => ({ key := x.1.1, val := x.1.2, born := x.2 } : MapEntry)).toArray).push { key := .string k, val := v, born := (strKV kvs).length }) ((strKV kvs).length + 1) := by
    rw [← mapO_push]; simp [mapS, strKV]
  have h3 := setObj_run (P := P) (o := mapS (kvs ++ [(k, v)])) (show w.heap[r]? = some (.map _ _) from hh)
  have : (execOp a.eval { dst := none, op := .mapUpdate t x y u, type := ty, pos := p, after := af, guard := none }).run P w = .ok .skip { w with heap := w.heap.setIfInBounds r (mapS (kvs ++ [(k, v)])) } := by
    rw [e1] at h3 ⊢
    simp only [execOp, hf.eval hx, hf.eval hy, hf.eval hu, Instr.mapUpdate, Sem.run_bind, run_underlying ht, Result.andThen_ok, h2, checkKey_str hkt, h1, h3, Sem.run_pure]
  rw [this]
  exact hK _ _ (c.run _ _ hf (hs.setObj hL (setN_spec _ _ _ _ hL').1))
end
end X
namespace X
open Go Go.RowKit
def only (K : Act → World → Prop) : Exit → Act → World → Prop
  | .normal, a, w => K a w
  | _, _, _ => False
def setAll (D : Array Bool) : List Nat → Array Bool
  | [] => D
  | i :: r => setAll (D.setIfInBounds i true) r
def pureOk (ops : Array Oper) : Array Bool → List Nat → Bool
  | _, [] => Region.noSelect ops
  | D, i :: r => (Region.ready .any ops D).contains i && Region.free .any ops D i && pureOk ops (D.setIfInBounds i true) r
def pickO (ops : Array Oper) : List Nat → List Oper
  | [] => []
  | i :: r => match ops[i]? with
    | some o => o :: pickO ops r
    | none => pickO ops r
section
variable {P : Program} {N : Nat} {B : Nat} {wS w0 : World} {ds : List Deferred} {Q : Exit → Act → World → Prop} {F : Fr} {L Ls : Lo} {ops : Array Oper} {D : Array Bool}
theorem Sys.pick {w : World} {L' : Lo} (h : Sys B w0 L w) (hs : ∀ e, e ∈ L' → e ∈ L) (hn : (L'.map (·.1)).Nodup) (hd : ∀ e, e ∈ L → e ∈ L' ∨ w0.heap.size ≤ e.1) : Sys B w0 L' w := by
  refine ⟨h.os, h.tape, h.output, h.size, h.base, fun k hk hnn => h.old k hk fun e he e1 => ?_, fun e he => h.own e (hs e he), hn⟩
  rcases hd e he with h1 | h1
  · exact hnn e h1 e1
  · omega
variable (P N B wS w0 ds Q Ls ops) in
structure XH (D : Array Bool) (F : Fr) (L : Lo) : Prop where
  run : ∀ fuel a w, D.toList.count false ≤ fuel → Fits N ds F a → Sys B w0 L w → Sys B wS Ls w → wpAnyH P .any ops (only fun a w => Q .normal a w) (Sys B wS Ls) fuel D a w
theorem XC.drawH {id : Nat} {l : List Oper} (wS : World) (Ls : Lo) (hm : P.follows .mixedOrders = true) (hL : ∀ w, Sys B w0 L w → Sys B wS Ls w)
    (h : XH P N B wS w0 ds Q Ls l.toArray (Array.replicate l.toArray.size false) F L) : XC P N B w0 ds Q (.region id l.toArray true) F L := by
  refine ⟨fun a w hf hs => ?_⟩
  refine wp_mono (wp_region_held hm (h.run _ a _ ?_ hf hs.drew (hL _ hs.drew))) fun e a' w' q => ?_
  · simp
  · cases e <;> first | exact q | exact q.elim
theorem ready_count {i : Nat} {fuel : Nat} (hr : i ∈ Region.ready .any ops D) (hc : D.toList.count false ≤ fuel) : ∃ n, fuel = n + 1 ∧ (D.setIfInBounds i true).toList.count false ≤ n := by
  obtain ⟨h0, _⟩ := mem_ready.1 hr
  have hlt : i < D.size := by
    rcases Nat.lt_or_ge i D.size with h | h
    · exact h
    · rw [Array.getD_eq_getD_getElem?, Array.getElem?_eq_none h] at h0; cases h0
  have hn : on D i = false := by
    unfold on
    rw [Array.getD_eq_getD_getElem?] at h0 ⊢
    rw [Array.getElem?_eq_getElem hlt] at h0 ⊢
    exact h0
  have := count_set hlt hn
  exact ⟨fuel - 1, by omega, by omega⟩
theorem pureOk_select : ∀ (idxs : List Nat) (D : Array Bool), pureOk ops D idxs = true → Region.noSelect ops = true := by
  intro idxs
  induction idxs with
  | nil => intro D h; exact h
  | cons i r ih => intro D h; simp only [pureOk, Bool.and_eq_true] at h; exact ih _ h.2
theorem okOp.yieldsIf {o : Oper} {v : Value} {a : Act} (h : okOp P N B w0 ds False ops F Ls o v) (hf : Fits N ds F a) : YieldsIf P ops (Sys B w0 Ls) o v a := by
  obtain ⟨_, h⟩ := h
  cases hg : o.guard with
  | none =>
    rw [hg] at h
    exact .inl ⟨by simp [Region.wanted, hg], fun w hw => (h.run a w hf hw).pure⟩
  | some gw =>
    obtain ⟨j, wb⟩ := gw
    rw [hg] at h
    rcases h with ⟨c, h1, h2, h3⟩ | ⟨h1, h2⟩
    · by_cases hc : c = wb
      · subst hc
        exact .inl ⟨by simp [Region.wanted, hg, asked_spec h1 hf], fun w hw => ((h2 rfl).run a w hf hw).pure⟩
      · have : c = !wb := by cases c <;> cases wb <;> simp_all
        subst this
        exact .inr ⟨by simp [Region.wanted, hg, asked_spec h1 hf], h3 rfl⟩
    · exact .inr ⟨by simp [Region.wanted, hg, askedU_spec h1 hf], h2⟩
theorem XH.pure0 : ∀ (idxs : List Nat) (D : Array Bool) (F : Fr), pureOk ops D idxs = true → Fw0 P N B wS ds False ops Ls (fun F' => ∃ G', Alike F' G' ∧ XH P N B wS w0 ds Q Ls ops (setAll D idxs) G' L) (pickO ops idxs) F →
    XH P N B wS w0 ds Q Ls ops D F L := by
  intro idxs
  induction idxs with
  | nil =>
    rintro D F _ ⟨G', hal, h⟩
    exact ⟨fun fuel a w hc hf hs hS => h.run fuel a w hc (hal.fits hf) hs hS⟩
  | cons i r ih =>
    intro D F hp h
    have hsel := pureOk_select _ _ hp
    simp only [pureOk, Bool.and_eq_true] at hp
    obtain ⟨⟨h1, h2⟩, h3⟩ := hp
    have hmem : i ∈ Region.ready .any ops D := by simpa using h1
    obtain ⟨_, o, ho, _⟩ := mem_ready.1 hmem
    rw [pickO, ho] at h
    obtain ⟨v, hok, h⟩ := h
    refine ⟨fun fuel a w hc hf hs hS => ?_⟩
    obtain ⟨n, rfl, hn⟩ := ready_count hmem hc
    refine wpAnyH_take ho hsel h2 h1 (fun c a w q => q.elim) (hok.yieldsIf hf) hS ?_
    exact (ih _ _ h3 h).run n _ w hn (hf.putF hok.1) hs hS
theorem XH.pure (idxs : List Nat) (hp : pureOk ops D idxs = true) (h : Fw P N B wS ds False (fun F' => XH P N B wS w0 ds Q Ls ops (setAll D idxs) F' L) ops Ls (pickO ops idxs) F) : XH P N B wS w0 ds Q Ls ops D F L :=
  XH.pure0 idxs D F hp h.run
theorem wpOp_of_list {i : Nat} {o : Oper} {a : Act} {w : World} {K : Act → World → Prop} {Q' : Exit → Act → World → Prop} (hi : ops[i]? = some o) (h : wpList P ops (only K) [o] a w) : wpOp P ops Q' i K a w := by
  unfold wpOp
  rw [hi]
  unfold wpList at h
  simp only
  split
  · rename_i hw
    rw [if_pos hw] at h
    rcases h with h | ⟨_, _, _, h⟩
    · refine .inl ?_
      unfold Oper.wp at h ⊢
      generalize (execOp a.eval o).run P w = r at h ⊢
      cases r with
      | ok n w' =>
        cases n <;> simp only [Oper.upon] at h ⊢ <;> first
          | exact h
          | exact Calls.mono h (fun e w'' he => by
              cases e with
              | returned v => exact he
              | panicked c => exact he.elim
              | outgrown => exact he.elim fun _ h => h.elim fun _ h => h.elim)
          | exact Rows.mono h (fun _ _ he => he)
      | halt x w' => cases x <;> simp only [Oper.upon] at h ⊢ <;> exact h.elim
    · exact h.elim
  · rename_i hw
    rw [if_neg hw] at h
    exact h
end
end X
namespace X
open Go Go.RowKit
def fillN (F : Fr) (l : List (Nat × Nat × Nat)) : List Value → List (Nat × Operand) → Option (List Value)
  | cs, [] => some cs
  | cs, (i, x) :: r => match l[i]? with
    | some (off, n + 1, _) => match evo F x with
      | some v => match cellsO v with
        | some vs => match Nat.beq vs.length (n + 1) with
          | true => match putN cs off vs with
            | some cs' => fillN F l cs' r
            | none => none
          | false => none
        | none => none
      | none => none
    | _ => none
theorem putN_fold : ∀ (vs cs : List Value) (o : Nat) (cs' : List Value) (k : Nat), putN cs (o + k) vs = some cs' →
    (vs.zipIdx k).foldl (fun (a : Array Value) (x : Value × Nat) => a.setIfInBounds (o + x.2) x.1) cs.toArray = cs'.toArray ∧ cs'.length = cs.length ∧ (vs ≠ [] → o + k + vs.length ≤ cs.length) := by
  intro vs
  induction vs with
  | nil => intro cs o cs' k h; simp only [putN, Option.some.injEq] at h; subst h; simp
  | cons v r ih =>
    intro cs o cs' k h
    simp only [putN] at h
    cases hs : setN cs (o + k) v with
    | none => rw [hs] at h; cases h
    | some cs1 =>
      rw [hs] at h
      obtain ⟨e1, hlt⟩ := setN_spec _ _ _ _ hs
      obtain ⟨h1, h2, h3⟩ := ih cs1 o cs' (k + 1) (by rw [← Nat.add_assoc]; exact h)
      subst e1
      simp only [List.length_set] at h2 h3
      refine ⟨?_, h2, fun _ => ?_⟩
      · simp only [List.zipIdx_cons, List.foldl_cons]
        rw [← h1]
        simp
      · simp only [List.length_cons]
        by_cases hr : r = []
        · subst hr; simp; omega
        · have := h3 hr; omega
section
variable {P : Program} {T : TT} {N : Nat} {B : Nat} {w0 : World} {ds : List Deferred} {Q : Exit → Act → World → Prop} {F : Fr} {L : Lo} {pu : Prop}
variable {dst : Option Tmp} {ty : TypeId} {p : String} {af : Array Edge} {gd : Option (Nat × Bool)}
theorem fillN_spec {a : Act} (hf : Fits N ds F a) {l : List (Nat × Nat × Nat)} {place : Nat → Option (Nat × Nat)} (hp : ∀ i e, l[i]? = some e → place i = some (e.1, e.2.1)) :
    ∀ (ps : List (Nat × Operand)) (cs cs' : List Value), fillN F l cs ps = some cs' → Instr.fill place cs.toArray (ps.map fun x => (x.1, a.eval x.2)) = some cs'.toArray := by
  intro ps
  induction ps with
  | nil => intro cs cs' h; simp only [fillN, Option.some.injEq] at h; subst h; rfl
  | cons e r ih =>
    intro cs cs' h
    obtain ⟨i, x⟩ := e
    simp only [fillN] at h
    split at h
    · rename_i off n ft hi
      split at h
      · rename_i v hx
        split at h
        · rename_i vs hv
          split at h
          · rename_i hs
            split at h
            · rename_i cs1 hpn
              have hs' := Nat.eq_of_beq_eq_true hs
              obtain ⟨h1, h2, h3⟩ := putN_fold vs cs off cs1 0 (by simpa using hpn)
              have hc := cellsO_spec hv
              simp only [List.map_cons, Instr.fill, hp i _ hi, hf.eval hx, hc]
              have hz : vs.toArray.zipIdx = (vs.zipIdx 0).toArray := by simp
              rw [if_neg]
              · rw [hz]
                simp only [List.foldl_toArray]
                have : (List.foldl (fun cs (x : Value × Nat) => cs.setIfInBounds (off + x.2) x.1) cs.toArray (vs.zipIdx 0)) = cs1.toArray := h1
                rw [this]
                exact ih cs1 cs' h
              · intro hgt
                simp only [List.size_toArray, Bool.or_eq_true, decide_eq_true_eq, ne_eq, gt_iff_lt] at hgt
                rcases hgt with hgt | hgt
                · exact hgt hs'
                · by_cases hvs : vs = []
                  · subst hvs; simp at hs'
                  · have := h3 hvs; omega
            · cases h
          · cases h
        · cases h
      · cases h
    · cases h
theorem mapM_run {α β : Type} (f : α → Sem β) (g : α → β) : ∀ (l : List α) (w : World), (∀ x, x ∈ l → (f x).run P w = .ok (g x) w) → (l.mapM f).run P w = .ok (l.map g) w := by
  intro l
  induction l with
  | nil => intro w _; simp
  | cons x l ih =>
    intro w h
    simp [List.mapM_cons, h x (by simp), ih w (fun y hy => h y (List.mem_cons_of_mem _ hy))]
theorem Ev.build (hT : TOK P T) {t : TypeId} {parts : List (Nat × Operand)} {z : Value} {zs cs : List Value} {l : List (Nat × Nat × Nat)} (hs : lkG T.fld t = some l) (hz : lkG T.zero t = some z) (hzs : cellsO z = some zs)
    (hl : (l.all fun e => Nat.blt 0 e.2.1) = true) (hc : fillN F l zs parts = some cs) :
    Ev P N B w0 ds pu F L ⟨dst, .build t parts.toArray, ty, p, af, gd⟩ (.agg cs.toArray) := .of_run fun a w hf hw => by
  have h := tab_ok hT.fld hs
  unfold fldOf at h
  cases hu : P.underlying t with
  | none => rw [hu] at h; cases h
  | some d =>
    rw [hu] at h
    cases d <;> simp at h
    rename_i fs
    have hsz : ∀ f, f ∈ fs.toList → (do pure ((f : Field).offset, ← sizeOf f.type) : Sem (Nat × Nat)).run P w = .ok (f.offset, ((P.info? f.type).map (·.size)).getD 0) w := fun f hfm => by
      cases hi : P.info? f.type with
      | none =>
        rw [List.all_eq_true] at hl
        have := hl (f.offset, ((P.info? f.type).map (·.size)).getD 0, f.type) (by rw [← h]; exact List.mem_map.2 ⟨f, hfm, rfl⟩)
        rw [hi] at this
        simp at this
      | some i => simp [sizeOf_run hi]
    have hm := mapM_run (P := P) (fun f : Field => (do pure (f.offset, ← sizeOf f.type) : Sem (Nat × Nat))) (fun f => (f.offset, ((P.info? f.type).map (·.size)).getD 0)) fs.toList w hsz
    have hfill := fillN_spec hf (l := l) (place := fun i => ((fs.toList.map fun f => (f.offset, ((P.info? f.type).map (·.size)).getD 0)).toArray)[i]?) (fun i e he => by
      rw [← h] at he
      simp only [List.getElem?_map] at he
      simp only [List.getElem?_toArray, List.getElem?_map]
      cases hx : fs.toList[i]? with
      | none => rw [hx] at he; cases he
      | some f => rw [hx] at he; simp at he; subst he; rfl) parts zs cs hc
    have hmA : (fs.mapM fun f : Field => (do pure (f.offset, ← sizeOf f.type) : Sem (Nat × Nat))).run P w = .ok ((fs.toList.map fun f => (f.offset, ((P.info? f.type).map (·.size)).getD 0)).toArray) w := by
      rw [Array.mapM_eq_mapM_toList]
      simp only [Sem.run_map, hm]
      rfl
    simp only [execOp, Instr.build, Sem.run_bind, zero_run hT hz, Result.andThen_ok, run_underlying hu, hmA, cellsO_spec hzs, List.map_toArray]
    rw [hfill]
    simp
theorem Ev.conv {s d : TypeId} {sd : TypeDesc} {k j : IntKind} {n m : Int} {x : Operand} (hs : P.underlying s = some sd) (hd : P.underlying d = some (.int k)) (hx : evo F x = some (.int j n)) (hm : k.wrap n = m) :
    Ev P N B w0 ds pu F L ⟨dst, .convert s d x, ty, p, af, gd⟩ (.int k m) := .of_run fun a w hf hw => by
  simp [execOp, convert, run_underlying hs, run_underlying hd, hf.eval hx, Conv.intToInt, hm]
theorem Ev.shr {x y : Operand} {t u : TypeId} {k j : IntKind} {m n r : Int} (hx : evo F x = some (.int k m)) (hy : evo F y = some (.int j n)) (hn : 0 ≤ n) (hr : m.fdiv (2 ^ (Nat.min n.toNat k.bits)) = r) :
    Ev P N B w0 ds pu F L ⟨dst, .binOp .shr t x y u, ty, p, af, gd⟩ (.int k r) := .of_run fun a w hf hw => by
  have : ¬ n < 0 := by omega
  simp [execOp, hf.eval hx, hf.eval hy, eqGuard_run, binOp, Op.shift, this, ← hr]
theorem Ev.nilCheck {x : Operand} {ad : Addr} (hx : evo F x = some (.pointer (some ad))) : Ev P N B w0 ds pu F L ⟨dst, .nilCheck x, ty, p, af, gd⟩ (.pointer (some ad)) := .of_run fun a w hf hw => by
  simp [execOp, hf.eval hx]
end
end X
namespace X
open Go Go.RowKit
def bindE (e : Edge) : Bool := match e.ground with
  | .textOnly _ => false
  | .gcOnly _ => false
  | _ => true
theorem bindE_eq (e : Edge) : Region.binds .any e = bindE e := by
  unfold Region.binds bindE
  cases e.ground <;> rfl
def inRem : List (Nat × Oper) → Nat → Bool
  | [], _ => false
  | e :: r, i => match Nat.beq e.1 i with
    | true => true
    | false => inRem r i
def freeOf (rem : List (Nat × Oper)) : List Edge → Bool
  | [] => true
  | e :: r => match bindE e with
    | false => freeOf rem r
    | true => match inRem rem e.on with
      | true => false
      | false => freeOf rem r
def readyB (rem : List (Nat × Oper)) (o : Oper) : Bool := freeOf rem o.after.toList
def dropO : List (Nat × Oper) → Nat → Option (List (Nat × Oper))
  | [], _ => some []
  | e :: r, i => match dropO r i with
    | some r' => match Nat.beq e.1 i with
      | true => some r'
      | false => some (e :: r')
    | none => none
def nthO : List Oper → Nat → Option Oper
  | [], _ => none
  | o :: _, 0 => some o
  | _ :: r, n + 1 => nthO r n
def pickR (l : List Oper) : List Nat → Option (List (Nat × Oper))
  | [] => some []
  | i :: r => match pickR l r with
    | some l' => match nthO l i with
      | some o => some ((i, o) :: l')
      | none => none
    | none => none
def partB (n : Nat) (p q : List Nat) : Bool := (List.range n).all (fun i => p.contains i != q.contains i) && q.all (fun i => Nat.blt i n) && decide q.Nodup
theorem inRem_iff {rem : List (Nat × Oper)} {i : Nat} : inRem rem i = true ↔ ∃ o, (i, o) ∈ rem := by
  induction rem with
  | nil => simp [inRem]
  | cons e r ih =>
    unfold inRem
    cases hb : Nat.beq e.1 i with
    | true =>
      have := Nat.eq_of_beq_eq_true hb
      simp only [List.mem_cons, true_iff]
      exact ⟨e.2, .inl (by rw [← this])⟩
    | false =>
      have := Nat.ne_of_beq_eq_false hb
      simp only [List.mem_cons]
      rw [ih]
      constructor
      · rintro ⟨o, h⟩; exact ⟨o, .inr h⟩
      · rintro ⟨o, h | h⟩
        · exact absurd (by rw [← h]) this
        · exact ⟨o, h⟩
theorem freeOf_iff {rem : List (Nat × Oper)} : ∀ {l : List Edge}, freeOf rem l = true ↔ ∀ e ∈ l, Region.binds .any e = true → inRem rem e.on = false := by
  intro l
  induction l with
  | nil => simp [freeOf]
  | cons e r ih =>
    unfold freeOf
    simp only [List.forall_mem_cons, bindE_eq]
    cases hb : bindE e with
    | false => simp only [Bool.false_eq_true, false_implies, true_and]; simp only [bindE_eq] at ih; exact ih
    | true =>
      simp only [true_implies]
      cases hr : inRem rem e.on with
      | true => simp
      | false => simp only [true_and]; simp only [bindE_eq] at ih; exact ih
theorem dropO_spec {i : Nat} : ∀ {rem rem' : List (Nat × Oper)}, dropO rem i = some rem' → rem' = rem.filter fun e => !Nat.beq e.1 i := by
  intro rem
  induction rem with
  | nil => intro rem' h; simp only [dropO, Option.some.injEq] at h; subst h; rfl
  | cons e r ih =>
    intro rem' h
    simp only [dropO] at h
    split at h
    · rename_i r' hr
      have := ih hr
      cases hb : Nat.beq e.1 i with
      | true => rw [hb] at h; simp only [Option.some.injEq] at h; subst h; simp [List.filter_cons, hb, this]
      | false => rw [hb] at h; simp only [Option.some.injEq] at h; subst h; simp [List.filter_cons, hb, this]
    · cases h
theorem nthO_eq : ∀ (l : List Oper) (i : Nat), nthO l i = l[i]? := by
  intro l
  induction l with
  | nil => intro i; rfl
  | cons o r ih => intro i; cases i with
    | zero => rfl
    | succ i => simp [nthO, ih]
theorem pickR_spec {l : List Oper} : ∀ {q : List Nat} {rem : List (Nat × Oper)}, pickR l q = some rem → rem.map (·.1) = q ∧ ∀ e ∈ rem, l[e.1]? = some e.2 := by
  intro q
  induction q with
  | nil => intro rem h; simp only [pickR, Option.some.injEq] at h; subst h; simp
  | cons i r ih =>
    intro rem h
    simp only [pickR] at h
    split at h
    · rename_i l' hl
      split at h
      · rename_i o ho
        simp only [Option.some.injEq] at h
        subst h
        obtain ⟨h1, h2⟩ := ih hl
        rw [nthO_eq] at ho
        refine ⟨by simp [h1], fun e he => ?_⟩
        rcases List.mem_cons.1 he with rfl | he
        · exact ho
        · exact h2 e he
      · cases h
    · cases h
structure RemOk (ops : Array Oper) (D : Array Bool) (rem : List (Nat × Oper)) : Prop where
  size : D.size = ops.size
  at_ : ∀ e ∈ rem, ops[e.1]? = some e.2
  left : ∀ i, i < ops.size → (on D i = false ↔ inRem rem i = true)
  nd : (rem.map (·.1)).Nodup
theorem RemOk.ready {ops : Array Oper} {D : Array Bool} {rem : List (Nat × Oper)} (h : RemOk ops D rem) {i : Nat} (hi : i ∈ Region.ready .any ops D) : ∃ o, (i, o) ∈ rem ∧ readyB rem o = true := by
  obtain ⟨h0, o, ho, hb⟩ := mem_ready.1 hi
  have hlt : i < ops.size := (Array.getElem?_eq_some_iff.1 ho).1
  have hon : on D i = false := by
    unfold on
    have hlt' : i < D.size := by rw [h.size]; exact hlt
    rw [Array.getD_eq_getD_getElem?, Array.getElem?_eq_getElem hlt'] at h0 ⊢
    exact h0
  obtain ⟨o', ho'⟩ := inRem_iff.1 ((h.left i hlt).1 hon)
  have := h.at_ _ ho'
  rw [ho] at this
  obtain rfl := Option.some.inj this
  refine ⟨o, ho', ?_⟩
  unfold readyB
  rw [freeOf_iff]
  intro e he hbd
  have h1 := hb e (by simpa using he) hbd
  cases hr : inRem rem e.on with
  | false => rfl
  | true =>
    obtain ⟨o2, ho2⟩ := inRem_iff.1 hr
    have hlt2 : e.on < ops.size := (Array.getElem?_eq_some_iff.1 (h.at_ _ ho2)).1
    have := (h.left _ hlt2).2 hr
    unfold on at this
    rw [this] at h1; cases h1
theorem RemOk.mem_ready {ops : Array Oper} {D : Array Bool} {rem : List (Nat × Oper)} (h : RemOk ops D rem) {i : Nat} {o : Oper} (hi : (i, o) ∈ rem) (hr : readyB rem o = true)
    (hb : ∀ e ∈ o.after, Region.binds .any e = true → e.on < ops.size) : i ∈ Region.ready .any ops D := by
  have ho := h.at_ _ hi
  have hlt : i < ops.size := (Array.getElem?_eq_some_iff.1 ho).1
  have hon := (h.left i hlt).2 (inRem_iff.2 ⟨o, hi⟩)
  rw [Go.mem_ready]
  refine ⟨?_, o, ho, fun e he hbd => ?_⟩
  · unfold on at hon
    have hlt' : i < D.size := by rw [h.size]; exact hlt
    rw [Array.getD_eq_getD_getElem?, Array.getElem?_eq_getElem hlt'] at hon ⊢
    exact hon
  · unfold readyB at hr
    have h1 := (freeOf_iff.1 hr) e (by simpa using he) hbd
    have h2 := (h.left _ (hb e he hbd))
    rw [h1] at h2
    cases hx : on D e.on with
    | true => exact hx
    | false => exact absurd (h2.1 hx) (by simp)
theorem RemOk.set {ops : Array Oper} {D : Array Bool} {rem rem' : List (Nat × Oper)} (h : RemOk ops D rem) {i : Nat} {o : Oper} (hi : (i, o) ∈ rem) (hd : dropO rem i = some rem') : RemOk ops (D.setIfInBounds i true) rem' := by
  have e := dropO_spec hd
  have hlt : i < ops.size := (Array.getElem?_eq_some_iff.1 (h.at_ _ hi)).1
  have hmem : ∀ x, x ∈ rem' ↔ x ∈ rem ∧ x.1 ≠ i := fun x => by
    rw [e, List.mem_filter]
    constructor
    · rintro ⟨h1, h2⟩
      exact ⟨h1, fun e2 => by rw [e2] at h2; simp at h2⟩
    · rintro ⟨h1, h2⟩
      refine ⟨h1, ?_⟩
      cases hb : Nat.beq x.1 i with
      | true => exact absurd (Nat.eq_of_beq_eq_true hb) h2
      | false => rfl
  refine ⟨by simp [h.size], fun x hx => h.at_ x ((hmem x).1 hx).1, fun j hj => ?_, ?_⟩
  · rw [on_set (by rw [h.size]; exact hlt)]
    have hx : inRem rem' j = true ↔ inRem rem j = true ∧ j ≠ i := by
      rw [inRem_iff, inRem_iff]
      constructor
      · rintro ⟨o, ho⟩; exact ⟨⟨o, ((hmem _).1 ho).1⟩, ((hmem _).1 ho).2⟩
      · rintro ⟨⟨o, ho⟩, hne⟩; exact ⟨o, (hmem _).2 ⟨ho, hne⟩⟩
    rw [hx, ← h.left j hj]
    by_cases hji : j = i
    · subst hji; simp
    · have : (j == i) = false := by simpa using hji
      rw [this]; simp [hji]
  · rw [e]
    exact List.Nodup.sublist (List.filter_sublist.map _) h.nd
section
variable {P : Program} {N : Nat} {B : Nat} {wS w0 : World} {ds : List Deferred} {Q : Exit → Act → World → Prop} {F : Fr} {L Ls : Lo} {ops : Array Oper} {rem rem' : List (Nat × Oper)}
variable (P B wS Q Ls ops) in
def heldR (rem : List (Nat × Oper)) : Exit → Act → World → Prop :=
  only fun a w => Sys B wS Ls w ∧ ∀ D fuel, RemOk ops D rem → D.toList.count false ≤ fuel → wpAnyH P .any ops (only fun a w => Q .normal a w) (Sys B wS Ls) fuel D a w
variable (P N B wS w0 ds Q Ls ops) in
structure XR (rem : List (Nat × Oper)) (F : Fr) (L : Lo) : Prop where
  run : ∀ D fuel a w, RemOk ops D rem → D.toList.count false ≤ fuel → Fits N ds F a → Sys B w0 L w → Sys B wS Ls w → wpAnyH P .any ops (only fun a w => Q .normal a w) (Sys B wS Ls) fuel D a w
variable (P N B wS w0 ds Q Ls ops) in
structure AnyR (rem : List (Nat × Oper)) (F : Fr) (L : Lo) (post : List (Nat × Oper)) (b : Bool) : Prop where
  run : ∀ i o, (i, o) ∈ post → readyB rem o = true → ∃ rem', dropO rem i = some rem' ∧ XL P N B w0 ds (heldR P B wS Q Ls ops rem') ops [o] F L
  some_ : b = true ∨ ∃ i o, (i, o) ∈ post ∧ readyB rem o = true
theorem AnyR.nil : AnyR P N B wS w0 ds Q Ls ops rem F L [] true := ⟨fun _ _ h => (by cases h), .inl rfl⟩
theorem AnyR.skip {i : Nat} {o : Oper} {post : List (Nat × Oper)} {b : Bool} (hr : readyB rem o = false) (h : AnyR P N B wS w0 ds Q Ls ops rem F L post b) : AnyR P N B wS w0 ds Q Ls ops rem F L ((i, o) :: post) b :=
  ⟨fun j p hj hp => by
    rcases List.mem_cons.1 hj with e | hj
    · cases e; rw [hr] at hp; cases hp
    · exact h.run j p hj hp, h.some_.imp id fun ⟨i, o, h1, h2⟩ => ⟨i, o, List.mem_cons_of_mem _ h1, h2⟩⟩
theorem AnyR.go {i : Nat} {o : Oper} {post : List (Nat × Oper)} {b : Bool} (hr : readyB rem o = true) (hd : dropO rem i = some rem') (hx : XL P N B w0 ds (heldR P B wS Q Ls ops rem') ops [o] F L)
    (h : AnyR P N B wS w0 ds Q Ls ops rem F L post true) : AnyR P N B wS w0 ds Q Ls ops rem F L ((i, o) :: post) b :=
  ⟨fun j p hj hp => by
    rcases List.mem_cons.1 hj with e | hj
    · cases e; exact ⟨rem', hd, hx⟩
    · exact h.run j p hj hp, .inr ⟨i, o, List.mem_cons_self, hr⟩⟩
def edgesIn (n : Nat) (rem : List (Nat × Oper)) : Bool := rem.all fun e => e.2.after.toList.all fun x => !Region.binds .any x || Nat.blt x.on n
theorem wpAnyH_noQ {S : World → Prop} {K : Act → World → Prop} {D : Array Bool} {a : Act} {w : World} {n : Nat} (hne : ∃ i, i ∈ Region.ready .any ops D)
    (h : ∀ i ∈ Region.ready .any ops D, wpOp P ops (only K) i (fun a' w' => S w' ∧ wpAnyH P .any ops (only K) S n (D.setIfInBounds i true) a' w') a w) : wpAnyH P .any ops (only K) S (n + 1) D a w :=
  ⟨fun h0 => (by obtain ⟨i, hi⟩ := hne; rw [h0] at hi; cases hi), h⟩
theorem XR.any (hn : edgesIn ops.size rem = true) (h : AnyR P N B wS w0 ds Q Ls ops rem F L rem false) : XR P N B wS w0 ds Q Ls ops rem F L := by
  refine ⟨fun D fuel a w hD hl hf hs hS => ?_⟩
  have hex : ∃ i o, (i, o) ∈ rem ∧ readyB rem o = true := h.some_.resolve_left (by simp)
  obtain ⟨i0, o0, hi0, hr0⟩ := hex
  obtain ⟨n, rfl, _⟩ := ready_count (hD.mem_ready hi0 hr0 fun e he hb => by
      unfold edgesIn at hn
      have := List.all_eq_true.1 hn _ hi0
      have := List.all_eq_true.1 this e (by simpa using he)
      simp only [hb, Bool.not_true, Bool.false_or] at this
      exact Nat.le_of_ble_eq_true this) hl
  refine wpAnyH_noQ ⟨i0, hD.mem_ready hi0 hr0 fun e he hb => ?_⟩ fun i hi => ?_
  · unfold edgesIn at hn
    have := List.all_eq_true.1 hn _ hi0
    have := List.all_eq_true.1 this e (by simpa using he)
    simp only [hb, Bool.not_true, Bool.false_or] at this
    exact Nat.le_of_ble_eq_true this
  · obtain ⟨o, ho, hr⟩ := hD.ready hi
    obtain ⟨rem', hd, hx⟩ := h.run i o ho hr
    obtain ⟨m, e, hm⟩ := ready_count hi hl
    obtain rfl : n = m := by omega
    exact wpOp_mono (fun _ _ q => ⟨q.1, q.2 _ n (hD.set ho hd) hm⟩) (wpOp_of_list (hD.at_ _ ho) (hx.run a w hf hs))
theorem XE.heldR (hS : ∀ w, Sys B w0 L w → Sys B wS Ls w) (h : XR P N B wS w0 ds Q Ls ops rem F L) : XE N B w0 ds (heldR P B wS Q Ls ops rem) .normal F L :=
  ⟨fun a w hf hs => ⟨hS w hs, fun D fuel hD hl => h.run D fuel a w hD hl hf hs (hS w hs)⟩⟩
theorem XR.done (h : XE N B w0 ds Q .normal F L) : XR P N B wS w0 ds Q Ls ops [] F L := by
  refine ⟨fun D fuel a w hD _ hf hs _ => ?_⟩
  have hr : Region.ready .any ops D = [] := by
    cases hx : Region.ready .any ops D with
    | nil => rfl
    | cons i r =>
      obtain ⟨o, ho, _⟩ := hD.ready (i := i) (by rw [hx]; simp)
      cases ho
  exact wpAnyH_done (Q := only fun a w => Q .normal a w) hr (show only (fun a w => Q .normal a w) .normal a w from h.run a w hf hs) fuel
def slotOp (o : Oper) : Bool := match o.guard with
  | some _ => false
  | none => match o.op with
    | .move _ | .assign _ | .extract .. | .makeInterface .. | .build .. | .fieldAddr .. => true
    | _ => false
def firstO (rem : List (Nat × Oper)) : List (Nat × Oper) → Option (Nat × Oper × List (Nat × Oper))
  | [] => none
  | (i, o) :: r => match slotOp o with
    | true => match readyB rem o with
      | true => match dropO rem i with
        | some rem' => some (i, o, rem')
        | none => none
      | false => firstO rem r
    | false => firstO rem r
theorem firstO_spec : ∀ {l : List (Nat × Oper)} {i : Nat} {o : Oper}, firstO rem l = some (i, o, rem') → (i, o) ∈ l ∧ readyB rem o = true ∧ dropO rem i = some rem' := by
  intro l
  induction l with
  | nil => intro i o h; cases h
  | cons e r ih =>
    intro i o h
    obtain ⟨j, p⟩ := e
    simp only [firstO] at h
    split at h
    · split at h
      · rename_i hr
        split at h
        · rename_i r2 hd
          simp only [Option.some.injEq, Prod.mk.injEq] at h
          obtain ⟨rfl, rfl, rfl⟩ := h
          exact ⟨List.mem_cons_self, hr, hd⟩
        · cases h
      · obtain ⟨h1, h2⟩ := ih h; exact ⟨List.mem_cons_of_mem _ h1, h2⟩
    · obtain ⟨h1, h2⟩ := ih h; exact ⟨List.mem_cons_of_mem _ h1, h2⟩
def loneB (ops : Array Oper) (rem : List (Nat × Oper)) (i : Nat) (o : Oper) : Bool :=
  Region.noSelect ops && edgesIn ops.size rem && rem.all fun e => Nat.beq e.1 i || e.2.after.any (fun x => Region.binds .any x && x.on == i) || o.apart ops e.2
theorem XR.take {i : Nat} {o : Oper} (h1 : firstO rem rem = some (i, o, rem')) (hl : loneB ops rem i o = true) (h : Fw P N B wS ds False (fun F' => XR P N B wS w0 ds Q Ls ops rem' F' L) ops Ls [o] F) :
    XR P N B wS w0 ds Q Ls ops rem F L := by
  obtain ⟨hm, hr, hd⟩ := firstO_spec h1
  unfold loneB at hl
  simp only [Bool.and_eq_true] at hl
  obtain ⟨⟨hsel, hein⟩, hap⟩ := hl
  obtain ⟨v, hok, F', hal, hk⟩ := h.run
  refine ⟨fun D fuel a w hD hlen hf hs hS => ?_⟩
  have hrd : i ∈ Region.ready .any ops D := hD.mem_ready hm hr fun e he hb => by
    unfold edgesIn at hein
    have := List.all_eq_true.1 hein _ hm
    have := List.all_eq_true.1 this e (by simpa using he)
    simp only [hb, Bool.not_true, Bool.false_or] at this
    exact Nat.le_of_ble_eq_true this
  obtain ⟨n, rfl, hn⟩ := ready_count hrd hlen
  have hD' := hD.set hm hd
  refine wpAnyH_first (hD.at_ _ hm) (Region.noSelect_spec hsel) (fun c a w q => q.elim) n D a w (fun j oj hj hne hun hno => ?_) hrd (hok.yieldsIf hf) hS ?_
  · have hjs : j < ops.size := (Array.getElem?_eq_some_iff.1 hj).1
    have hon : on D j = false := by
      unfold on
      have hlt' : j < D.size := by rw [hD.size]; exact hjs
      rw [Array.getD_eq_getD_getElem?, Array.getElem?_eq_getElem hlt'] at hun ⊢
      exact hun
    obtain ⟨o', ho'⟩ := inRem_iff.1 ((hD.left j hjs).1 hon)
    have := hD.at_ _ ho'
    rw [hj] at this
    obtain rfl := Option.some.inj this
    have h2 := List.all_eq_true.1 hap _ ho'
    simp only [Bool.or_eq_true] at h2
    rcases h2 with (h2 | h2) | h2
    · exact absurd (Nat.eq_of_beq_eq_true h2) hne
    · obtain ⟨e, he, hb⟩ := Array.any_eq_true'.1 h2
      simp only [Bool.and_eq_true, beq_iff_eq] at hb
      exact absurd hb.2 (hno e he hb.1)
    · exact h2
  · exact hk.run _ n _ w hD' hn (hal.fits (hf.putF hok.1)) hs hS
theorem XC.drawRS {id : Nat} {l : List Oper} (wS : World) (Ls : Lo) (p q : List Nat) (hm : P.follows .mixedOrders = true) (hL : ∀ w, Sys B w0 L w → Sys B wS Ls w) (hr : pickR l q = some rem)
    (hp : (pureOk l.toArray (Array.replicate l.length false) p && partB l.length p q) = true)
    (h : Fw P N B wS ds False (fun F' => XR P N B wS w0 ds Q Ls l.toArray rem F' L) l.toArray Ls (pickO l.toArray p) F) : XC P N B w0 ds Q (.region id l.toArray true) F L := by
  simp only [Bool.and_eq_true] at hp
  refine XC.drawH wS Ls hm hL (XH.pure p (by simpa using hp.1) ?_)
  have key : ∀ F', XR P N B wS w0 ds Q Ls l.toArray rem F' L → XH P N B wS w0 ds Q Ls l.toArray (setAll (Array.replicate l.toArray.size false) p) F' L := by
    intro F' hx
    have hset : ∀ (p : List Nat) (D : Array Bool) (i : Nat), i < D.size → on (setAll D p) i = (on D i || p.contains i) := by
      intro p
      induction p with
      | nil => intro D i _; simp [setAll]
      | cons j r ih =>
        intro D i hi
        rw [setAll, ih _ _ (by simpa using hi)]
        by_cases hj : j < D.size
        · rw [on_set hj]
          simp only [List.contains_cons]
          cases on D i <;> simp
        · have : D.setIfInBounds j true = D := Array.setIfInBounds_eq_of_size_le (by omega)
          rw [this]
          have hne : ¬ i = j := by omega
          simp [List.contains_cons, hne]
    have hsz : ∀ (p : List Nat) (D : Array Bool), (setAll D p).size = D.size := by
      intro p
      induction p with
      | nil => intro D; rfl
      | cons j r ih => intro D; rw [setAll, ih]; simp
    obtain ⟨h1, h2⟩ := pickR_spec hr
    have hpart := hp.2
    unfold partB at hpart
    simp only [Bool.and_eq_true, List.all_eq_true, List.mem_range, decide_eq_true_eq] at hpart
    obtain ⟨⟨h3, h4⟩, h5⟩ := hpart
    have hD : RemOk l.toArray (setAll (Array.replicate l.toArray.size false) p) rem := by
      refine ⟨by rw [hsz]; simp, fun e he => by simpa using h2 e he, fun i hi => ?_, by rw [h1]; exact h5⟩
      have hi' : i < l.length := by simpa using hi
      rw [hset _ _ _ (by simpa using hi')]
      have h6 : on (Array.replicate l.toArray.size false) i = false := by unfold on; simp [hi']
      rw [h6, Bool.false_or]
      have h7 := h3 i hi'
      have h8 : inRem rem i = q.contains i := by
        rw [Bool.eq_iff_iff, inRem_iff, List.contains_iff_mem, ← h1]
        simp only [List.mem_map, Prod.exists, exists_and_right, exists_eq_right]
      rw [h8]
      cases h9 : p.contains i <;> cases h10 : q.contains i <;> rw [h9, h10] at h7 <;> simp_all
    exact ⟨fun fuel a w hc hf hs hS => hx.run _ fuel a w hD hc hf hs hS⟩
  exact ⟨by
    have := h.run
    exact (show ∀ (ops : List Oper) (F : Fr) (K K' : Fr → Prop), (∀ F', K F' → K' F') → Fw0 P N B wS ds False l.toArray Ls K ops F → Fw0 P N B wS ds False l.toArray Ls K' ops F from by
      intro ops
      induction ops with
      | nil => intro F K K' hk h; exact hk _ h
      | cons o r ih => rintro F K K' hk ⟨v, h1, h2⟩; exact ⟨v, h1, ih _ _ _ hk h2⟩) _ _ _ _ (fun F' ⟨G', h1, h2⟩ => ⟨G', h1, key _ h2⟩) this⟩
theorem XC.drawR {id : Nat} {l : List Oper} (Ls : Lo) (p q : List Nat) (hm : P.follows .mixedOrders = true) (hL : ∀ w, Sys B w0 L w → Sys B w0 Ls w) (hr : pickR l q = some rem)
    (hp : (pureOk l.toArray (Array.replicate l.length false) p && partB l.length p q) = true)
    (h : Fw P N B w0 ds False (fun F' => XR P N B w0 w0 ds Q Ls l.toArray rem F' L) l.toArray Ls (pickO l.toArray p) F) : XC P N B w0 ds Q (.region id l.toArray true) F L :=
  XC.drawRS w0 Ls p q hm hL hr hp h
end
end X
namespace X
open Go Go.RowKit
section
variable {P : Program} {T : TT} {N : Nat} {B : Nat} {wS w0 : World} {ds : List Deferred} {Q : Exit → Act → World → Prop} {F : Fr} {L Ls : Lo} {pu : Prop} {ops : Array Oper} {rem rem' : List (Nat × Oper)}
variable {dst : Option Tmp} {ty : TypeId} {p : String} {af : Array Edge} {gd : Option (Nat × Bool)}
theorem XR.id (h : XR P N B wS w0 ds Q Ls ops rem F L) : XR P N B wS w0 ds Q Ls ops rem F L := h
theorem AnyR.id {post : List (Nat × Oper)} {b : Bool} (h : AnyR P N B wS w0 ds Q Ls ops rem F L post b) : AnyR P N B wS w0 ds Q Ls ops rem F L post b := h
theorem Sys.perm {L' : Lo} {w : World} (h : Sys B w0 L w) (hp : List.Perm L L') : Sys B w0 L' w :=
  h.pick (fun e he => hp.mem_iff.2 he) ((hp.map _).nodup_iff.1 h.nd) (fun e he => .inl (hp.mem_iff.1 he))
theorem perm1 {α : Type} {a b : α} {l l' : List α} (h : List.Perm l (b :: l')) : List.Perm (a :: l) (b :: a :: l') := (h.cons a).trans (List.Perm.swap b a l')
theorem perm2 {α : Type} {a b c : α} {l l' : List α} (h : List.Perm l (b :: c :: l')) : List.Perm (a :: l) (b :: c :: a :: l') := (h.cons a).trans ((List.Perm.swap b a _).trans ((List.Perm.swap c a _).cons b))
theorem Sys.anchor {w W w' : World} {L' : Lo} (hB : Below w.heap.size w W) (S : Sys w.heap.size W L w') (hs : ∀ e, e ∈ L' → e ∈ L) (hn : (L'.map (·.1)).Nodup) : Sys w.heap.size w L' w' :=
  ⟨S.os.trans hB.os, S.tape.trans hB.tape, S.output.trans hB.output, Nat.le_trans hB.size S.size, Nat.le_refl _,
   fun k hk _ => by rw [S.old k (Nat.lt_of_lt_of_le hk hB.size) (fun e he e1 => by have := (S.own e he).1; omega), hB.block k hk], fun e he => S.own e (hs e he), hn⟩
variable (N B ds Q) in
def cutQ {σ : Type} (G0 : Fr) (G : σ → Fr) (M : σ → Lo) (W : σ → World) (pre : σ → Prop) : Exit → Act → World → Prop :=
  Exit.then (fun a w => ∃ s, pre s ∧ Fits N ds (G s ++ G0) a ∧ Sys B (W s) (M s) w) Q
theorem XC.cutn {x y : Code} {σ : Type} (ts : List Nat) {G0 : Fr} (hk : keepO F ts = some G0) (G : σ → Fr) (M : σ → Lo) (W : σ → World) (pre : σ → Prop)
    (h : XC P N B w0 ds (cutQ N B ds Q G0 G M W pre) x F L) (k : ∀ s, pre s → XC P N B (W s) ds Q y (G s ++ G0) (M s)) : XC P N B w0 ds (Exit.then (y.wp P Q) Q) x F L :=
  h.mono fun e a w q => by
    cases e with
    | normal => obtain ⟨s, hp, hf, hs⟩ := q; exact (k s hp).run a w hf hs
    | exit id => exact q
    | goto l => exact q
    | ret => exact q
    | panic ch => exact q
    | outgrown => exact q
theorem XC.cutln {x y : Code} {σ : Type} (ts : List Nat) {G0 : Fr} (hk : keepO F ts = some G0) (G : σ → Fr) (M : σ → Lo) (pre : σ → Prop)
    (h : XC P N B w0 ds (cutQ N B ds Q G0 G (fun s => M s ++ L) (fun _ => w0) pre) x F L) (k : ∀ s, pre s → XC P N B w0 ds Q y (G s ++ G0) (M s ++ L)) : XC P N B w0 ds (Exit.then (y.wp P Q) Q) x F L :=
  XC.cutn ts hk G _ _ pre h k
theorem XC.hint {c : Code} (t pos : Nat) (h : XC P N B w0 ds Q c ((1000000 + t, .slice none pos 0) :: F) L) : XC P N B w0 ds Q c F L := ⟨fun a w hf hs => h.run a w (hf.hint t _) hs⟩
theorem XE.hint {e : Exit} (t pos : Nat) (h : XE N B w0 ds Q e ((1000000 + t, .slice none pos 0) :: F) L) : XE N B w0 ds Q e F L := ⟨fun a w hf hs => h.run a w (hf.hint t _) hs⟩
theorem XE.leaf {σ : Type} {G0 : Fr} {G : σ → Fr} {M : σ → Lo} {W : σ → World} {pre : σ → Prop} (s : σ) (hG : Sub (G s ++ G0) F) (hM : ∀ w, Sys B w0 L w → Sys B (W s) (M s) w) (hp : pre s) :
    XE N B w0 ds (cutQ N B ds Q G0 G M W pre) .normal F L := ⟨fun a w hf hs => ⟨s, hp, hG.fits hf, hM w hs⟩⟩
theorem XE.cut_ret {σ : Type} {G0 : Fr} {G : σ → Fr} {M : σ → Lo} {W : σ → World} {pre : σ → Prop} (h : XE N B w0 ds Q .ret F L) : XE N B w0 ds (cutQ N B ds Q G0 G M W pre) .ret F L := ⟨h.run⟩
theorem XE.cut_exit {σ : Type} {G0 : Fr} {G : σ → Fr} {M : σ → Lo} {W : σ → World} {pre : σ → Prop} {id : Nat} (h : XE N B w0 ds Q (.exit id) F L) : XE N B w0 ds (cutQ N B ds Q G0 G M W pre) (.exit id) F L := ⟨h.run⟩
theorem Sys.start {w : World} (hB : B ≤ w.heap.size) (hL : ∀ e, e ∈ L → B ≤ e.1 ∧ w.heap[e.1]? = some e.2) (hn : (L.map (·.1)).Nodup) : Sys B w L w :=
  ⟨rfl, rfl, rfl, Nat.le_refl _, hB, fun _ _ _ => rfl, hL, hn⟩
theorem Sys.start1 {w : World} {g : Nat} {o : Obj} (hB : B ≤ g) (h : w.heap[g]? = some o) : Sys B w [(g, o)] w :=
  Sys.start (by have := (Array.getElem?_eq_some_iff.1 h).1; omega) (fun e he => by simp only [List.mem_singleton] at he; subst he; exact ⟨hB, h⟩) (by simp)
theorem Sys.start2 {w : World} {g h : Nat} {o o' : Obj} (hB : B ≤ g) (hB' : B ≤ h) (hg : w.heap[g]? = some o) (hh : w.heap[h]? = some o') (hne : g ≠ h) : Sys B w [(g, o), (h, o')] w :=
  Sys.start (by have := (Array.getElem?_eq_some_iff.1 hg).1; omega) (fun e he => by
    simp only [List.mem_cons, List.not_mem_nil, or_false] at he
    rcases he with rfl | rfl
    · exact ⟨hB, hg⟩
    · exact ⟨hB', hh⟩) (by simp [hne])
theorem enterL {f : FuncId} {fn : Func} {c : Code} {vs : List Value} {w : World} {R : Ending → World → Prop} {n : Nat} (hf : P.funcs[f]? = some fn) (hb : fn.body = some c) (hN : fn.ntmps = n)
    (hn : Nat.ble vs.length n = true) (S : Sys B w L w) (h : XC P n B w [] (bodyPost P fn R) c (frame 0 vs) L) : Calls P f vs.toArray w R := by
  subst hN
  have hn' := Nat.le_of_ble_eq_true hn
  refine calls_of_wp hf hb (h.run _ w ⟨?_, rfl, fun t v _ hv => ?_⟩ S)
  · simp; omega
  · obtain ⟨_, h2⟩ := lk_frame vs 0 t v hv
    have hlt : t < vs.length := (List.getElem?_eq_some_iff.1 h2).1
    simp only [Array.getD_eq_getD_getElem?]
    rw [Array.getElem?_append_left (by simpa using hlt)]
    simp at h2 ⊢
    rw [h2]; rfl
theorem XL.callr {f : FuncId} {d : Nat} {c : Operand} {fst cap : List Value} {args : Array Operand} {vs : List Value} {ats : Array TypeId} {rest : List Oper} (R : World → Value → World → Prop) (h : callOk P f = true)
    (hcv : evo F c = some (.func (.func f) fst.toArray cap.toArray)) (ha : evos F args.toList = some vs) (hd : Nat.blt d N = true)
    (hc : ∀ w, Sys B w0 L w → Calls P f (fst ++ vs ++ cap).toArray w fun e w' => ∃ v, e = .returned v ∧ R w v w')
    (k : ∀ w v w', Sys B w0 L w → R w v w' → ∃ L' w1, Sys B w1 L' w' ∧ XL P N B w1 ds Q ops rest ((d, v) :: F) L') :
    XL P N B w0 ds Q ops ({ dst := some d, op := .call { callee := .value c, args := args, argTypes := ats }, type := ty, pos := p, after := af, guard := none } :: rest) F L := by
  refine ⟨fun a w hf hs => ?_⟩
  refine wpList_plain rfl fun K hK => ?_
  unfold Oper.wp
  rw [callExec_run h hf hcv ha w]
  refine (hc w hs).mono fun e w' he => ?_
  obtain ⟨v, rfl, hR⟩ := he
  obtain ⟨L', w1, hS, hk⟩ := k w v w' hs hR
  exact hK _ _ (hk.run _ _ (hf.put hd) hS)
theorem Sys.turned {w w' : World} (h : Sys B w0 L w) (i : Nat) {g B' : Nat} {o o' : Obj} (hL : L[i]? = some (g, o)) {L' : Lo} (hL' : setN L i (g, o') = some L') (h' : Sys B' w [(g, o')] w') : Sys B w0 L' w' := by
  obtain ⟨e, _⟩ := setN_spec _ _ _ _ hL'
  have hm := h'.own (g, o') (by simp)
  exact h.turn hL e h'.os h'.tape h'.output h'.size hm.2 (fun k hk hne => h'.old k hk fun e he e2 => by simp only [List.mem_singleton] at he; subst he; exact hne e2.symm)
def methO (P : Program) (t : Nat) (name : String) : Option Nat :=
  match P.info? t with
  | some i => match i.methods.find? (·.name == name) with
    | some m => match m.path.toList, m.func with
      | [], some (f, false) => match P.underlying t with
        | some (.pointer _) => none
        | some _ => some f
        | none => none
      | _, _ => none
    | none => none
  | none => none
theorem method_run {t f : Nat} {name : String} (h : methO P t name = some f) (v : Value) (n : Nat) (w : World) : (method (n + 1) t v name).run P w = .ok (f, v) w := by
  unfold methO at h
  split at h
  · rename_i i hi
    split at h
    · rename_i m hm
      split at h
      · rename_i f' hp hf
        split at h
        · cases h
        · rename_i d hne hu
          have := Option.some.inj h
          subst this
          have hpath : m.path = #[] := Array.ext' hp
          have hr : ∀ wr, (receiverAt t (.val v) false wr).run P w = .ok v w := fun wr => by
            unfold receiverAt
            simp only [Sem.run_bind, run_underlying hu, Result.andThen_ok]
            cases d <;> first | exact absurd rfl (hne _) | simp [Place.get]
          simp only [method, typeInfo, hi, Sem.run_bind]
          simp [hi, hm, hp, hf, follow]
          rw [hr]; rfl
        · cases h
      · cases h
    · cases h
  · cases h
theorem Ev.invoke {t f : Nat} {x : Operand} {name : String} {v r : Value} {args : Array Operand} {vs : List Value} {ats : Array TypeId} (hm : methO P t name = some f) (h : callOk P f = true) (hx : evo F x = some (.iface t v)) (ha : evos F args.toList = some vs)
    (hc : ∀ w, Sys B w0 L w → Calls P f (v :: vs).toArray w fun e w' => e = .returned r ∧ Below w.heap.size w w') :
    Ev P N B w0 ds True F L ⟨dst, .call { callee := .invoke x name, args := args, argTypes := ats }, ty, p, af, gd⟩ r := .mk fun a w hf hs => by
  have h1 : args.map a.eval = vs.toArray := by
    apply Array.ext'
    rw [Array.toList_map]
    exact evos_spec hf _ _ ha
  have h2 : (execOp a.eval ⟨dst, .call { callee := .invoke x name, args := args, argTypes := ats }, ty, p, af, gd⟩).run P w = .ok (.enter f (v :: vs).toArray) w := by
    have h3 := method_run (P := P) hm v (P.types.size + 99) w
    have h4 : P.types.size + Made.depth = P.types.size + 99 + 1 := by simp [Made.depth]
    have h5 : (#[v] ++ vs.toArray : Array Value) = (v :: vs).toArray := by simp
    simp [execOp, resolve, hf.eval hx, h1, Go.invoke, callMethod, h4, h3, h5, callFunc_run h]
  rw [h2]
  exact ⟨trivial, rfl, hc w hs⟩
theorem Ev.makeFunc {fn : Fn} {fst cap : Array Operand} {vs us : List Value} (h1 : evos F fst.toList = some vs) (h2 : evos F cap.toList = some us) :
    Ev P N B w0 ds pu F L ⟨dst, .makeFunc fn fst cap, ty, p, af, gd⟩ (.func fn ⟨vs⟩ ⟨us⟩) := .of_run fun a w hf hw => by
  have e1 : fst.map a.eval = vs.toArray := by apply Array.ext'; rw [Array.toList_map]; exact evos_spec hf _ _ h1
  have e2 : cap.map a.eval = us.toArray := by apply Array.ext'; rw [Array.toList_map]; exact evos_spec hf _ _ h2
  simp [execOp, Instr.makeFunc, e1, e2]
theorem nilAhead_run {t f : Nat} {name : String} (h : methO P t name = some f) (v : Value) (n : Nat) (w : World) : (nilAhead (n + 1) t v name).run P w = .ok (some false) w := by
  unfold methO at h
  split at h
  · rename_i i hi
    split at h
    · rename_i m hm
      split at h
      · rename_i f' hp hf
        split at h
        · cases h
        · rename_i d hne hu
          simp only [nilAhead, typeInfo, hi, Sem.run_bind]
          simp [hi, hm, hp, hf, followBlind, run_underlying hu]
          try (cases d <;> first | exact absurd rfl (hne _) | simp)
        · cases h
      · cases h
    · cases h
  · cases h
theorem Ev.nilCheckM {t f : Nat} {name : String} {x : Operand} {v : Value} (hm : methO P t name = some f) (hx : evo F x = some (.func (.method name) ⟨[.iface t v]⟩ ⟨[]⟩)) :
    Ev P N B w0 ds pu F L ⟨dst, .nilCheck x, ty, p, af, gd⟩ (.func (.method name) ⟨[.iface t v]⟩ ⟨[]⟩) := .of_run fun a w hf hw => by
  have h4 : P.types.size + Made.depth = P.types.size + 99 + 1 := by simp [Made.depth]
  have h3 := nilAhead_run hm v (P.types.size + 99) w
  rw [← h4] at h3
  simp only [execOp, hf.eval hx]
  simp [h3]
variable (T F L) in
def resO : List ResultVar → Option (List Value × Prop)
  | [] => some ([], True)
  | .tmp t :: r => match resO r with
    | some (vs, c) => match evo F (.tmp t) with
      | some v => some (v :: vs, c)
      | none => none
    | none => none
  | .cell t tt :: r => match resO r with
    | some (vs, c) => match hintOf F (.tmp t) with
      | some h => match fromEnd L h with
        | some (_, g', .cells ⟨cs⟩ _ (0, 0)) => match evo F (.tmp t) with
          | some (.pointer (some ⟨g, o, none⟩)) => match loadV T tt cs o with
            | some v => some (v :: vs, g' = g ∧ c)
            | none => none
          | _ => none
        | _ => none
      | none => none
    | none => none
def tupV : List Value → Value
  | [v] => v
  | vs => .tuple ⟨vs⟩
theorem loadV_run (hT : TOK P T) {tt o g : Nat} {cs : List Value} {v : Value} {tg : TypeId} {w : World} {i : Nat} (hw : Sys B w0 L w) (hL : L[i]? = some (g, cel tg cs)) (hv : loadV T tt cs o = some v) : (loadVar tt ⟨g, o, none⟩).run P w = .ok v w := by
  have hmem := List.mem_of_getElem? hL
  unfold loadV at hv
  split at hv
  · rename_i h1
    exact run_loadVar_one (tab_ok hT.one h1) ((hw.cell hmem o).trans hv)
  · split at hv
    · rename_i m h1
      split at hv
      · rename_i vs hs
        cases hv
        obtain ⟨e1, e2⟩ := sliceN_spec _ _ _ _ hs
        refine run_loadVar_agg (tab_ok hT.agg h1) e2 fun j u hj => ?_
        rw [add_off, hw.cell hmem, ← hj, e1, List.getElem?_take]
        have : j < m := by have := (List.getElem?_eq_some_iff.1 hj).1; omega
        rw [if_pos this, List.getElem?_drop]
      · cases hv
    · cases hv
theorem resO_run (hT : TOK P T) {a : Act} {w : World} (hf : Fits N ds F a) (hw : Sys B w0 L w) : ∀ {rs : List ResultVar} {vs : List Value} {c : Prop}, resO T F L rs = some (vs, c) → c →
    (rs.mapM (m := Sem) fun | .tmp t => pure (a.tmps.getD t undef) | .cell x t => do loadVar t (← asAddr (a.tmps.getD x undef))).run P w = .ok vs w := by
  intro rs
  induction rs with
  | nil => intro vs c h _; simp only [resO, Option.some.injEq, Prod.mk.injEq] at h; rw [← h.1]; simp
  | cons r rs ih =>
    intro vs c h hc
    cases r with
    | tmp t =>
      simp only [resO] at h
      split at h
      · rename_i us d hr
        split at h
        · rename_i v hv
          simp only [Option.some.injEq, Prod.mk.injEq] at h
          obtain ⟨rfl, rfl⟩ := h
          have e1 := hf.eval hv
          simp only [Act.eval] at e1
          have h2 := ih hr hc
          simp only [List.mapM_cons, Sem.run_bind, Sem.run_pure, Result.andThen_ok, h2, e1]
        · cases h
      · cases h
    | cell t tt =>
      simp only [resO] at h
      split at h
      · rename_i us d hr
        split at h
        · split at h
          · rename_i hfe
            split at h
            · rename_i hv
              split at h
              · rename_i u hl
                simp only [Option.some.injEq, Prod.mk.injEq] at h
                obtain ⟨rfl, rfl⟩ := h
                have hLi := fromEnd_some hfe
                have e1 := hf.eval hv
                simp only [Act.eval] at e1
                have e2 := hc.1
                subst e2
                have h2 := ih hr hc.2
                have h3 := loadV_run hT hw hLi hl
                simp only [List.mapM_cons, Sem.run_bind]
                rw [e1]
                have h4 : ∀ x, (asAddr (.pointer (some x))).run P w = .ok x w := fun x => by simp [asAddr]
                simp only [h4, Sem.run_bind, Sem.run_pure, Result.andThen_ok, h3, h2]
              · cases h
            · cases h
          · cases h
        · cases h
      · cases h
theorem XE.retg (hT : TOK P T) {fn : Func} {R : Ending → World → Prop} {rs : List ResultVar} {vs : List Value} {c : Prop} (h : fn.results = ⟨rs⟩) (hv : resO T F L rs = some (vs, c)) (hc : c)
    (hR : ∀ w, Sys B w0 L w → R (.returned (tupV vs)) w) : XE N B w0 [] (bodyPost P fn R) .ret F L :=
  ⟨fun a w hf hw => ⟨hf.defers, _, by
    have h1 := resO_run hT hf hw hv hc
    have h2 : (results fn a.tmps).run P w = .ok (tupV vs) w := by
      unfold results
      rw [h, Array.mapM_eq_mapM_toList]
      simp only [Sem.run_bind, Sem.run_map]
      refine (congrArg (fun r : Result (List Value) => (r.andThen fun a w' => Result.ok a.toArray w').andThen fun a w' => Sem.run P (pure (if h : a.size = 1 then a[0] else Value.tuple a)) w') h1).trans ?_
      simp only [Result.andThen_ok, Sem.run_pure]
      cases vs with
      | nil => rfl
      | cons v vs => cases vs with
        | nil => rfl
        | cons u vs => simp [tupV]
    exact h2, hR w hw⟩⟩
end
end X
namespace X
open Go Go.RowKit
def cutLast : List Oper → Option (List Oper × Oper)
  | [] => none
  | [o] => some ([], o)
  | o :: r => match cutLast r with
    | some (l, z) => some (o :: l, z)
    | none => none
theorem cutLast_eq : ∀ {l l1 : List Oper} {z : Oper}, cutLast l = some (l1, z) → l = l1 ++ [z] := by
  intro l
  induction l with
  | nil => intro l1 z h; cases h
  | cons o r ih =>
    intro l1 z h
    cases r with
    | nil => simp only [cutLast, Option.some.injEq, Prod.mk.injEq] at h; obtain ⟨rfl, rfl⟩ := h; rfl
    | cons o2 r2 =>
      simp only [cutLast] at h
      split at h
      · rename_i l' z' hx
        simp only [Option.some.injEq, Prod.mk.injEq] at h
        obtain ⟨rfl, rfl⟩ := h
        rw [ih hx]; rfl
      · cases h
def tailB (l : List Oper) : Bool := (List.range (l.length - 1)).all fun i => (((ahead l [])[l.length - 1]?).getD []).contains i
theorem tailB_spec {l : List Oper} {n : Nat} (h : tailB l = true) (hn : l.length = n + 1) : ∀ i, i < n → i ∈ ((ahead l [])[n]?).getD [] := fun i hi => by
  unfold tailB at h
  rw [List.all_eq_true] at h
  have := h i (List.mem_range.2 (by omega))
  rw [show l.length - 1 = n from by omega] at this
  simpa using this
section
variable {P : Program} {T : TT} {N : Nat} {B : Nat} {w0 : World} {ds : List Deferred} {Q : Exit → Act → World → Prop} {F : Fr} {L : Lo}
theorem XC.drawT {id : Nat} {l l1 : List Oper} {z : Oper} (hm : P.follows .mixedOrders = true) (hcut : cutLast l = some (l1, z)) (hq : l1.all quietO = true) (hc : (edgesOk l && tailB l) = true)
    (h : Fw P N B w0 ds True (fun F' => XL P N B w0 ds Q l.toArray [z] F' L) l.toArray L l1 F) : XC P N B w0 ds Q (.region id l.toArray true) F L := by
  have hl := cutLast_eq hcut
  simp only [Bool.and_eq_true] at hc
  obtain ⟨hc, htl⟩ := hc
  refine ⟨fun a w hf hs => ?_⟩
  obtain ⟨vs1, hmap1, ⟨G', hal, hK⟩, hok⟩ := Fw0.values l1 F h.run
  have hlen1 : vs1.length = l1.length := by rw [← hmap1]; simp
  obtain ⟨vs, hvs⟩ : ∃ vs, vs = vs1 ++ [(z, undef)] := ⟨_, rfl⟩
  have hmap : vs.map (·.1) = l := by rw [hvs, hl]; simp [hmap1]
  have hlen : vs.length = l.length := by rw [← hmap]; simp
  have hll : l.length = l1.length + 1 := by rw [hl]; simp
  have hlow : ∀ (i : Nat) o v, i < l1.length → vs[i]? = some (o, v) → vs1[i]? = some (o, v) := fun i o v hi hx => by rw [hvs, List.getElem?_append_left (by omega)] at hx; exact hx
  have hdN1 : ∀ (i : Nat) o v, vs1[i]? = some (o, v) → ∀ d, o.dst = some d → d < N := fun i o v hi => (hok i o v hi).1
  have hfin : ∀ (D : Array Bool) a' w', (∀ i, i < l1.length → on D i = true) → on D l1.length = false → (∀ t : Nat, a'.tmps[t]? = (runD (on D) 0 vs a).tmps[t]?) → a'.defers = a.defers → Sys B w0 L w' → wpList P l.toArray Q [z] a' w' := by
    intro D a' w' hall hno hpt hdf hs'
    have : a' = runD (fun _ => true) 0 vs1 a := act_ext (fun t => by
      rw [hpt t]
      have e1 := runD_take l1.length vs 0 a
      rw [hvs, List.take_left' hlen1] at e1
      rw [← e1, hvs]
      exact runD_get _ _ t _ 0 _ _ (fun j o v hj _ => by
        have hjl := (List.getElem?_eq_some_iff.1 hj).1
        simp only [List.length_append, List.length_cons, List.length_nil] at hjl
        simp only [Nat.zero_add]
        by_cases hjn : j < l1.length
        · rw [hall j hjn]; simp [hjn]
        · obtain rfl : j = l1.length := by omega
          rw [hno]; simp) rfl rfl) (by rw [hdf, runD_defers])
    rw [this]
    exact hK.run _ _ (hal.fits (runD_all vs1 0 a F hf hdN1)) hs'
  have hzi : l[l1.length]? = some z := by rw [hl]; simp
  have hzb : ∀ D : Array Bool, Closed l D → (∀ j ∈ binds z, on D j = true) → ∀ i, i < l1.length → on D i = true := fun D hcl hb i hi =>
    ahead_closed (edgesOk_low hc) hcl l1.length z hzi hb i (tailB_spec htl hll i hi)
  have key : ∀ fuel (D : Array Bool) a' w', on D l1.length = false → D.size = l.length → Closed l D → D.toList.count false ≤ fuel → (∀ t : Nat, a'.tmps[t]? = (runD (on D) 0 vs a).tmps[t]?) → a'.defers = a.defers →
      Sys B w0 L w' → wpAny P .any l.toArray Q fuel D a' w' := by
    intro fuel
    induction fuel with
    | zero =>
      intro D a' w' hno hsz hcl hcnt hpt hdf hs'
      have := count_set (D := D) (i := l1.length) (by omega) hno
      omega
    | succ fuel ih =>
      intro D a' w' hno hsz hcl hcnt hpt hdf hs'
      refine ⟨fun hr => (by have := all_done hsz (edgesOk_low hc) hr l1.length (by omega); rw [hno] at this; cases this), fun i hi => ?_⟩
      obtain ⟨o, ho, hn, hb⟩ := ready_spec hsz hi
      have hilt : i < l.length := (List.getElem?_eq_some_iff.1 ho).1
      by_cases hil : i = l1.length
      · subst hil
        rw [hzi] at ho
        obtain rfl := Option.some.inj ho
        have hall := hzb D hcl hb
        have hx := hfin D a' w' hall hno hpt hdf hs'
        have hoi : l.toArray[l1.length]? = some z := by simpa using hzi
        refine wpOp_mono (K := fun a w => Q .normal a w) (fun a'' w'' q => ?_) ?_
        · have hr : Region.ready .any l.toArray (D.setIfInBounds l1.length true) = [] := by
            apply List.eq_nil_iff_forall_not_mem.2
            intro j hj
            obtain ⟨o2, ho2, hn2, _⟩ := ready_spec (by simpa using hsz) hj
            have hj2 := (List.getElem?_eq_some_iff.1 ho2).1
            rw [on_set (by omega)] at hn2
            simp only [Bool.or_eq_false_iff, beq_eq_false_iff_ne] at hn2
            rw [hall j (by omega)] at hn2
            cases hn2.1
          exact wpAny_done hr q fuel
        · unfold wpOp
          rw [hoi]
          unfold wpList at hx
          simp only
          split
          · rename_i hw; rw [if_pos hw] at hx; exact hx
          · rename_i hw; rw [if_neg hw] at hx; exact hx
      have hil2 : i < l1.length := by omega
      obtain ⟨v, hv⟩ := map_at hmap ho
      -- the slots that i names hold what they hold in the text's order
      have hsame : ∀ t ∈ names l.toArray o, a'.tmps[t]? = (runD (fun x => decide (x < 0 + i)) 0 vs a).tmps[t]? := by
        intro t ht
        rw [hpt t]
        refine runD_get _ _ t vs 0 _ _ (fun j oj vj hj hdj => ?_) rfl rfl
        simp only [Nat.zero_add]
        by_cases hij : i = j
        · subst hij; rw [hn]; simp
        · exact writer_iff hc hcl ho hn hb (map_at' hmap hj) hdj ht hij
      have hfi : Fits N ds (seqF (vs1.take i) F) (runD (fun x => decide (x < 0 + i)) 0 vs a) := by
        rw [runD_take]
        rw [hvs, List.take_append_of_le_length (by omega)]
        exact runD_all _ 0 a F hf (fun j oj vj hj => by
          rw [List.getElem?_take] at hj
          split at hj
          · exact hdN1 j oj vj hj
          · cases hj)
      have hexec : execOp a'.eval o = execOp (runD (fun x => decide (x < 0 + i)) 0 vs a).eval o := by
        refine execOp_congr o ?_ ?_
        · intro cs b e
          have := (low_at l 0 i o (edgesOk_low hc) ho).2
          simp [notSelect, e] at this
        · intro x hx
          refine eval_of fun t e => hsame t ?_
          subst e
          unfold names Oper.looksAt
          simp only [List.mem_append, List.mem_filterMap]
          exact .inr (.inl ⟨.tmp t, by simpa using hx, rfl⟩)
      -- what follows
      have hgo : ∀ w'', Sys B w0 L w'' → wpAny P .any l.toArray Q fuel (D.setIfInBounds i true) (a'.put o.dst v) w'' := by
        intro w'' hs''
        have hD' : on (D.setIfInBounds i true) = fun x => on D x || x == 0 + i := by funext x; rw [on_set (by omega), Nat.zero_add]
        refine ih _ _ _ (by rw [on_set (by omega), hno]; simp; omega) (by simpa using hsz) ?_ (by have := count_set (D := D) (i := i) (by omega) hn; omega) ?_ (by rw [put_defers]; exact hdf) hs''
        · intro k hk ok hok' j hj
          rw [on_set (by omega)] at hk ⊢
          simp only [Bool.or_eq_true, beq_iff_eq] at hk ⊢
          rcases hk with hk | rfl
          · exact .inl (hcl k hk ok hok' j hj)
          · rw [ho] at hok'
            obtain rfl := Option.some.inj hok'
            exact .inl (hb j hj)
        · intro t
          rw [hD', runD_put (on D) i o v t vs 0 a hv (by rw [Nat.zero_add]; exact hn) (fun j oj vj hj hdj hdo hlt => ?_)]
          · rw [put_get, put_get, hpt t]
            have : a'.tmps.size = (runD (on D) 0 vs a).tmps.size := by
              have e : a'.tmps = (runD (on D) 0 vs a).tmps := Array.ext_getElem? hpt
              rw [e]
            rw [this]
          · rw [Nat.zero_add]
            have := writer_iff hc hcl ho hn hb (map_at' hmap hj) hdj (show t ∈ names l.toArray o by unfold names; simp [hdo]) (by omega)
            rw [this]
            simp; omega
      unfold wpOp
      have hoi : l.toArray[i]? = some o := by simpa using ho
      rw [hoi]
      simp only
      obtain ⟨_, hcase⟩ := hok i o v (hlow i o v hil2 hv)
      cases hg : o.guard with
      | none =>
        rw [hg] at hcase
        simp only at hcase
        rw [if_pos (by simp [Region.wanted, hg])]
        refine .inl ?_
        unfold Oper.wp
        rw [hexec]
        exact (hcase.run _ w' hfi hs').upon fun w'' hb => hgo w'' (hs'.below hb)
      | some gw =>
        obtain ⟨j, wb⟩ := gw
        rw [hg] at hcase
        simp only at hcase
        have hsj : yielded l.toArray a'.tmps j = yielded l.toArray (runD (fun x => decide (x < 0 + i)) 0 vs a).tmps j := by
          unfold yielded
          cases hdj : (l.toArray[j]?).bind (·.dst) with
          | none => rfl
          | some t =>
            simp only [Option.bind_some]
            rw [hsame t (by unfold names Oper.looksAt; rw [hg]; simp only [List.mem_append]; right; right; rw [hdj]; exact List.mem_singleton.2 rfl)]
        rcases hcase with ⟨c, hask, hy, hno⟩ | ⟨hask, hno⟩
        case inr =>
          have hyn : yielded l.toArray a'.tmps j = none := by rw [hsj]; exact askedU_spec hask hfi
          have hwant : Region.wanted o (yielded l.toArray a'.tmps) = false := by simp [Region.wanted, hg, hyn]
          rw [hwant, if_neg (by simp)]
          have := hgo w' hs'
          rw [hno] at this
          exact this
        have hyl : yielded l.toArray a'.tmps j = some c := by
          rw [hsj, asked_spec hask hfi]
        have hwant : Region.wanted o (yielded l.toArray a'.tmps) = (c == wb) := by simp [Region.wanted, hg, hyl]
        rw [hwant]
        by_cases hcw : c = wb
        · rw [if_pos (by simp [hcw])]
          refine .inl ?_
          unfold Oper.wp
          rw [hexec]
          exact ((hy hcw).run _ w' hfi hs').upon fun w'' hb => hgo w'' (hs'.below hb)
        · have hc' : c = !wb := by cases c <;> cases wb <;> simp_all
          rw [if_neg (by simpa using hcw)]
          have := hgo w' hs'
          rw [hno hc'] at this
          exact this
  refine wp_region_any hm (key _ _ _ _ (by unfold on; simp [hll]) (by simp) ?_ ?_ ?_ rfl hs.drew)
  · intro i hi
    exfalso
    unfold on at hi
    simp only [Array.getD_eq_getD_getElem?, Array.getElem?_replicate] at hi
    split at hi <;> simp at hi
  · simp
  · intro t
    have nothing : ∀ (r : List (Oper × Value)) (k : Nat) (a : Act), runD (on (Array.replicate l.toArray.size false)) k r a = a := by
      intro r
      induction r with
      | nil => intro k a; rfl
      | cons x r ih =>
        intro k a
        obtain ⟨o, v⟩ := x
        have : on (Array.replicate l.toArray.size false) k = false := by
          unfold on
          simp only [Array.getD_eq_getD_getElem?, Array.getElem?_replicate]
          split <;> simp
        simp only [runD, this]
        exact ih _ _
    rw [nothing]
variable {pu : Prop} {dst : Option Tmp} {ty : TypeId} {p : String} {af : Array Edge} {gd : Option (Nat × Bool)}
def conB : Option TypeDesc → Bool
  | some (.interface _) => false
  | some _ => true
  | none => false
theorem Ev.makeI {t : Nat} {x : Operand} {v : Value} (hu : conB (P.underlying t) = true) (hx : evo F x = some v) : Ev P N B w0 ds pu F L ⟨dst, .makeInterface t x, ty, p, af, gd⟩ (.iface t v) := .of_run fun a w hf hw => by
  cases h : P.underlying t with
  | none => rw [h] at hu; cases hu
  | some d => rw [h] at hu; cases d <;> first | (simp [execOp, Instr.makeInterface, hf.eval hx, run_underlying h]; done) | cases hu
end
end X
namespace X
open Go Go.RowKit
section
variable {P : Program} {T : TT} {N : Nat} {B : Nat} {wS w0 : World} {ds : List Deferred} {Q : Exit → Act → World → Prop} {F G : Fr} {L L' Ls : Lo} {pu : Prop} {KK : Fr → Prop} {all ops : Array Oper} {l r rest : List Oper} {C : Prop}
variable {d j : Nat} {wb : Bool} {op : Op} {ty : TypeId} {p : String} {af : Array Edge} {rem rem' : List (Nat × Oper)}
theorem Sys.anchor2 {w W w' : World} {L L' : Lo} (hB : Below w.heap.size w W) (S : Sys w.heap.size W L w') (hs : List.Sublist L' L) : Sys w.heap.size w L' w' :=
  S.anchor hB (fun e he => hs.subset he) (S.nd.sublist (hs.map _))
theorem z2 (hT : TOK P T) (h : run1 T N L l F = some (r, G, C)) (k : Fw P N B w0 ds pu KK all L r G) (hc : C := by (repeat (first | exact trivial | exact rfl | refine ⟨trivial, ?_⟩ | refine ⟨rfl, ?_⟩ | refine ⟨by first | assumption | omega | (unfold i64in; omega) | (simp only [decide_eq_true_eq, decide_eq_false_iff_not] at *; omega) | (unfold i64in; simp only [decide_eq_true_eq, decide_eq_false_iff_not] at *; omega), ?_⟩)) <;> fail) : Fw P N B w0 ds pu KK all L l F := Fw.run1 hT h hc k
theorem z3 (hT : TOK P T) {t : TypeId} {x y : Operand} (h : evalStore T F L t x y = some (L', C)) (k : XL P N B w0 ds Q ops rest F L') (hc : C := by (repeat (first | exact trivial | exact rfl | refine ⟨trivial, ?_⟩ | refine ⟨rfl, ?_⟩ | refine ⟨by first | assumption | omega | (unfold i64in; omega) | (simp only [decide_eq_true_eq, decide_eq_false_iff_not] at *; omega) | (unfold i64in; simp only [decide_eq_true_eq, decide_eq_false_iff_not] at *; omega), ?_⟩)) <;> fail) :
    XL P N B w0 ds Q ops ({ dst := none, op := .store t x y, type := ty, pos := p, after := af, guard := none } :: rest) F L := XL.store1 hT h hc k
theorem z4 (h : XR P N B wS w0 ds Q Ls ops rem F L) (hS : ∀ w, Sys B w0 L w → Sys B wS Ls w := by intro w h; first | exact h | exact Sys.pop h (by assumption) | exact Sys.pop (Sys.pop h (by assumption)) (by assumption) | exact Sys.pop (Sys.pop (Sys.pop h (by assumption)) (by assumption)) (by assumption) | exact Sys.pop (Sys.pop (Sys.pop (Sys.pop h (by assumption)) (by assumption)) (by assumption)) (by assumption) | (refine Sys.anchor2 ?_ h ?_; assumption; (repeat (first | exact List.Sublist.refl _ | exact List.nil_sublist _ | refine List.Sublist.cons_cons _ ?_ | refine List.Sublist.cons _ ?_)) <;> fail) | exact Sys.anchor (by assumption) h (by simp) (by simp)) : XE N B w0 ds (heldR P B wS Q Ls ops rem) .normal F L := XE.heldR hS h
end
structure Step (q p : Prop) : Prop where
  run : q → p
section
variable {P : Program} {T : TT} {N : Nat} {B : Nat} {wS w0 : World} {ds : List Deferred} {Q : Exit → Act → World → Prop} {F G : Fr} {L L' Ls : Lo} {pu : Prop} {KK : Fr → Prop} {all ops : Array Oper} {l r rest : List Oper} {C q : Prop}
variable {d j : Nat} {wb : Bool} {op : Op} {ty : TypeId} {p : String} {af : Array Edge} {rem rem' : List (Nat × Oper)} {e : Exit} {c : Code}
theorem Y0 : Step (XE N B w0 ds Q .normal F L) (XL P N B w0 ds Q ops [] F L) := ⟨XL.done⟩
theorem Y1 (hT : TOK P T := by exact tok) (h : run1 T N L l F = some (r, G, C) := by first | exact rfl | fail) (hc : C := by (repeat (first | exact trivial | exact rfl | refine ⟨trivial, ?_⟩ | refine ⟨rfl, ?_⟩ | refine ⟨by first | assumption | omega | (unfold i64in; omega) | (simp only [decide_eq_true_eq, decide_eq_false_iff_not] at *; omega) | (unfold i64in; simp only [decide_eq_true_eq, decide_eq_false_iff_not] at *; omega), ?_⟩)) <;> fail) : Step (XL P N B w0 ds Q all r G L) (XL P N B w0 ds Q all l F L) := ⟨XL.run1 hT h hc⟩
theorem Y2 (hj : asked ops F j = some (!wb) ∨ askedU ops F j = true := by first | exact .inl rfl | exact .inr rfl | fail) (hd : Nat.blt d N = true := by first | exact rfl | fail) :
    Step (XL P N B w0 ds Q ops rest ((d, undef) :: F) L) (XL P N B w0 ds Q ops ({ dst := some d, op := op, type := ty, pos := p, after := af, guard := some (j, wb) } :: rest) F L) := ⟨fun k => hj.elim (fun hj => XL.guard_n hj k hd) (fun hj => XL.guard_u hj k hd)⟩
theorem Y3 (hj : asked ops F j = some wb := by first | exact rfl | fail) : Step (XL P N B w0 ds Q ops ({ dst := some d, op := op, type := ty, pos := p, after := af, guard := none } :: rest) F L)
    (XL P N B w0 ds Q ops ({ dst := some d, op := op, type := ty, pos := p, after := af, guard := some (j, wb) } :: rest) F L) := ⟨XL.guard_y hj⟩
theorem Y7 {x : Operand} {ad : Addr} (hx : evo F x = some (.pointer (some ad)) := by first | exact rfl | fail) (hd : Nat.blt d N = true := by first | exact rfl | fail) :
    Step (XL P N B w0 ds Q ops rest ((d, .pointer (some ad)) :: F) L) (XL P N B w0 ds Q ops ({ dst := some d, op := .nilCheck x, type := ty, pos := p, after := af, guard := none } :: rest) F L) := ⟨XL.step _ (Ev.nilCheck hx) hd⟩
theorem Y8 {t : TypeId} {parts : List (Nat × Operand)} {z : Value} {zs cs : List Value} {l : List (Nat × Nat × Nat)} (hT : TOK P T := by exact tok) (hs : lkG T.fld t = some l := by first | exact rfl | fail) (hz : lkG T.zero t = some z := by first | exact rfl | fail) (hzs : cellsO z = some zs := by first | exact rfl | fail) (hl : (l.all fun e => Nat.blt 0 e.2.1) = true := by first | exact rfl | fail) (hc : fillN F l zs parts = some cs := by first | exact rfl | fail) (hd : Nat.blt d N = true := by first | exact rfl | fail) :
    Step (XL P N B w0 ds Q ops rest ((d, .agg cs.toArray) :: F) L) (XL P N B w0 ds Q ops ({ dst := some d, op := .build t parts.toArray, type := ty, pos := p, after := af, guard := none } :: rest) F L) := ⟨XL.step _ (Ev.build hT hs hz hzs hl hc) hd⟩
theorem Y9 {t : TypeId} {x y : Operand} (hT : TOK P T := by exact tok) (h : evalStore T F L t x y = some (L', C) := by first | exact rfl | fail) (hc : C := by (repeat (first | exact trivial | exact rfl | refine ⟨trivial, ?_⟩ | refine ⟨rfl, ?_⟩ | refine ⟨by first | assumption | omega | (unfold i64in; omega) | (simp only [decide_eq_true_eq, decide_eq_false_iff_not] at *; omega) | (unfold i64in; simp only [decide_eq_true_eq, decide_eq_false_iff_not] at *; omega), ?_⟩)) <;> fail) :
    Step (XL P N B w0 ds Q ops rest F L') (XL P N B w0 ds Q ops ({ dst := none, op := .store t x y, type := ty, pos := p, after := af, guard := none } :: rest) F L) := ⟨XL.store1 hT h hc⟩
theorem YA {c x y : Operand} {v : Value} (h : (evo F c = some (.bool true) ∧ evo F x = some v) ∨ (evo F c = some (.bool false) ∧ evo F y = some v) := by first | exact .inl ⟨rfl, rfl⟩ | exact .inr ⟨rfl, rfl⟩ | fail) (hd : Nat.blt d N = true := by first | exact rfl | fail) :
    Step (XL P N B w0 ds Q ops rest ((d, v) :: F) L) (XL P N B w0 ds Q ops ({ dst := some d, op := .pick c x y, type := ty, pos := p, after := af, guard := none } :: rest) F L) := ⟨fun k => h.elim (fun h => XL.step _ (Ev.pick_t h.1 h.2) hd k) (fun h => XL.step _ (Ev.pick_f h.1 h.2) hd k)⟩
theorem SL (k : q) (st : Step q (XL P N B w0 ds Q ops l F L) := by first | exact Y0 | exact Y1 | exact Y2 | exact Y3 | exact Y7 | exact Y8 | exact Y9 | exact YA | fail) : XL P N B w0 ds Q ops l F L := st.run k
theorem Y4 {v : Value} (he : Ev P N B w0 ds True F L { dst := some d, op := op, type := ty, pos := p, after := af, guard := none } v) (k : XL P N B w0 ds Q ops rest ((d, v) :: F) L) (hd : Nat.blt d N = true := by first | exact rfl | fail) :
    XL P N B w0 ds Q ops ({ dst := some d, op := op, type := ty, pos := p, after := af, guard := none } :: rest) F L := XL.step v he hd k
theorem Y5 {x : Operand} {v : Value} {cs : List Value} {t : TypeId} (hx : evo F x = some v := by first | exact rfl | fail) (hcs : cellsO v = some cs := by first | exact rfl | fail) (hd : Nat.blt d N = true := by first | exact rfl | fail) :
    Step (∀ g, w0.heap.size ≤ g → XL P N B w0 ds Q ops rest ((1000000 + d, .slice none L.length 0) :: (d, .pointer (some ⟨g, 0, none⟩)) :: F) ((g, cel t cs) :: L)) (XL P N B w0 ds Q ops ({ dst := some d, op := .box t x, type := ty, pos := p, after := af, guard := none } :: rest) F L) := ⟨XL.box hx hcs hd⟩
theorem Y6 {t : TypeId} {v : Value} {cs : List Value} (hT : TOK P T := by exact tok) (hz : lkG T.zero t = some v := by first | exact rfl | fail) (hcs : cellsO v = some cs := by first | exact rfl | fail) (hd : Nat.blt d N = true := by first | exact rfl | fail) :
    Step (∀ g, w0.heap.size ≤ g → XL P N B w0 ds Q ops rest ((1000000 + d, .slice none L.length 0) :: (d, .pointer (some ⟨g, 0, none⟩)) :: F) ((g, cel t cs) :: L)) (XL P N B w0 ds Q ops ({ dst := some d, op := .alloc t, type := ty, pos := p, after := af, guard := none } :: rest) F L) := ⟨XL.alloc hT hz hcs hd⟩
theorem SB {t : TypeId} {cs : List Value} (k : ∀ g, w0.heap.size ≤ g → XL P N B w0 ds Q ops rest ((1000000 + d, .slice none L.length 0) :: (d, .pointer (some ⟨g, 0, none⟩)) :: F) ((g, cel t cs) :: L))
    (st : Step (∀ g, w0.heap.size ≤ g → XL P N B w0 ds Q ops rest ((1000000 + d, .slice none L.length 0) :: (d, .pointer (some ⟨g, 0, none⟩)) :: F) ((g, cel t cs) :: L)) (XL P N B w0 ds Q ops ({ dst := some d, op := op, type := ty, pos := p, after := af, guard := none } :: rest) F L) := by first | exact Y5 | exact Y6 | fail) :
    XL P N B w0 ds Q ops ({ dst := some d, op := op, type := ty, pos := p, after := af, guard := none } :: rest) F L := st.run k
theorem YC (hT : TOK P T := by exact tok) (h : run1 T N L l F = some (r, G, C) := by first | exact rfl | fail) (hc : C := by (repeat (first | exact trivial | exact rfl | refine ⟨trivial, ?_⟩ | refine ⟨rfl, ?_⟩ | refine ⟨by first | assumption | omega | (unfold i64in; omega) | (simp only [decide_eq_true_eq, decide_eq_false_iff_not] at *; omega) | (unfold i64in; simp only [decide_eq_true_eq, decide_eq_false_iff_not] at *; omega), ?_⟩)) <;> fail) : Step (Fw P N B w0 ds pu KK all L r G) (Fw P N B w0 ds pu KK all L l F) := ⟨Fw.run1 hT h hc⟩
theorem YD (hj : asked ops F j = some wb := by first | exact rfl | fail) : Step (Fw P N B w0 ds pu KK ops L ({ dst := some d, op := op, type := ty, pos := p, after := af, guard := none } :: rest) F)
    (Fw P N B w0 ds pu KK ops L ({ dst := some d, op := op, type := ty, pos := p, after := af, guard := some (j, wb) } :: rest) F) := ⟨Fw.guard_y hj⟩
theorem YE (hj : asked ops F j = some (!wb) ∨ askedU ops F j = true := by first | exact .inl rfl | exact .inr rfl | fail) (hd : Nat.blt d N = true := by first | exact rfl | fail) :
    Step (Fw P N B w0 ds pu KK ops L rest ((d, undef) :: F)) (Fw P N B w0 ds pu KK ops L ({ dst := some d, op := op, type := ty, pos := p, after := af, guard := some (j, wb) } :: rest) F) := ⟨fun k => hj.elim (fun hj => Fw.guard_n hj k hd) (fun hj => Fw.guard_u hj k hd)⟩
theorem YF {v : Value} (he : Ev P N B w0 ds pu F L { dst := some d, op := op, type := ty, pos := p, after := af, guard := none } v) (k : Fw P N B w0 ds pu KK ops L rest ((d, v) :: F)) (hd : Nat.blt d N = true := by first | exact rfl | fail) :
    Fw P N B w0 ds pu KK ops L ({ dst := some d, op := op, type := ty, pos := p, after := af, guard := none } :: rest) F := Fw.step v he hd k
theorem YG {c x y : Operand} {v : Value} (h : (evo F c = some (.bool true) ∧ evo F x = some v) ∨ (evo F c = some (.bool false) ∧ evo F y = some v) := by first | exact .inl ⟨rfl, rfl⟩ | exact .inr ⟨rfl, rfl⟩ | fail) (hd : Nat.blt d N = true := by first | exact rfl | fail) :
    Step (Fw P N B w0 ds pu KK ops L rest ((d, v) :: F)) (Fw P N B w0 ds pu KK ops L ({ dst := some d, op := .pick c x y, type := ty, pos := p, after := af, guard := none } :: rest) F) := ⟨fun k => h.elim (fun h => Fw.step _ (Ev.pick_t h.1 h.2) hd k) (fun h => Fw.step _ (Ev.pick_f h.1 h.2) hd k)⟩
theorem YH {x : Operand} {ad : Addr} (hx : evo F x = some (.pointer (some ad)) := by first | exact rfl | fail) (hd : Nat.blt d N = true := by first | exact rfl | fail) :
    Step (Fw P N B w0 ds pu KK ops L rest ((d, .pointer (some ad)) :: F)) (Fw P N B w0 ds pu KK ops L ({ dst := some d, op := .nilCheck x, type := ty, pos := p, after := af, guard := none } :: rest) F) := ⟨Fw.step _ (Ev.nilCheck hx) hd⟩
theorem YI {t : TypeId} {parts : List (Nat × Operand)} {z : Value} {zs cs : List Value} {l : List (Nat × Nat × Nat)} (hT : TOK P T := by exact tok) (hs : lkG T.fld t = some l := by first | exact rfl | fail) (hz : lkG T.zero t = some z := by first | exact rfl | fail) (hzs : cellsO z = some zs := by first | exact rfl | fail) (hl : (l.all fun e => Nat.blt 0 e.2.1) = true := by first | exact rfl | fail) (hc : fillN F l zs parts = some cs := by first | exact rfl | fail) (hd : Nat.blt d N = true := by first | exact rfl | fail) :
    Step (Fw P N B w0 ds pu KK ops L rest ((d, .agg cs.toArray) :: F)) (Fw P N B w0 ds pu KK ops L ({ dst := some d, op := .build t parts.toArray, type := ty, pos := p, after := af, guard := none } :: rest) F) := ⟨Fw.step _ (Ev.build hT hs hz hzs hl hc) hd⟩
theorem SF (k : q) (st : Step q (Fw P N B w0 ds pu KK ops L l F) := by first | exact YC | exact YD | exact YE | exact YG | exact YH | exact YI | fail) : Fw P N B w0 ds pu KK ops L l F := st.run k
theorem SG (k : KK F) : Fw P N B w0 ds pu KK ops L [] F := Fw.done k
theorem YJ : Step (XE N B w0 ds Q .normal F L) (XR P N B wS w0 ds Q Ls ops [] F L) := ⟨XR.done⟩
theorem YK {i : Nat} {o : Oper} (h1 : firstO rem rem = some (i, o, rem') := by first | exact rfl | fail) (hl : loneB ops rem i o = true := by first | kernel_rfl | fail) : Step (Fw P N B wS ds False (fun F' => XR P N B wS w0 ds Q Ls ops rem' F' L) ops Ls [o] F) (XR P N B wS w0 ds Q Ls ops rem F L) := ⟨XR.take h1 hl⟩
theorem YL (hn : edgesIn ops.size rem = true := by first | kernel_rfl | fail) : Step (AnyR P N B wS w0 ds Q Ls ops rem F L rem false) (XR P N B wS w0 ds Q Ls ops rem F L) := ⟨XR.any hn⟩
theorem SR (k : q) (st : Step q (XR P N B wS w0 ds Q Ls ops rem F L) := by first | exact YJ | exact YK | exact YL | fail) : XR P N B wS w0 ds Q Ls ops rem F L := st.run k
theorem YM {i : Nat} {o : Oper} {post : List (Nat × Oper)} {b : Bool} (h : AnyR P N B wS w0 ds Q Ls ops rem F L post b) (hr : readyB rem o = false := by first | exact rfl | fail) : AnyR P N B wS w0 ds Q Ls ops rem F L ((i, o) :: post) b := AnyR.skip hr h
theorem YN {i : Nat} {o : Oper} {post : List (Nat × Oper)} {b : Bool} (hx : XL P N B w0 ds (heldR P B wS Q Ls ops rem') ops [o] F L) (h : AnyR P N B wS w0 ds Q Ls ops rem F L post true) (hr : readyB rem o = true := by first | exact rfl | fail) (hd : dropO rem i = some rem' := by first | exact rfl | fail) : AnyR P N B wS w0 ds Q Ls ops rem F L ((i, o) :: post) b := AnyR.go hr hd hx h
theorem V0 {x y : Code} : Step (XC P N B w0 ds (Exit.then (y.wp P Q) Q) x F L) (XC P N B w0 ds Q (.seq x y) F L) := ⟨XC.seq⟩
theorem V1 {id : Nat} : Step (XL P N B w0 ds Q l.toArray l F L) (XC P N B w0 ds Q (.region id l.toArray false) F L) := ⟨XC.region⟩
theorem V4 {id : Nat} {x : Code} : Step (XC P N B w0 ds (Exit.inBlock id Q) x F L) (XC P N B w0 ds Q (.block id x) F L) := ⟨XC.block⟩
theorem V5 : Step (XE N B w0 ds Q .normal F L) (XC P N B w0 ds Q .skip F L) := ⟨XC.skip⟩
theorem V6 : Step (XE N B w0 ds Q .ret F L) (XC P N B w0 ds Q .ret F L) := ⟨XC.ret⟩
theorem V7 {id : Nat} : Step (XE N B w0 ds Q (.exit id) F L) (XC P N B w0 ds Q (.exit id) F L) := ⟨XC.exit⟩
theorem V8 {c : Operand} {x y : Code} (hc : evo F c = some (.bool true) := by first | exact rfl | fail) : Step (XC P N B w0 ds Q x F L) (XC P N B w0 ds Q (.cond c x y) F L) := ⟨XC.cond_t hc⟩
theorem V9 {c : Operand} {x y : Code} (hc : evo F c = some (.bool false) := by first | exact rfl | fail) : Step (XC P N B w0 ds Q y F L) (XC P N B w0 ds Q (.cond c x y) F L) := ⟨XC.cond_f hc⟩
theorem SC (k : q) (st : Step q (XC P N B w0 ds Q c F L) := by first | exact V0 | exact V1 | exact V4 | exact V5 | exact V6 | exact V7 | exact V8 | exact V9 | fail) : XC P N B w0 ds Q c F L := st.run k
theorem V2 {id : Nat} (hm : P.follows .mixedOrders = true := by exact mixed) (hq : l.all quietO = true := by first | exact rfl | fail) (hc : edgesOk l = true := by first | kernel_rfl | fail) : Step (Fw P N B w0 ds True (fun F' => XE N B w0 ds Q .normal F' L) l.toArray L l F) (XC P N B w0 ds Q (.region id l.toArray true) F L) := ⟨XC.draw hm hq hc⟩
theorem V3 {id : Nat} {l1 : List Oper} {z : Oper} (hm : P.follows .mixedOrders = true := by exact mixed) (hcut : cutLast l = some (l1, z) := by first | exact rfl | fail) (hq : l1.all quietO = true := by first | exact rfl | fail) (hc : (edgesOk l && tailB l) = true := by first | kernel_rfl | fail) : Step (Fw P N B w0 ds True (fun F' => XL P N B w0 ds Q l.toArray [z] F' L) l.toArray L l1 F) (XC P N B w0 ds Q (.region id l.toArray true) F L) := ⟨XC.drawT hm hcut hq hc⟩
theorem SD (k : q) (st : Step q (XC P N B w0 ds Q c F L) := by first | exact V2 | exact V3 | fail) : XC P N B w0 ds Q c F L := st.run k
variable {Q' : Exit → Act → World → Prop}
theorem Z6 {id id' : Nat} (hne : Nat.beq id' id = false := by first | exact rfl | fail) : Step (XE N B w0 ds Q (.exit id') F L) (XE N B w0 ds (Exit.inBlock id Q) (.exit id') F L) := ⟨XE.block_on hne⟩
theorem SE (k : q) (st : Step q (XE N B w0 ds Q e F L) := by first | exact Z6 | exact ⟨XE.next⟩ | exact ⟨XE.then_ret⟩ | exact ⟨XE.then_exit⟩ | exact ⟨XE.block_normal⟩ | exact ⟨XE.block_ret⟩ | exact ⟨XE.block_here⟩ | exact ⟨XE.cut_ret⟩ | exact ⟨XE.cut_exit⟩ | exact ⟨fun h => z4 h⟩ | fail) : XE N B w0 ds Q e F L := st.run k
end
theorem ZZHL {p : Prop} (h : p := by (intro e he; repeat (first | (cases he; done) | (rcases List.mem_cons.1 he with rfl | he; · first | (right; assumption) | (left; simp <;> fail)))) <;> fail) : p := h
theorem ZZSM {p : Prop} (h : p := by (repeat (first | exact List.Sublist.refl _ | exact List.nil_sublist _ | refine List.Sublist.cons_cons _ ?_ | refine List.Sublist.cons _ ?_)) <;> fail) : p := h
theorem ZZSUB {p : Prop} (h : p := by (repeat (first | exact Sub.nil | refine Sub.cons rfl ?_)) <;> fail) : p := h
theorem M0 : type_of% @XL.id := @XL.id
theorem M1 : type_of% @XC.id := @XC.id
theorem M2 : type_of% @XE.id := @XE.id
theorem M3 : type_of% @Fw.id := @Fw.id
theorem M4 : type_of% @XR.id := @XR.id
theorem M5 : type_of% @AnyR.id := @AnyR.id
theorem M7 : type_of% @AnyR.nil := @AnyR.nil
end X
end Go.Proofs.YtgddcbpbadookaaGreatDoor
