/-
  A walk by lemmas (9): of a region that draws its order, what is left when its reads are taken: every order, one operation after the other; a cut that states what a region leaves; calls that leave new memory.
-/
import Derived.Test.YtoiepgcjinccpaaDoorEng8
namespace Go.Proofs.YtoiepgcjinccpaaDoor.X
open Go Go.RowKit
set_option linter.unusedVariables false

/-- all that an operation waits for is done. -/
def bindE (e : Edge) : Bool := match e.ground with
  | .textOnly _ => false
  | .gcOnly _ => false
  | _ => true
theorem bindE_eq (e : Edge) : Region.binds .any e = bindE e := by
  unfold Region.binds bindE
  cases e.ground <;> rfl
def inRem : List (Nat × Oper) → Nat → Bool
  | [], _ => false
  | e :: r, i => match Nat.beq e.1 i with
    | true => true
    | false => inRem r i
def freeOf (rem : List (Nat × Oper)) : List Edge → Bool
  | [] => true
  | e :: r => match bindE e with
    | false => freeOf rem r
    | true => match inRem rem e.on with
      | true => false
      | false => freeOf rem r
def readyB (rem : List (Nat × Oper)) (o : Oper) : Bool := freeOf rem o.after.toList
/-- without number i. -/
def dropO : List (Nat × Oper) → Nat → Option (List (Nat × Oper))
  | [], _ => some []
  | e :: r, i => match dropO r i with
    | some r' => match Nat.beq e.1 i with
      | true => some r'
      | false => some (e :: r')
    | none => none
def nthO : List Oper → Nat → Option Oper
  | [], _ => none
  | o :: _, 0 => some o
  | _ :: r, n + 1 => nthO r n
def pickR (l : List Oper) : List Nat → Option (List (Nat × Oper))
  | [] => some []
  | i :: r => match pickR l r with
    | some l' => match nthO l i with
      | some o => some ((i, o) :: l')
      | none => none
    | none => none
/-- every number below n is in one of two lists, and in one alone. -/
def partB (n : Nat) (p q : List Nat) : Bool := (List.range n).all (fun i => p.contains i != q.contains i) && q.all (fun i => Nat.blt i n) && decide q.Nodup

theorem inRem_iff {rem : List (Nat × Oper)} {i : Nat} : inRem rem i = true ↔ ∃ o, (i, o) ∈ rem := by
  induction rem with
  | nil => simp [inRem]
  | cons e r ih =>
    unfold inRem
    cases hb : Nat.beq e.1 i with
    | true =>
      have := Nat.eq_of_beq_eq_true hb
      simp only [List.mem_cons, true_iff]
      exact ⟨e.2, .inl (by rw [← this])⟩
    | false =>
      have := Nat.ne_of_beq_eq_false hb
      simp only [List.mem_cons]
      rw [ih]
      constructor
      · rintro ⟨o, h⟩; exact ⟨o, .inr h⟩
      · rintro ⟨o, h | h⟩
        · exact absurd (by rw [← h]) this
        · exact ⟨o, h⟩
theorem freeOf_iff {rem : List (Nat × Oper)} : ∀ {l : List Edge}, freeOf rem l = true ↔ ∀ e ∈ l, Region.binds .any e = true → inRem rem e.on = false := by
  intro l
  induction l with
  | nil => simp [freeOf]
  | cons e r ih =>
    unfold freeOf
    simp only [List.forall_mem_cons, bindE_eq]
    cases hb : bindE e with
    | false => simp only [Bool.false_eq_true, false_implies, true_and]; simp only [bindE_eq] at ih; exact ih
    | true =>
      simp only [true_implies]
      cases hr : inRem rem e.on with
      | true => simp
      | false => simp only [true_and]; simp only [bindE_eq] at ih; exact ih
theorem dropO_spec {i : Nat} : ∀ {rem rem' : List (Nat × Oper)}, dropO rem i = some rem' → rem' = rem.filter fun e => !Nat.beq e.1 i := by
  intro rem
  induction rem with
  | nil => intro rem' h; simp only [dropO, Option.some.injEq] at h; subst h; rfl
  | cons e r ih =>
    intro rem' h
    simp only [dropO] at h
    split at h
    · rename_i r' hr
      have := ih hr
      cases hb : Nat.beq e.1 i with
      | true => rw [hb] at h; simp only [Option.some.injEq] at h; subst h; simp [List.filter_cons, hb, this]
      | false => rw [hb] at h; simp only [Option.some.injEq] at h; subst h; simp [List.filter_cons, hb, this]
    · cases h
theorem nthO_eq : ∀ (l : List Oper) (i : Nat), nthO l i = l[i]? := by
  intro l
  induction l with
  | nil => intro i; rfl
  | cons o r ih => intro i; cases i with
    | zero => rfl
    | succ i => simp [nthO, ih]
theorem pickR_spec {l : List Oper} : ∀ {q : List Nat} {rem : List (Nat × Oper)}, pickR l q = some rem → rem.map (·.1) = q ∧ ∀ e ∈ rem, l[e.1]? = some e.2 := by
  intro q
  induction q with
  | nil => intro rem h; simp only [pickR, Option.some.injEq] at h; subst h; simp
  | cons i r ih =>
    intro rem h
    simp only [pickR] at h
    split at h
    · rename_i l' hl
      split at h
      · rename_i o ho
        simp only [Option.some.injEq] at h
        subst h
        obtain ⟨h1, h2⟩ := ih hl
        rw [nthO_eq] at ho
        refine ⟨by simp [h1], fun e he => ?_⟩
        rcases List.mem_cons.1 he with rfl | he
        · exact ho
        · exact h2 e he
      · cases h
    · cases h

/-- what is left: just rem. -/
structure RemOk (ops : Array Oper) (D : Array Bool) (rem : List (Nat × Oper)) : Prop where
  size : D.size = ops.size
  at_ : ∀ e ∈ rem, ops[e.1]? = some e.2
  left : ∀ i, i < ops.size → (on D i = false ↔ inRem rem i = true)
  nd : (rem.map (·.1)).Nodup
theorem RemOk.ready {ops : Array Oper} {D : Array Bool} {rem : List (Nat × Oper)} (h : RemOk ops D rem) {i : Nat} (hi : i ∈ Region.ready .any ops D) : ∃ o, (i, o) ∈ rem ∧ readyB rem o = true := by
  obtain ⟨h0, o, ho, hb⟩ := mem_ready.1 hi
  have hlt : i < ops.size := (Array.getElem?_eq_some_iff.1 ho).1
  have hon : on D i = false := by
    unfold on
    have hlt' : i < D.size := by rw [h.size]; exact hlt
    rw [Array.getD_eq_getD_getElem?, Array.getElem?_eq_getElem hlt'] at h0 ⊢
    exact h0
  obtain ⟨o', ho'⟩ := inRem_iff.1 ((h.left i hlt).1 hon)
  have := h.at_ _ ho'
  rw [ho] at this
  obtain rfl := Option.some.inj this
  refine ⟨o, ho', ?_⟩
  unfold readyB
  rw [freeOf_iff]
  intro e he hbd
  have h1 := hb e (by simpa using he) hbd
  cases hr : inRem rem e.on with
  | false => rfl
  | true =>
    obtain ⟨o2, ho2⟩ := inRem_iff.1 hr
    have hlt2 : e.on < ops.size := (Array.getElem?_eq_some_iff.1 (h.at_ _ ho2)).1
    have := (h.left _ hlt2).2 hr
    unfold on at this
    rw [this] at h1; cases h1
theorem RemOk.mem_ready {ops : Array Oper} {D : Array Bool} {rem : List (Nat × Oper)} (h : RemOk ops D rem) {i : Nat} {o : Oper} (hi : (i, o) ∈ rem) (hr : readyB rem o = true)
    (hb : ∀ e ∈ o.after, Region.binds .any e = true → e.on < ops.size) : i ∈ Region.ready .any ops D := by
  have ho := h.at_ _ hi
  have hlt : i < ops.size := (Array.getElem?_eq_some_iff.1 ho).1
  have hon := (h.left i hlt).2 (inRem_iff.2 ⟨o, hi⟩)
  rw [Go.mem_ready]
  refine ⟨?_, o, ho, fun e he hbd => ?_⟩
  · unfold on at hon
    have hlt' : i < D.size := by rw [h.size]; exact hlt
    rw [Array.getD_eq_getD_getElem?, Array.getElem?_eq_getElem hlt'] at hon ⊢
    exact hon
  · unfold readyB at hr
    have h1 := (freeOf_iff.1 hr) e (by simpa using he) hbd
    have h2 := (h.left _ (hb e he hbd))
    rw [h1] at h2
    cases hx : on D e.on with
    | true => exact hx
    | false => exact absurd (h2.1 hx) (by simp)
theorem RemOk.set {ops : Array Oper} {D : Array Bool} {rem rem' : List (Nat × Oper)} (h : RemOk ops D rem) {i : Nat} {o : Oper} (hi : (i, o) ∈ rem) (hd : dropO rem i = some rem') : RemOk ops (D.setIfInBounds i true) rem' := by
  have e := dropO_spec hd
  have hlt : i < ops.size := (Array.getElem?_eq_some_iff.1 (h.at_ _ hi)).1
  have hmem : ∀ x, x ∈ rem' ↔ x ∈ rem ∧ x.1 ≠ i := fun x => by
    rw [e, List.mem_filter]
    constructor
    · rintro ⟨h1, h2⟩
      exact ⟨h1, fun e2 => by rw [e2] at h2; simp at h2⟩
    · rintro ⟨h1, h2⟩
      refine ⟨h1, ?_⟩
      cases hb : Nat.beq x.1 i with
      | true => exact absurd (Nat.eq_of_beq_eq_true hb) h2
      | false => rfl
  refine ⟨by simp [h.size], fun x hx => h.at_ x ((hmem x).1 hx).1, fun j hj => ?_, ?_⟩
  · rw [on_set (by rw [h.size]; exact hlt)]
    have hx : inRem rem' j = true ↔ inRem rem j = true ∧ j ≠ i := by
      rw [inRem_iff, inRem_iff]
      constructor
      · rintro ⟨o, ho⟩; exact ⟨⟨o, ((hmem _).1 ho).1⟩, ((hmem _).1 ho).2⟩
      · rintro ⟨⟨o, ho⟩, hne⟩; exact ⟨o, (hmem _).2 ⟨ho, hne⟩⟩
    rw [hx, ← h.left j hj]
    by_cases hji : j = i
    · subst hji; simp
    · have : (j == i) = false := by simpa using hji
      rw [this]; simp [hji]
  · rw [e]
    exact List.Nodup.sublist (List.filter_sublist.map _) h.nd

section
variable {P : Program} {N : Nat} {B : Nat} {wS w0 : World} {ds : List Deferred} {Q : Exit → Act → World → Prop} {F : Fr} {L Ls : Lo} {ops : Array Oper} {rem rem' : List (Nat × Oper)}

variable (P B wS Q Ls ops) in
def heldR (rem : List (Nat × Oper)) : Exit → Act → World → Prop :=
  only fun a w => Sys B wS Ls w ∧ ∀ D fuel, RemOk ops D rem → D.toList.count false ≤ fuel → wpAnyH P .any ops (only fun a w => Q .normal a w) (Sys B wS Ls) fuel D a w
variable (P N B wS w0 ds Q Ls ops) in
/-- what is left may come up in any order. -/
structure XR (rem : List (Nat × Oper)) (F : Fr) (L : Lo) : Prop where
  run : ∀ D fuel a w, RemOk ops D rem → D.toList.count false ≤ fuel → Fits N ds F a → Sys B w0 L w → Sys B wS Ls w → wpAnyH P .any ops (only fun a w => Q .normal a w) (Sys B wS Ls) fuel D a w
variable (P N B wS w0 ds Q Ls ops) in
structure AnyR (rem : List (Nat × Oper)) (F : Fr) (L : Lo) (post : List (Nat × Oper)) (b : Bool) : Prop where
  run : ∀ i o, (i, o) ∈ post → readyB rem o = true → ∃ rem', dropO rem i = some rem' ∧ XL P N B w0 ds (heldR P B wS Q Ls ops rem') ops [o] F L
  some_ : b = true ∨ ∃ i o, (i, o) ∈ post ∧ readyB rem o = true
theorem AnyR.nil : AnyR P N B wS w0 ds Q Ls ops rem F L [] true := ⟨fun _ _ h => (by cases h), .inl rfl⟩
theorem AnyR.skip {i : Nat} {o : Oper} {post : List (Nat × Oper)} {b : Bool} (hr : readyB rem o = false) (h : AnyR P N B wS w0 ds Q Ls ops rem F L post b) : AnyR P N B wS w0 ds Q Ls ops rem F L ((i, o) :: post) b :=
  ⟨fun j p hj hp => by
    rcases List.mem_cons.1 hj with e | hj
    · cases e; rw [hr] at hp; cases hp
    · exact h.run j p hj hp, h.some_.imp id fun ⟨i, o, h1, h2⟩ => ⟨i, o, List.mem_cons_of_mem _ h1, h2⟩⟩
theorem AnyR.go {i : Nat} {o : Oper} {post : List (Nat × Oper)} {b : Bool} (hr : readyB rem o = true) (hd : dropO rem i = some rem') (hx : XL P N B w0 ds (heldR P B wS Q Ls ops rem') ops [o] F L)
    (h : AnyR P N B wS w0 ds Q Ls ops rem F L post true) : AnyR P N B wS w0 ds Q Ls ops rem F L ((i, o) :: post) b :=
  ⟨fun j p hj hp => by
    rcases List.mem_cons.1 hj with e | hj
    · cases e; exact ⟨rem', hd, hx⟩
    · exact h.run j p hj hp, .inr ⟨i, o, List.mem_cons_self, hr⟩⟩
def edgesIn (n : Nat) (rem : List (Nat × Oper)) : Bool := rem.all fun e => e.2.after.toList.all fun x => !Region.binds .any x || Nat.blt x.on n
theorem wpAnyH_noQ {S : World → Prop} {K : Act → World → Prop} {D : Array Bool} {a : Act} {w : World} {n : Nat} (hne : ∃ i, i ∈ Region.ready .any ops D)
    (h : ∀ i ∈ Region.ready .any ops D, wpOp P ops (only K) i (fun a' w' => S w' ∧ wpAnyH P .any ops (only K) S n (D.setIfInBounds i true) a' w') a w) : wpAnyH P .any ops (only K) S (n + 1) D a w :=
  ⟨fun h0 => (by obtain ⟨i, hi⟩ := hne; rw [h0] at hi; cases hi), h⟩
theorem XR.any (hn : edgesIn ops.size rem = true) (h : AnyR P N B wS w0 ds Q Ls ops rem F L rem false) : XR P N B wS w0 ds Q Ls ops rem F L := by
  refine ⟨fun D fuel a w hD hl hf hs hS => ?_⟩
  have hex : ∃ i o, (i, o) ∈ rem ∧ readyB rem o = true := h.some_.resolve_left (by simp)
  obtain ⟨i0, o0, hi0, hr0⟩ := hex
  obtain ⟨n, rfl, _⟩ := ready_count (hD.mem_ready hi0 hr0 fun e he hb => by
      unfold edgesIn at hn
      have := List.all_eq_true.1 hn _ hi0
      have := List.all_eq_true.1 this e (by simpa using he)
      simp only [hb, Bool.not_true, Bool.false_or] at this
      exact Nat.le_of_ble_eq_true this) hl
  refine wpAnyH_noQ ⟨i0, hD.mem_ready hi0 hr0 fun e he hb => ?_⟩ fun i hi => ?_
  · unfold edgesIn at hn
    have := List.all_eq_true.1 hn _ hi0
    have := List.all_eq_true.1 this e (by simpa using he)
    simp only [hb, Bool.not_true, Bool.false_or] at this
    exact Nat.le_of_ble_eq_true this
  · obtain ⟨o, ho, hr⟩ := hD.ready hi
    obtain ⟨rem', hd, hx⟩ := h.run i o ho hr
    obtain ⟨m, e, hm⟩ := ready_count hi hl
    obtain rfl : n = m := by omega
    exact wpOp_mono (fun _ _ q => ⟨q.1, q.2 _ n (hD.set ho hd) hm⟩) (wpOp_of_list (hD.at_ _ ho) (hx.run a w hf hs))
theorem XE.heldR (hS : ∀ w, Sys B w0 L w → Sys B wS Ls w) (h : XR P N B wS w0 ds Q Ls ops rem F L) : XE N B w0 ds (heldR P B wS Q Ls ops rem) .normal F L :=
  ⟨fun a w hf hs => ⟨hS w hs, fun D fuel hD hl => h.run D fuel a w hD hl hf hs (hS w hs)⟩⟩
theorem XR.done (h : XE N B w0 ds Q .normal F L) : XR P N B wS w0 ds Q Ls ops [] F L := by
  refine ⟨fun D fuel a w hD _ hf hs _ => ?_⟩
  have hr : Region.ready .any ops D = [] := by
    cases hx : Region.ready .any ops D with
    | nil => rfl
    | cons i r =>
      obtain ⟨o, ho, _⟩ := hD.ready (i := i) (by rw [hx]; simp)
      cases ho
  exact wpAnyH_done (Q := only fun a w => Q .normal a w) hr (show only (fun a w => Q .normal a w) .normal a w from h.run a w hf hs) fuel
/-- operations of slots alone. -/
def slotOp (o : Oper) : Bool := match o.guard with
  | some _ => false
  | none => match o.op with
    | .move _ | .assign _ | .extract .. | .makeInterface .. | .build .. | .fieldAddr .. => true
    | _ => false
/-- the first of these that may come up. -/
def firstO (rem : List (Nat × Oper)) : List (Nat × Oper) → Option (Nat × Oper × List (Nat × Oper))
  | [] => none
  | (i, o) :: r => match slotOp o with
    | true => match readyB rem o with
      | true => match dropO rem i with
        | some rem' => some (i, o, rem')
        | none => none
      | false => firstO rem r
    | false => firstO rem r
theorem firstO_spec : ∀ {l : List (Nat × Oper)} {i : Nat} {o : Oper}, firstO rem l = some (i, o, rem') → (i, o) ∈ l ∧ readyB rem o = true ∧ dropO rem i = some rem' := by
  intro l
  induction l with
  | nil => intro i o h; cases h
  | cons e r ih =>
    intro i o h
    obtain ⟨j, p⟩ := e
    simp only [firstO] at h
    split at h
    · split at h
      · rename_i hr
        split at h
        · rename_i r2 hd
          simp only [Option.some.injEq, Prod.mk.injEq] at h
          obtain ⟨rfl, rfl, rfl⟩ := h
          exact ⟨List.mem_cons_self, hr, hd⟩
        · cases h
      · obtain ⟨h1, h2⟩ := ih h; exact ⟨List.mem_cons_of_mem _ h1, h2⟩
    · obtain ⟨h1, h2⟩ := ih h; exact ⟨List.mem_cons_of_mem _ h1, h2⟩
/-- none of the others touches its slots, but for those that wait for it. -/
def loneB (ops : Array Oper) (rem : List (Nat × Oper)) (i : Nat) (o : Oper) : Bool :=
  Region.noSelect ops && edgesIn ops.size rem && rem.all fun e => Nat.beq e.1 i || e.2.after.any (fun x => Region.binds .any x && x.on == i) || o.apart ops e.2
theorem XR.take {i : Nat} {o : Oper} (h1 : firstO rem rem = some (i, o, rem')) (hl : loneB ops rem i o = true) (h : Fw P N B wS ds False (fun F' => XR P N B wS w0 ds Q Ls ops rem' F' L) ops Ls [o] F) :
    XR P N B wS w0 ds Q Ls ops rem F L := by
  obtain ⟨hm, hr, hd⟩ := firstO_spec h1
  unfold loneB at hl
  simp only [Bool.and_eq_true] at hl
  obtain ⟨⟨hsel, hein⟩, hap⟩ := hl
  obtain ⟨v, hok, F', hal, hk⟩ := h.run
  refine ⟨fun D fuel a w hD hlen hf hs hS => ?_⟩
  have hrd : i ∈ Region.ready .any ops D := hD.mem_ready hm hr fun e he hb => by
    unfold edgesIn at hein
    have := List.all_eq_true.1 hein _ hm
    have := List.all_eq_true.1 this e (by simpa using he)
    simp only [hb, Bool.not_true, Bool.false_or] at this
    exact Nat.le_of_ble_eq_true this
  obtain ⟨n, rfl, hn⟩ := ready_count hrd hlen
  have hD' := hD.set hm hd
  refine wpAnyH_first (hD.at_ _ hm) (Region.noSelect_spec hsel) (fun c a w q => q.elim) n D a w (fun j oj hj hne hun hno => ?_) hrd (hok.yieldsIf hf) hS ?_
  · have hjs : j < ops.size := (Array.getElem?_eq_some_iff.1 hj).1
    have hon : on D j = false := by
      unfold on
      have hlt' : j < D.size := by rw [hD.size]; exact hjs
      rw [Array.getD_eq_getD_getElem?, Array.getElem?_eq_getElem hlt'] at hun ⊢
      exact hun
    obtain ⟨o', ho'⟩ := inRem_iff.1 ((hD.left j hjs).1 hon)
    have := hD.at_ _ ho'
    rw [hj] at this
    obtain rfl := Option.some.inj this
    have h2 := List.all_eq_true.1 hap _ ho'
    simp only [Bool.or_eq_true] at h2
    rcases h2 with (h2 | h2) | h2
    · exact absurd (Nat.eq_of_beq_eq_true h2) hne
    · obtain ⟨e, he, hb⟩ := Array.any_eq_true'.1 h2
      simp only [Bool.and_eq_true, beq_iff_eq] at hb
      exact absurd hb.2 (hno e he hb.1)
    · exact h2
  · exact hk.run _ n _ w hD' hn (hal.fits (hf.putF hok.1)) hs hS
/-- the reads p first; then q in whatever order. -/
theorem XC.drawRS {id : Nat} {l : List Oper} (wS : World) (Ls : Lo) (p q : List Nat) (hm : P.follows .mixedOrders = true) (hL : ∀ w, Sys B w0 L w → Sys B wS Ls w) (hr : pickR l q = some rem)
    (hp : (pureOk l.toArray (Array.replicate l.length false) p && partB l.length p q) = true)
    (h : Fw P N B wS ds False (fun F' => XR P N B wS w0 ds Q Ls l.toArray rem F' L) l.toArray Ls (pickO l.toArray p) F) : XC P N B w0 ds Q (.region id l.toArray true) F L := by
  simp only [Bool.and_eq_true] at hp
  refine XC.drawH wS Ls hm hL (XH.pure p (by simpa using hp.1) ?_)
  have key : ∀ F', XR P N B wS w0 ds Q Ls l.toArray rem F' L → XH P N B wS w0 ds Q Ls l.toArray (setAll (Array.replicate l.toArray.size false) p) F' L := by
    intro F' hx
    have hset : ∀ (p : List Nat) (D : Array Bool) (i : Nat), i < D.size → on (setAll D p) i = (on D i || p.contains i) := by
      intro p
      induction p with
      | nil => intro D i _; simp [setAll]
      | cons j r ih =>
        intro D i hi
        rw [setAll, ih _ _ (by simpa using hi)]
        by_cases hj : j < D.size
        · rw [on_set hj]
          simp only [List.contains_cons]
          cases on D i <;> simp
        · have : D.setIfInBounds j true = D := Array.setIfInBounds_eq_of_size_le (by omega)
          rw [this]
          have hne : ¬ i = j := by omega
          simp [List.contains_cons, hne]
    have hsz : ∀ (p : List Nat) (D : Array Bool), (setAll D p).size = D.size := by
      intro p
      induction p with
      | nil => intro D; rfl
      | cons j r ih => intro D; rw [setAll, ih]; simp
    obtain ⟨h1, h2⟩ := pickR_spec hr
    have hpart := hp.2
    unfold partB at hpart
    simp only [Bool.and_eq_true, List.all_eq_true, List.mem_range, decide_eq_true_eq] at hpart
    obtain ⟨⟨h3, h4⟩, h5⟩ := hpart
    have hD : RemOk l.toArray (setAll (Array.replicate l.toArray.size false) p) rem := by
      refine ⟨by rw [hsz]; simp, fun e he => by simpa using h2 e he, fun i hi => ?_, by rw [h1]; exact h5⟩
      have hi' : i < l.length := by simpa using hi
      rw [hset _ _ _ (by simpa using hi')]
      have h6 : on (Array.replicate l.toArray.size false) i = false := by unfold on; simp [hi']
      rw [h6, Bool.false_or]
      have h7 := h3 i hi'
      have h8 : inRem rem i = q.contains i := by
        rw [Bool.eq_iff_iff, inRem_iff, List.contains_iff_mem, ← h1]
        simp only [List.mem_map, Prod.exists, exists_and_right, exists_eq_right]
      rw [h8]
      cases h9 : p.contains i <;> cases h10 : q.contains i <;> rw [h9, h10] at h7 <;> simp_all
    exact ⟨fun fuel a w hc hf hs hS => hx.run _ fuel a w hD hc hf hs hS⟩
  exact ⟨by
    have := h.run
    exact (show ∀ (ops : List Oper) (F : Fr) (K K' : Fr → Prop), (∀ F', K F' → K' F') → Fw0 P N B wS ds False l.toArray Ls K ops F → Fw0 P N B wS ds False l.toArray Ls K' ops F from by
      intro ops
      induction ops with
      | nil => intro F K K' hk h; exact hk _ h
      | cons o r ih => rintro F K K' hk ⟨v, h1, h2⟩; exact ⟨v, h1, ih _ _ _ hk h2⟩) _ _ _ _ (fun F' ⟨G', h1, h2⟩ => ⟨G', h1, key _ h2⟩) this⟩
theorem XC.drawR {id : Nat} {l : List Oper} (Ls : Lo) (p q : List Nat) (hm : P.follows .mixedOrders = true) (hL : ∀ w, Sys B w0 L w → Sys B w0 Ls w) (hr : pickR l q = some rem)
    (hp : (pureOk l.toArray (Array.replicate l.length false) p && partB l.length p q) = true)
    (h : Fw P N B w0 ds False (fun F' => XR P N B w0 w0 ds Q Ls l.toArray rem F' L) l.toArray Ls (pickO l.toArray p) F) : XC P N B w0 ds Q (.region id l.toArray true) F L :=
  XC.drawRS w0 Ls p q hm hL hr hp h
end
end Go.Proofs.YtoiepgcjinccpaaDoor.X
