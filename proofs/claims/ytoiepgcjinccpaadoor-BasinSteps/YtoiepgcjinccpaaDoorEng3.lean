/-
  A walk by lemmas (3): a region that draws its order: one walk in the text's order serves every order.
-/
import Derived.Test.YtoiepgcjinccpaaDoorEng2
namespace Go.Proofs.YtoiepgcjinccpaaDoor.X
open Go Go.RowKit
set_option linter.unusedVariables false

/-! ### the puts of those operations that are done, in the text's order -/
def runD (D : Nat → Bool) : Nat → List (Oper × Value) → Act → Act
  | _, [], a => a
  | k, (o, v) :: r, a => runD D (k + 1) r (if D k then a.put o.dst v else a)

theorem put_get (a : Act) (d : Option Tmp) (v : Value) (t : Nat) : (a.put d v).tmps[t]? = if d = some t then (if t < a.tmps.size then some v else none) else a.tmps[t]? := by
  cases d with
  | none => simp [Act.put]
  | some d =>
    simp only [Act.put, Array.getElem?_setIfInBounds]
    by_cases h : d = t
    · subst h; simp
    · rw [if_neg h, if_neg (by intro e; exact h (Option.some.inj e))]
theorem put_size (a : Act) (d : Option Tmp) (v : Value) : (a.put d v).tmps.size = a.tmps.size := by cases d <;> simp [Act.put]
theorem put_defers (a : Act) (d : Option Tmp) (v : Value) : (a.put d v).defers = a.defers := by cases d <;> rfl

theorem runD_size (D : Nat → Bool) : ∀ (r : List (Oper × Value)) (k : Nat) (a : Act), (runD D k r a).tmps.size = a.tmps.size := by
  intro r
  induction r with
  | nil => intro k a; rfl
  | cons x r ih =>
    intro k a
    obtain ⟨o, v⟩ := x
    simp only [runD, ih]
    split
    · exact put_size _ _ _
    · rfl
theorem runD_defers (D : Nat → Bool) : ∀ (r : List (Oper × Value)) (k : Nat) (a : Act), (runD D k r a).defers = a.defers := by
  intro r
  induction r with
  | nil => intro k a; rfl
  | cons x r ih =>
    intro k a
    obtain ⟨o, v⟩ := x
    simp only [runD, ih]
    split
    · exact put_defers _ _ _
    · rfl
/-- a slot hangs on those of its writers alone that are done. -/
theorem runD_get (D D' : Nat → Bool) (t : Nat) : ∀ (r : List (Oper × Value)) (k : Nat) (a a' : Act), (∀ j o v, r[j]? = some (o, v) → o.dst = some t → D (k + j) = D' (k + j)) →
    a.tmps[t]? = a'.tmps[t]? → a.tmps.size = a'.tmps.size → (runD D k r a).tmps[t]? = (runD D' k r a').tmps[t]? := by
  intro r
  induction r with
  | nil => intro k a a' _ h _; exact h
  | cons x r ih =>
    intro k a a' hw h hsz
    obtain ⟨o, v⟩ := x
    simp only [runD]
    refine ih (k + 1) _ _ (fun j o' v' hj hd => by have := hw (j + 1) o' v' (by simpa using hj) hd; rwa [show k + 1 + j = k + (j + 1) from by omega]) ?_ ?_
    · by_cases hd : o.dst = some t
      · have := hw 0 o v rfl hd
        simp only [Nat.add_zero] at this
        rw [this]
        split
        · rw [put_get, put_get, if_pos hd, if_pos hd, hsz]
        · exact h
      · have e1 : ∀ (b : Bool) (a : Act), (if b = true then a.put o.dst v else a).tmps[t]? = a.tmps[t]? := by
          intro b a
          cases b
          · rfl
          · simp only [if_true]; rw [put_get, if_neg hd]
        rw [e1, e1]; exact h
    · have e1 : ∀ (b : Bool) (a : Act), (if b = true then a.put o.dst v else a).tmps.size = a.tmps.size := by
        intro b a
        cases b
        · rfl
        · simp only [if_true]; exact put_size _ _ _
      rw [e1, e1]; exact hsz
/-- doing one more, whose slot nobody behind it has written. -/
theorem runD_put (D : Nat → Bool) (i : Nat) (o : Oper) (v : Value) (t : Nat) : ∀ (r : List (Oper × Value)) (k : Nat) (a : Act), r[i]? = some (o, v) → D (k + i) = false →
    (∀ j o' v', r[j]? = some (o', v') → o'.dst = some t → o.dst = some t → i < j → D (k + j) = false) →
    (runD (fun x => D x || x == k + i) k r a).tmps[t]? = ((runD D k r a).put o.dst v).tmps[t]? := by
  intro r
  induction r generalizing i with
  | nil => intro k a h; simp at h
  | cons x r ih =>
    intro k a hi hD hw
    obtain ⟨o1, v1⟩ := x
    cases i with
    | zero =>
      simp only [List.getElem?_cons_zero, Option.some.injEq, Prod.mk.injEq] at hi
      obtain ⟨rfl, rfl⟩ := hi
      simp only [Nat.add_zero] at hD
      simp only [runD, Nat.add_zero, beq_self_eq_true, Bool.or_true, if_true, hD, Bool.false_eq_true, if_false]
      rw [put_get]
      by_cases hd : o1.dst = some t
      · rw [if_pos hd, runD_size]
        have : (runD (fun x => D x || x == k) (k + 1) r (a.put o1.dst v1)).tmps[t]? = (runD (fun _ => false) (k + 1) r (a.put o1.dst v1)).tmps[t]? := by
          refine runD_get _ _ t r _ _ _ (fun j o' v' hj hd' => ?_) rfl rfl
          have := hw (j + 1) o' v' (by simpa using hj) hd' hd (by omega)
          rw [show k + 1 + j = k + (j + 1) from by omega, this]
          simp
        rw [this]
        have nothing : ∀ (r : List (Oper × Value)) (k : Nat) (a : Act), runD (fun _ => false) k r a = a := by
          intro r
          induction r with
          | nil => intro k a; rfl
          | cons x r ih => intro k a; obtain ⟨o, v⟩ := x; simp [runD, ih]
        rw [nothing, put_get, if_pos hd]
      · rw [if_neg hd]
        refine runD_get _ _ t r _ _ _ (fun j o' v' hj hd' => ?_) ?_ (put_size _ _ _)
        · have : (k + 1 + j == k) = false := by simp; omega
          rw [this]; simp
        · rw [put_get, if_neg hd]
    | succ i =>
      have e0 : (k == k + (i + 1)) = false := by simp
      simp only [runD, e0, Bool.or_false]
      have := ih i (k + 1) (if D k = true then a.put o1.dst v1 else a) (by simpa using hi) (by rw [show k + 1 + i = k + (i + 1) from by omega]; exact hD)
        (fun j o' v' hj hd' hd hlt => by have := hw (j + 1) o' v' (by simpa using hj) hd' hd (by omega); rwa [show k + 1 + j = k + (j + 1) from by omega])
      rw [show k + 1 + i = k + (i + 1) from by omega] at this
      exact this

/-! ### the look at the edges, by decision -/
def binds (o : Oper) : List Nat := (o.after.toList.filter fun e => Region.binds .any e).map (·.on)
/-- all that stand ahead of each operation, by its edges. -/
def ahead : List Oper → List (List Nat) → List (List Nat)
  | [], acc => acc
  | o :: r, acc => ahead r (acc ++ [(binds o).flatMap fun j => j :: (acc[j]?).getD []])
def names (ops : Array Oper) (o : Oper) : List Nat := o.dst.toList ++ o.looksAt ops
def notSelect (o : Oper) : Bool := match o.op with | .select .. => false | _ => true
def low (n : Nat) : List Oper → Nat → Bool
  | [], _ => true
  | o :: r, i => (binds o).all (fun j => Nat.blt j i) && notSelect o && low n r (i + 1)
def pairOk (ops : Array Oper) (A : List (List Nat)) (i : Nat) (oi : Oper) (j : Nat) (oj : Oper) : Bool :=
  match oj.dst with
  | none => true
  | some t => Nat.beq i j || !(names ops oi).contains t || (if Nat.blt j i then ((A[i]?).getD []).contains j else ((A[j]?).getD []).contains i)
def edgesOk (l : List Oper) : Bool :=
  let A := ahead l []
  low l.length l 0 && (List.range l.length).all fun i => (List.range l.length).all fun j =>
    match l[i]?, l[j]? with
    | some oi, some oj => pairOk l.toArray A i oi j oj
    | _, _ => true

theorem ahead_len : ∀ (l : List Oper) (acc : List (List Nat)), (ahead l acc).length = acc.length + l.length := by
  intro l
  induction l with
  | nil => intro acc; simp [ahead]
  | cons o r ih => intro acc; simp [ahead, ih]; omega
theorem ahead_pre : ∀ (l : List Oper) (acc : List (List Nat)) (i : Nat), i < acc.length → (ahead l acc)[i]? = acc[i]? := by
  intro l
  induction l with
  | nil => intro acc i _; rfl
  | cons o r ih => intro acc i h; rw [ahead, ih _ i (by simp; omega), List.getElem?_append_left h]
theorem ahead_at : ∀ (l : List Oper) (acc : List (List Nat)) (i : Nat) (o : Oper), l[i]? = some o → (∀ j ∈ binds o, j < acc.length + i) →
    (ahead l acc)[acc.length + i]? = some ((binds o).flatMap fun j => j :: ((ahead l acc)[j]?).getD []) := by
  intro l
  induction l with
  | nil => intro acc i o h; simp at h
  | cons o1 r ih =>
    intro acc i o h hb
    cases i with
    | zero =>
      simp only [List.getElem?_cons_zero, Option.some.injEq] at h
      subst h
      rw [ahead, ahead_pre _ _ _ (by simp)]
      simp only [Nat.add_zero]
      rw [List.getElem?_append_right (by omega)]
      simp only [Nat.sub_self, List.getElem?_cons_zero, Option.some.injEq]
      have key : ∀ m : List Nat, (∀ j ∈ m, j < acc.length) → (m.flatMap fun j => j :: (acc[j]?).getD []) =
          (m.flatMap fun j => j :: ((ahead r (acc ++ [(binds o1).flatMap fun j => j :: (acc[j]?).getD []]))[j]?).getD []) := by
        intro m
        induction m with
        | nil => intro _; rfl
        | cons j m ihm =>
          intro hm
          have hj := hm j (by simp)
          simp only [List.flatMap_cons]
          rw [ihm (fun x hx => hm x (List.mem_cons_of_mem _ hx)), ahead_pre _ _ j (by simp; omega), List.getElem?_append_left hj]
      exact key _ (fun j hj => by simpa using hb j hj)
    | succ i =>
      rw [ahead]
      have := ih (acc ++ [(binds o1).flatMap fun j => j :: (acc[j]?).getD []]) i o (by simpa using h) (fun j hj => by have := hb j hj; simp; omega)
      simp only [List.length_append, List.length_cons, List.length_nil] at this
      rw [show acc.length + (i + 1) = acc.length + (0 + 1) + i from by omega]
      exact this

theorem low_at {n : Nat} : ∀ (l : List Oper) (k i : Nat) (o : Oper), low n l k = true → l[i]? = some o → (∀ j ∈ binds o, j < k + i) ∧ notSelect o = true := by
  intro l
  induction l with
  | nil => intro k i o _ h; simp at h
  | cons o1 r ih =>
    intro k i o hl h
    simp only [low, Bool.and_eq_true, List.all_eq_true] at hl
    cases i with
    | zero =>
      simp only [List.getElem?_cons_zero, Option.some.injEq] at h
      subst h
      exact ⟨fun j hj => by have := hl.1.1 j hj; have := Nat.le_of_ble_eq_true this; omega, hl.1.2⟩
    | succ i =>
      obtain ⟨h1, h2⟩ := ih (k + 1) i o hl.2 (by simpa using h)
      exact ⟨fun j hj => by have := h1 j hj; omega, h2⟩

section
variable {P : Program} {N : Nat} {B : Nat} {w0 : World} {ds : List Deferred} {Q : Exit → Act → World → Prop} {F : Fr} {L : Lo}

def putF (F : Fr) : Option Nat → Value → Fr
  | some d, v => (d, v) :: F
  | none, _ => F
def okOp (P : Program) (N B : Nat) (w0 : World) (ds : List Deferred) (q : Prop) (ops : Array Oper) (F : Fr) (L : Lo) (o : Oper) (v : Value) : Prop :=
  (∀ d, o.dst = some d → d < N) ∧ match o.guard with
  | none => Ev P N B w0 ds q F L o v
  | some (j, wb) => (∃ c, asked ops F j = some c ∧ (c = wb → Ev P N B w0 ds q F L o v) ∧ (c = (!wb) → v = undef)) ∨ (askedU ops F j = true ∧ v = undef)
/-- the walk in the text's order. -/
def Fw0 (P : Program) (N B : Nat) (w0 : World) (ds : List Deferred) (q : Prop) (ops : Array Oper) (L : Lo) (K : Fr → Prop) : List Oper → Fr → Prop
  | [], F => K F
  | o :: r, F => ∃ v, okOp P N B w0 ds q ops F L o v ∧ Fw0 P N B w0 ds q ops L K r (putF F o.dst v)
/-- the same slots are known, with the same values; hints may differ. -/
def Alike (F G : Fr) : Prop := ∀ t, t < 1000000 → lk F t = lk G t
theorem Alike.fits {F G : Fr} (h : Alike F G) {a : Act} (hf : Fits N ds F a) : Fits N ds G a :=
  ⟨hf.size, hf.defers, fun t v ht hv => hf.get t v ht ((h t ht).trans hv)⟩
/-- the same, closed to the unifier. -/
structure Fw (P : Program) (N B : Nat) (w0 : World) (ds : List Deferred) (q : Prop) (K : Fr → Prop) (ops : Array Oper) (L : Lo) (l : List Oper) (F : Fr) : Prop where
  run : Fw0 P N B w0 ds q ops L (fun F' => ∃ G', Alike F' G' ∧ K G') l F
def seqF : List (Oper × Value) → Fr → Fr
  | [], F => F
  | (o, v) :: r, F => seqF r (putF F o.dst v)

theorem Fw0.values {q : Prop} {ops : Array Oper} {K : Fr → Prop} : ∀ (l : List Oper) (F : Fr), Fw0 P N B w0 ds q ops L K l F →
    ∃ vs : List (Oper × Value), vs.map (·.1) = l ∧ K (seqF vs F) ∧ ∀ i o v, vs[i]? = some (o, v) → okOp P N B w0 ds q ops (seqF (vs.take i) F) L o v := by
  intro l
  induction l with
  | nil => intro F h; exact ⟨[], rfl, h, fun i o v hi => by simp at hi⟩
  | cons o r ih =>
    rintro F ⟨v, hv, hr⟩
    obtain ⟨vs, h1, h2, h3⟩ := ih _ hr
    refine ⟨(o, v) :: vs, by simp [h1], h2, fun i o' v' hi => ?_⟩
    cases i with
    | zero =>
      simp only [List.getElem?_cons_zero, Option.some.injEq, Prod.mk.injEq] at hi
      obtain ⟨rfl, rfl⟩ := hi
      exact hv
    | succ i => exact h3 i o' v' (by simpa using hi)

theorem Fits.putF {a : Act} {o : Oper} {v : Value} (h : Fits N ds F a) (hd : ∀ d, o.dst = some d → d < N) : Fits N ds (putF F o.dst v) (a.put o.dst v) := by
  cases hdst : o.dst with
  | none => exact h
  | some d => exact h.put (by simp [Nat.blt]; exact hd d hdst)

theorem runD_all : ∀ (r : List (Oper × Value)) (k : Nat) (a : Act) (F : Fr), Fits N ds F a → (∀ (i : Nat) o v, r[i]? = some (o, v) → ∀ d, o.dst = some d → d < N) →
    Fits N ds (seqF r F) (runD (fun _ => true) k r a) := by
  intro r
  induction r with
  | nil => intro k a F h _; exact h
  | cons x r ih =>
    intro k a F h hd
    obtain ⟨o, v⟩ := x
    exact ih (k + 1) _ _ (h.putF (hd 0 o v rfl)) (fun i o' v' hi => hd (i + 1) o' v' (by simpa using hi))

theorem runD_congr (D D' : Nat → Bool) : ∀ (r : List (Oper × Value)) (k : Nat) (a : Act), (∀ j, j < r.length → D (k + j) = D' (k + j)) → runD D k r a = runD D' k r a := by
  intro r
  induction r with
  | nil => intro k a _; rfl
  | cons x r ih =>
    intro k a h
    obtain ⟨o, v⟩ := x
    have h0 := h 0 (by simp)
    simp only [Nat.add_zero] at h0
    simp only [runD, h0]
    exact ih (k + 1) _ (fun j hj => by have := h (j + 1) (by simp; omega); rwa [show k + 1 + j = k + (j + 1) from by omega])
theorem runD_take (i : Nat) : ∀ (r : List (Oper × Value)) (k : Nat) (a : Act), runD (fun x => decide (x < k + i)) k r a = runD (fun _ => true) k (r.take i) a := by
  induction i with
  | zero =>
    intro r k a
    simp only [List.take_zero, runD]
    have nothing : ∀ (r : List (Oper × Value)) (k m : Nat) (a : Act), m ≤ k → runD (fun x => decide (x < m)) k r a = a := by
      intro r
      induction r with
      | nil => intro k m a _; rfl
      | cons x r ih =>
        intro k m a h
        obtain ⟨o, v⟩ := x
        simp only [runD]
        rw [if_neg (by simp; omega)]
        exact ih (k + 1) m a (by omega)
    exact nothing r k _ a (by omega)
  | succ i ih =>
    intro r k a
    cases r with
    | nil => rfl
    | cons x r =>
      obtain ⟨o, v⟩ := x
      simp only [List.take_succ_cons, runD]
      rw [if_pos (by simp), if_pos trivial]
      rw [← ih r (k + 1)]
      exact runD_congr _ _ _ _ _ (fun j _ => by congr 1; simp; omega)

def on (D : Array Bool) (j : Nat) : Bool := D.getD j false
def Closed (l : List Oper) (D : Array Bool) : Prop := ∀ i, on D i = true → ∀ o, l[i]? = some o → ∀ j ∈ binds o, on D j = true

theorem ahead_closed {l : List Oper} {D : Array Bool} (hl : low l.length l 0 = true) (hD : Closed l D) : ∀ (i : Nat) (o : Oper), l[i]? = some o → (∀ j ∈ binds o, on D j = true) →
    ∀ k ∈ ((ahead l [])[i]?).getD [], on D k = true := by
  intro i
  induction i using Nat.strongRecOn with
  | _ i ih =>
    intro o ho hb k hk
    obtain ⟨hlo, _⟩ := low_at l 0 i o hl ho
    have := ahead_at l [] i o ho (by simpa using hlo)
    simp only [List.length_nil, Nat.zero_add] at this
    rw [this] at hk
    simp only [Option.getD_some, List.mem_flatMap, List.mem_cons] at hk
    obtain ⟨j, hj, rfl | hk⟩ := hk
    · exact hb _ hj
    · have hji : j < i := by simpa using hlo j hj
      have hjl : j < l.length := by have := (List.getElem?_eq_some_iff.1 ho).1; omega
      exact ih j hji l[j] (List.getElem?_eq_getElem hjl) (hD j (hb j hj) _ (List.getElem?_eq_getElem hjl)) k hk

theorem ready_spec {l : List Oper} {D : Array Bool} {i : Nat} (hsz : D.size = l.length) (h : i ∈ Region.ready .any l.toArray D) :
    ∃ o, l[i]? = some o ∧ on D i = false ∧ ∀ j ∈ binds o, on D j = true := by
  unfold Region.ready at h
  simp only [List.mem_filter, List.mem_range, List.size_toArray, Bool.and_eq_true] at h
  obtain ⟨hlt, h1, h2⟩ := h
  refine ⟨l[i], List.getElem?_eq_getElem hlt, ?_, ?_⟩
  · unfold on
    simp only [Array.getD_eq_getD_getElem?] at h1 ⊢
    rw [Array.getElem?_eq_getElem (by omega)] at h1 ⊢
    simpa using h1
  · intro j hj
    have e : l.toArray[i]? = some l[i] := by simp [hlt]
    rw [e] at h2
    simp only [Option.map_some, Option.getD_some, Array.all_eq_true_iff_forall_mem] at h2
    unfold binds at hj
    simp only [List.mem_map, List.mem_filter] at hj
    obtain ⟨e1, ⟨hm, hb⟩, rfl⟩ := hj
    have := h2 e1 (by simpa using hm)
    simp only [hb, Bool.not_true, Bool.false_or] at this
    exact this

theorem ready_of {l : List Oper} {D : Array Bool} {i : Nat} {o : Oper} (hsz : D.size = l.length) (ho : l[i]? = some o) (hn : on D i = false) (hb : ∀ j ∈ binds o, on D j = true) :
    i ∈ Region.ready .any l.toArray D := by
  have hlt := (List.getElem?_eq_some_iff.1 ho).1
  unfold Region.ready
  simp only [List.mem_filter, List.mem_range, List.size_toArray, Bool.and_eq_true]
  refine ⟨hlt, ?_, ?_⟩
  · unfold on at hn
    simp only [Array.getD_eq_getD_getElem?] at hn ⊢
    rw [Array.getElem?_eq_getElem (by omega)] at hn ⊢
    simpa using hn
  · have e : l.toArray[i]? = some o := by simpa using ho
    rw [e]
    simp only [Option.map_some, Option.getD_some, Array.all_eq_true_iff_forall_mem]
    intro e1 hm
    cases hbd : Region.binds .any e1 with
    | false => simp
    | true =>
      simp only [Bool.not_true, Bool.false_or]
      exact hb e1.on (by unfold binds; simp only [List.mem_map, List.mem_filter]; exact ⟨e1, ⟨by simpa using hm, hbd⟩, rfl⟩)

/-- where nothing is ready all is done. -/
theorem all_done {l : List Oper} {D : Array Bool} (hsz : D.size = l.length) (hl : low l.length l 0 = true) (hr : Region.ready .any l.toArray D = []) : ∀ i, i < l.length → on D i = true := by
  intro i
  induction i using Nat.strongRecOn with
  | _ i ih =>
    intro hi
    cases hc : on D i with
    | true => rfl
    | false =>
      exfalso
      have hm := ready_of hsz (List.getElem?_eq_getElem hi) hc (fun j hj => by
        have hji : j < i := by simpa using (low_at l 0 i l[i] hl (List.getElem?_eq_getElem hi)).1 j hj
        exact ih j hji (by omega))
      rw [hr] at hm
      cases hm

theorem act_ext {a b : Act} (h : ∀ t : Nat, a.tmps[t]? = b.tmps[t]?) (hd : a.defers = b.defers) : a = b := by
  obtain ⟨x, d⟩ := a
  obtain ⟨y, e⟩ := b
  have : x = y := Array.ext_getElem? h
  subst this
  simp only at hd
  rw [hd]

theorem eval_of {a b : Act} {x : Operand} (h : ∀ t, x = .tmp t → a.tmps[t]? = b.tmps[t]?) : a.eval x = b.eval x := by
  cases x with
  | tmp t => simp only [Act.eval, Array.getD_eq_getD_getElem?, h t rfl]
  | const v => rfl
  | global g => rfl
  | func f => rfl

theorem on_set {D : Array Bool} {i : Nat} (hi : i < D.size) (j : Nat) : on (D.setIfInBounds i true) j = (on D j || j == i) := by
  unfold on
  simp only [Array.getD_eq_getD_getElem?, Array.getElem?_setIfInBounds]
  by_cases h : i = j
  · subst h; simp [hi]
  · rw [if_neg h]
    have : (j == i) = false := by simp; omega
    rw [this]; simp

theorem edgesOk_pair {l : List Oper} (hc : edgesOk l = true) {i j : Nat} {oi oj : Oper} (hi : l[i]? = some oi) (hj : l[j]? = some oj) : pairOk l.toArray (ahead l []) i oi j oj = true := by
  unfold edgesOk at hc
  simp only [Bool.and_eq_true, List.all_eq_true, List.mem_range] at hc
  have := hc.2 i (List.getElem?_eq_some_iff.1 hi).1 j (List.getElem?_eq_some_iff.1 hj).1
  rw [hi, hj] at this
  exact this
theorem edgesOk_low {l : List Oper} (hc : edgesOk l = true) : low l.length l 0 = true := by
  unfold edgesOk at hc
  simp only [Bool.and_eq_true] at hc
  exact hc.1

/-- who has written a slot that i names: just those ahead of i. -/
theorem writer_iff {l : List Oper} {D : Array Bool} (hc : edgesOk l = true) (hD : Closed l D) {i : Nat} {oi : Oper} (hi : l[i]? = some oi) (hn : on D i = false) (hb : ∀ j ∈ binds oi, on D j = true)
    {j : Nat} {oj : Oper} {t : Nat} (hj : l[j]? = some oj) (ht : oj.dst = some t) (hm : t ∈ names l.toArray oi) (hne : i ≠ j) : on D j = decide (j < i) := by
  have hp := edgesOk_pair hc hi hj
  unfold pairOk at hp
  rw [ht] at hp
  simp only [Bool.or_eq_true] at hp
  rcases hp with (hp | hp) | hp
  · exact absurd (Nat.eq_of_beq_eq_true hp) hne
  · simp [hm] at hp
  · by_cases hlt : j < i
    · have : Nat.blt j i = true := by simp [Nat.blt]; omega
      rw [if_pos this] at hp
      have hk : j ∈ ((ahead l [])[i]?).getD [] := by simpa using hp
      rw [ahead_closed (edgesOk_low hc) hD i oi hi hb j hk]
      simp [hlt]
    · have : ¬ Nat.blt j i = true := by intro h; exact hlt (Nat.le_of_ble_eq_true h)
      rw [if_neg this] at hp
      have hk : i ∈ ((ahead l [])[j]?).getD [] := by simpa using hp
      cases hdj : on D j with
      | false => simp [hlt]
      | true =>
        have := ahead_closed (edgesOk_low hc) hD j oj hj (hD j hdj oj hj) i hk
        rw [hn] at this
        cases this

theorem map_at {l : List Oper} {vs : List (Oper × Value)} (h : vs.map (·.1) = l) {i : Nat} {o : Oper} (hi : l[i]? = some o) : ∃ v, vs[i]? = some (o, v) := by
  subst h
  simp only [List.getElem?_map] at hi
  cases hx : vs[i]? with
  | none => rw [hx] at hi; cases hi
  | some x => obtain ⟨o', v⟩ := x; rw [hx] at hi; simp at hi; subst hi; exact ⟨v, rfl⟩
theorem map_at' {l : List Oper} {vs : List (Oper × Value)} (h : vs.map (·.1) = l) {i : Nat} {o : Oper} {v : Value} (hi : vs[i]? = some (o, v)) : l[i]? = some o := by
  subst h
  simp [hi]

theorem count_set {D : Array Bool} {i : Nat} (hi : i < D.size) (hn : on D i = false) : (D.setIfInBounds i true).toList.count false < D.toList.count false := by
  have h0 : D.toList[i]'(by simpa using hi) = false := by
    unfold on at hn
    simp only [Array.getD_eq_getD_getElem?] at hn
    rw [Array.getElem?_eq_getElem hi] at hn
    simpa using hn
  rw [Array.toList_setIfInBounds, List.count_set (by simpa using hi)]
  have hpos : 0 < D.toList.count false := List.count_pos_iff.2 (h0 ▸ List.getElem_mem _)
  rw [h0]
  have e1 : (false == false) = true := rfl
  have e2 : (true == false) = false := rfl
  rw [e1, e2]
  simp only [if_true, Bool.false_eq_true, if_false]
  omega

/-- no write, no new memory (but by a call). -/
def quietO (o : Oper) : Bool := match o.op with
  | .alloc .. | .store .. | .box .. | .buildSlice .. | .makeSlice .. | .makeMap .. | .mapUpdate .. | .insert .. => false
  | .call { callee := .builtin .append, .. } => false
  | _ => true
theorem XC.draw {id : Nat} {l : List Oper} (hm : P.follows .mixedOrders = true) (hq : l.all quietO = true) (hc : edgesOk l = true)
    (h : Fw P N B w0 ds True (fun F' => XE N B w0 ds Q .normal F' L) l.toArray L l F) : XC P N B w0 ds Q (.region id l.toArray true) F L := by
  refine ⟨fun a w hf hs => ?_⟩
  obtain ⟨vs, hmap, ⟨G', hal, hK⟩, hok⟩ := Fw0.values l F h.run
  have hlen : vs.length = l.length := by rw [← hmap]; simp
  have hdN : ∀ (i : Nat) o v, vs[i]? = some (o, v) → ∀ d, o.dst = some d → d < N := fun i o v hi => (hok i o v hi).1
  have hfin : ∀ (D : Array Bool) a' w', (∀ i, i < l.length → on D i = true) → (∀ t : Nat, a'.tmps[t]? = (runD (on D) 0 vs a).tmps[t]?) → a'.defers = a.defers → Sys B w0 L w' → Q .normal a' w' := by
    intro D a' w' hall hpt hdf hs'
    have : a' = runD (fun _ => true) 0 vs a := act_ext (fun t => by
      rw [hpt t]
      exact runD_get _ _ t vs 0 _ _ (fun j o v hj _ => by rw [Nat.zero_add]; exact hall j (by have := (List.getElem?_eq_some_iff.1 hj).1; omega)) rfl rfl) (by rw [hdf, runD_defers])
    rw [this]
    exact hK.run _ _ (hal.fits (runD_all vs 0 a F hf hdN)) hs'
  have key : ∀ fuel (D : Array Bool) a' w', D.size = l.length → Closed l D → D.toList.count false ≤ fuel → (∀ t : Nat, a'.tmps[t]? = (runD (on D) 0 vs a).tmps[t]?) → a'.defers = a.defers →
      Sys B w0 L w' → wpAny P .any l.toArray Q fuel D a' w' := by
    intro fuel
    induction fuel with
    | zero =>
      intro D a' w' hsz hcl hcnt hpt hdf hs'
      have hall : ∀ i, i < l.length → on D i = true := by
        intro i hi
        cases hx : on D i with
        | true => rfl
        | false => have := count_set (by omega) hx; omega
      refine ⟨?_, hfin D a' w' hall hpt hdf hs'⟩
      apply List.eq_nil_iff_forall_not_mem.2
      intro i hi
      obtain ⟨o, ho, hn, _⟩ := ready_spec hsz hi
      rw [hall i (List.getElem?_eq_some_iff.1 ho).1] at hn
      cases hn
    | succ fuel ih =>
      intro D a' w' hsz hcl hcnt hpt hdf hs'
      refine ⟨fun hr => hfin D a' w' (all_done hsz (edgesOk_low hc) hr) hpt hdf hs', fun i hi => ?_⟩
      obtain ⟨o, ho, hn, hb⟩ := ready_spec hsz hi
      have hilt : i < l.length := (List.getElem?_eq_some_iff.1 ho).1
      obtain ⟨v, hv⟩ := map_at hmap ho
      -- the slots that i names hold what they hold in the text's order
      have hsame : ∀ t ∈ names l.toArray o, a'.tmps[t]? = (runD (fun x => decide (x < 0 + i)) 0 vs a).tmps[t]? := by
        intro t ht
        rw [hpt t]
        refine runD_get _ _ t vs 0 _ _ (fun j oj vj hj hdj => ?_) rfl rfl
        simp only [Nat.zero_add]
        by_cases hij : i = j
        · subst hij; rw [hn]; simp
        · exact writer_iff hc hcl ho hn hb (map_at' hmap hj) hdj ht hij
      have hfi : Fits N ds (seqF (vs.take i) F) (runD (fun x => decide (x < 0 + i)) 0 vs a) := by
        rw [runD_take]
        exact runD_all _ 0 a F hf (fun j oj vj hj => by
          rw [List.getElem?_take] at hj
          split at hj
          · exact hdN j oj vj hj
          · cases hj)
      have hexec : execOp a'.eval o = execOp (runD (fun x => decide (x < 0 + i)) 0 vs a).eval o := by
        refine execOp_congr o ?_ ?_
        · intro cs b e
          have := (low_at l 0 i o (edgesOk_low hc) ho).2
          simp [notSelect, e] at this
        · intro x hx
          refine eval_of fun t e => hsame t ?_
          subst e
          unfold names Oper.looksAt
          simp only [List.mem_append, List.mem_filterMap]
          exact .inr (.inl ⟨.tmp t, by simpa using hx, rfl⟩)
      -- what follows
      have hgo : ∀ w'', Sys B w0 L w'' → wpAny P .any l.toArray Q fuel (D.setIfInBounds i true) (a'.put o.dst v) w'' := by
        intro w'' hs''
        have hD' : on (D.setIfInBounds i true) = fun x => on D x || x == 0 + i := by funext x; rw [on_set (by omega), Nat.zero_add]
        refine ih _ _ _ (by simpa using hsz) ?_ (by have := count_set (D := D) (i := i) (by omega) hn; omega) ?_ (by rw [put_defers]; exact hdf) hs''
        · intro k hk ok hok' j hj
          rw [on_set (by omega)] at hk ⊢
          simp only [Bool.or_eq_true, beq_iff_eq] at hk ⊢
          rcases hk with hk | rfl
          · exact .inl (hcl k hk ok hok' j hj)
          · rw [ho] at hok'
            obtain rfl := Option.some.inj hok'
            exact .inl (hb j hj)
        · intro t
          rw [hD', runD_put (on D) i o v t vs 0 a hv (by rw [Nat.zero_add]; exact hn) (fun j oj vj hj hdj hdo hlt => ?_)]
          · rw [put_get, put_get, hpt t]
            have : a'.tmps.size = (runD (on D) 0 vs a).tmps.size := by
              have e : a'.tmps = (runD (on D) 0 vs a).tmps := Array.ext_getElem? hpt
              rw [e]
            rw [this]
          · rw [Nat.zero_add]
            have := writer_iff hc hcl ho hn hb (map_at' hmap hj) hdj (show t ∈ names l.toArray o by unfold names; simp [hdo]) (by omega)
            rw [this]
            simp; omega
      unfold wpOp
      have hoi : l.toArray[i]? = some o := by simpa using ho
      rw [hoi]
      simp only
      obtain ⟨_, hcase⟩ := hok i o v hv
      cases hg : o.guard with
      | none =>
        rw [hg] at hcase
        simp only at hcase
        rw [if_pos (by simp [Region.wanted, hg])]
        refine .inl ?_
        unfold Oper.wp
        rw [hexec]
        exact (hcase.run _ w' hfi hs').upon fun w'' hb => hgo w'' (hs'.below hb)
      | some gw =>
        obtain ⟨j, wb⟩ := gw
        rw [hg] at hcase
        simp only at hcase
        have hsj : yielded l.toArray a'.tmps j = yielded l.toArray (runD (fun x => decide (x < 0 + i)) 0 vs a).tmps j := by
          unfold yielded
          cases hdj : (l.toArray[j]?).bind (·.dst) with
          | none => rfl
          | some t =>
            simp only [Option.bind_some]
            rw [hsame t (by unfold names Oper.looksAt; rw [hg]; simp only [List.mem_append]; right; right; rw [hdj]; exact List.mem_singleton.2 rfl)]
        rcases hcase with ⟨c, hask, hy, hno⟩ | ⟨hask, hno⟩
        case inr =>
          have hyn : yielded l.toArray a'.tmps j = none := by rw [hsj]; exact askedU_spec hask hfi
          have hwant : Region.wanted o (yielded l.toArray a'.tmps) = false := by simp [Region.wanted, hg, hyn]
          rw [hwant, if_neg (by simp)]
          have := hgo w' hs'
          rw [hno] at this
          exact this
        have hyl : yielded l.toArray a'.tmps j = some c := by
          rw [hsj, asked_spec hask hfi]
        have hwant : Region.wanted o (yielded l.toArray a'.tmps) = (c == wb) := by simp [Region.wanted, hg, hyl]
        rw [hwant]
        by_cases hcw : c = wb
        · rw [if_pos (by simp [hcw])]
          refine .inl ?_
          unfold Oper.wp
          rw [hexec]
          exact ((hy hcw).run _ w' hfi hs').upon fun w'' hb => hgo w'' (hs'.below hb)
        · have hc' : c = !wb := by cases c <;> cases wb <;> simp_all
          rw [if_neg (by simpa using hcw)]
          have := hgo w' hs'
          rw [hno hc'] at this
          exact this
  refine wp_region_any hm (key _ _ _ _ (by simp) ?_ ?_ ?_ rfl hs.drew)
  · intro i hi
    exfalso
    unfold on at hi
    simp only [Array.getD_eq_getD_getElem?, Array.getElem?_replicate] at hi
    split at hi <;> simp at hi
  · simp
  · intro t
    have nothing : ∀ (r : List (Oper × Value)) (k : Nat) (a : Act), runD (on (Array.replicate l.toArray.size false)) k r a = a := by
      intro r
      induction r with
      | nil => intro k a; rfl
      | cons x r ih =>
        intro k a
        obtain ⟨o, v⟩ := x
        have : on (Array.replicate l.toArray.size false) k = false := by
          unfold on
          simp only [Array.getD_eq_getD_getElem?, Array.getElem?_replicate]
          split <;> simp
        simp only [runD, this]
        exact ih _ _
    rw [nothing]

/-! ### the walk in the text's order, step by step -/
section
variable {q : Prop} {K : Fr → Prop} {ops : Array Oper} {rest : List Oper} {d j : Nat} {wb : Bool} {op : Op} {ty : TypeId} {p : String} {af : Array Edge}
theorem Fw.done (h : K F) : Fw P N B w0 ds q K ops L [] F := ⟨⟨F, fun _ _ => rfl, h⟩⟩
theorem Fw.step (v : Value) (he : Ev P N B w0 ds q F L { dst := some d, op := op, type := ty, pos := p, after := af, guard := none } v) (hd : Nat.blt d N = true)
    (k : Fw P N B w0 ds q K ops L rest ((d, v) :: F)) : Fw P N B w0 ds q K ops L ({ dst := some d, op := op, type := ty, pos := p, after := af, guard := none } :: rest) F :=
  ⟨⟨v, ⟨fun x hx => by have := Option.some.inj hx; subst this; exact Nat.le_of_ble_eq_true hd, he⟩, k.run⟩⟩
theorem Fw.guard_u (hj : askedU ops F j = true) (k : Fw P N B w0 ds q K ops L rest ((d, undef) :: F)) (hd : Nat.blt d N = true) :
    Fw P N B w0 ds q K ops L ({ dst := some d, op := op, type := ty, pos := p, after := af, guard := some (j, wb) } :: rest) F :=
  ⟨undef, ⟨fun x hx => by have := Option.some.inj hx; subst this; exact Nat.le_of_ble_eq_true hd, Or.inr ⟨hj, rfl⟩⟩, k.run⟩
theorem Ev.setGuard {o : Oper} {v : Value} {gd : Option (Nat × Bool)} (h : Ev P N B w0 ds q F L { dst := some d, op := op, type := ty, pos := p, after := af, guard := none } v) :
    Ev P N B w0 ds q F L { dst := some d, op := op, type := ty, pos := p, after := af, guard := gd } v := ⟨h.run⟩
theorem Fw.guard_y (hj : asked ops F j = some wb) (h : Fw P N B w0 ds q K ops L ({ dst := some d, op := op, type := ty, pos := p, after := af, guard := none } :: rest) F) :
    Fw P N B w0 ds q K ops L ({ dst := some d, op := op, type := ty, pos := p, after := af, guard := some (j, wb) } :: rest) F := by
  obtain ⟨v, ⟨hd, he⟩, k⟩ := h.run
  exact ⟨v, ⟨hd, Or.inl ⟨wb, hj, fun _ => ⟨he.run⟩, fun e => absurd e (by cases wb <;> simp)⟩⟩, k⟩
theorem Fw.guard_n (hj : asked ops F j = some (!wb)) (k : Fw P N B w0 ds q K ops L rest ((d, undef) :: F)) (hd : Nat.blt d N = true) :
    Fw P N B w0 ds q K ops L ({ dst := some d, op := op, type := ty, pos := p, after := af, guard := some (j, wb) } :: rest) F :=
  ⟨⟨undef, ⟨fun x hx => by have := Option.some.inj hx; subst this; exact Nat.le_of_ble_eq_true hd, Or.inl ⟨!wb, hj, fun e => absurd e (by cases wb <;> simp), fun _ => rfl⟩⟩, k.run⟩⟩
/-- the guard's bool is not decided: two walks. -/
theorem Fw.split {dst : Option Nat} (s : Nat) (c : Bool) (hj : askedAt ops F j = some (s, c))
    (ht : c = true → Fw P N B w0 ds q K ops L ({ dst := dst, op := op, type := ty, pos := p, after := af, guard := some (j, wb) } :: rest) F)
    (hf : c = false → Fw P N B w0 ds q K ops L ({ dst := dst, op := op, type := ty, pos := p, after := af, guard := some (j, wb) } :: rest) F) :
    Fw P N B w0 ds q K ops L ({ dst := dst, op := op, type := ty, pos := p, after := af, guard := some (j, wb) } :: rest) F := by
  cases c with
  | true => exact ht rfl
  | false => exact hf rfl
end
end
end Go.Proofs.YtoiepgcjinccpaaDoor.X
