/-
  The plain words of layer 7 (runoff): devices, tasks, what Check says, what a choice does.
-/
import Derived.Test.YtmodjcegmgjhoaaPart3
set_option linter.unusedVariables false
set_option linter.unusedSimpArgs false
namespace Go.Proofs.Ytmodjcegmgjhoaa.Bs
open Go Go.Proofs.Ytmodjcegmgjhoaa.X
set_option linter.unusedVariables false
structure Slu where
  name : ByteArray
  width : Int
  move : Int
structure Pmp where
  name : ByteArray
  rate : Int
  base : Int
  lift : Int
  start : Int
inductive Dev where
  | slu (x : Slu)
  | pmp (x : Pmp)
structure RTk where
  b : Bas
  s : Sta
  outer : List Int
  river : List Int
  prices : List Int
  low : Int
  high : Int
  slu : List Slu
  pmp : List Pmp
  on : List Bool
def Dev.name : Dev → ByteArray
  | .slu x => x.name
  | .pmp x => x.name
def sluWild (x : Slu) : Bool := outB x.width 0 10000 || outB x.move 0 100000
def pmpWild (x : Pmp) : Bool := outB x.rate 0 10000000 || (outB x.base 0 100000 || (outB x.lift 0 100000 || outB x.start 0 100000))
def Dev.wild : Dev → Bool
  | .slu x => sluWild x
  | .pmp x => pmpWild x
def RTk.devs (t : RTk) : List Dev := t.slu.map .slu ++ t.pmp.map .pmp
def d0 : Dev := .slu ⟨ByteArray.empty, 0, 0⟩
def RTk.dev (t : RTk) (i : Nat) : Dev := t.devs[i]?.getD d0
def RTk.many (t : RTk) : Nat := t.slu.length + t.pmp.length
theorem RTk.devs_len (t : RTk) : t.devs.length = t.many := by simp [RTk.devs, RTk.many]
def tickErr (t : RTk) (i : Nat) : Int := if outB (at0 t.outer i) (-20000) 20000 || (outB (at0 t.river i) 0 10000000 || outB (at0 t.prices i) 0 10000) then 7 else 0
def devErr (l : List Dev) (i : Nat) : Int :=
  if nameB (l[i]?.getD d0).name = false then 6 else if ∃ k, k < i ∧ (l[k]?.getD d0).name = (l[i]?.getD d0).name then 5 else if (l[i]?.getD d0).wild = true then 7 else 0
open Classical in
noncomputable def chkT (t : RTk) : Int × Int × Int :=
  if chkE t.b ≠ 0 then (1, 0, chkE t.b) else
  if staErr t.b t.s ≠ 0 then (1, 1, staErr t.b t.s) else
  if 6 < t.outer.length then (2, 0, 3) else
  if t.river.length ≠ t.outer.length ∨ t.prices.length ≠ t.outer.length then (2, 0, 2) else
  match firstN (tickErr t) t.outer.length with
  | some i => (2, i, 7)
  | none =>
    if outB t.high (-20000) 20000 || outB t.low (t.b.row 0).level t.high then (3, 0, 7) else
    if 2 < t.slu.length ∨ 2 < t.pmp.length then (4, 0, 3) else
    match firstN (devErr t.devs) t.devs.length with
    | some i => (4, i, devErr t.devs i)
    | none => if t.on.length ≠ t.devs.length then (5, 0, 2) else (0, 0, 0)
noncomputable def rtE (t : RTk) : Int := (chkT t).2.2
/-- a device's numbers are fine. -/
def DevOk : Dev → Prop
  | .slu x => (0 ≤ x.width ∧ x.width ≤ 10000) ∧ (0 ≤ x.move ∧ x.move ≤ 100000)
  | .pmp x => (0 ≤ x.rate ∧ x.rate ≤ 10000000) ∧ (0 ≤ x.base ∧ x.base ≤ 100000) ∧ (0 ≤ x.lift ∧ x.lift ≤ 100000) ∧ (0 ≤ x.start ∧ x.start ≤ 100000)
structure RtOk (t : RTk) : Prop where
  ok : Ok t.b
  sta : StaOk t.b t.s
  n6 : t.outer.length ≤ 6
  river : t.river.length = t.outer.length
  prices : t.prices.length = t.outer.length
  out_ : ∀ i, i < t.outer.length → -20000 ≤ at0 t.outer i ∧ at0 t.outer i ≤ 20000
  riv_ : ∀ i, i < t.outer.length → 0 ≤ at0 t.river i ∧ at0 t.river i ≤ 10000000
  pri_ : ∀ i, i < t.outer.length → 0 ≤ at0 t.prices i ∧ at0 t.prices i ≤ 10000
  high : t.high ≤ 20000
  low : (t.b.row 0).level ≤ t.low ∧ t.low ≤ t.high
  s2 : t.slu.length ≤ 2
  p2 : t.pmp.length ≤ 2
  dev : ∀ d, d ∈ t.devs → DevOk d
  on : t.on.length = t.devs.length
theorem firstN_val {f : Nat → Int} {n i : Nat} (h : firstN f n = some i) : i < n ∧ f i ≠ 0 ∧ ∀ j, j < i → f j = 0 := by
  induction n with
  | zero => cases h
  | succ n ih =>
    simp only [firstN] at h
    cases hx : firstN f n with
    | some j =>
      rw [hx] at h
      cases h
      obtain ⟨a, b, c⟩ := ih hx
      exact ⟨by omega, b, c⟩
    | none =>
      rw [hx] at h
      simp only at h
      by_cases hf : f n = 0
      · rw [if_pos hf] at h; cases h
      · rw [if_neg hf] at h
        cases h
        exact ⟨by omega, hf, firstN_none_iff hx⟩
theorem dev_ok {d : Dev} (h : d.wild = false) : DevOk d := by
  cases d with
  | slu x =>
    simp only [Dev.wild, sluWild, Bool.or_eq_false_iff] at h
    exact ⟨outB_f.1 h.1, outB_f.1 h.2⟩
  | pmp x =>
    simp only [Dev.wild, pmpWild, Bool.or_eq_false_iff] at h
    exact ⟨outB_f.1 h.1, outB_f.1 h.2.1, outB_f.1 h.2.2.1, outB_f.1 h.2.2.2⟩
theorem rtOk_of {t : RTk} (h : rtE t = 0) : RtOk t := by
  unfold rtE chkT at h
  split at h
  · rename_i h1; exact absurd h h1
  rename_i h1
  split at h
  · rename_i h2; exact absurd h h2
  rename_i h2
  have hs0 : staErr t.b t.s = 0 := by simpa using h2
  obtain ⟨ho, hs⟩ := staOk_of hs0
  split at h
  · cases h
  rename_i h3
  split at h
  · cases h
  rename_i h4
  split at h
  · cases h
  rename_i h5
  split at h
  · cases h
  rename_i h6
  split at h
  · cases h
  rename_i h7
  split at h
  · rename_i i hi
    obtain ⟨_, b1, _⟩ := firstN_val hi
    exact absurd h b1
  rename_i h8
  split at h
  · cases h
  rename_i h9
  have h5' := firstN_none_iff h5
  have ht : ∀ i, i < t.outer.length → (-20000 ≤ at0 t.outer i ∧ at0 t.outer i ≤ 20000) ∧ (0 ≤ at0 t.river i ∧ at0 t.river i ≤ 10000000) ∧ (0 ≤ at0 t.prices i ∧ at0 t.prices i ≤ 10000) := fun i hi => by
    have := h5' i hi
    unfold tickErr at this
    split at this
    · cases this
    · rename_i h10
      simp only [Bool.or_eq_true, not_or, Bool.not_eq_true] at h10
      exact ⟨outB_f.1 h10.1, outB_f.1 h10.2.1, outB_f.1 h10.2.2⟩
  simp only [Bool.or_eq_true, not_or, Bool.not_eq_true] at h6
  have hl := outB_f.1 h6.2
  have hh := outB_f.1 h6.1
  have h8' := firstN_none_iff h8
  refine ⟨ho, hs, by omega, by omega, by omega, fun i hi => (ht i hi).1, fun i hi => (ht i hi).2.1, fun i hi => (ht i hi).2.2, hh.2, hl, by omega, by omega, fun d hd => ?_, by simpa using h9⟩
  obtain ⟨i, hi, rfl⟩ := List.mem_iff_getElem.1 hd
  have h10 := h8' i hi
  unfold devErr at h10
  rw [List.getElem?_eq_getElem hi] at h10
  simp only [Option.getD_some] at h10
  split at h10
  · cases h10
  · split at h10
    · cases h10
    · split at h10
      · cases h10
      · rename_i h11
        exact dev_ok (by simpa using h11)
/-! ### what a choice does -/
/-- n / d: the level inside; o: the level outside. -/
def Dev.flow (n d o : Int) : Dev → Option Int
  | .slu x => if n - o * d ≤ 0 then none else some ((x.width * (n - o * d)).tdiv d)
  | .pmp x => some x.rate
def Dev.energy (n d o : Int) (before on : Bool) : Dev → Int
  | .slu x => if before = on then 0 else x.move
  | .pmp x => if on = true then x.base + (x.lift * max 0 (-(n - o * d)) + d - 1).tdiv d + (if before = true then 0 else x.start) else 0
def bl (l : List Bool) (i : Nat) : Bool := l[i]?.getD false
/-- the first k devices: what runs off, and the energy; none: a sluice is on that must not be. -/
def useTo (n d o : Int) (ds : List Dev) (before on : List Bool) : Nat → Option (Int × Int)
  | 0 => some (0, 0)
  | k + 1 => match useTo n d o ds before on k with
    | none => none
    | some (f, e) => if bl on k = true then
        match (ds[k]?.getD d0).flow n d o with
        | none => none
        | some x => some (f + x, e + (ds[k]?.getD d0).energy n d o (bl before k) true)
      else some (f, e + (ds[k]?.getD d0).energy n d o (bl before k) false)
def RTk.use (t : RTk) (v : Int) (tick : Nat) (before on : List Bool) : Option (Int × Int) :=
  match useTo (num t.b v) (den t.b v) (at0 t.outer tick) t.devs before on t.devs.length with
  | none => none
  | some (f, e) => some (min f 10000000, e)
/-- what happens in a tick: the state after it, what was to run off, the energy, the cost. -/
structure Done where
  s : Sta
  out : Int
  energy : Int
  cost : Int
def Done.zero : Done := ⟨⟨0, []⟩, 0, 0, 0⟩
/-- the tick that a choice makes. -/
def RTk.tickOf (t : RTk) (i : Nat) (f : Int) : Tick := ⟨at0 t.outer i, at0 t.river i, f⟩
/-- the fault of a choice; what happens. -/
def RTk.doE (t : RTk) (s : Sta) (i : Nat) (before on : List Bool) : Int :=
  match t.use s.vol i before on with
  | none => 170
  | some (f, _) =>
    if stepE t.b s (t.tickOf i f) ≠ 0 then 173
    else if num t.b (outS t.b s (t.tickOf i f)).vol < t.low * den t.b (outS t.b s (t.tickOf i f)).vol then 171
    else if t.high * den t.b (outS t.b s (t.tickOf i f)).vol < num t.b (outS t.b s (t.tickOf i f)).vol then 172 else 0
def RTk.doD (t : RTk) (s : Sta) (i : Nat) (before on : List Bool) : Done :=
  if t.doE s i before on = 0 then
    match t.use s.vol i before on with
    | none => Done.zero
    | some (f, e) => ⟨outS t.b s (t.tickOf i f), f, e, e * at0 t.prices i⟩
  else Done.zero
/-! ### choices, plans -/
/-- choice number i of m devices. -/
def chc (m i : Nat) : List Bool := (List.range m).map fun j => i.testBit (m - 1 - j)
abbrev Plan := List (List Bool)
/-- a plan that was found, and its cost. -/
abbrev Fd := Option (Int × Plan)
/-- of two the cheaper one; of two alike the first. -/
def better : Fd → Fd → Fd
  | none, y => y
  | some x, none => some x
  | some x, some y => if y.1 < x.1 then some y else some x
def pick (g : Nat → Fd) : Nat → Fd
  | 0 => none
  | n + 1 => better (pick g n) (g n)
def RTk.m (t : RTk) : Nat := t.devs.length
def RTk.n (t : RTk) : Nat := t.outer.length
/-- a choice and the best rest. -/
def RTk.one (t : RTk) (more : Sta → List Bool → Fd) (s : Sta) (i : Nat) (before on : List Bool) : Fd :=
  if t.doE s i before on = 0 then
    match more (t.doD s i before on).s on with
    | none => none
    | some (c, p) => some ((t.doD s i before on).cost + c, on :: p)
  else none
/-- the first one of the cheapest rests of a plan: k ticks are left. -/
def RTk.rest (t : RTk) : Nat → Sta → List Bool → Fd
  | 0, _, _ => some (0, [])
  | k + 1, s, before => pick (fun i => t.one (t.rest k) s (t.n - (k + 1)) before (chc t.m i)) (2 ^ t.m)
/-- what happens along a plan from a tick on, up to the first fault; the fault. -/
def RTk.flw (t : RTk) : Nat → Sta → List Bool → Plan → List Done × Int
  | _, _, _, [] => ([], 0)
  | i, s, before, on :: r => if t.doE s i before on = 0 then ((t.doD s i before on) :: (t.flw (i + 1) (t.doD s i before on).s on r).1, (t.flw (i + 1) (t.doD s i before on).s on r).2) else ([], t.doE s i before on)
def costs (l : List Done) : Int := (l.map (·.cost)).foldl (· + ·) 0
def RTk.shaped (t : RTk) (p : Plan) : Bool := decide (p.length = t.n) && p.all fun on => decide (on.length = t.m)
end Go.Proofs.Ytmodjcegmgjhoaa.Bs
/-
  The plain law of layer 7 (runoff): the choices in order; the first one of the cheapest plans.
-/
namespace Go.Proofs.Ytmodjcegmgjhoaa.Bs
open Go Go.Proofs.Ytmodjcegmgjhoaa.X
set_option linter.unusedVariables false
/-! ### the choices -/
theorem chc_len (m i : Nat) : (chc m i).length = m := by simp [chc]
/-- the first difference: off in p, on in q. -/
def Bef (p q : List Bool) : Prop := ∃ k : Nat, (∀ j : Nat, j < k → p[j]? = q[j]?) ∧ p[k]? = some false ∧ q[k]? = some true
/-! ### the first one of the cheapest -/
theorem pick_none {g : Nat → Fd} : ∀ {n : Nat}, pick g n = none → ∀ i, i < n → g i = none := by
  intro n
  induction n with
  | zero => intro _ i h; omega
  | succ n ih =>
    intro h i hi
    unfold pick at h
    cases h1 : pick g n with
    | none =>
      rw [h1] at h
      simp only [better] at h
      rcases Nat.lt_or_ge i n with h2 | h2
      · exact ih h1 i h2
      · rw [show i = n by omega]; exact h
    | some x =>
      rw [h1] at h
      cases h2 : g n with
      | none => rw [h2] at h; simp [better] at h
      | some y => rw [h2] at h; simp only [better] at h; split at h <;> cases h
theorem pick_some {g : Nat → Fd} : ∀ {n : Nat} {x : Int × Plan}, pick g n = some x → ∃ i, i < n ∧ g i = some x ∧ (∀ j y, j < n → g j = some y → x.1 ≤ y.1) ∧ (∀ j y, j < i → g j = some y → x.1 < y.1) := by
  intro n
  induction n with
  | zero => intro x h; cases h
  | succ n ih =>
    intro x h
    unfold pick at h
    cases h1 : pick g n with
    | none =>
      rw [h1] at h
      simp only [better] at h
      have h2 := pick_none h1
      refine ⟨n, by omega, h, fun j y hj hy => ?_, fun j y hj hy => ?_⟩
      · rcases Nat.lt_or_ge j n with h3 | h3
        · rw [h2 j h3] at hy; cases hy
        · rw [show j = n by omega, h] at hy; cases hy; exact Int.le_refl _
      · rw [h2 j hj] at hy; cases hy
    | some z =>
      rw [h1] at h
      obtain ⟨i, a1, a2, a3, a4⟩ := ih h1
      cases h2 : g n with
      | none =>
        rw [h2] at h
        simp only [better, Option.some.injEq] at h
        subst h
        refine ⟨i, by omega, a2, fun j y hj hy => ?_, a4⟩
        rcases Nat.lt_or_ge j n with h3 | h3
        · exact a3 j y h3 hy
        · rw [show j = n by omega, h2] at hy; cases hy
      | some y0 =>
        rw [h2] at h
        simp only [better] at h
        by_cases h3 : y0.1 < z.1
        · rw [if_pos h3] at h
          cases h
          refine ⟨n, by omega, h2, fun j y hj hy => ?_, fun j y hj hy => ?_⟩
          · rcases Nat.lt_or_ge j n with h4 | h4
            · have := a3 j y h4 hy; omega
            · rw [show j = n by omega, h2] at hy; cases hy; exact Int.le_refl _
          · have := a3 j y hj hy; omega
        · rw [if_neg h3] at h
          cases h
          refine ⟨i, by omega, a2, fun j y hj hy => ?_, a4⟩
          rcases Nat.lt_or_ge j n with h4 | h4
          · exact a3 j y h4 hy
          · rw [show j = n by omega, h2] at hy; cases hy; omega
theorem costs_go (l : List Done) : ∀ a : Int, (l.map (·.cost)).foldl (· + ·) a = a + costs l := by
  induction l with
  | nil => intro a; simp [costs]
  | cons x l ih =>
    intro a
    have h1 := ih (a + x.cost)
    have h2 := ih (0 + x.cost)
    unfold costs
    simp only [List.map_cons, List.foldl_cons] at h1 h2 ⊢
    rw [h1, h2]; omega
theorem costs_cons (x : Done) (l : List Done) : costs (x :: l) = x.cost + costs l := by
  have := costs_go l (0 + x.cost)
  unfold costs at *
  simp only [List.map_cons, List.foldl_cons] at this ⊢
  rw [this]; omega
theorem costs_nil : costs [] = 0 := rfl
theorem costs_snoc (x : Done) (l : List Done) : costs (l ++ [x]) = costs l + x.cost := by
  unfold costs
  rw [List.map_append, List.foldl_append]; rfl
section
variable {t : RTk}
/-- a plan for the last k ticks that is good: all have a choice, and no fault. -/
structure GoodP (t : RTk) (k : Nat) (s : Sta) (before : List Bool) (p : Plan) : Prop where
  len : p.length = k
  row : ∀ on, on ∈ p → on.length = t.m
  ok : (t.flw (t.n - k) s before p).2 = 0
theorem one_some {more : Sta → List Bool → Fd} {s : Sta} {i : Nat} {before on : List Bool} {x : Int × Plan} (h : t.one more s i before on = some x) : t.doE s i before on = 0 ∧ ∃ c p, more (t.doD s i before on).s on = some (c, p) ∧ x = ((t.doD s i before on).cost + c, on :: p) := by
  unfold RTk.one at h
  by_cases h0 : t.doE s i before on = 0
  · rw [if_pos h0] at h
    cases h1 : more (t.doD s i before on).s on with
    | none => rw [h1] at h; cases h
    | some y => rw [h1] at h; cases h; exact ⟨h0, _, _, rfl, rfl⟩
  · rw [if_neg h0] at h; cases h
theorem one_of {more : Sta → List Bool → Fd} {s : Sta} {i : Nat} {before on : List Bool} {c : Int} {p : Plan} (h0 : t.doE s i before on = 0) (h1 : more (t.doD s i before on).s on = some (c, p)) : t.one more s i before on = some ((t.doD s i before on).cost + c, on :: p) := by
  unfold RTk.one
  rw [if_pos h0, h1]
theorem flw_eq (i : Nat) (s : Sta) (before on : List Bool) (r : Plan) : t.flw i s before (on :: r) = if t.doE s i before on = 0 then ((t.doD s i before on) :: (t.flw (i + 1) (t.doD s i before on).s on r).1, (t.flw (i + 1) (t.doD s i before on).s on r).2) else ([], t.doE s i before on) := rfl
theorem flw_cons_of {i : Nat} {s : Sta} {before on : List Bool} {r : Plan} (h0 : t.doE s i before on = 0) : t.flw i s before (on :: r) = (t.doD s i before on :: (t.flw (i + 1) (t.doD s i before on).s on r).1, (t.flw (i + 1) (t.doD s i before on).s on r).2) := by
  rw [flw_eq, if_pos h0]
/-- what rest finds is a good plan of that cost. -/
theorem rest_good : ∀ {k : Nat} {s : Sta} {before : List Bool} {c : Int} {p : Plan}, k ≤ t.n → t.rest k s before = some (c, p) → GoodP t k s before p ∧ costs (t.flw (t.n - k) s before p).1 = c := by
  intro k
  induction k with
  | zero =>
    intro s before c p _ h
    cases h
    exact ⟨GoodP.mk rfl (fun _ h => nomatch h) rfl, rfl⟩
  | succ k ih =>
    intro s before c p hk h
    unfold RTk.rest at h
    obtain ⟨i, hi, h1, _, _⟩ := pick_some h
    obtain ⟨h0, c', p', h2, e⟩ := one_some h1
    cases e
    obtain ⟨g, hc⟩ := ih (by omega) h2
    have e1 : t.n - (k + 1) + 1 = t.n - k := by omega
    refine ⟨⟨by simp [g.len], fun on hon => ?_, ?_⟩, ?_⟩
    · rcases List.mem_cons.1 hon with rfl | hon
      · exact chc_len _ _
      · exact g.row on hon
    · rw [flw_cons_of h0, e1]; exact g.ok
    · rw [flw_cons_of h0, e1, costs_cons, hc]
/-- no good plan costs less; one that costs as little is this one, or comes behind it. -/
def PBef (p q : Plan) : Prop := ∃ i : Nat, (∀ j : Nat, j < i → p[j]? = q[j]?) ∧ ∃ a b, p[i]? = some a ∧ q[i]? = some b ∧ Bef a b
/-- the first tick of what rest finds, and the rest of it. -/
theorem rest_next {k : Nat} {s : Sta} {before : List Bool} {c : Int} {p : Plan} (h : t.rest (k + 1) s before = some (c, p)) : ∃ on p', p = on :: p' ∧ t.doE s (t.n - (k + 1)) before on = 0 ∧ t.rest k (t.doD s (t.n - (k + 1)) before on).s on = some (c - (t.doD s (t.n - (k + 1)) before on).cost, p') := by
  unfold RTk.rest at h
  obtain ⟨i, hi, h1, _, _⟩ := pick_some h
  obtain ⟨h0, c', p', h2, e⟩ := one_some h1
  cases e
  exact ⟨_, p', rfl, h0, by rw [h2]; congr 2; omega⟩
end
end Go.Proofs.Ytmodjcegmgjhoaa.Bs
/-
  How a task of run-off lies in memory.
-/
namespace Go.Proofs.Ytmodjcegmgjhoaa.X
open Go Go.RowKit Go.Proofs.Ytmodjcegmgjhoaa.Bs
set_option linter.unusedVariables false
def boolK : Kind Bool := ⟨4, 1, fun b => [.bool b], fun _ => [], fun _ => rfl⟩
def sluC (x : Slu) : List Value := [.string x.name, .int .i64 x.width, .int .i64 x.move]
def pmpC (x : Pmp) : List Value := [.string x.name, .int .i64 x.rate, .int .i64 x.base, .int .i64 x.lift, .int .i64 x.start]
def sluK : Kind Slu := ⟨147, 3, sluC, fun _ => [], fun _ => rfl⟩
def pmpK : Kind Pmp := ⟨47, 5, pmpC, fun _ => [], fun _ => rfl⟩
def _root_.Go.Proofs.Ytmodjcegmgjhoaa.Bs.Dev.ty : Dev → Nat
  | .slu _ => 153
  | .pmp _ => 154
def _root_.Go.Proofs.Ytmodjcegmgjhoaa.Bs.Dev.c : Dev → List Value
  | .slu x => sluC x
  | .pmp x => pmpC x
def devV (d : Dev) : Value := .iface d.ty (.agg ⟨d.c⟩)
def devK : Kind Dev := ⟨100, 1, fun d => [devV d], fun _ => [], fun _ => rfl⟩
structure RTV where
  p : BV
  q : SV
  o : SV
  r : SV
  c : SV
  su : SV
  pu : SV
  on : SV
def RTV.n (v : RTV) : List Value := [.slice v.o.A v.o.n v.o.c, .slice v.r.A v.r.n v.r.c, .slice v.c.A v.c.n v.c.c]
def tskC (v : RTV) (t : RTk) : List Value :=
  [.slice v.p.A v.p.n v.p.c, .int .i64 t.b.leak, .int .i64 t.b.crest, .int .i64 t.b.over, .slice v.p.A2 v.p.n2 v.p.c2, .int .i64 t.s.vol, .slice v.q.A v.q.n v.q.c, .slice v.o.A v.o.n v.o.c, .slice v.r.A v.r.n v.r.c, .slice v.c.A v.c.n v.c.c, .int .i64 t.low, .int .i64 t.high, .slice v.su.A v.su.n v.su.c, .slice v.pu.A v.pu.n v.pu.c, .slice v.on.A v.on.n v.on.c]
def tskV (v : RTV) (t : RTk) : Value := .agg ⟨tskC v t⟩
structure TskAt (w : World) (B : Nat) (v : RTV) (t : RTk) : Prop where
  bas : BasAt w B v.p t.b
  fil : IntsAt w (Lt B) v.q t.s.fil
  outer : IntsAt w (Lt B) v.o t.outer
  river : IntsAt w (Lt B) v.r t.river
  prices : IntsAt w (Lt B) v.c t.prices
  slu : ListAt sluK w (Lt B) v.su t.slu
  pmp : ListAt pmpK w (Lt B) v.pu t.pmp
  on : ListAt boolK w (Lt B) v.on t.on
  names : ∀ d, d ∈ t.devs → d.name.size ≤ 9223372036854775807
section
variable {w w' w0 : World} {B B' : Nat} {v : RTV} {t : RTk} {L : Lo}
theorem TskAt.below (h : TskAt w B v t) (hb : Below B w w') : TskAt w' B v t :=
  ⟨h.bas.below hb, h.fil.keep fun k hk => hb.block k hk, h.outer.keep fun k hk => hb.block k hk, h.river.keep fun k hk => hb.block k hk, h.prices.keep fun k hk => hb.block k hk, h.slu.below hb, h.pmp.below hb, h.on.below hb, h.names⟩
theorem TskAt.more (h : TskAt w B v t) (hB : B ≤ B') : TskAt w B' v t :=
  ⟨h.bas.more hB, h.fil.mono fun k hk => Nat.lt_of_lt_of_le hk hB, h.outer.mono fun k hk => Nat.lt_of_lt_of_le hk hB, h.river.mono fun k hk => Nat.lt_of_lt_of_le hk hB, h.prices.mono fun k hk => Nat.lt_of_lt_of_le hk hB, h.slu.mono fun k hk => Nat.lt_of_lt_of_le hk hB, h.pmp.mono fun k hk => Nat.lt_of_lt_of_le hk hB, h.on.mono fun k hk => Nat.lt_of_lt_of_le hk hB, h.names⟩
theorem TskAt.sys (h : TskAt w0 B v t) (S : Sys B w0 L w) : TskAt w w.heap.size v t := (h.below S.toBelow).more (Nat.le_trans S.base S.size)
end
end Go.Proofs.Ytmodjcegmgjhoaa.X
/-
  The walks of the devices' methods (runoff).
-/
namespace Go.Proofs.Ytmodjcegmgjhoaa.X
open Go Go.RowKit Go.Proofs.Ytmodjcegmgjhoaa.Bs
set_option linter.unusedVariables false
/-- a level inside, n / d, and one outside. -/
structure HeadOk (n d o : Int) : Prop where
  hd : 1 ≤ d ∧ d ≤ 1000000000
  hn : -20000000000000 ≤ n ∧ n ≤ 60000000000000
  hlo : -20000 * d ≤ n
  ho : -20000 ≤ o ∧ o ≤ 20000
section
variable {n d o : Int} (h : HeadOk n d o)
include h
theorem HeadOk.od : -20000000000000 ≤ o * d ∧ o * d ≤ 20000000000000 ∧ o * d ≤ 20000 * d := by
  have h1 := mul_bd (X := 20000) (Y := 1000000000) (x := o) (y := d) h.ho (by have := h.hd; omega)
  have h2 : o * d ≤ 20000 * d := Int.mul_le_mul_of_nonneg_right h.ho.2 (by have := h.hd; omega)
  omega
theorem HeadOk.ins : -40000000000000 ≤ n - o * d ∧ n - o * d ≤ 80000000000000 ∧ -(n - o * d) ≤ 40000 * d := by
  have h1 := h.od
  have h2 := h.hn
  have h3 := h.hlo
  omega
end
def headC (n d o : Int) : List Value := [.int .i64 n, .int .i64 d, .int .i64 o]
theorem rnout_any (n lo hi : Int) (w : World) :
    Calls Try.prog 46 #[.int .i64 n, .int .i64 lo, .int .i64 hi] w fun e w' => e = .returned (.bool (outB n lo hi)) ∧ Below w.heap.size w w' := by
  refine enter Try.func46 rfl Try.ntmps46 rfl ?_; simp only [frame, Nat.zero_add, Nat.reduceAdd]
  repeat (first | (refine M0 ?_; first | refine O0 ?_ | refine z1 tok rfl ?_ | refine O1 rfl ?_ rfl | refine O2 rfl ?_ | refine O3 rfl ?_ rfl | refine O4 rfl rfl rfl (fun _ _ => ?_) | refine O5 tok rfl rfl rfl (fun _ _ => ?_) | refine U0 _ (U2 rfl) rfl ?_ | refine U0 _ (U3 tok rfl rfl rfl rfl rfl) rfl ?_ | refine z3 tok rfl ?_ | refine U0 _ (U4 rfl rfl) rfl ?_ | refine U0 _ (U5 rfl rfl) rfl ?_) | (refine M1 ?_; first | refine J0 ?_ | refine J1 ?_ | refine J2 mixed rfl (by kernel_rfl) ?_ | refine J3 mixed rfl rfl (by kernel_rfl) ?_ | refine J4 ?_ | refine J5 ?_ | refine J6 ?_ | refine J7 ?_ | refine J8 rfl ?_ | refine J9 rfl ?_) | (refine M2 ?_; first | refine I0 ?_ | refine I1 ?_ | refine I2 ?_ | refine I3 ?_ | refine I4 ?_ | refine I5 ?_ | refine I6 rfl ?_ | refine I7 ?_ | refine I8 ?_ | refine z4 ?_) | (refine M3 ?_; first | refine O6 ?_ | refine z2 tok rfl ?_ | refine O8 rfl ?_ | refine O7 rfl ?_ rfl | refine O9 rfl ?_ rfl | refine U1 _ (U4 rfl rfl) rfl ?_ | refine U1 _ (U5 rfl rfl) rfl ?_ | refine U1 _ (U2 rfl) rfl ?_ | refine U1 _ (U3 tok rfl rfl rfl rfl rfl) rfl ?_) | (refine M4 ?_; first | refine M6 ?_ | refine U6 rfl (by kernel_rfl) ?_ | refine U7 (by kernel_rfl) ?_) | (refine M5 ?_; first | exact M7 | refine U8 rfl ?_ | refine U9 rfl rfl ?_ ?_))
  refine XL.split _ _ rfl (fun h => ?_) (fun h => ?_) <;> rw [h]
  · repeat (first | (refine M0 ?_; first | refine O0 ?_ | refine z1 tok rfl ?_ | refine O1 rfl ?_ rfl | refine O2 rfl ?_ | refine O3 rfl ?_ rfl | refine O4 rfl rfl rfl (fun _ _ => ?_) | refine O5 tok rfl rfl rfl (fun _ _ => ?_) | refine U0 _ (U2 rfl) rfl ?_ | refine U0 _ (U3 tok rfl rfl rfl rfl rfl) rfl ?_ | refine z3 tok rfl ?_ | refine U0 _ (U4 rfl rfl) rfl ?_ | refine U0 _ (U5 rfl rfl) rfl ?_) | (refine M1 ?_; first | refine J0 ?_ | refine J1 ?_ | refine J2 mixed rfl (by kernel_rfl) ?_ | refine J3 mixed rfl rfl (by kernel_rfl) ?_ | refine J4 ?_ | refine J5 ?_ | refine J6 ?_ | refine J7 ?_ | refine J8 rfl ?_ | refine J9 rfl ?_) | (refine M2 ?_; first | refine I0 ?_ | refine I1 ?_ | refine I2 ?_ | refine I3 ?_ | refine I4 ?_ | refine I5 ?_ | refine I6 rfl ?_ | refine I7 ?_ | refine I8 ?_ | refine z4 ?_) | (refine M3 ?_; first | refine O6 ?_ | refine z2 tok rfl ?_ | refine O8 rfl ?_ | refine O7 rfl ?_ rfl | refine O9 rfl ?_ rfl | refine U1 _ (U4 rfl rfl) rfl ?_ | refine U1 _ (U5 rfl rfl) rfl ?_ | refine U1 _ (U2 rfl) rfl ?_ | refine U1 _ (U3 tok rfl rfl rfl rfl rfl) rfl ?_) | (refine M4 ?_; first | refine M6 ?_ | refine U6 rfl (by kernel_rfl) ?_ | refine U7 (by kernel_rfl) ?_) | (refine M5 ?_; first | exact M7 | refine U8 rfl ?_ | refine U9 rfl rfl ?_ ?_))
    refine XE.retg tok Try.results46 rfl (by simp only [and_self, and_true]) (fun w' S => ?_)
    exact ⟨by unfold outB; rw [h]; rfl, S.toBelow⟩
  · repeat (first | (refine M0 ?_; first | refine O0 ?_ | refine z1 tok rfl ?_ | refine O1 rfl ?_ rfl | refine O2 rfl ?_ | refine O3 rfl ?_ rfl | refine O4 rfl rfl rfl (fun _ _ => ?_) | refine O5 tok rfl rfl rfl (fun _ _ => ?_) | refine U0 _ (U2 rfl) rfl ?_ | refine U0 _ (U3 tok rfl rfl rfl rfl rfl) rfl ?_ | refine z3 tok rfl ?_ | refine U0 _ (U4 rfl rfl) rfl ?_ | refine U0 _ (U5 rfl rfl) rfl ?_) | (refine M1 ?_; first | refine J0 ?_ | refine J1 ?_ | refine J2 mixed rfl (by kernel_rfl) ?_ | refine J3 mixed rfl rfl (by kernel_rfl) ?_ | refine J4 ?_ | refine J5 ?_ | refine J6 ?_ | refine J7 ?_ | refine J8 rfl ?_ | refine J9 rfl ?_) | (refine M2 ?_; first | refine I0 ?_ | refine I1 ?_ | refine I2 ?_ | refine I3 ?_ | refine I4 ?_ | refine I5 ?_ | refine I6 rfl ?_ | refine I7 ?_ | refine I8 ?_ | refine z4 ?_) | (refine M3 ?_; first | refine O6 ?_ | refine z2 tok rfl ?_ | refine O8 rfl ?_ | refine O7 rfl ?_ rfl | refine O9 rfl ?_ rfl | refine U1 _ (U4 rfl rfl) rfl ?_ | refine U1 _ (U5 rfl rfl) rfl ?_ | refine U1 _ (U2 rfl) rfl ?_ | refine U1 _ (U3 tok rfl rfl rfl rfl rfl) rfl ?_) | (refine M4 ?_; first | refine M6 ?_ | refine U6 rfl (by kernel_rfl) ?_ | refine U7 (by kernel_rfl) ?_) | (refine M5 ?_; first | exact M7 | refine U8 rfl ?_ | refine U9 rfl rfl ?_ ?_))
    refine XE.retg tok Try.results46 rfl (by simp only [and_self, and_true]) (fun w' S => ?_)
    exact ⟨by unfold outB; rw [h]; rfl, S.toBelow⟩
theorem inside_any {n d o : Int} (h : HeadOk n d o) (w : World) :
    Calls Try.prog 160 #[.agg ⟨headC n d o⟩] w fun e w' => e = .returned (.int .i64 (n - o * d)) ∧ Below w.heap.size w w' := by
  have h1 := h.od
  have h2 := h.ins
  simp only [headC]
  refine enter Try.func160 rfl Try.ntmps160 rfl ?_; simp only [frame, Nat.zero_add, Nat.reduceAdd]
  repeat (first | (refine M0 ?_; first | refine O0 ?_ | refine z1 tok rfl ?_ | refine O1 rfl ?_ rfl | refine O2 rfl ?_ | refine O3 rfl ?_ rfl | refine O4 rfl rfl rfl (fun _ _ => ?_) | refine O5 tok rfl rfl rfl (fun _ _ => ?_) | refine U0 _ (U2 rfl) rfl ?_ | refine U0 _ (U3 tok rfl rfl rfl rfl rfl) rfl ?_ | refine z3 tok rfl ?_ | refine U0 _ (U4 rfl rfl) rfl ?_ | refine U0 _ (U5 rfl rfl) rfl ?_) | (refine M1 ?_; first | refine J0 ?_ | refine J1 ?_ | refine J2 mixed rfl (by kernel_rfl) ?_ | refine J3 mixed rfl rfl (by kernel_rfl) ?_ | refine J4 ?_ | refine J5 ?_ | refine J6 ?_ | refine J7 ?_ | refine J8 rfl ?_ | refine J9 rfl ?_) | (refine M2 ?_; first | refine I0 ?_ | refine I1 ?_ | refine I2 ?_ | refine I3 ?_ | refine I4 ?_ | refine I5 ?_ | refine I6 rfl ?_ | refine I7 ?_ | refine I8 ?_ | refine z4 ?_) | (refine M3 ?_; first | refine O6 ?_ | refine z2 tok rfl ?_ | refine O8 rfl ?_ | refine O7 rfl ?_ rfl | refine O9 rfl ?_ rfl | refine U1 _ (U4 rfl rfl) rfl ?_ | refine U1 _ (U5 rfl rfl) rfl ?_ | refine U1 _ (U2 rfl) rfl ?_ | refine U1 _ (U3 tok rfl rfl rfl rfl rfl) rfl ?_) | (refine M4 ?_; first | refine M6 ?_ | refine U6 rfl (by kernel_rfl) ?_ | refine U7 (by kernel_rfl) ?_) | (refine M5 ?_; first | exact M7 | refine U8 rfl ?_ | refine U9 rfl rfl ?_ ?_))
  refine XE.retg tok Try.results160 rfl (by simp only [and_self, and_true]) (fun w' S => ?_)
  exact ⟨rfl, S.toBelow⟩
theorem sname_any (x : Slu) (w : World) :
    Calls Try.prog 158 #[.agg ⟨sluC x⟩] w fun e w' => e = .returned (.string x.name) ∧ Below w.heap.size w w' := by
  simp only [sluC]
  refine enter Try.func158 rfl Try.ntmps158 rfl ?_; simp only [frame, Nat.zero_add, Nat.reduceAdd]
  repeat (first | (refine M0 ?_; first | refine O0 ?_ | refine z1 tok rfl ?_ | refine O1 rfl ?_ rfl | refine O2 rfl ?_ | refine O3 rfl ?_ rfl | refine O4 rfl rfl rfl (fun _ _ => ?_) | refine O5 tok rfl rfl rfl (fun _ _ => ?_) | refine U0 _ (U2 rfl) rfl ?_ | refine U0 _ (U3 tok rfl rfl rfl rfl rfl) rfl ?_ | refine z3 tok rfl ?_ | refine U0 _ (U4 rfl rfl) rfl ?_ | refine U0 _ (U5 rfl rfl) rfl ?_) | (refine M1 ?_; first | refine J0 ?_ | refine J1 ?_ | refine J2 mixed rfl (by kernel_rfl) ?_ | refine J3 mixed rfl rfl (by kernel_rfl) ?_ | refine J4 ?_ | refine J5 ?_ | refine J6 ?_ | refine J7 ?_ | refine J8 rfl ?_ | refine J9 rfl ?_) | (refine M2 ?_; first | refine I0 ?_ | refine I1 ?_ | refine I2 ?_ | refine I3 ?_ | refine I4 ?_ | refine I5 ?_ | refine I6 rfl ?_ | refine I7 ?_ | refine I8 ?_ | refine z4 ?_) | (refine M3 ?_; first | refine O6 ?_ | refine z2 tok rfl ?_ | refine O8 rfl ?_ | refine O7 rfl ?_ rfl | refine O9 rfl ?_ rfl | refine U1 _ (U4 rfl rfl) rfl ?_ | refine U1 _ (U5 rfl rfl) rfl ?_ | refine U1 _ (U2 rfl) rfl ?_ | refine U1 _ (U3 tok rfl rfl rfl rfl rfl) rfl ?_) | (refine M4 ?_; first | refine M6 ?_ | refine U6 rfl (by kernel_rfl) ?_ | refine U7 (by kernel_rfl) ?_) | (refine M5 ?_; first | exact M7 | refine U8 rfl ?_ | refine U9 rfl rfl ?_ ?_))
  refine XE.retg tok Try.results158 rfl (by simp only [and_self, and_true]) (fun w' S => ?_)
  exact ⟨rfl, S.toBelow⟩
theorem pname_any (x : Pmp) (w : World) :
    Calls Try.prog 163 #[.agg ⟨pmpC x⟩] w fun e w' => e = .returned (.string x.name) ∧ Below w.heap.size w w' := by
  simp only [pmpC]
  refine enter Try.func163 rfl Try.ntmps163 rfl ?_; simp only [frame, Nat.zero_add, Nat.reduceAdd]
  repeat (first | (refine M0 ?_; first | refine O0 ?_ | refine z1 tok rfl ?_ | refine O1 rfl ?_ rfl | refine O2 rfl ?_ | refine O3 rfl ?_ rfl | refine O4 rfl rfl rfl (fun _ _ => ?_) | refine O5 tok rfl rfl rfl (fun _ _ => ?_) | refine U0 _ (U2 rfl) rfl ?_ | refine U0 _ (U3 tok rfl rfl rfl rfl rfl) rfl ?_ | refine z3 tok rfl ?_ | refine U0 _ (U4 rfl rfl) rfl ?_ | refine U0 _ (U5 rfl rfl) rfl ?_) | (refine M1 ?_; first | refine J0 ?_ | refine J1 ?_ | refine J2 mixed rfl (by kernel_rfl) ?_ | refine J3 mixed rfl rfl (by kernel_rfl) ?_ | refine J4 ?_ | refine J5 ?_ | refine J6 ?_ | refine J7 ?_ | refine J8 rfl ?_ | refine J9 rfl ?_) | (refine M2 ?_; first | refine I0 ?_ | refine I1 ?_ | refine I2 ?_ | refine I3 ?_ | refine I4 ?_ | refine I5 ?_ | refine I6 rfl ?_ | refine I7 ?_ | refine I8 ?_ | refine z4 ?_) | (refine M3 ?_; first | refine O6 ?_ | refine z2 tok rfl ?_ | refine O8 rfl ?_ | refine O7 rfl ?_ rfl | refine O9 rfl ?_ rfl | refine U1 _ (U4 rfl rfl) rfl ?_ | refine U1 _ (U5 rfl rfl) rfl ?_ | refine U1 _ (U2 rfl) rfl ?_ | refine U1 _ (U3 tok rfl rfl rfl rfl rfl) rfl ?_) | (refine M4 ?_; first | refine M6 ?_ | refine U6 rfl (by kernel_rfl) ?_ | refine U7 (by kernel_rfl) ?_) | (refine M5 ?_; first | exact M7 | refine U8 rfl ?_ | refine U9 rfl rfl ?_ ?_))
  refine XE.retg tok Try.results163 rfl (by simp only [and_self, and_true]) (fun w' S => ?_)
  exact ⟨rfl, S.toBelow⟩
theorem outP {n lo hi : Int} {b : Bool} (e : outB n lo hi = b) (w : World) :
    Calls Try.prog 46 #[.int .i64 n, .int .i64 lo, .int .i64 hi] w fun e w' => e = .returned (.bool b) ∧ Below w.heap.size w w' := by
  subst e; exact rnout_any n lo hi w
theorem swild_any (x : Slu) (w : World) :
    Calls Try.prog 159 #[.agg ⟨sluC x⟩] w fun e w' => e = .returned (.bool (sluWild x)) ∧ Below w.heap.size w w' := by
  simp only [sluC]
  refine enter Try.func159 rfl Try.ntmps159 rfl ?_; simp only [frame, Nat.zero_add, Nat.reduceAdd]
  cases e0 : outB x.width 0 10000 with
  | true =>
    repeat (first | (refine M0 ?_; first | refine O0 ?_ | refine z1 tok rfl ?_ | refine O1 rfl ?_ rfl | refine O2 rfl ?_ | refine O3 rfl ?_ rfl | refine U0 _ (Ev.call (f := 46) (vs := [.int .i64 x.width, .int .i64 0, .int .i64 10000]) (ck rfl) rfl (fun w S => outP e0 w)) rfl ?_ | refine O4 rfl rfl rfl (fun _ _ => ?_) | refine O5 tok rfl rfl rfl (fun _ _ => ?_) | refine U0 _ (U2 rfl) rfl ?_ | refine U0 _ (U3 tok rfl rfl rfl rfl rfl) rfl ?_ | refine z3 tok rfl ?_ | refine U0 _ (U4 rfl rfl) rfl ?_ | refine U0 _ (U5 rfl rfl) rfl ?_) | (refine M1 ?_; first | refine J0 ?_ | refine J1 ?_ | refine J2 mixed rfl (by kernel_rfl) ?_ | refine J3 mixed rfl rfl (by kernel_rfl) ?_ | refine J4 ?_ | refine J5 ?_ | refine J6 ?_ | refine J7 ?_ | refine J8 rfl ?_ | refine J9 rfl ?_) | (refine M2 ?_; first | refine I0 ?_ | refine I1 ?_ | refine I2 ?_ | refine I3 ?_ | refine I4 ?_ | refine I5 ?_ | refine I6 rfl ?_ | refine I7 ?_ | refine I8 ?_ | refine z4 ?_) | (refine M3 ?_; first | refine O6 ?_ | refine z2 tok rfl ?_ | refine O8 rfl ?_ | refine O7 rfl ?_ rfl | refine O9 rfl ?_ rfl | refine U1 _ (Ev.call (f := 46) (vs := [.int .i64 x.width, .int .i64 0, .int .i64 10000]) (ck rfl) rfl (fun w S => outP e0 w)) rfl ?_ | refine U1 _ (U4 rfl rfl) rfl ?_ | refine U1 _ (U5 rfl rfl) rfl ?_ | refine U1 _ (U2 rfl) rfl ?_ | refine U1 _ (U3 tok rfl rfl rfl rfl rfl) rfl ?_) | (refine M4 ?_; first | refine M6 ?_ | refine U6 rfl (by kernel_rfl) ?_ | refine U7 (by kernel_rfl) ?_) | (refine M5 ?_; first | exact M7 | refine U8 rfl ?_ | refine U9 rfl rfl ?_ ?_))
    refine XE.retg tok Try.results159 rfl (by simp only [and_self, and_true]) (fun w' S => ?_)
    exact ⟨by rw [show sluWild x = true by simp only [sluWild, e0, Bool.true_or]]; rfl, S.toBelow⟩
  | false =>
    repeat (first | (refine M0 ?_; first | refine O0 ?_ | refine z1 tok rfl ?_ | refine O1 rfl ?_ rfl | refine O2 rfl ?_ | refine O3 rfl ?_ rfl | refine U0 _ (Ev.call (f := 46) (vs := [.int .i64 x.width, .int .i64 0, .int .i64 10000]) (ck rfl) rfl (fun w S => outP e0 w)) rfl ?_ | refine U0 _ (Ev.call (f := 46) (vs := [.int .i64 x.move, .int .i64 0, .int .i64 100000]) (ck rfl) rfl (fun w S => rnout_any _ _ _ w)) rfl ?_ | refine O4 rfl rfl rfl (fun _ _ => ?_) | refine O5 tok rfl rfl rfl (fun _ _ => ?_) | refine U0 _ (U2 rfl) rfl ?_ | refine U0 _ (U3 tok rfl rfl rfl rfl rfl) rfl ?_ | refine z3 tok rfl ?_ | refine U0 _ (U4 rfl rfl) rfl ?_ | refine U0 _ (U5 rfl rfl) rfl ?_) | (refine M1 ?_; first | refine J0 ?_ | refine J1 ?_ | refine J2 mixed rfl (by kernel_rfl) ?_ | refine J3 mixed rfl rfl (by kernel_rfl) ?_ | refine J4 ?_ | refine J5 ?_ | refine J6 ?_ | refine J7 ?_ | refine J8 rfl ?_ | refine J9 rfl ?_) | (refine M2 ?_; first | refine I0 ?_ | refine I1 ?_ | refine I2 ?_ | refine I3 ?_ | refine I4 ?_ | refine I5 ?_ | refine I6 rfl ?_ | refine I7 ?_ | refine I8 ?_ | refine z4 ?_) | (refine M3 ?_; first | refine O6 ?_ | refine z2 tok rfl ?_ | refine O8 rfl ?_ | refine O7 rfl ?_ rfl | refine O9 rfl ?_ rfl | refine U1 _ (Ev.call (f := 46) (vs := [.int .i64 x.width, .int .i64 0, .int .i64 10000]) (ck rfl) rfl (fun w S => outP e0 w)) rfl ?_ | refine U1 _ (Ev.call (f := 46) (vs := [.int .i64 x.move, .int .i64 0, .int .i64 100000]) (ck rfl) rfl (fun w S => rnout_any _ _ _ w)) rfl ?_ | refine U1 _ (U4 rfl rfl) rfl ?_ | refine U1 _ (U5 rfl rfl) rfl ?_ | refine U1 _ (U2 rfl) rfl ?_ | refine U1 _ (U3 tok rfl rfl rfl rfl rfl) rfl ?_) | (refine M4 ?_; first | refine M6 ?_ | refine U6 rfl (by kernel_rfl) ?_ | refine U7 (by kernel_rfl) ?_) | (refine M5 ?_; first | exact M7 | refine U8 rfl ?_ | refine U9 rfl rfl ?_ ?_))
    refine XE.retg tok Try.results159 rfl (by simp only [and_self, and_true]) (fun w' S => ?_)
    exact ⟨by rw [show sluWild x = outB x.move 0 100000 by simp only [sluWild, e0, Bool.false_or]]; rfl, S.toBelow⟩
theorem pwild_any (x : Pmp) (w : World) :
    Calls Try.prog 164 #[.agg ⟨pmpC x⟩] w fun e w' => e = .returned (.bool (pmpWild x)) ∧ Below w.heap.size w w' := by
  simp only [pmpC]
  refine enter Try.func164 rfl Try.ntmps164 rfl ?_; simp only [frame, Nat.zero_add, Nat.reduceAdd]
  cases e0 : outB x.rate 0 10000000 with
  | true =>
    repeat (first | (refine M0 ?_; first | refine O0 ?_ | refine z1 tok rfl ?_ | refine O1 rfl ?_ rfl | refine O2 rfl ?_ | refine O3 rfl ?_ rfl | refine U0 _ (Ev.call (f := 46) (vs := [.int .i64 x.rate, .int .i64 0, .int .i64 10000000]) (ck rfl) rfl (fun w S => outP e0 w)) rfl ?_ | refine O4 rfl rfl rfl (fun _ _ => ?_) | refine O5 tok rfl rfl rfl (fun _ _ => ?_) | refine U0 _ (U2 rfl) rfl ?_ | refine U0 _ (U3 tok rfl rfl rfl rfl rfl) rfl ?_ | refine z3 tok rfl ?_ | refine U0 _ (U4 rfl rfl) rfl ?_ | refine U0 _ (U5 rfl rfl) rfl ?_) | (refine M1 ?_; first | refine J0 ?_ | refine J1 ?_ | refine J2 mixed rfl (by kernel_rfl) ?_ | refine J3 mixed rfl rfl (by kernel_rfl) ?_ | refine J4 ?_ | refine J5 ?_ | refine J6 ?_ | refine J7 ?_ | refine J8 rfl ?_ | refine J9 rfl ?_) | (refine M2 ?_; first | refine I0 ?_ | refine I1 ?_ | refine I2 ?_ | refine I3 ?_ | refine I4 ?_ | refine I5 ?_ | refine I6 rfl ?_ | refine I7 ?_ | refine I8 ?_ | refine z4 ?_) | (refine M3 ?_; first | refine O6 ?_ | refine z2 tok rfl ?_ | refine O8 rfl ?_ | refine O7 rfl ?_ rfl | refine O9 rfl ?_ rfl | refine U1 _ (Ev.call (f := 46) (vs := [.int .i64 x.rate, .int .i64 0, .int .i64 10000000]) (ck rfl) rfl (fun w S => outP e0 w)) rfl ?_ | refine U1 _ (U4 rfl rfl) rfl ?_ | refine U1 _ (U5 rfl rfl) rfl ?_ | refine U1 _ (U2 rfl) rfl ?_ | refine U1 _ (U3 tok rfl rfl rfl rfl rfl) rfl ?_) | (refine M4 ?_; first | refine M6 ?_ | refine U6 rfl (by kernel_rfl) ?_ | refine U7 (by kernel_rfl) ?_) | (refine M5 ?_; first | exact M7 | refine U8 rfl ?_ | refine U9 rfl rfl ?_ ?_))
    refine XE.retg tok Try.results164 rfl (by simp only [and_self, and_true]) (fun w' S => ?_)
    exact ⟨by rw [show pmpWild x = true by simp only [pmpWild, e0, Bool.true_or]]; rfl, S.toBelow⟩
  | false =>
  cases e1 : outB x.base 0 100000 with
  | true =>
    repeat (first | (refine M0 ?_; first | refine O0 ?_ | refine z1 tok rfl ?_ | refine O1 rfl ?_ rfl | refine O2 rfl ?_ | refine O3 rfl ?_ rfl | refine U0 _ (Ev.call (f := 46) (vs := [.int .i64 x.rate, .int .i64 0, .int .i64 10000000]) (ck rfl) rfl (fun w S => outP e0 w)) rfl ?_ | refine U0 _ (Ev.call (f := 46) (vs := [.int .i64 x.base, .int .i64 0, .int .i64 100000]) (ck rfl) rfl (fun w S => outP e1 w)) rfl ?_ | refine O4 rfl rfl rfl (fun _ _ => ?_) | refine O5 tok rfl rfl rfl (fun _ _ => ?_) | refine U0 _ (U2 rfl) rfl ?_ | refine U0 _ (U3 tok rfl rfl rfl rfl rfl) rfl ?_ | refine z3 tok rfl ?_ | refine U0 _ (U4 rfl rfl) rfl ?_ | refine U0 _ (U5 rfl rfl) rfl ?_) | (refine M1 ?_; first | refine J0 ?_ | refine J1 ?_ | refine J2 mixed rfl (by kernel_rfl) ?_ | refine J3 mixed rfl rfl (by kernel_rfl) ?_ | refine J4 ?_ | refine J5 ?_ | refine J6 ?_ | refine J7 ?_ | refine J8 rfl ?_ | refine J9 rfl ?_) | (refine M2 ?_; first | refine I0 ?_ | refine I1 ?_ | refine I2 ?_ | refine I3 ?_ | refine I4 ?_ | refine I5 ?_ | refine I6 rfl ?_ | refine I7 ?_ | refine I8 ?_ | refine z4 ?_) | (refine M3 ?_; first | refine O6 ?_ | refine z2 tok rfl ?_ | refine O8 rfl ?_ | refine O7 rfl ?_ rfl | refine O9 rfl ?_ rfl | refine U1 _ (Ev.call (f := 46) (vs := [.int .i64 x.rate, .int .i64 0, .int .i64 10000000]) (ck rfl) rfl (fun w S => outP e0 w)) rfl ?_ | refine U1 _ (Ev.call (f := 46) (vs := [.int .i64 x.base, .int .i64 0, .int .i64 100000]) (ck rfl) rfl (fun w S => outP e1 w)) rfl ?_ | refine U1 _ (U4 rfl rfl) rfl ?_ | refine U1 _ (U5 rfl rfl) rfl ?_ | refine U1 _ (U2 rfl) rfl ?_ | refine U1 _ (U3 tok rfl rfl rfl rfl rfl) rfl ?_) | (refine M4 ?_; first | refine M6 ?_ | refine U6 rfl (by kernel_rfl) ?_ | refine U7 (by kernel_rfl) ?_) | (refine M5 ?_; first | exact M7 | refine U8 rfl ?_ | refine U9 rfl rfl ?_ ?_))
    refine XE.retg tok Try.results164 rfl (by simp only [and_self, and_true]) (fun w' S => ?_)
    exact ⟨by rw [show pmpWild x = true by simp only [pmpWild, e0, e1, Bool.true_or, Bool.false_or]]; rfl, S.toBelow⟩
  | false =>
  cases e2 : outB x.lift 0 100000 with
  | true =>
    repeat (first | (refine M0 ?_; first | refine O0 ?_ | refine z1 tok rfl ?_ | refine O1 rfl ?_ rfl | refine O2 rfl ?_ | refine O3 rfl ?_ rfl | refine U0 _ (Ev.call (f := 46) (vs := [.int .i64 x.rate, .int .i64 0, .int .i64 10000000]) (ck rfl) rfl (fun w S => outP e0 w)) rfl ?_ | refine U0 _ (Ev.call (f := 46) (vs := [.int .i64 x.base, .int .i64 0, .int .i64 100000]) (ck rfl) rfl (fun w S => outP e1 w)) rfl ?_ | refine U0 _ (Ev.call (f := 46) (vs := [.int .i64 x.lift, .int .i64 0, .int .i64 100000]) (ck rfl) rfl (fun w S => outP e2 w)) rfl ?_ | refine O4 rfl rfl rfl (fun _ _ => ?_) | refine O5 tok rfl rfl rfl (fun _ _ => ?_) | refine U0 _ (U2 rfl) rfl ?_ | refine U0 _ (U3 tok rfl rfl rfl rfl rfl) rfl ?_ | refine z3 tok rfl ?_ | refine U0 _ (U4 rfl rfl) rfl ?_ | refine U0 _ (U5 rfl rfl) rfl ?_) | (refine M1 ?_; first | refine J0 ?_ | refine J1 ?_ | refine J2 mixed rfl (by kernel_rfl) ?_ | refine J3 mixed rfl rfl (by kernel_rfl) ?_ | refine J4 ?_ | refine J5 ?_ | refine J6 ?_ | refine J7 ?_ | refine J8 rfl ?_ | refine J9 rfl ?_) | (refine M2 ?_; first | refine I0 ?_ | refine I1 ?_ | refine I2 ?_ | refine I3 ?_ | refine I4 ?_ | refine I5 ?_ | refine I6 rfl ?_ | refine I7 ?_ | refine I8 ?_ | refine z4 ?_) | (refine M3 ?_; first | refine O6 ?_ | refine z2 tok rfl ?_ | refine O8 rfl ?_ | refine O7 rfl ?_ rfl | refine O9 rfl ?_ rfl | refine U1 _ (Ev.call (f := 46) (vs := [.int .i64 x.rate, .int .i64 0, .int .i64 10000000]) (ck rfl) rfl (fun w S => outP e0 w)) rfl ?_ | refine U1 _ (Ev.call (f := 46) (vs := [.int .i64 x.base, .int .i64 0, .int .i64 100000]) (ck rfl) rfl (fun w S => outP e1 w)) rfl ?_ | refine U1 _ (Ev.call (f := 46) (vs := [.int .i64 x.lift, .int .i64 0, .int .i64 100000]) (ck rfl) rfl (fun w S => outP e2 w)) rfl ?_ | refine U1 _ (U4 rfl rfl) rfl ?_ | refine U1 _ (U5 rfl rfl) rfl ?_ | refine U1 _ (U2 rfl) rfl ?_ | refine U1 _ (U3 tok rfl rfl rfl rfl rfl) rfl ?_) | (refine M4 ?_; first | refine M6 ?_ | refine U6 rfl (by kernel_rfl) ?_ | refine U7 (by kernel_rfl) ?_) | (refine M5 ?_; first | exact M7 | refine U8 rfl ?_ | refine U9 rfl rfl ?_ ?_))
    refine XE.retg tok Try.results164 rfl (by simp only [and_self, and_true]) (fun w' S => ?_)
    exact ⟨by rw [show pmpWild x = true by simp only [pmpWild, e0, e1, e2, Bool.true_or, Bool.false_or]]; rfl, S.toBelow⟩
  | false =>
    repeat (first | (refine M0 ?_; first | refine O0 ?_ | refine z1 tok rfl ?_ | refine O1 rfl ?_ rfl | refine O2 rfl ?_ | refine O3 rfl ?_ rfl | refine U0 _ (Ev.call (f := 46) (vs := [.int .i64 x.rate, .int .i64 0, .int .i64 10000000]) (ck rfl) rfl (fun w S => outP e0 w)) rfl ?_ | refine U0 _ (Ev.call (f := 46) (vs := [.int .i64 x.base, .int .i64 0, .int .i64 100000]) (ck rfl) rfl (fun w S => outP e1 w)) rfl ?_ | refine U0 _ (Ev.call (f := 46) (vs := [.int .i64 x.lift, .int .i64 0, .int .i64 100000]) (ck rfl) rfl (fun w S => outP e2 w)) rfl ?_ | refine U0 _ (Ev.call (f := 46) (vs := [.int .i64 x.start, .int .i64 0, .int .i64 100000]) (ck rfl) rfl (fun w S => rnout_any _ _ _ w)) rfl ?_ | refine O4 rfl rfl rfl (fun _ _ => ?_) | refine O5 tok rfl rfl rfl (fun _ _ => ?_) | refine U0 _ (U2 rfl) rfl ?_ | refine U0 _ (U3 tok rfl rfl rfl rfl rfl) rfl ?_ | refine z3 tok rfl ?_ | refine U0 _ (U4 rfl rfl) rfl ?_ | refine U0 _ (U5 rfl rfl) rfl ?_) | (refine M1 ?_; first | refine J0 ?_ | refine J1 ?_ | refine J2 mixed rfl (by kernel_rfl) ?_ | refine J3 mixed rfl rfl (by kernel_rfl) ?_ | refine J4 ?_ | refine J5 ?_ | refine J6 ?_ | refine J7 ?_ | refine J8 rfl ?_ | refine J9 rfl ?_) | (refine M2 ?_; first | refine I0 ?_ | refine I1 ?_ | refine I2 ?_ | refine I3 ?_ | refine I4 ?_ | refine I5 ?_ | refine I6 rfl ?_ | refine I7 ?_ | refine I8 ?_ | refine z4 ?_) | (refine M3 ?_; first | refine O6 ?_ | refine z2 tok rfl ?_ | refine O8 rfl ?_ | refine O7 rfl ?_ rfl | refine O9 rfl ?_ rfl | refine U1 _ (Ev.call (f := 46) (vs := [.int .i64 x.rate, .int .i64 0, .int .i64 10000000]) (ck rfl) rfl (fun w S => outP e0 w)) rfl ?_ | refine U1 _ (Ev.call (f := 46) (vs := [.int .i64 x.base, .int .i64 0, .int .i64 100000]) (ck rfl) rfl (fun w S => outP e1 w)) rfl ?_ | refine U1 _ (Ev.call (f := 46) (vs := [.int .i64 x.lift, .int .i64 0, .int .i64 100000]) (ck rfl) rfl (fun w S => outP e2 w)) rfl ?_ | refine U1 _ (Ev.call (f := 46) (vs := [.int .i64 x.start, .int .i64 0, .int .i64 100000]) (ck rfl) rfl (fun w S => rnout_any _ _ _ w)) rfl ?_ | refine U1 _ (U4 rfl rfl) rfl ?_ | refine U1 _ (U5 rfl rfl) rfl ?_ | refine U1 _ (U2 rfl) rfl ?_ | refine U1 _ (U3 tok rfl rfl rfl rfl rfl) rfl ?_) | (refine M4 ?_; first | refine M6 ?_ | refine U6 rfl (by kernel_rfl) ?_ | refine U7 (by kernel_rfl) ?_) | (refine M5 ?_; first | exact M7 | refine U8 rfl ?_ | refine U9 rfl rfl ?_ ?_))
    refine XE.retg tok Try.results164 rfl (by simp only [and_self, and_true]) (fun w' S => ?_)
    exact ⟨by rw [show pmpWild x = outB x.start 0 100000 by simp only [pmpWild, e0, e1, e2, Bool.false_or]]; rfl, S.toBelow⟩
/-- what flow answers. -/
def flowV : Option Int → Value
  | none => .tuple ⟨[.int .i64 0, .bool false]⟩
  | some f => .tuple ⟨[.int .i64 f, .bool true]⟩
theorem tdiv_sml {a b : Int} (hb : 1 ≤ b) (ha : 0 ≤ a) : 0 ≤ a.tdiv b ∧ a.tdiv b ≤ a := by
  have h1 := tdiv_bd (a := a) hb
  have h2 := Int.tdiv_nonneg ha (by omega : 0 ≤ b)
  omega
theorem sflow_any {x : Slu} {n d o : Int} (h : HeadOk n d o) (hx : DevOk (.slu x)) (w : World) :
    Calls Try.prog 157 #[.agg ⟨sluC x⟩, .agg ⟨headC n d o⟩] w fun e w' => e = .returned (flowV ((Dev.slu x).flow n d o)) ∧ Below w.heap.size w w' := by
  have h2 := h.ins
  have hd := h.hd
  simp only [sluC, headC]
  refine enter Try.func157 rfl Try.ntmps157 rfl ?_; simp only [frame, Nat.zero_add, Nat.reduceAdd]
  repeat (first | (refine M0 ?_; first | refine O0 ?_ | refine z1 tok rfl ?_ | refine O1 rfl ?_ rfl | refine O2 rfl ?_ | refine O3 rfl ?_ rfl | refine U0 _ (Ev.call (f := 160) (ck rfl) rfl (fun w S => inside_any h w)) rfl ?_ | refine O4 rfl rfl rfl (fun _ _ => ?_) | refine O5 tok rfl rfl rfl (fun _ _ => ?_) | refine U0 _ (U2 rfl) rfl ?_ | refine U0 _ (U3 tok rfl rfl rfl rfl rfl) rfl ?_ | refine z3 tok rfl ?_ | refine U0 _ (U4 rfl rfl) rfl ?_ | refine U0 _ (U5 rfl rfl) rfl ?_) | (refine M1 ?_; first | refine J0 ?_ | refine J1 ?_ | refine J2 mixed rfl (by kernel_rfl) ?_ | refine J3 mixed rfl rfl (by kernel_rfl) ?_ | refine J4 ?_ | refine J5 ?_ | refine J6 ?_ | refine J7 ?_ | refine J8 rfl ?_ | refine J9 rfl ?_) | (refine M2 ?_; first | refine I0 ?_ | refine I1 ?_ | refine I2 ?_ | refine I3 ?_ | refine I4 ?_ | refine I5 ?_ | refine I6 rfl ?_ | refine I7 ?_ | refine I8 ?_ | refine z4 ?_) | (refine M3 ?_; first | refine O6 ?_ | refine z2 tok rfl ?_ | refine O8 rfl ?_ | refine O7 rfl ?_ rfl | refine O9 rfl ?_ rfl | refine U1 _ (Ev.call (f := 160) (ck rfl) rfl (fun w S => inside_any h w)) rfl ?_ | refine U1 _ (U4 rfl rfl) rfl ?_ | refine U1 _ (U5 rfl rfl) rfl ?_ | refine U1 _ (U2 rfl) rfl ?_ | refine U1 _ (U3 tok rfl rfl rfl rfl rfl) rfl ?_) | (refine M4 ?_; first | refine M6 ?_ | refine U6 rfl (by kernel_rfl) ?_ | refine U7 (by kernel_rfl) ?_) | (refine M5 ?_; first | exact M7 | refine U8 rfl ?_ | refine U9 rfl rfl ?_ ?_))
  refine XC.cond _ rfl (fun h1 => ?_) (fun h1 => ?_)
  · repeat (first | (refine M0 ?_; first | refine O0 ?_ | refine z1 tok rfl ?_ | refine O1 rfl ?_ rfl | refine O2 rfl ?_ | refine O3 rfl ?_ rfl | refine O4 rfl rfl rfl (fun _ _ => ?_) | refine O5 tok rfl rfl rfl (fun _ _ => ?_) | refine U0 _ (U2 rfl) rfl ?_ | refine U0 _ (U3 tok rfl rfl rfl rfl rfl) rfl ?_ | refine z3 tok rfl ?_ | refine U0 _ (U4 rfl rfl) rfl ?_ | refine U0 _ (U5 rfl rfl) rfl ?_) | (refine M1 ?_; first | refine J0 ?_ | refine J1 ?_ | refine J2 mixed rfl (by kernel_rfl) ?_ | refine J3 mixed rfl rfl (by kernel_rfl) ?_ | refine J4 ?_ | refine J5 ?_ | refine J6 ?_ | refine J7 ?_ | refine J8 rfl ?_ | refine J9 rfl ?_) | (refine M2 ?_; first | refine I0 ?_ | refine I1 ?_ | refine I2 ?_ | refine I3 ?_ | refine I4 ?_ | refine I5 ?_ | refine I6 rfl ?_ | refine I7 ?_ | refine I8 ?_ | refine z4 ?_) | (refine M3 ?_; first | refine O6 ?_ | refine z2 tok rfl ?_ | refine O8 rfl ?_ | refine O7 rfl ?_ rfl | refine O9 rfl ?_ rfl | refine U1 _ (U4 rfl rfl) rfl ?_ | refine U1 _ (U5 rfl rfl) rfl ?_ | refine U1 _ (U2 rfl) rfl ?_ | refine U1 _ (U3 tok rfl rfl rfl rfl rfl) rfl ?_) | (refine M4 ?_; first | refine M6 ?_ | refine U6 rfl (by kernel_rfl) ?_ | refine U7 (by kernel_rfl) ?_) | (refine M5 ?_; first | exact M7 | refine U8 rfl ?_ | refine U9 rfl rfl ?_ ?_))
    refine XE.retg tok Try.results157 rfl (by simp only [and_self, and_true]) (fun w' S => ?_)
    exact ⟨by rw [show (Dev.slu x).flow n d o = none by simp only [Dev.flow]; rw [if_pos (of_decide_eq_true h1)]]; rfl, S.toBelow⟩
  · have h3 : ¬ n - o * d ≤ 0 := of_decide_eq_false h1
    have h4 := mul_bd (X := 10000) (Y := 80000000000000) (x := x.width) (y := n - o * d) (by have := hx.1; omega) (by omega)
    have h5 : 0 ≤ x.width * (n - o * d) := Int.mul_nonneg hx.1.1 (by omega)
    have h6 := tdiv_sml hd.1 h5
    repeat (first | (refine M0 ?_; first | refine O0 ?_ | refine z1 tok rfl ?_ | refine O1 rfl ?_ rfl | refine O2 rfl ?_ | refine O3 rfl ?_ rfl | refine U0 _ (Ev.call (f := 160) (ck rfl) rfl (fun w S => inside_any h w)) rfl ?_ | refine O4 rfl rfl rfl (fun _ _ => ?_) | refine O5 tok rfl rfl rfl (fun _ _ => ?_) | refine U0 _ (U2 rfl) rfl ?_ | refine U0 _ (U3 tok rfl rfl rfl rfl rfl) rfl ?_ | refine z3 tok rfl ?_ | refine U0 _ (U4 rfl rfl) rfl ?_ | refine U0 _ (U5 rfl rfl) rfl ?_) | (refine M1 ?_; first | refine J0 ?_ | refine J1 ?_ | refine J2 mixed rfl (by kernel_rfl) ?_ | refine J3 mixed rfl rfl (by kernel_rfl) ?_ | refine J4 ?_ | refine J5 ?_ | refine J6 ?_ | refine J7 ?_ | refine J8 rfl ?_ | refine J9 rfl ?_) | (refine M2 ?_; first | refine I0 ?_ | refine I1 ?_ | refine I2 ?_ | refine I3 ?_ | refine I4 ?_ | refine I5 ?_ | refine I6 rfl ?_ | refine I7 ?_ | refine I8 ?_ | refine z4 ?_) | (refine M3 ?_; first | refine O6 ?_ | refine z2 tok rfl ?_ | refine O8 rfl ?_ | refine O7 rfl ?_ rfl | refine O9 rfl ?_ rfl | refine U1 _ (Ev.call (f := 160) (ck rfl) rfl (fun w S => inside_any h w)) rfl ?_ | refine U1 _ (U4 rfl rfl) rfl ?_ | refine U1 _ (U5 rfl rfl) rfl ?_ | refine U1 _ (U2 rfl) rfl ?_ | refine U1 _ (U3 tok rfl rfl rfl rfl rfl) rfl ?_) | (refine M4 ?_; first | refine M6 ?_ | refine U6 rfl (by kernel_rfl) ?_ | refine U7 (by kernel_rfl) ?_) | (refine M5 ?_; first | exact M7 | refine U8 rfl ?_ | refine U9 rfl rfl ?_ ?_))
    refine XE.retg tok Try.results157 rfl (by simp only [and_self, and_true]) (fun w' S => ?_)
    exact ⟨by rw [show (Dev.slu x).flow n d o = some ((x.width * (n - o * d)).tdiv d) by simp only [Dev.flow]; rw [if_neg h3]]; rfl, S.toBelow⟩
theorem pflow_any {x : Pmp} {n d o : Int} (w : World) :
    Calls Try.prog 162 #[.agg ⟨pmpC x⟩, .agg ⟨headC n d o⟩] w fun e w' => e = .returned (flowV ((Dev.pmp x).flow n d o)) ∧ Below w.heap.size w w' := by
  simp only [pmpC, headC]
  refine enter Try.func162 rfl Try.ntmps162 rfl ?_; simp only [frame, Nat.zero_add, Nat.reduceAdd]
  repeat (first | (refine M0 ?_; first | refine O0 ?_ | refine z1 tok rfl ?_ | refine O1 rfl ?_ rfl | refine O2 rfl ?_ | refine O3 rfl ?_ rfl | refine O4 rfl rfl rfl (fun _ _ => ?_) | refine O5 tok rfl rfl rfl (fun _ _ => ?_) | refine U0 _ (U2 rfl) rfl ?_ | refine U0 _ (U3 tok rfl rfl rfl rfl rfl) rfl ?_ | refine z3 tok rfl ?_ | refine U0 _ (U4 rfl rfl) rfl ?_ | refine U0 _ (U5 rfl rfl) rfl ?_) | (refine M1 ?_; first | refine J0 ?_ | refine J1 ?_ | refine J2 mixed rfl (by kernel_rfl) ?_ | refine J3 mixed rfl rfl (by kernel_rfl) ?_ | refine J4 ?_ | refine J5 ?_ | refine J6 ?_ | refine J7 ?_ | refine J8 rfl ?_ | refine J9 rfl ?_) | (refine M2 ?_; first | refine I0 ?_ | refine I1 ?_ | refine I2 ?_ | refine I3 ?_ | refine I4 ?_ | refine I5 ?_ | refine I6 rfl ?_ | refine I7 ?_ | refine I8 ?_ | refine z4 ?_) | (refine M3 ?_; first | refine O6 ?_ | refine z2 tok rfl ?_ | refine O8 rfl ?_ | refine O7 rfl ?_ rfl | refine O9 rfl ?_ rfl | refine U1 _ (U4 rfl rfl) rfl ?_ | refine U1 _ (U5 rfl rfl) rfl ?_ | refine U1 _ (U2 rfl) rfl ?_ | refine U1 _ (U3 tok rfl rfl rfl rfl rfl) rfl ?_) | (refine M4 ?_; first | refine M6 ?_ | refine U6 rfl (by kernel_rfl) ?_ | refine U7 (by kernel_rfl) ?_) | (refine M5 ?_; first | exact M7 | refine U8 rfl ?_ | refine U9 rfl rfl ?_ ?_))
  refine XE.retg tok Try.results162 rfl (by simp only [and_self, and_true]) (fun w' S => ?_)
  exact ⟨rfl, S.toBelow⟩
theorem senergy_any {x : Slu} {n d o : Int} {before on : Bool} (w : World) :
    Calls Try.prog 156 #[.agg ⟨sluC x⟩, .agg ⟨headC n d o⟩, .bool before, .bool on] w fun e w' => e = .returned (.int .i64 ((Dev.slu x).energy n d o before on)) ∧ Below w.heap.size w w' := by
  simp only [sluC, headC]
  refine enter Try.func156 rfl Try.ntmps156 rfl ?_; simp only [frame, Nat.zero_add, Nat.reduceAdd]
  repeat (first | (refine M0 ?_; first | refine O0 ?_ | refine z1 tok rfl ?_ | refine O1 rfl ?_ rfl | refine O2 rfl ?_ | refine O3 rfl ?_ rfl | refine U0 _ (Ev.eqlB Try.underlying4 rfl rfl) rfl ?_ | refine O4 rfl rfl rfl (fun _ _ => ?_) | refine O5 tok rfl rfl rfl (fun _ _ => ?_) | refine U0 _ (U2 rfl) rfl ?_ | refine U0 _ (U3 tok rfl rfl rfl rfl rfl) rfl ?_ | refine z3 tok rfl ?_ | refine U0 _ (U4 rfl rfl) rfl ?_ | refine U0 _ (U5 rfl rfl) rfl ?_) | (refine M1 ?_; first | refine J0 ?_ | refine J1 ?_ | refine J2 mixed rfl (by kernel_rfl) ?_ | refine J3 mixed rfl rfl (by kernel_rfl) ?_ | refine J4 ?_ | refine J5 ?_ | refine J6 ?_ | refine J7 ?_ | refine J8 rfl ?_ | refine J9 rfl ?_) | (refine M2 ?_; first | refine I0 ?_ | refine I1 ?_ | refine I2 ?_ | refine I3 ?_ | refine I4 ?_ | refine I5 ?_ | refine I6 rfl ?_ | refine I7 ?_ | refine I8 ?_ | refine z4 ?_) | (refine M3 ?_; first | refine O6 ?_ | refine z2 tok rfl ?_ | refine O8 rfl ?_ | refine O7 rfl ?_ rfl | refine O9 rfl ?_ rfl | refine U1 _ (Ev.eqlB Try.underlying4 rfl rfl) rfl ?_ | refine U1 _ (U4 rfl rfl) rfl ?_ | refine U1 _ (U5 rfl rfl) rfl ?_ | refine U1 _ (U2 rfl) rfl ?_ | refine U1 _ (U3 tok rfl rfl rfl rfl rfl) rfl ?_) | (refine M4 ?_; first | refine M6 ?_ | refine U6 rfl (by kernel_rfl) ?_ | refine U7 (by kernel_rfl) ?_) | (refine M5 ?_; first | exact M7 | refine U8 rfl ?_ | refine U9 rfl rfl ?_ ?_))
  refine XC.cond _ rfl (fun h1 => ?_) (fun h1 => ?_)
  · repeat (first | (refine M0 ?_; first | refine O0 ?_ | refine z1 tok rfl ?_ | refine O1 rfl ?_ rfl | refine O2 rfl ?_ | refine O3 rfl ?_ rfl | refine O4 rfl rfl rfl (fun _ _ => ?_) | refine O5 tok rfl rfl rfl (fun _ _ => ?_) | refine U0 _ (U2 rfl) rfl ?_ | refine U0 _ (U3 tok rfl rfl rfl rfl rfl) rfl ?_ | refine z3 tok rfl ?_ | refine U0 _ (U4 rfl rfl) rfl ?_ | refine U0 _ (U5 rfl rfl) rfl ?_) | (refine M1 ?_; first | refine J0 ?_ | refine J1 ?_ | refine J2 mixed rfl (by kernel_rfl) ?_ | refine J3 mixed rfl rfl (by kernel_rfl) ?_ | refine J4 ?_ | refine J5 ?_ | refine J6 ?_ | refine J7 ?_ | refine J8 rfl ?_ | refine J9 rfl ?_) | (refine M2 ?_; first | refine I0 ?_ | refine I1 ?_ | refine I2 ?_ | refine I3 ?_ | refine I4 ?_ | refine I5 ?_ | refine I6 rfl ?_ | refine I7 ?_ | refine I8 ?_ | refine z4 ?_) | (refine M3 ?_; first | refine O6 ?_ | refine z2 tok rfl ?_ | refine O8 rfl ?_ | refine O7 rfl ?_ rfl | refine O9 rfl ?_ rfl | refine U1 _ (U4 rfl rfl) rfl ?_ | refine U1 _ (U5 rfl rfl) rfl ?_ | refine U1 _ (U2 rfl) rfl ?_ | refine U1 _ (U3 tok rfl rfl rfl rfl rfl) rfl ?_) | (refine M4 ?_; first | refine M6 ?_ | refine U6 rfl (by kernel_rfl) ?_ | refine U7 (by kernel_rfl) ?_) | (refine M5 ?_; first | exact M7 | refine U8 rfl ?_ | refine U9 rfl rfl ?_ ?_))
    refine XE.retg tok Try.results156 rfl (by simp only [and_self, and_true]) (fun w' S => ?_)
    exact ⟨by simp only [Dev.energy]; rw [if_pos (by simpa using h1)]; rfl, S.toBelow⟩
  · repeat (first | (refine M0 ?_; first | refine O0 ?_ | refine z1 tok rfl ?_ | refine O1 rfl ?_ rfl | refine O2 rfl ?_ | refine O3 rfl ?_ rfl | refine O4 rfl rfl rfl (fun _ _ => ?_) | refine O5 tok rfl rfl rfl (fun _ _ => ?_) | refine U0 _ (U2 rfl) rfl ?_ | refine U0 _ (U3 tok rfl rfl rfl rfl rfl) rfl ?_ | refine z3 tok rfl ?_ | refine U0 _ (U4 rfl rfl) rfl ?_ | refine U0 _ (U5 rfl rfl) rfl ?_) | (refine M1 ?_; first | refine J0 ?_ | refine J1 ?_ | refine J2 mixed rfl (by kernel_rfl) ?_ | refine J3 mixed rfl rfl (by kernel_rfl) ?_ | refine J4 ?_ | refine J5 ?_ | refine J6 ?_ | refine J7 ?_ | refine J8 rfl ?_ | refine J9 rfl ?_) | (refine M2 ?_; first | refine I0 ?_ | refine I1 ?_ | refine I2 ?_ | refine I3 ?_ | refine I4 ?_ | refine I5 ?_ | refine I6 rfl ?_ | refine I7 ?_ | refine I8 ?_ | refine z4 ?_) | (refine M3 ?_; first | refine O6 ?_ | refine z2 tok rfl ?_ | refine O8 rfl ?_ | refine O7 rfl ?_ rfl | refine O9 rfl ?_ rfl | refine U1 _ (U4 rfl rfl) rfl ?_ | refine U1 _ (U5 rfl rfl) rfl ?_ | refine U1 _ (U2 rfl) rfl ?_ | refine U1 _ (U3 tok rfl rfl rfl rfl rfl) rfl ?_) | (refine M4 ?_; first | refine M6 ?_ | refine U6 rfl (by kernel_rfl) ?_ | refine U7 (by kernel_rfl) ?_) | (refine M5 ?_; first | exact M7 | refine U8 rfl ?_ | refine U9 rfl rfl ?_ ?_))
    refine XE.retg tok Try.results156 rfl (by simp only [and_self, and_true]) (fun w' S => ?_)
    exact ⟨by simp only [Dev.energy]; rw [if_neg (by simpa using h1)]; rfl, S.toBelow⟩
/-- what the lift takes. -/
theorem lift_bd {x l d : Int} (hd : 1 ≤ d ∧ d ≤ 1000000000) (hl : 0 ≤ l ∧ l ≤ 100000) (hx : 0 ≤ x ∧ x ≤ 40000000000000 ∧ x ≤ 40000 * d) : (0 ≤ l * x ∧ l * x ≤ 4000000000000000000) ∧ 0 ≤ (l * x + d - 1).tdiv d ∧ (l * x + d - 1).tdiv d ≤ 4000000001 := by
  have h1 := mul_bd (X := 100000) (Y := 40000000000000) (x := l) (y := x) (by omega) (by omega)
  have h2 : 0 ≤ l * x := Int.mul_nonneg hl.1 hx.1
  have h3 : l * x ≤ 100000 * (40000 * d) := Int.le_trans (Int.mul_le_mul_of_nonneg_right hl.2 hx.1) (Int.mul_le_mul_of_nonneg_left hx.2.2 (by omega))
  have h4 : 0 ≤ (l * x + d - 1).tdiv d := Int.tdiv_nonneg (by omega) (by omega)
  refine ⟨by omega, h4, ?_⟩
  have h5 := (tdiv_mul (a := l * x + d - 1) hd.1).2.2.1 (by omega)
  have h6 : (l * x + d - 1).tdiv d * d ≤ 4000000001 * d := by omega
  exact Int.le_of_mul_le_mul_right h6 (by omega)
theorem penergy_any {x : Pmp} {n d o : Int} {before on : Bool} (h : HeadOk n d o) (hx : DevOk (.pmp x)) (w : World) :
    Calls Try.prog 161 #[.agg ⟨pmpC x⟩, .agg ⟨headC n d o⟩, .bool before, .bool on] w fun e w' => e = .returned (.int .i64 ((Dev.pmp x).energy n d o before on)) ∧ Below w.heap.size w w' := by
  have h2 := h.ins
  have hd := h.hd
  obtain ⟨_, x1, x2, x3⟩ := hx
  have h3 := lift_bd (x := max 0 (-(n - o * d))) (l := x.lift) hd x2 (by omega)
  simp only [pmpC, headC]
  refine enter Try.func161 rfl Try.ntmps161 rfl ?_; simp only [frame, Nat.zero_add, Nat.reduceAdd]
  cases on
  · repeat (first | (refine M0 ?_; first | refine O0 ?_ | refine z1 tok rfl ?_ | refine O1 rfl ?_ rfl | refine O2 rfl ?_ | refine O3 rfl ?_ rfl | refine O4 rfl rfl rfl (fun _ _ => ?_) | refine O5 tok rfl rfl rfl (fun _ _ => ?_) | refine U0 _ (U2 rfl) rfl ?_ | refine U0 _ (U3 tok rfl rfl rfl rfl rfl) rfl ?_ | refine z3 tok rfl ?_ | refine U0 _ (U4 rfl rfl) rfl ?_ | refine U0 _ (U5 rfl rfl) rfl ?_) | (refine M1 ?_; first | refine J0 ?_ | refine J1 ?_ | refine J2 mixed rfl (by kernel_rfl) ?_ | refine J3 mixed rfl rfl (by kernel_rfl) ?_ | refine J4 ?_ | refine J5 ?_ | refine J6 ?_ | refine J7 ?_ | refine J8 rfl ?_ | refine J9 rfl ?_) | (refine M2 ?_; first | refine I0 ?_ | refine I1 ?_ | refine I2 ?_ | refine I3 ?_ | refine I4 ?_ | refine I5 ?_ | refine I6 rfl ?_ | refine I7 ?_ | refine I8 ?_ | refine z4 ?_) | (refine M3 ?_; first | refine O6 ?_ | refine z2 tok rfl ?_ | refine O8 rfl ?_ | refine O7 rfl ?_ rfl | refine O9 rfl ?_ rfl | refine U1 _ (U4 rfl rfl) rfl ?_ | refine U1 _ (U5 rfl rfl) rfl ?_ | refine U1 _ (U2 rfl) rfl ?_ | refine U1 _ (U3 tok rfl rfl rfl rfl rfl) rfl ?_) | (refine M4 ?_; first | refine M6 ?_ | refine U6 rfl (by kernel_rfl) ?_ | refine U7 (by kernel_rfl) ?_) | (refine M5 ?_; first | exact M7 | refine U8 rfl ?_ | refine U9 rfl rfl ?_ ?_))
    refine XE.retg tok Try.results161 rfl (by simp only [and_self, and_true]) (fun w' S => ?_)
    exact ⟨rfl, S.toBelow⟩
  cases before
  all_goals
    repeat (first | (refine M0 ?_; first | refine O0 ?_ | refine z1 tok rfl ?_ | refine O1 rfl ?_ rfl | refine O2 rfl ?_ | refine O3 rfl ?_ rfl | refine U0 _ (Ev.call (f := 160) (ck rfl) rfl (fun w S => inside_any h w)) rfl ?_ | refine O4 rfl rfl rfl (fun _ _ => ?_) | refine O5 tok rfl rfl rfl (fun _ _ => ?_) | refine U0 _ (U2 rfl) rfl ?_ | refine U0 _ (U3 tok rfl rfl rfl rfl rfl) rfl ?_ | refine z3 tok rfl ?_ | refine U0 _ (U4 rfl rfl) rfl ?_ | refine U0 _ (U5 rfl rfl) rfl ?_) | (refine M1 ?_; first | refine J0 ?_ | refine J1 ?_ | refine J2 mixed rfl (by kernel_rfl) ?_ | refine J3 mixed rfl rfl (by kernel_rfl) ?_ | refine J4 ?_ | refine J5 ?_ | refine J6 ?_ | refine J7 ?_ | refine J8 rfl ?_ | refine J9 rfl ?_) | (refine M2 ?_; first | refine I0 ?_ | refine I1 ?_ | refine I2 ?_ | refine I3 ?_ | refine I4 ?_ | refine I5 ?_ | refine I6 rfl ?_ | refine I7 ?_ | refine I8 ?_ | refine z4 ?_) | (refine M3 ?_; first | refine O6 ?_ | refine z2 tok rfl ?_ | refine O8 rfl ?_ | refine O7 rfl ?_ rfl | refine O9 rfl ?_ rfl | refine U1 _ (Ev.call (f := 160) (ck rfl) rfl (fun w S => inside_any h w)) rfl ?_ | refine U1 _ (U4 rfl rfl) rfl ?_ | refine U1 _ (U5 rfl rfl) rfl ?_ | refine U1 _ (U2 rfl) rfl ?_ | refine U1 _ (U3 tok rfl rfl rfl rfl rfl) rfl ?_) | (refine M4 ?_; first | refine M6 ?_ | refine U6 rfl (by kernel_rfl) ?_ | refine U7 (by kernel_rfl) ?_) | (refine M5 ?_; first | exact M7 | refine U8 rfl ?_ | refine U9 rfl rfl ?_ ?_))
    refine XE.retg tok Try.results161 rfl (by simp only [and_self, and_true]) (fun w' S => ?_)
    exact ⟨by first | rfl | (simp only [Dev.energy, if_true, Bool.false_eq_true, if_false, Int.add_zero]; rfl), S.toBelow⟩
/-! ### a device, whichever it is -/
theorem dev_name (x : Dev) : ∃ f, methO Try.prog x.ty "barrage/runoff.name" = some f ∧ callOk Try.prog f = true ∧ ∀ w, Calls Try.prog f (Value.agg ⟨x.c⟩ :: []).toArray w fun e w' => e = .returned (.string x.name) ∧ Below w.heap.size w w' := by
  cases x with
  | slu x => exact ⟨158, by kernel_rfl, ck rfl, fun w => sname_any x w⟩
  | pmp x => exact ⟨163, by kernel_rfl, ck rfl, fun w => pname_any x w⟩
theorem dev_wild (x : Dev) : ∃ f, methO Try.prog x.ty "barrage/runoff.wild" = some f ∧ callOk Try.prog f = true ∧ ∀ w, Calls Try.prog f (Value.agg ⟨x.c⟩ :: []).toArray w fun e w' => e = .returned (.bool x.wild) ∧ Below w.heap.size w w' := by
  cases x with
  | slu x => exact ⟨159, by kernel_rfl, ck rfl, fun w => swild_any x w⟩
  | pmp x => exact ⟨164, by kernel_rfl, ck rfl, fun w => pwild_any x w⟩
theorem dev_flow {x : Dev} {n d o : Int} (h : HeadOk n d o) (hx : DevOk x) : ∃ f, methO Try.prog x.ty "barrage/runoff.flow" = some f ∧ callOk Try.prog f = true ∧ ∀ w, Calls Try.prog f (Value.agg ⟨x.c⟩ :: [.agg ⟨headC n d o⟩]).toArray w fun e w' => e = .returned (flowV (x.flow n d o)) ∧ Below w.heap.size w w' := by
  cases x with
  | slu x => exact ⟨157, by kernel_rfl, ck rfl, fun w => sflow_any h hx w⟩
  | pmp x => exact ⟨162, by kernel_rfl, ck rfl, fun w => pflow_any w⟩
theorem dev_energy {x : Dev} {n d o : Int} (before on : Bool) (h : HeadOk n d o) (hx : DevOk x) : ∃ f, methO Try.prog x.ty "barrage/runoff.energy" = some f ∧ callOk Try.prog f = true ∧ ∀ w, Calls Try.prog f (Value.agg ⟨x.c⟩ :: [.agg ⟨headC n d o⟩, .bool before, .bool on]).toArray w fun e w' => e = .returned (.int .i64 (x.energy n d o before on)) ∧ Below w.heap.size w w' := by
  cases x with
  | slu x => exact ⟨156, by kernel_rfl, ck rfl, fun w => senergy_any w⟩
  | pmp x => exact ⟨161, by kernel_rfl, ck rfl, fun w => penergy_any h hx w⟩
/-- bounds. -/
theorem flow_bd {x : Dev} {n d o f : Int} (h : HeadOk n d o) (hx : DevOk x) (e : x.flow n d o = some f) : 0 ≤ f ∧ f ≤ 800000000000000000 := by
  cases x with
  | slu x =>
    simp only [Dev.flow] at e
    split at e
    · cases e
    · rename_i h3
      cases e
      have h2 := h.ins
      have h4 := mul_bd (X := 10000) (Y := 80000000000000) (x := x.width) (y := n - o * d) (by have := hx.1; omega) (by omega)
      have h5 : 0 ≤ x.width * (n - o * d) := Int.mul_nonneg hx.1.1 (by omega)
      have h6 := tdiv_sml h.hd.1 h5
      omega
  | pmp x => simp only [Dev.flow, Option.some.injEq] at e; have := hx.1; omega
theorem energy_bd {x : Dev} {n d o : Int} (before on : Bool) (h : HeadOk n d o) (hx : DevOk x) : 0 ≤ x.energy n d o before on ∧ x.energy n d o before on ≤ 5000000000 := by
  have h2 := h.ins
  have hd := h.hd
  cases x with
  | slu x => have := hx.2; simp only [Dev.energy]; split <;> omega
  | pmp x =>
    obtain ⟨_, x1, x2, x3⟩ := hx
    have h3 := lift_bd (x := max 0 (-(n - o * d))) (l := x.lift) h.hd x2 (by omega)
    simp only [Dev.energy]
    split
    · split <;> omega
    · omega
end Go.Proofs.Ytmodjcegmgjhoaa.X
/-
  The walks of devices, kinds and Check's closure (runoff).
-/
namespace Go.Proofs.Ytmodjcegmgjhoaa.X
open Go Go.RowKit Go.Proofs.Ytmodjcegmgjhoaa.Bs
set_option linter.unusedVariables false
theorem dev_el : elemOk Try.prog 95 devK.ty devK.m 16 = true := by kernel_rfl
theorem slu_con : conB (Try.prog.underlying 153) = true := by kernel_rfl
theorem pmp_con : conB (Try.prog.underlying 154) = true := by kernel_rfl
def DevsV (ds : List Dev) (v : Value) (new : List Held) : Prop := ∃ r : SV, v = svV r ∧ new = [hList devK r ds] ∧ (0 < ds.length → ds.length ≤ r.c)
theorem take_map_succ {α β : Type} (f : α → β) {l : List α} {k : Nat} (h : k < l.length) : (l.take (k + 1)).map f = (l.take k).map f ++ [f l[k]] := by
  rw [List.take_add_one, List.getElem?_eq_getElem h, List.map_append]; rfl
set_option maxHeartbeats 8000000 in
theorem devices_made {v : RTV} {t : RTk} {w : World} (ht : TskAt w w.heap.size v t) (hn : t.slu.length + t.pmp.length ≤ 5000000) :
    Calls Try.prog 47 #[tskV v t] w (Made w (DevsV t.devs)) := by
  obtain ⟨p, q, o, r, c, ⟨As, ns, cs⟩, ⟨Ap, np, cp⟩, on⟩ := v
  have hls := ht.slu.len (by decide)
  have hlp := ht.pmp.len (by decide)
  simp only at hls hlp
  subst hls hlp
  have hsl := ht.slu
  have hpl := ht.pmp
  simp only at hsl hpl
  simp only [tskV, tskC]
  refine enter Try.func47 rfl Try.ntmps47 rfl ?_; simp only [frame, Nat.zero_add, Nat.reduceAdd]
  repeat (first | (refine M0 ?_; first | refine O0 ?_ | refine z1 tok rfl ?_ | refine O1 rfl ?_ rfl | refine O2 rfl ?_ | refine O3 rfl ?_ rfl | refine O4 rfl rfl rfl (fun _ _ => ?_) | refine O5 tok rfl rfl rfl (fun _ _ => ?_) | refine U0 _ (U2 rfl) rfl ?_ | refine U0 _ (U3 tok rfl rfl rfl rfl rfl) rfl ?_ | refine z3 tok rfl ?_ | refine U0 _ (U4 rfl rfl) rfl ?_ | refine U0 _ (U5 rfl rfl) rfl ?_) | (refine M1 ?_; first | refine J0 ?_ | refine J1 ?_ | refine J2 mixed rfl (by kernel_rfl) ?_ | refine J3 mixed rfl rfl (by kernel_rfl) ?_ | refine J4 ?_ | refine J5 ?_ | refine J6 ?_ | refine J7 ?_ | refine J8 rfl ?_ | refine J9 rfl ?_) | (refine M2 ?_; first | refine I0 ?_ | refine I1 ?_ | refine I2 ?_ | refine I3 ?_ | refine I4 ?_ | refine I5 ?_ | refine I6 rfl ?_ | refine I7 ?_ | refine I8 ?_ | refine z4 ?_) | (refine M3 ?_; first | refine O6 ?_ | refine z2 tok rfl ?_ | refine O8 rfl ?_ | refine O7 rfl ?_ rfl | refine O9 rfl ?_ rfl | refine U1 _ (U4 rfl rfl) rfl ?_ | refine U1 _ (U5 rfl rfl) rfl ?_ | refine U1 _ (U2 rfl) rfl ?_ | refine U1 _ (U3 tok rfl rfl rfl rfl rfl) rfl ?_) | (refine M4 ?_; first | refine M6 ?_ | refine U6 rfl (by kernel_rfl) ?_ | refine U7 (by kernel_rfl) ?_) | (refine M5 ?_; first | exact M7 | refine U8 rfl ?_ | refine U9 rfl rfl ?_ ?_))
  rename_i g1 hg1
  refine XC.rebase (List.Sublist.refl _) (fun W0 S0 => ?_)
  have hl1 : ∀ (l : List Dev), l.length ≤ 5000000 → l.length + 1 ≤ 10000000 := fun l h => by omega
  have ha1 : ∀ (d : Dev) x, x ∈ devK.sl d → x ∈ ([] : List Held) := fun d x hx => hx
  refine XC.loopk [1, 8, 9] rfl (fun s : Nat × World × Value => [(10, .int .i64 (s.1 : Nat)), (2, s.2.2)]) (fun s => [(g1, _)]) (fun s => s.2.1)
    (fun s => s.1 ≤ t.slu.length ∧ Fam s.2.1 w.heap.size [g1] [⟨Dev, devK, s.2.2, (t.slu.take s.1).map Dev.slu⟩] [] ∧ Below w.heap.size w s.2.1 ∧ g1 < s.2.1.heap.size)
    (fun s => t.slu.length - s.1) (0, W0, .slice none 0 0) ⟨Nat.zero_le _, (Fam.start (ks := [g1]) S0.size).nil devK, S0.toBelow, S0.keyLt g1 (by simp)⟩ (by repeat (first | exact Sub.nil | refine Sub.cons rfl ?_)) (fun _ h => h) ?_
  · rintro ⟨k, W, v⟩ ⟨hk, hF, hBW, hgW⟩
    simp only at hk hF hBW hgW
    dsimp only [List.cons_append, List.nil_append]
    repeat (first | (refine M0 ?_; first | refine O0 ?_ | refine z1 tok rfl ?_ | refine O1 rfl ?_ rfl | refine O2 rfl ?_ | refine O3 rfl ?_ rfl | refine O4 rfl rfl rfl (fun _ _ => ?_) | refine O5 tok rfl rfl rfl (fun _ _ => ?_) | refine U0 _ (U2 rfl) rfl ?_ | refine U0 _ (U3 tok rfl rfl rfl rfl rfl) rfl ?_ | refine z3 tok rfl ?_ | refine U0 _ (U4 rfl rfl) rfl ?_ | refine U0 _ (U5 rfl rfl) rfl ?_) | (refine M1 ?_; first | refine J0 ?_ | refine J1 ?_ | refine J2 mixed rfl (by kernel_rfl) ?_ | refine J3 mixed rfl rfl (by kernel_rfl) ?_ | refine J4 ?_ | refine J5 ?_ | refine J6 ?_ | refine J7 ?_ | refine J8 rfl ?_ | refine J9 rfl ?_) | (refine M2 ?_; first | refine I0 ?_ | refine I1 ?_ | refine I2 ?_ | refine I3 ?_ | refine I4 ?_ | refine I5 ?_ | refine I6 rfl ?_ | refine I7 ?_ | refine I8 ?_ | refine z4 ?_) | (refine M3 ?_; first | refine O6 ?_ | refine z2 tok rfl ?_ | refine O8 rfl ?_ | refine O7 rfl ?_ rfl | refine O9 rfl ?_ rfl | refine U1 _ (U4 rfl rfl) rfl ?_ | refine U1 _ (U5 rfl rfl) rfl ?_ | refine U1 _ (U2 rfl) rfl ?_ | refine U1 _ (U3 tok rfl rfl rfl rfl rfl) rfl ?_) | (refine M4 ?_; first | refine M6 ?_ | refine U6 rfl (by kernel_rfl) ?_ | refine U7 (by kernel_rfl) ?_) | (refine M5 ?_; first | exact M7 | refine U8 rfl ?_ | refine U9 rfl rfl ?_ ?_))
    refine XC.cond _ rfl (fun h1 => ?_) (fun h1 => ?_)
    · have hkn : k < t.slu.length := by simpa using h1
      obtain ⟨ad, rfl, hlt⟩ := hsl.addr (by decide) (by omega)
      obtain ⟨x, hx⟩ : ∃ x, x = t.slu[k] := ⟨_, rfl⟩
      have hcell : ∀ j u, (sluC x)[j]? = some u → W.cell? ((ad.add (k * 3)).add j) = some u := by rw [hx]; exact (hsl.below hBW).elem (List.getElem?_eq_getElem hkn)
      have hks : ∀ j, j ∈ [g1] → j < W.heap.size := fun j hj => by rw [List.mem_singleton.1 hj]; exact hgW
      simp only [sluC] at hcell
      repeat (first | (refine M0 ?_; first | refine O0 ?_ | refine z1 tok rfl ?_ | refine O1 rfl ?_ rfl | refine O2 rfl ?_ | refine O3 rfl ?_ rfl | refine U0 _ (Ev.load_old_agg tok _ rfl rfl rfl (add_lt hlt) hcell) rfl ?_ | refine U0 _ (Ev.makeI slu_con rfl) rfl ?_ | refine O4 rfl rfl rfl (fun _ _ => ?_) | refine O5 tok rfl rfl rfl (fun _ _ => ?_) | refine U0 _ (U2 rfl) rfl ?_ | refine U0 _ (U3 tok rfl rfl rfl rfl rfl) rfl ?_ | refine z3 tok rfl ?_ | refine U0 _ (U4 rfl rfl) rfl ?_ | refine U0 _ (U5 rfl rfl) rfl ?_ | refine XL.buildSlice tok rfl rfl rfl rfl rfl rfl rfl rfl rfl (fun _ _ => ?_)) | (refine M1 ?_; first | refine J0 ?_ | refine J1 ?_ | refine J2 mixed rfl (by kernel_rfl) ?_ | refine J3 mixed rfl rfl (by kernel_rfl) ?_ | refine J4 ?_ | refine J5 ?_ | refine J6 ?_ | refine J7 ?_ | refine J8 rfl ?_ | refine J9 rfl ?_) | (refine M2 ?_; first | refine I0 ?_ | refine I1 ?_ | refine I2 ?_ | refine I3 ?_ | refine I4 ?_ | refine I5 ?_ | refine I6 rfl ?_ | refine I7 ?_ | refine I8 ?_ | refine z4 ?_) | (refine M3 ?_; first | refine O6 ?_ | refine z2 tok rfl ?_ | refine O8 rfl ?_ | refine O7 rfl ?_ rfl | refine O9 rfl ?_ rfl | refine U1 _ (Ev.load_old_agg tok _ rfl rfl rfl (add_lt hlt) hcell) rfl ?_ | refine U1 _ (Ev.makeI slu_con rfl) rfl ?_ | refine U1 _ (U4 rfl rfl) rfl ?_ | refine U1 _ (U5 rfl rfl) rfl ?_ | refine U1 _ (U2 rfl) rfl ?_ | refine U1 _ (U3 tok rfl rfl rfl rfl rfl) rfl ?_) | (refine M4 ?_; first | refine M6 ?_ | refine U6 rfl (by kernel_rfl) ?_ | refine U7 (by kernel_rfl) ?_) | (refine M5 ?_; first | exact M7 | refine U8 rfl ?_ | refine U9 rfl rfl ?_ ?_))
      refine XL.push (K := devK) (a := Dev.slu x) (wE := w) 0 dev_el (by decide) rfl rfl rfl hF rfl hks hBW (Nat.le_refl _) rfl (hl1 _ (by rw [List.length_map, List.length_take]; omega)) (by decide) (ha1 _) (fun W1 u1 hF1 hB1 hk1 => ?_)
      repeat (first | (refine M0 ?_; first | refine O0 ?_ | refine z1 tok rfl ?_ | refine O1 rfl ?_ rfl | refine O2 rfl ?_ | refine O3 rfl ?_ rfl | refine O4 rfl rfl rfl (fun _ _ => ?_) | refine O5 tok rfl rfl rfl (fun _ _ => ?_) | refine U0 _ (U2 rfl) rfl ?_ | refine U0 _ (U3 tok rfl rfl rfl rfl rfl) rfl ?_ | refine z3 tok rfl ?_ | refine U0 _ (U4 rfl rfl) rfl ?_ | refine U0 _ (U5 rfl rfl) rfl ?_) | (refine M1 ?_; first | refine J0 ?_ | refine J1 ?_ | refine J2 mixed rfl (by kernel_rfl) ?_ | refine J3 mixed rfl rfl (by kernel_rfl) ?_ | refine J4 ?_ | refine J5 ?_ | refine J6 ?_ | refine J7 ?_ | refine J8 rfl ?_ | refine J9 rfl ?_) | (refine M2 ?_; first | refine I0 ?_ | refine I1 ?_ | refine I2 ?_ | refine I3 ?_ | refine I4 ?_ | refine I5 ?_ | refine I6 rfl ?_ | refine I7 ?_ | refine I8 ?_ | refine z4 ?_) | (refine M3 ?_; first | refine O6 ?_ | refine z2 tok rfl ?_ | refine O8 rfl ?_ | refine O7 rfl ?_ rfl | refine O9 rfl ?_ rfl | refine U1 _ (U4 rfl rfl) rfl ?_ | refine U1 _ (U5 rfl rfl) rfl ?_ | refine U1 _ (U2 rfl) rfl ?_ | refine U1 _ (U3 tok rfl rfl rfl rfl rfl) rfl ?_) | (refine M4 ?_; first | refine M6 ?_ | refine U6 rfl (by kernel_rfl) ?_ | refine U7 (by kernel_rfl) ?_) | (refine M5 ?_; first | exact M7 | refine U8 rfl ?_ | refine U9 rfl rfl ?_ ?_))
      refine XE.roundW (s := (k, W, v)) (fun w6 S6 => ⟨(k + 1, w6, u1), ⟨hkn, ?_, hB1.trans S6.toBelow, S6.keyLt g1 (by simp)⟩, by simp only; omega, (by repeat (first | exact Sub.nil | refine Sub.cons rfl ?_)), S6.rebase (by repeat (first | exact List.Sublist.refl _ | exact List.nil_sublist _ | refine List.Sublist.cons _ ?_))⟩)
      simp only [take_map_succ Dev.slu hkn, ← hx]
      exact Fam.add (Fam.sys hF1 S6 (by intro e he; repeat (first | (cases he; done) | (rcases List.mem_cons.1 he with rfl | he; · first | (right; assumption) | (left; simp <;> fail))))) (by intro k hk; repeat (first | (cases hk; done) | (rcases List.mem_cons.1 hk with rfl | hk; · first | (right; assumption) | (left; simp <;> fail))))
    · have hkn : k = t.slu.length := by have : ¬ (k < t.slu.length) := by simpa using h1
                                        omega
      subst hkn
      rw [List.take_length] at hF
      repeat (first | (refine M0 ?_; first | refine O0 ?_ | refine z1 tok rfl ?_ | refine O1 rfl ?_ rfl | refine O2 rfl ?_ | refine O3 rfl ?_ rfl | refine O4 rfl rfl rfl (fun _ _ => ?_) | refine O5 tok rfl rfl rfl (fun _ _ => ?_) | refine U0 _ (U2 rfl) rfl ?_ | refine U0 _ (U3 tok rfl rfl rfl rfl rfl) rfl ?_ | refine z3 tok rfl ?_ | refine U0 _ (U4 rfl rfl) rfl ?_ | refine U0 _ (U5 rfl rfl) rfl ?_) | (refine M1 ?_; first | refine J0 ?_ | refine J1 ?_ | refine J2 mixed rfl (by kernel_rfl) ?_ | refine J3 mixed rfl rfl (by kernel_rfl) ?_ | refine J4 ?_ | refine J5 ?_ | refine J6 ?_ | refine J7 ?_ | refine J8 rfl ?_ | refine J9 rfl ?_) | (refine M2 ?_; first | refine I0 ?_ | refine I1 ?_ | refine I2 ?_ | refine I3 ?_ | refine I4 ?_ | refine I5 ?_ | refine I6 rfl ?_ | refine I7 ?_ | refine I8 ?_ | refine z4 ?_) | (refine M3 ?_; first | refine O6 ?_ | refine z2 tok rfl ?_ | refine O8 rfl ?_ | refine O7 rfl ?_ rfl | refine O9 rfl ?_ rfl | refine U1 _ (U4 rfl rfl) rfl ?_ | refine U1 _ (U5 rfl rfl) rfl ?_ | refine U1 _ (U2 rfl) rfl ?_ | refine U1 _ (U3 tok rfl rfl rfl rfl rfl) rfl ?_) | (refine M4 ?_; first | refine M6 ?_ | refine U6 rfl (by kernel_rfl) ?_ | refine U7 (by kernel_rfl) ?_) | (refine M5 ?_; first | exact M7 | refine U8 rfl ?_ | refine U9 rfl rfl ?_ ?_))
      refine XC.rebase (List.Sublist.refl _) (fun W2 S2 => ?_)
      refine XC.loopk [21, 22] rfl (fun s : Nat × World × Value => [(23, .int .i64 (s.1 : Nat)), (2, s.2.2)]) (fun s => [(g1, _)]) (fun s => s.2.1)
        (fun s => s.1 ≤ t.pmp.length ∧ Fam s.2.1 w.heap.size [g1] [⟨Dev, devK, s.2.2, t.slu.map Dev.slu ++ (t.pmp.take s.1).map Dev.pmp⟩] [] ∧ Below w.heap.size w s.2.1 ∧ g1 < s.2.1.heap.size)
        (fun s => t.pmp.length - s.1) (0, W2, v) ⟨Nat.zero_le _, by simpa using hF.sys S2 (by intro e he; repeat (first | (cases he; done) | (rcases List.mem_cons.1 he with rfl | he; · first | (right; assumption) | (left; simp <;> fail)))), hBW.trans S2.toBelow, S2.keyLt g1 (by simp)⟩ (by repeat (first | exact Sub.nil | refine Sub.cons rfl ?_)) (fun _ h => h) ?_
      rintro ⟨k, W, v⟩ ⟨hk, hF, hBW, hgW⟩
      simp only at hk hF hBW hgW
      dsimp only [List.cons_append, List.nil_append]
      repeat (first | (refine M0 ?_; first | refine O0 ?_ | refine z1 tok rfl ?_ | refine O1 rfl ?_ rfl | refine O2 rfl ?_ | refine O3 rfl ?_ rfl | refine O4 rfl rfl rfl (fun _ _ => ?_) | refine O5 tok rfl rfl rfl (fun _ _ => ?_) | refine U0 _ (U2 rfl) rfl ?_ | refine U0 _ (U3 tok rfl rfl rfl rfl rfl) rfl ?_ | refine z3 tok rfl ?_ | refine U0 _ (U4 rfl rfl) rfl ?_ | refine U0 _ (U5 rfl rfl) rfl ?_) | (refine M1 ?_; first | refine J0 ?_ | refine J1 ?_ | refine J2 mixed rfl (by kernel_rfl) ?_ | refine J3 mixed rfl rfl (by kernel_rfl) ?_ | refine J4 ?_ | refine J5 ?_ | refine J6 ?_ | refine J7 ?_ | refine J8 rfl ?_ | refine J9 rfl ?_) | (refine M2 ?_; first | refine I0 ?_ | refine I1 ?_ | refine I2 ?_ | refine I3 ?_ | refine I4 ?_ | refine I5 ?_ | refine I6 rfl ?_ | refine I7 ?_ | refine I8 ?_ | refine z4 ?_) | (refine M3 ?_; first | refine O6 ?_ | refine z2 tok rfl ?_ | refine O8 rfl ?_ | refine O7 rfl ?_ rfl | refine O9 rfl ?_ rfl | refine U1 _ (U4 rfl rfl) rfl ?_ | refine U1 _ (U5 rfl rfl) rfl ?_ | refine U1 _ (U2 rfl) rfl ?_ | refine U1 _ (U3 tok rfl rfl rfl rfl rfl) rfl ?_) | (refine M4 ?_; first | refine M6 ?_ | refine U6 rfl (by kernel_rfl) ?_ | refine U7 (by kernel_rfl) ?_) | (refine M5 ?_; first | exact M7 | refine U8 rfl ?_ | refine U9 rfl rfl ?_ ?_))
      refine XC.cond _ rfl (fun h1 => ?_) (fun h1 => ?_)
      · have hkn : k < t.pmp.length := by simpa using h1
        obtain ⟨ad, rfl, hlt⟩ := hpl.addr (by decide) (by omega)
        obtain ⟨x, hx⟩ : ∃ x, x = t.pmp[k] := ⟨_, rfl⟩
        have hcell : ∀ j u, (pmpC x)[j]? = some u → W.cell? ((ad.add (k * 5)).add j) = some u := by rw [hx]; exact (hpl.below hBW).elem (List.getElem?_eq_getElem hkn)
        have hks : ∀ j, j ∈ [g1] → j < W.heap.size := fun j hj => by rw [List.mem_singleton.1 hj]; exact hgW
        simp only [pmpC] at hcell
        repeat (first | (refine M0 ?_; first | refine O0 ?_ | refine z1 tok rfl ?_ | refine O1 rfl ?_ rfl | refine O2 rfl ?_ | refine O3 rfl ?_ rfl | refine U0 _ (Ev.load_old_agg tok _ rfl rfl rfl (add_lt hlt) hcell) rfl ?_ | refine U0 _ (Ev.makeI pmp_con rfl) rfl ?_ | refine O4 rfl rfl rfl (fun _ _ => ?_) | refine O5 tok rfl rfl rfl (fun _ _ => ?_) | refine U0 _ (U2 rfl) rfl ?_ | refine U0 _ (U3 tok rfl rfl rfl rfl rfl) rfl ?_ | refine z3 tok rfl ?_ | refine U0 _ (U4 rfl rfl) rfl ?_ | refine U0 _ (U5 rfl rfl) rfl ?_ | refine XL.buildSlice tok rfl rfl rfl rfl rfl rfl rfl rfl rfl (fun _ _ => ?_)) | (refine M1 ?_; first | refine J0 ?_ | refine J1 ?_ | refine J2 mixed rfl (by kernel_rfl) ?_ | refine J3 mixed rfl rfl (by kernel_rfl) ?_ | refine J4 ?_ | refine J5 ?_ | refine J6 ?_ | refine J7 ?_ | refine J8 rfl ?_ | refine J9 rfl ?_) | (refine M2 ?_; first | refine I0 ?_ | refine I1 ?_ | refine I2 ?_ | refine I3 ?_ | refine I4 ?_ | refine I5 ?_ | refine I6 rfl ?_ | refine I7 ?_ | refine I8 ?_ | refine z4 ?_) | (refine M3 ?_; first | refine O6 ?_ | refine z2 tok rfl ?_ | refine O8 rfl ?_ | refine O7 rfl ?_ rfl | refine O9 rfl ?_ rfl | refine U1 _ (Ev.load_old_agg tok _ rfl rfl rfl (add_lt hlt) hcell) rfl ?_ | refine U1 _ (Ev.makeI pmp_con rfl) rfl ?_ | refine U1 _ (U4 rfl rfl) rfl ?_ | refine U1 _ (U5 rfl rfl) rfl ?_ | refine U1 _ (U2 rfl) rfl ?_ | refine U1 _ (U3 tok rfl rfl rfl rfl rfl) rfl ?_) | (refine M4 ?_; first | refine M6 ?_ | refine U6 rfl (by kernel_rfl) ?_ | refine U7 (by kernel_rfl) ?_) | (refine M5 ?_; first | exact M7 | refine U8 rfl ?_ | refine U9 rfl rfl ?_ ?_))
        refine XL.push (K := devK) (a := Dev.pmp x) (wE := w) 0 dev_el (by decide) rfl rfl rfl hF rfl hks hBW (Nat.le_refl _) rfl (hl1 _ (by rw [List.length_append, List.length_map, List.length_map, List.length_take]; omega)) (by decide) (ha1 _) (fun W1 u1 hF1 hB1 hk1 => ?_)
        repeat (first | (refine M0 ?_; first | refine O0 ?_ | refine z1 tok rfl ?_ | refine O1 rfl ?_ rfl | refine O2 rfl ?_ | refine O3 rfl ?_ rfl | refine O4 rfl rfl rfl (fun _ _ => ?_) | refine O5 tok rfl rfl rfl (fun _ _ => ?_) | refine U0 _ (U2 rfl) rfl ?_ | refine U0 _ (U3 tok rfl rfl rfl rfl rfl) rfl ?_ | refine z3 tok rfl ?_ | refine U0 _ (U4 rfl rfl) rfl ?_ | refine U0 _ (U5 rfl rfl) rfl ?_) | (refine M1 ?_; first | refine J0 ?_ | refine J1 ?_ | refine J2 mixed rfl (by kernel_rfl) ?_ | refine J3 mixed rfl rfl (by kernel_rfl) ?_ | refine J4 ?_ | refine J5 ?_ | refine J6 ?_ | refine J7 ?_ | refine J8 rfl ?_ | refine J9 rfl ?_) | (refine M2 ?_; first | refine I0 ?_ | refine I1 ?_ | refine I2 ?_ | refine I3 ?_ | refine I4 ?_ | refine I5 ?_ | refine I6 rfl ?_ | refine I7 ?_ | refine I8 ?_ | refine z4 ?_) | (refine M3 ?_; first | refine O6 ?_ | refine z2 tok rfl ?_ | refine O8 rfl ?_ | refine O7 rfl ?_ rfl | refine O9 rfl ?_ rfl | refine U1 _ (U4 rfl rfl) rfl ?_ | refine U1 _ (U5 rfl rfl) rfl ?_ | refine U1 _ (U2 rfl) rfl ?_ | refine U1 _ (U3 tok rfl rfl rfl rfl rfl) rfl ?_) | (refine M4 ?_; first | refine M6 ?_ | refine U6 rfl (by kernel_rfl) ?_ | refine U7 (by kernel_rfl) ?_) | (refine M5 ?_; first | exact M7 | refine U8 rfl ?_ | refine U9 rfl rfl ?_ ?_))
        refine XE.roundW (s := (k, W, v)) (fun w6 S6 => ⟨(k + 1, w6, u1), ⟨hkn, ?_, hB1.trans S6.toBelow, S6.keyLt g1 (by simp)⟩, by simp only; omega, (by repeat (first | exact Sub.nil | refine Sub.cons rfl ?_)), S6.rebase (by repeat (first | exact List.Sublist.refl _ | exact List.nil_sublist _ | refine List.Sublist.cons _ ?_))⟩)
        simp only [take_map_succ Dev.pmp hkn, ← hx, ← List.append_assoc]
        exact Fam.add (Fam.sys hF1 S6 (by intro e he; repeat (first | (cases he; done) | (rcases List.mem_cons.1 he with rfl | he; · first | (right; assumption) | (left; simp <;> fail))))) (by intro k hk; repeat (first | (cases hk; done) | (rcases List.mem_cons.1 hk with rfl | hk; · first | (right; assumption) | (left; simp <;> fail))))
      · have hkn : k = t.pmp.length := by have : ¬ (k < t.pmp.length) := by simpa using h1
                                          omega
        subst hkn
        rw [List.take_length] at hF
        repeat (first | (refine M0 ?_; first | refine O0 ?_ | refine z1 tok rfl ?_ | refine O1 rfl ?_ rfl | refine O2 rfl ?_ | refine O3 rfl ?_ rfl | refine O4 rfl rfl rfl (fun _ _ => ?_) | refine O5 tok rfl rfl rfl (fun _ _ => ?_) | refine U0 _ (U2 rfl) rfl ?_ | refine U0 _ (U3 tok rfl rfl rfl rfl rfl) rfl ?_ | refine z3 tok rfl ?_ | refine U0 _ (U4 rfl rfl) rfl ?_ | refine U0 _ (U5 rfl rfl) rfl ?_) | (refine M1 ?_; first | refine J0 ?_ | refine J1 ?_ | refine J2 mixed rfl (by kernel_rfl) ?_ | refine J3 mixed rfl rfl (by kernel_rfl) ?_ | refine J4 ?_ | refine J5 ?_ | refine J6 ?_ | refine J7 ?_ | refine J8 rfl ?_ | refine J9 rfl ?_) | (refine M2 ?_; first | refine I0 ?_ | refine I1 ?_ | refine I2 ?_ | refine I3 ?_ | refine I4 ?_ | refine I5 ?_ | refine I6 rfl ?_ | refine I7 ?_ | refine I8 ?_ | refine z4 ?_) | (refine M3 ?_; first | refine O6 ?_ | refine z2 tok rfl ?_ | refine O8 rfl ?_ | refine O7 rfl ?_ rfl | refine O9 rfl ?_ rfl | refine U1 _ (U4 rfl rfl) rfl ?_ | refine U1 _ (U5 rfl rfl) rfl ?_ | refine U1 _ (U2 rfl) rfl ?_ | refine U1 _ (U3 tok rfl rfl rfl rfl rfl) rfl ?_) | (refine M4 ?_; first | refine M6 ?_ | refine U6 rfl (by kernel_rfl) ?_ | refine U7 (by kernel_rfl) ?_) | (refine M5 ?_; first | exact M7 | refine U8 rfl ?_ | refine U9 rfl rfl ?_ ?_))
        refine XE.retg tok Try.results47 rfl (by simp only [and_self, and_true]) (fun w' S => ?_)
        have hF6 := hF.sys S (by intro e he; repeat (first | (cases he; done) | (rcases List.mem_cons.1 he with rfl | he; · first | (right; assumption) | (left; simp <;> fail))))
        obtain ⟨r1, rfl, h5⟩ := hF6.list (.head _)
        exact ⟨_, _, rfl, ⟨r1, rfl, rfl, fun h0 => hF6.cap (r := r1) (.head _) h0⟩, fun x hx => by rw [List.mem_singleton.1 hx]; exact h5, hBW.trans S.toBelow⟩
/-! ### kinds -/
def isS : Dev → Bool
  | .slu _ => true
  | .pmp _ => false
def isP (d : Dev) : Bool := !isS d
theorem countP_succ (f : Dev → Bool) {l : List Dev} {k : Nat} (h : k < l.length) : (l.take (k + 1)).countP f = (l.take k).countP f + (if f l[k] = true then 1 else 0) := by
  rw [List.take_add_one, List.getElem?_eq_getElem h, List.countP_append]
  congr 1
  simp [List.countP_cons]
theorem count_devs (t : RTk) : t.devs.countP isS = t.slu.length ∧ t.devs.countP isP = t.pmp.length := by
  unfold RTk.devs
  rw [List.countP_append, List.countP_append, List.countP_map, List.countP_map, List.countP_map, List.countP_map]
  have e1 : t.slu.countP (isS ∘ Dev.slu) = t.slu.length := List.countP_eq_length.2 fun _ _ => rfl
  have e2 : t.pmp.countP (isS ∘ Dev.pmp) = 0 := List.countP_eq_zero.2 fun _ _ => by simp [isS]
  have e3 : t.slu.countP (isP ∘ Dev.slu) = 0 := List.countP_eq_zero.2 fun _ _ => by simp [isP, isS]
  have e4 : t.pmp.countP (isP ∘ Dev.pmp) = t.pmp.length := List.countP_eq_length.2 fun _ _ => rfl
  omega
set_option maxHeartbeats 4000000 in
theorem kinds_any {r : SV} {ds : List Dev} {w : World} (hr : ListAt devK w (Lt w.heap.size) r ds) (hn : ds.length ≤ 10000000) :
    Calls Try.prog 48 #[svV r] w fun e w' => e = .returned (.tuple ⟨[.int .i64 (ds.countP isS : Nat), .int .i64 (ds.countP isP : Nat)]⟩) ∧ Below w.heap.size w w' := by
  obtain ⟨A, n, c⟩ := r
  have hln := hr.len (by decide)
  simp only at hln
  subst hln
  simp only [svV]
  refine enter Try.func48 rfl Try.ntmps48 rfl ?_; simp only [frame, Nat.zero_add, Nat.reduceAdd]
  repeat (first | (refine M0 ?_; first | refine O0 ?_ | refine z1 tok rfl ?_ | refine O1 rfl ?_ rfl | refine O2 rfl ?_ | refine O3 rfl ?_ rfl | refine O4 rfl rfl rfl (fun _ _ => ?_) | refine O5 tok rfl rfl rfl (fun _ _ => ?_) | refine U0 _ (U2 rfl) rfl ?_ | refine U0 _ (U3 tok rfl rfl rfl rfl rfl) rfl ?_ | refine z3 tok rfl ?_ | refine U0 _ (U4 rfl rfl) rfl ?_ | refine U0 _ (U5 rfl rfl) rfl ?_) | (refine M1 ?_; first | refine J0 ?_ | refine J1 ?_ | refine J2 mixed rfl (by kernel_rfl) ?_ | refine J3 mixed rfl rfl (by kernel_rfl) ?_ | refine J4 ?_ | refine J5 ?_ | refine J6 ?_ | refine J7 ?_ | refine J8 rfl ?_ | refine J9 rfl ?_) | (refine M2 ?_; first | refine I0 ?_ | refine I1 ?_ | refine I2 ?_ | refine I3 ?_ | refine I4 ?_ | refine I5 ?_ | refine I6 rfl ?_ | refine I7 ?_ | refine I8 ?_ | refine z4 ?_) | (refine M3 ?_; first | refine O6 ?_ | refine z2 tok rfl ?_ | refine O8 rfl ?_ | refine O7 rfl ?_ rfl | refine O9 rfl ?_ rfl | refine U1 _ (U4 rfl rfl) rfl ?_ | refine U1 _ (U5 rfl rfl) rfl ?_ | refine U1 _ (U2 rfl) rfl ?_ | refine U1 _ (U3 tok rfl rfl rfl rfl rfl) rfl ?_) | (refine M4 ?_; first | refine M6 ?_ | refine U6 rfl (by kernel_rfl) ?_ | refine U7 (by kernel_rfl) ?_) | (refine M5 ?_; first | exact M7 | refine U8 rfl ?_ | refine U9 rfl rfl ?_ ?_))
  refine XC.loopk [6, 7] rfl (fun k : Nat => [(2, .int .i64 ((ds.take k).countP isS : Nat)), (3, .int .i64 ((ds.take k).countP isP : Nat)), (8, .int .i64 (k : Nat))]) (fun _ => []) (fun _ => w) (fun k => k ≤ ds.length) (fun k => ds.length - k) 0 (Nat.zero_le _) (by repeat (first | exact Sub.nil | refine Sub.cons rfl ?_)) (fun _ h => h) ?_
  intro k hk
  dsimp only [List.cons_append, List.nil_append]
  repeat (first | (refine M0 ?_; first | refine O0 ?_ | refine z1 tok rfl ?_ | refine O1 rfl ?_ rfl | refine O2 rfl ?_ | refine O3 rfl ?_ rfl | refine O4 rfl rfl rfl (fun _ _ => ?_) | refine O5 tok rfl rfl rfl (fun _ _ => ?_) | refine U0 _ (U2 rfl) rfl ?_ | refine U0 _ (U3 tok rfl rfl rfl rfl rfl) rfl ?_ | refine z3 tok rfl ?_ | refine U0 _ (U4 rfl rfl) rfl ?_ | refine U0 _ (U5 rfl rfl) rfl ?_) | (refine M1 ?_; first | refine J0 ?_ | refine J1 ?_ | refine J2 mixed rfl (by kernel_rfl) ?_ | refine J3 mixed rfl rfl (by kernel_rfl) ?_ | refine J4 ?_ | refine J5 ?_ | refine J6 ?_ | refine J7 ?_ | refine J8 rfl ?_ | refine J9 rfl ?_) | (refine M2 ?_; first | refine I0 ?_ | refine I1 ?_ | refine I2 ?_ | refine I3 ?_ | refine I4 ?_ | refine I5 ?_ | refine I6 rfl ?_ | refine I7 ?_ | refine I8 ?_ | refine z4 ?_) | (refine M3 ?_; first | refine O6 ?_ | refine z2 tok rfl ?_ | refine O8 rfl ?_ | refine O7 rfl ?_ rfl | refine O9 rfl ?_ rfl | refine U1 _ (U4 rfl rfl) rfl ?_ | refine U1 _ (U5 rfl rfl) rfl ?_ | refine U1 _ (U2 rfl) rfl ?_ | refine U1 _ (U3 tok rfl rfl rfl rfl rfl) rfl ?_) | (refine M4 ?_; first | refine M6 ?_ | refine U6 rfl (by kernel_rfl) ?_ | refine U7 (by kernel_rfl) ?_) | (refine M5 ?_; first | exact M7 | refine U8 rfl ?_ | refine U9 rfl rfl ?_ ?_))
  refine XC.cond _ rfl (fun h1 => ?_) (fun h1 => ?_)
  · have hkn : k < ds.length := by simpa using h1
    obtain ⟨ad, rfl, hlt⟩ := hr.addr (by decide) (by omega)
    have h9 := hr.elem (List.getElem?_eq_getElem hkn) 0 (devV ds[k]) rfl
    rw [add_add, Nat.add_zero] at h9
    have h9' : w.cell? (ad.add (k * 1)) = some (devV ds[k]) := h9
    have b1 := List.countP_le_length (p := isS) (l := ds.take k)
    have b2 := List.countP_le_length (p := isP) (l := ds.take k)
    have b3 : (ds.take k).length ≤ ds.length := by rw [List.length_take]; omega
    have c1 := countP_succ isS hkn
    have c2 := countP_succ isP hkn
    cases hd : ds[k] with
    | slu x =>
      rw [hd] at h9' c1 c2
      simp only [isS, isP, if_true, Bool.not_true, Bool.false_eq_true, if_false, Nat.add_zero] at c1 c2
      repeat (first | (refine M0 ?_; first | refine O0 ?_ | refine z1 tok rfl ?_ | refine O1 rfl ?_ rfl | refine O2 rfl ?_ | refine O3 rfl ?_ rfl | refine U0 _ (Ev.load_old tok rfl rfl (add_lt hlt) h9') rfl ?_ | refine U0 _ (Ev.assertOk (s := 153) (v := .agg ⟨sluC x⟩) rfl slu_con tok rfl (.tuple ⟨[.agg ⟨sluC x⟩, .bool true]⟩) (if_pos rfl).symm) rfl ?_ | refine O4 rfl rfl rfl (fun _ _ => ?_) | refine O5 tok rfl rfl rfl (fun _ _ => ?_) | refine U0 _ (U2 rfl) rfl ?_ | refine U0 _ (U3 tok rfl rfl rfl rfl rfl) rfl ?_ | refine z3 tok rfl ?_ | refine U0 _ (U4 rfl rfl) rfl ?_ | refine U0 _ (U5 rfl rfl) rfl ?_) | (refine M1 ?_; first | refine J0 ?_ | refine J1 ?_ | refine J2 mixed rfl (by kernel_rfl) ?_ | refine J3 mixed rfl rfl (by kernel_rfl) ?_ | refine J4 ?_ | refine J5 ?_ | refine J6 ?_ | refine J7 ?_ | refine J8 rfl ?_ | refine J9 rfl ?_) | (refine M2 ?_; first | refine I0 ?_ | refine I1 ?_ | refine I2 ?_ | refine I3 ?_ | refine I4 ?_ | refine I5 ?_ | refine I6 rfl ?_ | refine I7 ?_ | refine I8 ?_ | refine z4 ?_) | (refine M3 ?_; first | refine O6 ?_ | refine z2 tok rfl ?_ | refine O8 rfl ?_ | refine O7 rfl ?_ rfl | refine O9 rfl ?_ rfl | refine U1 _ (Ev.load_old tok rfl rfl (add_lt hlt) h9') rfl ?_ | refine U1 _ (Ev.assertOk (s := 153) (v := .agg ⟨sluC x⟩) rfl slu_con tok rfl (.tuple ⟨[.agg ⟨sluC x⟩, .bool true]⟩) (if_pos rfl).symm) rfl ?_ | refine U1 _ (U4 rfl rfl) rfl ?_ | refine U1 _ (U5 rfl rfl) rfl ?_ | refine U1 _ (U2 rfl) rfl ?_ | refine U1 _ (U3 tok rfl rfl rfl rfl rfl) rfl ?_) | (refine M4 ?_; first | refine M6 ?_ | refine U6 rfl (by kernel_rfl) ?_ | refine U7 (by kernel_rfl) ?_) | (refine M5 ?_; first | exact M7 | refine U8 rfl ?_ | refine U9 rfl rfl ?_ ?_))
      exact XE.round (k + 1) hkn (by omega) (by rw [c1, c2]; repeat (first | exact Sub.nil | refine Sub.cons rfl ?_)) (fun _ h => h)
    | pmp x =>
      rw [hd] at h9' c1 c2
      simp only [isS, isP, if_true, Bool.not_false, Bool.false_eq_true, if_false, Nat.add_zero] at c1 c2
      repeat (first | (refine M0 ?_; first | refine O0 ?_ | refine z1 tok rfl ?_ | refine O1 rfl ?_ rfl | refine O2 rfl ?_ | refine O3 rfl ?_ rfl | refine U0 _ (Ev.load_old tok rfl rfl (add_lt hlt) h9') rfl ?_ | refine U0 _ (Ev.assertOk (u := 153) (s := 154) (v := .agg ⟨pmpC x⟩) rfl slu_con tok rfl (.tuple ⟨[_, .bool false]⟩) (if_neg (by decide)).symm) rfl ?_ | refine U0 _ (Ev.assertOk (u := 154) (s := 154) (v := .agg ⟨pmpC x⟩) rfl pmp_con tok rfl (.tuple ⟨[.agg ⟨pmpC x⟩, .bool true]⟩) (if_pos rfl).symm) rfl ?_ | refine O4 rfl rfl rfl (fun _ _ => ?_) | refine O5 tok rfl rfl rfl (fun _ _ => ?_) | refine U0 _ (U2 rfl) rfl ?_ | refine U0 _ (U3 tok rfl rfl rfl rfl rfl) rfl ?_ | refine z3 tok rfl ?_ | refine U0 _ (U4 rfl rfl) rfl ?_ | refine U0 _ (U5 rfl rfl) rfl ?_) | (refine M1 ?_; first | refine J0 ?_ | refine J1 ?_ | refine J2 mixed rfl (by kernel_rfl) ?_ | refine J3 mixed rfl rfl (by kernel_rfl) ?_ | refine J4 ?_ | refine J5 ?_ | refine J6 ?_ | refine J7 ?_ | refine J8 rfl ?_ | refine J9 rfl ?_) | (refine M2 ?_; first | refine I0 ?_ | refine I1 ?_ | refine I2 ?_ | refine I3 ?_ | refine I4 ?_ | refine I5 ?_ | refine I6 rfl ?_ | refine I7 ?_ | refine I8 ?_ | refine z4 ?_) | (refine M3 ?_; first | refine O6 ?_ | refine z2 tok rfl ?_ | refine O8 rfl ?_ | refine O7 rfl ?_ rfl | refine O9 rfl ?_ rfl | refine U1 _ (Ev.load_old tok rfl rfl (add_lt hlt) h9') rfl ?_ | refine U1 _ (Ev.assertOk (u := 153) (s := 154) (v := .agg ⟨pmpC x⟩) rfl slu_con tok rfl (.tuple ⟨[_, .bool false]⟩) (if_neg (by decide)).symm) rfl ?_ | refine U1 _ (Ev.assertOk (u := 154) (s := 154) (v := .agg ⟨pmpC x⟩) rfl pmp_con tok rfl (.tuple ⟨[.agg ⟨pmpC x⟩, .bool true]⟩) (if_pos rfl).symm) rfl ?_ | refine U1 _ (U4 rfl rfl) rfl ?_ | refine U1 _ (U5 rfl rfl) rfl ?_ | refine U1 _ (U2 rfl) rfl ?_ | refine U1 _ (U3 tok rfl rfl rfl rfl rfl) rfl ?_) | (refine M4 ?_; first | refine M6 ?_ | refine U6 rfl (by kernel_rfl) ?_ | refine U7 (by kernel_rfl) ?_) | (refine M5 ?_; first | exact M7 | refine U8 rfl ?_ | refine U9 rfl rfl ?_ ?_))
      exact XE.round (k + 1) hkn (by omega) (by rw [c1, c2]; repeat (first | exact Sub.nil | refine Sub.cons rfl ?_)) (fun _ h => h)
  · have hkn : k = ds.length := by have : ¬ (k < ds.length) := by simpa using h1
                                   omega
    subst hkn
    rw [List.take_length]
    repeat (first | (refine M0 ?_; first | refine O0 ?_ | refine z1 tok rfl ?_ | refine O1 rfl ?_ rfl | refine O2 rfl ?_ | refine O3 rfl ?_ rfl | refine O4 rfl rfl rfl (fun _ _ => ?_) | refine O5 tok rfl rfl rfl (fun _ _ => ?_) | refine U0 _ (U2 rfl) rfl ?_ | refine U0 _ (U3 tok rfl rfl rfl rfl rfl) rfl ?_ | refine z3 tok rfl ?_ | refine U0 _ (U4 rfl rfl) rfl ?_ | refine U0 _ (U5 rfl rfl) rfl ?_) | (refine M1 ?_; first | refine J0 ?_ | refine J1 ?_ | refine J2 mixed rfl (by kernel_rfl) ?_ | refine J3 mixed rfl rfl (by kernel_rfl) ?_ | refine J4 ?_ | refine J5 ?_ | refine J6 ?_ | refine J7 ?_ | refine J8 rfl ?_ | refine J9 rfl ?_) | (refine M2 ?_; first | refine I0 ?_ | refine I1 ?_ | refine I2 ?_ | refine I3 ?_ | refine I4 ?_ | refine I5 ?_ | refine I6 rfl ?_ | refine I7 ?_ | refine I8 ?_ | refine z4 ?_) | (refine M3 ?_; first | refine O6 ?_ | refine z2 tok rfl ?_ | refine O8 rfl ?_ | refine O7 rfl ?_ rfl | refine O9 rfl ?_ rfl | refine U1 _ (U4 rfl rfl) rfl ?_ | refine U1 _ (U5 rfl rfl) rfl ?_ | refine U1 _ (U2 rfl) rfl ?_ | refine U1 _ (U3 tok rfl rfl rfl rfl rfl) rfl ?_) | (refine M4 ?_; first | refine M6 ?_ | refine U6 rfl (by kernel_rfl) ?_ | refine U7 (by kernel_rfl) ?_) | (refine M5 ?_; first | exact M7 | refine U8 rfl ?_ | refine U9 rfl rfl ?_ ?_))
    refine XE.retg tok Try.results48 rfl (by simp only [and_self, and_true]) (fun w' S => ?_)
    exact ⟨rfl, S.toBelow⟩
/-! ### is it there already -/
set_option maxHeartbeats 4000000 in
theorem rncheck1_any {g : Nat} {c d : Dev} {w : World} (h : w.heap[g]? = some (cel 100 [devV d])) :
    Calls Try.prog 51 #[devV c, .pointer (some ⟨g, 0, none⟩)] w fun e w' => e = .returned (.bool (decide (c.name = d.name))) ∧ Below w.heap.size w w' := by
  have hl := (Array.getElem?_eq_some_iff.1 h).1
  have d0 : w.cell? ⟨g, 0, none⟩ = some (devV d) := by simp [World.cell?, h]
  obtain ⟨f1, m1, k1, c1⟩ := dev_name c
  obtain ⟨f2, m2, k2, c2⟩ := dev_name d
  refine enter Try.func51 rfl Try.ntmps51 rfl ?_; simp only [frame, Nat.zero_add, Nat.reduceAdd]
  repeat (first | (refine M0 ?_; first | refine O0 ?_ | refine z1 tok rfl ?_ | refine O1 rfl ?_ rfl | refine O2 rfl ?_ | refine O3 rfl ?_ rfl | refine U0 _ (Ev.load_old tok rfl rfl hl d0) rfl ?_ | refine U0 _ (Ev.invoke (t := c.ty) (v := .agg ⟨c.c⟩) m1 k1 rfl rfl (fun w S => c1 w)) rfl ?_ | refine U0 _ (Ev.invoke (t := d.ty) (v := .agg ⟨d.c⟩) m2 k2 rfl rfl (fun w S => c2 w)) rfl ?_ | refine U0 _ (Ev.eql_str rfl rfl) rfl ?_ | refine O4 rfl rfl rfl (fun _ _ => ?_) | refine O5 tok rfl rfl rfl (fun _ _ => ?_) | refine U0 _ (U2 rfl) rfl ?_ | refine U0 _ (U3 tok rfl rfl rfl rfl rfl) rfl ?_ | refine z3 tok rfl ?_ | refine U0 _ (U4 rfl rfl) rfl ?_ | refine U0 _ (U5 rfl rfl) rfl ?_) | (refine M1 ?_; first | refine J0 ?_ | refine J1 ?_ | refine J2 mixed rfl (by kernel_rfl) ?_ | refine J3 mixed rfl rfl (by kernel_rfl) ?_ | refine J4 ?_ | refine J5 ?_ | refine J6 ?_ | refine J7 ?_ | refine J8 rfl ?_ | refine J9 rfl ?_) | (refine M2 ?_; first | refine I0 ?_ | refine I1 ?_ | refine I2 ?_ | refine I3 ?_ | refine I4 ?_ | refine I5 ?_ | refine I6 rfl ?_ | refine I7 ?_ | refine I8 ?_ | refine z4 ?_) | (refine M3 ?_; first | refine O6 ?_ | refine z2 tok rfl ?_ | refine O8 rfl ?_ | refine O7 rfl ?_ rfl | refine O9 rfl ?_ rfl | refine U1 _ (Ev.load_old tok rfl rfl hl d0) rfl ?_ | refine U1 _ (Ev.invoke (t := c.ty) (v := .agg ⟨c.c⟩) m1 k1 rfl rfl (fun w S => c1 w)) rfl ?_ | refine U1 _ (Ev.invoke (t := d.ty) (v := .agg ⟨d.c⟩) m2 k2 rfl rfl (fun w S => c2 w)) rfl ?_ | refine U1 _ (Ev.eql_str rfl rfl) rfl ?_ | refine U1 _ (U4 rfl rfl) rfl ?_ | refine U1 _ (U5 rfl rfl) rfl ?_ | refine U1 _ (U2 rfl) rfl ?_ | refine U1 _ (U3 tok rfl rfl rfl rfl rfl) rfl ?_) | (refine M4 ?_; first | refine M6 ?_ | refine U6 rfl (by kernel_rfl) ?_ | refine U7 (by kernel_rfl) ?_) | (refine M5 ?_; first | exact M7 | refine U8 rfl ?_ | refine U9 rfl rfl ?_ ?_))
  refine XE.retg tok Try.results51 rfl (by simp only [and_self, and_true]) (fun w' S => ?_)
  exact ⟨rfl, S.toBelow⟩
theorem idxDev {f : FuncId} {cap : List Value} {P : Dev → Bool} {r : SV} {ms : List Dev} {w : World} (hck : callOk Try.prog f = true) (hr : ListAt devK w (Lt w.heap.size) r ms) (hn : ms.length ≤ 1000)
    (hc : ∀ m, m ∈ ms → ∀ w', Below w.heap.size w w' → Calls Try.prog f ([] ++ [devV m] ++ cap).toArray w' fun e w'' => e = .returned (.bool (P m)) ∧ Below w'.heap.size w' w'') :
    Calls Try.prog 81 #[svV r, .func (.func f) #[] cap.toArray] w fun e w' => e = .returned (.int .i64 (idxL ms P)) ∧ Below w.heap.size w w' := by
  obtain ⟨A, n, c⟩ := r
  have hln := hr.len (by decide)
  simp only at hln
  subst hln
  simp only [svV]
  refine enter Try.func81 rfl Try.ntmps81 rfl ?_; simp only [frame, Nat.zero_add, Nat.reduceAdd]
  repeat (first | (refine M0 ?_; first | refine O0 ?_ | refine z1 tok rfl ?_ | refine O1 rfl ?_ rfl | refine O2 rfl ?_ | refine O3 rfl ?_ rfl | refine O4 rfl rfl rfl (fun _ _ => ?_) | refine O5 tok rfl rfl rfl (fun _ _ => ?_) | refine U0 _ (U2 rfl) rfl ?_ | refine U0 _ (U3 tok rfl rfl rfl rfl rfl) rfl ?_ | refine z3 tok rfl ?_ | refine U0 _ (U4 rfl rfl) rfl ?_ | refine U0 _ (U5 rfl rfl) rfl ?_) | (refine M1 ?_; first | refine J0 ?_ | refine J1 ?_ | refine J2 mixed rfl (by kernel_rfl) ?_ | refine J3 mixed rfl rfl (by kernel_rfl) ?_ | refine J4 ?_ | refine J5 ?_ | refine J6 ?_ | refine J7 ?_ | refine J8 rfl ?_ | refine J9 rfl ?_) | (refine M2 ?_; first | refine I0 ?_ | refine I1 ?_ | refine I2 ?_ | refine I3 ?_ | refine I4 ?_ | refine I5 ?_ | refine I6 rfl ?_ | refine I7 ?_ | refine I8 ?_ | refine z4 ?_) | (refine M3 ?_; first | refine O6 ?_ | refine z2 tok rfl ?_ | refine O8 rfl ?_ | refine O7 rfl ?_ rfl | refine O9 rfl ?_ rfl | refine U1 _ (U4 rfl rfl) rfl ?_ | refine U1 _ (U5 rfl rfl) rfl ?_ | refine U1 _ (U2 rfl) rfl ?_ | refine U1 _ (U3 tok rfl rfl rfl rfl rfl) rfl ?_) | (refine M4 ?_; first | refine M6 ?_ | refine U6 rfl (by kernel_rfl) ?_ | refine U7 (by kernel_rfl) ?_) | (refine M5 ?_; first | exact M7 | refine U8 rfl ?_ | refine U9 rfl rfl ?_ ?_))
  refine XC.loopk [0, 1, 7] rfl (fun k : Nat => [(8, .int .i64 (k : Nat))]) (fun _ => []) (fun _ => w) (fun k => k ≤ ms.length ∧ ∀ j m, j < k → ms[j]? = some m → P m = false) (fun k => ms.length - k) 0 ⟨Nat.zero_le _, fun j m h => absurd h (by omega)⟩ (by repeat (first | exact Sub.nil | refine Sub.cons rfl ?_)) (fun _ h => h) ?_
  rintro k ⟨hk, h0⟩
  dsimp only [List.cons_append, List.nil_append]
  repeat (first | (refine M0 ?_; first | refine O0 ?_ | refine z1 tok rfl ?_ | refine O1 rfl ?_ rfl | refine O2 rfl ?_ | refine O3 rfl ?_ rfl | refine O4 rfl rfl rfl (fun _ _ => ?_) | refine O5 tok rfl rfl rfl (fun _ _ => ?_) | refine U0 _ (U2 rfl) rfl ?_ | refine U0 _ (U3 tok rfl rfl rfl rfl rfl) rfl ?_ | refine z3 tok rfl ?_ | refine U0 _ (U4 rfl rfl) rfl ?_ | refine U0 _ (U5 rfl rfl) rfl ?_) | (refine M1 ?_; first | refine J0 ?_ | refine J1 ?_ | refine J2 mixed rfl (by kernel_rfl) ?_ | refine J3 mixed rfl rfl (by kernel_rfl) ?_ | refine J4 ?_ | refine J5 ?_ | refine J6 ?_ | refine J7 ?_ | refine J8 rfl ?_ | refine J9 rfl ?_) | (refine M2 ?_; first | refine I0 ?_ | refine I1 ?_ | refine I2 ?_ | refine I3 ?_ | refine I4 ?_ | refine I5 ?_ | refine I6 rfl ?_ | refine I7 ?_ | refine I8 ?_ | refine z4 ?_) | (refine M3 ?_; first | refine O6 ?_ | refine z2 tok rfl ?_ | refine O8 rfl ?_ | refine O7 rfl ?_ rfl | refine O9 rfl ?_ rfl | refine U1 _ (U4 rfl rfl) rfl ?_ | refine U1 _ (U5 rfl rfl) rfl ?_ | refine U1 _ (U2 rfl) rfl ?_ | refine U1 _ (U3 tok rfl rfl rfl rfl rfl) rfl ?_) | (refine M4 ?_; first | refine M6 ?_ | refine U6 rfl (by kernel_rfl) ?_ | refine U7 (by kernel_rfl) ?_) | (refine M5 ?_; first | exact M7 | refine U8 rfl ?_ | refine U9 rfl rfl ?_ ?_))
  refine XC.cond _ rfl (fun h3 => ?_) (fun h3 => ?_)
  · have hkn : k < ms.length := by simpa using h3
    obtain ⟨ad, rfl, hlt⟩ := hr.addr (by decide) (by omega)
    have hmk : ms[k]? = some ms[k] := List.getElem?_eq_getElem hkn
    have h9 := hr.elem hmk 0 (devV ms[k]) rfl
    rw [add_add, Nat.add_zero] at h9
    have hcell : w.cell? (ad.add (k * 1)) = some (devV ms[k]) := h9
    repeat (first | (refine M0 ?_; first | refine O0 ?_ | refine z1 tok rfl ?_ | refine O1 rfl ?_ rfl | refine O2 rfl ?_ | refine O3 rfl ?_ rfl | refine U0 _ (Ev.load_old tok rfl rfl (add_lt hlt) hcell) rfl ?_ | refine U0 _ (Ev.callv (f := f) (fst := []) (cap := cap) hck rfl rfl (fun w S => hc _ (List.getElem_mem hkn) w S.toBelow)) rfl ?_ | refine O4 rfl rfl rfl (fun _ _ => ?_) | refine O5 tok rfl rfl rfl (fun _ _ => ?_) | refine U0 _ (U2 rfl) rfl ?_ | refine U0 _ (U3 tok rfl rfl rfl rfl rfl) rfl ?_ | refine z3 tok rfl ?_ | refine U0 _ (U4 rfl rfl) rfl ?_ | refine U0 _ (U5 rfl rfl) rfl ?_) | (refine M1 ?_; first | refine J0 ?_ | refine J1 ?_ | refine J2 mixed rfl (by kernel_rfl) ?_ | refine J3 mixed rfl rfl (by kernel_rfl) ?_ | refine J4 ?_ | refine J5 ?_ | refine J6 ?_ | refine J7 ?_ | refine J8 rfl ?_ | refine J9 rfl ?_) | (refine M2 ?_; first | refine I0 ?_ | refine I1 ?_ | refine I2 ?_ | refine I3 ?_ | refine I4 ?_ | refine I5 ?_ | refine I6 rfl ?_ | refine I7 ?_ | refine I8 ?_ | refine z4 ?_) | (refine M3 ?_; first | refine O6 ?_ | refine z2 tok rfl ?_ | refine O8 rfl ?_ | refine O7 rfl ?_ rfl | refine O9 rfl ?_ rfl | refine U1 _ (Ev.load_old tok rfl rfl (add_lt hlt) hcell) rfl ?_ | refine U1 _ (Ev.callv (f := f) (fst := []) (cap := cap) hck rfl rfl (fun w S => hc _ (List.getElem_mem hkn) w S.toBelow)) rfl ?_ | refine U1 _ (U4 rfl rfl) rfl ?_ | refine U1 _ (U5 rfl rfl) rfl ?_ | refine U1 _ (U2 rfl) rfl ?_ | refine U1 _ (U3 tok rfl rfl rfl rfl rfl) rfl ?_) | (refine M4 ?_; first | refine M6 ?_ | refine U6 rfl (by kernel_rfl) ?_ | refine U7 (by kernel_rfl) ?_) | (refine M5 ?_; first | exact M7 | refine U8 rfl ?_ | refine U9 rfl rfl ?_ ?_))
    refine XC.cond _ rfl (fun h4 => ?_) (fun h4 => ?_)
    · repeat (first | (refine M0 ?_; first | refine O0 ?_ | refine z1 tok rfl ?_ | refine O1 rfl ?_ rfl | refine O2 rfl ?_ | refine O3 rfl ?_ rfl | refine O4 rfl rfl rfl (fun _ _ => ?_) | refine O5 tok rfl rfl rfl (fun _ _ => ?_) | refine U0 _ (U2 rfl) rfl ?_ | refine U0 _ (U3 tok rfl rfl rfl rfl rfl) rfl ?_ | refine z3 tok rfl ?_ | refine U0 _ (U4 rfl rfl) rfl ?_ | refine U0 _ (U5 rfl rfl) rfl ?_) | (refine M1 ?_; first | refine J0 ?_ | refine J1 ?_ | refine J2 mixed rfl (by kernel_rfl) ?_ | refine J3 mixed rfl rfl (by kernel_rfl) ?_ | refine J4 ?_ | refine J5 ?_ | refine J6 ?_ | refine J7 ?_ | refine J8 rfl ?_ | refine J9 rfl ?_) | (refine M2 ?_; first | refine I0 ?_ | refine I1 ?_ | refine I2 ?_ | refine I3 ?_ | refine I4 ?_ | refine I5 ?_ | refine I6 rfl ?_ | refine I7 ?_ | refine I8 ?_ | refine z4 ?_) | (refine M3 ?_; first | refine O6 ?_ | refine z2 tok rfl ?_ | refine O8 rfl ?_ | refine O7 rfl ?_ rfl | refine O9 rfl ?_ rfl | refine U1 _ (U4 rfl rfl) rfl ?_ | refine U1 _ (U5 rfl rfl) rfl ?_ | refine U1 _ (U2 rfl) rfl ?_ | refine U1 _ (U3 tok rfl rfl rfl rfl rfl) rfl ?_) | (refine M4 ?_; first | refine M6 ?_ | refine U6 rfl (by kernel_rfl) ?_ | refine U7 (by kernel_rfl) ?_) | (refine M5 ?_; first | exact M7 | refine U8 rfl ?_ | refine U9 rfl rfl ?_ ?_))
      refine XE.retg tok Try.results81 rfl (by simp only [and_self, and_true]) (fun w' S => ?_)
      have : ms.findIdx? P = some k := by
        rw [List.findIdx?_eq_some_iff_getElem]
        exact ⟨hkn, h4, fun j hj => by simpa using h0 j _ hj (List.getElem?_eq_getElem (by omega))⟩
      unfold idxL
      rw [this]
      exact ⟨rfl, S.toBelow⟩
    · repeat (first | (refine M0 ?_; first | refine O0 ?_ | refine z1 tok rfl ?_ | refine O1 rfl ?_ rfl | refine O2 rfl ?_ | refine O3 rfl ?_ rfl | refine O4 rfl rfl rfl (fun _ _ => ?_) | refine O5 tok rfl rfl rfl (fun _ _ => ?_) | refine U0 _ (U2 rfl) rfl ?_ | refine U0 _ (U3 tok rfl rfl rfl rfl rfl) rfl ?_ | refine z3 tok rfl ?_ | refine U0 _ (U4 rfl rfl) rfl ?_ | refine U0 _ (U5 rfl rfl) rfl ?_) | (refine M1 ?_; first | refine J0 ?_ | refine J1 ?_ | refine J2 mixed rfl (by kernel_rfl) ?_ | refine J3 mixed rfl rfl (by kernel_rfl) ?_ | refine J4 ?_ | refine J5 ?_ | refine J6 ?_ | refine J7 ?_ | refine J8 rfl ?_ | refine J9 rfl ?_) | (refine M2 ?_; first | refine I0 ?_ | refine I1 ?_ | refine I2 ?_ | refine I3 ?_ | refine I4 ?_ | refine I5 ?_ | refine I6 rfl ?_ | refine I7 ?_ | refine I8 ?_ | refine z4 ?_) | (refine M3 ?_; first | refine O6 ?_ | refine z2 tok rfl ?_ | refine O8 rfl ?_ | refine O7 rfl ?_ rfl | refine O9 rfl ?_ rfl | refine U1 _ (U4 rfl rfl) rfl ?_ | refine U1 _ (U5 rfl rfl) rfl ?_ | refine U1 _ (U2 rfl) rfl ?_ | refine U1 _ (U3 tok rfl rfl rfl rfl rfl) rfl ?_) | (refine M4 ?_; first | refine M6 ?_ | refine U6 rfl (by kernel_rfl) ?_ | refine U7 (by kernel_rfl) ?_) | (refine M5 ?_; first | exact M7 | refine U8 rfl ?_ | refine U9 rfl rfl ?_ ?_))
      refine XE.round (k + 1) ⟨hkn, fun j m hj hm => ?_⟩ (by omega) (by repeat (first | exact Sub.nil | refine Sub.cons rfl ?_)) (fun _ h => h)
      rcases Nat.lt_or_ge j k with h5 | h5
      · exact h0 j m h5 hm
      · have : j = k := by omega
        subst this
        rw [hmk] at hm
        cases hm
        exact h4
  · have hkn : ¬ k < ms.length := by simpa using h3
    repeat (first | (refine M0 ?_; first | refine O0 ?_ | refine z1 tok rfl ?_ | refine O1 rfl ?_ rfl | refine O2 rfl ?_ | refine O3 rfl ?_ rfl | refine O4 rfl rfl rfl (fun _ _ => ?_) | refine O5 tok rfl rfl rfl (fun _ _ => ?_) | refine U0 _ (U2 rfl) rfl ?_ | refine U0 _ (U3 tok rfl rfl rfl rfl rfl) rfl ?_ | refine z3 tok rfl ?_ | refine U0 _ (U4 rfl rfl) rfl ?_ | refine U0 _ (U5 rfl rfl) rfl ?_) | (refine M1 ?_; first | refine J0 ?_ | refine J1 ?_ | refine J2 mixed rfl (by kernel_rfl) ?_ | refine J3 mixed rfl rfl (by kernel_rfl) ?_ | refine J4 ?_ | refine J5 ?_ | refine J6 ?_ | refine J7 ?_ | refine J8 rfl ?_ | refine J9 rfl ?_) | (refine M2 ?_; first | refine I0 ?_ | refine I1 ?_ | refine I2 ?_ | refine I3 ?_ | refine I4 ?_ | refine I5 ?_ | refine I6 rfl ?_ | refine I7 ?_ | refine I8 ?_ | refine z4 ?_) | (refine M3 ?_; first | refine O6 ?_ | refine z2 tok rfl ?_ | refine O8 rfl ?_ | refine O7 rfl ?_ rfl | refine O9 rfl ?_ rfl | refine U1 _ (U4 rfl rfl) rfl ?_ | refine U1 _ (U5 rfl rfl) rfl ?_ | refine U1 _ (U2 rfl) rfl ?_ | refine U1 _ (U3 tok rfl rfl rfl rfl rfl) rfl ?_) | (refine M4 ?_; first | refine M6 ?_ | refine U6 rfl (by kernel_rfl) ?_ | refine U7 (by kernel_rfl) ?_) | (refine M5 ?_; first | exact M7 | refine U8 rfl ?_ | refine U9 rfl rfl ?_ ?_))
    refine XE.retg tok Try.results81 rfl (by simp only [and_self, and_true]) (fun w' S => ?_)
    have : ms.findIdx? P = none := by
      rw [List.findIdx?_eq_none_iff]
      intro m hm
      obtain ⟨j, hj, e⟩ := List.mem_iff_getElem.1 hm
      exact h0 j m (by omega) (by rw [List.getElem?_eq_getElem hj, e])
    unfold idxL
    rw [this]
    exact ⟨rfl, S.toBelow⟩
theorem contDev {f : FuncId} {cap : List Value} {P : Dev → Bool} {r : SV} {ms : List Dev} {w : World} (hck : callOk Try.prog f = true) (hr : ListAt devK w (Lt w.heap.size) r ms) (hn : ms.length ≤ 1000)
    (hc : ∀ m, m ∈ ms → ∀ w', Below w.heap.size w w' → Calls Try.prog f ([] ++ [devV m] ++ cap).toArray w' fun e w'' => e = .returned (.bool (P m)) ∧ Below w'.heap.size w' w'') :
    Calls Try.prog 50 #[svV r, .func (.func f) #[] cap.toArray] w fun e w' => e = .returned (.bool (ms.any P)) ∧ Below w.heap.size w w' := by
  obtain ⟨A, n, c⟩ := r
  simp only [svV]
  refine enter Try.func50 rfl Try.ntmps50 rfl ?_; simp only [frame, Nat.zero_add, Nat.reduceAdd]
  repeat (first | (refine M0 ?_; first | refine O0 ?_ | refine z1 tok rfl ?_ | refine O1 rfl ?_ rfl | refine O2 rfl ?_ | refine O3 rfl ?_ rfl | refine U0 _ (Ev.call (f := 81) (ck rfl) rfl (fun w5 S5 => (idxDev (f := f) (cap := cap) (P := P) (r := ⟨A, n, c⟩) (ms := ms) hck (hr.arg S5) hn (fun m hm w' hb => hc m hm w' (S5.toBelow.trans (hb.mono S5.size))) :))) rfl ?_ | refine O4 rfl rfl rfl (fun _ _ => ?_) | refine O5 tok rfl rfl rfl (fun _ _ => ?_) | refine U0 _ (U2 rfl) rfl ?_ | refine U0 _ (U3 tok rfl rfl rfl rfl rfl) rfl ?_ | refine z3 tok rfl ?_ | refine U0 _ (U4 rfl rfl) rfl ?_ | refine U0 _ (U5 rfl rfl) rfl ?_) | (refine M1 ?_; first | refine J0 ?_ | refine J1 ?_ | refine J2 mixed rfl (by kernel_rfl) ?_ | refine J3 mixed rfl rfl (by kernel_rfl) ?_ | refine J4 ?_ | refine J5 ?_ | refine J6 ?_ | refine J7 ?_ | refine J8 rfl ?_ | refine J9 rfl ?_) | (refine M2 ?_; first | refine I0 ?_ | refine I1 ?_ | refine I2 ?_ | refine I3 ?_ | refine I4 ?_ | refine I5 ?_ | refine I6 rfl ?_ | refine I7 ?_ | refine I8 ?_ | refine z4 ?_) | (refine M3 ?_; first | refine O6 ?_ | refine z2 tok rfl ?_ | refine O8 rfl ?_ | refine O7 rfl ?_ rfl | refine O9 rfl ?_ rfl | refine U1 _ (Ev.call (f := 81) (ck rfl) rfl (fun w5 S5 => (idxDev (f := f) (cap := cap) (P := P) (r := ⟨A, n, c⟩) (ms := ms) hck (hr.arg S5) hn (fun m hm w' hb => hc m hm w' (S5.toBelow.trans (hb.mono S5.size))) :))) rfl ?_ | refine U1 _ (U4 rfl rfl) rfl ?_ | refine U1 _ (U5 rfl rfl) rfl ?_ | refine U1 _ (U2 rfl) rfl ?_ | refine U1 _ (U3 tok rfl rfl rfl rfl rfl) rfl ?_) | (refine M4 ?_; first | refine M6 ?_ | refine U6 rfl (by kernel_rfl) ?_ | refine U7 (by kernel_rfl) ?_) | (refine M5 ?_; first | exact M7 | refine U8 rfl ?_ | refine U9 rfl rfl ?_ ?_))
  refine XE.retg tok Try.results50 rfl (by simp only [and_self, and_true]) (fun w' S => ?_)
  exact ⟨by rw [idxL_any]; rfl, S.toBelow⟩
end Go.Proofs.Ytmodjcegmgjhoaa.X
/-
  The walk of Check (runoff).
-/
namespace Go.Proofs.Ytmodjcegmgjhoaa.Bs
open Go.Proofs.Ytmodjcegmgjhoaa.X
structure Pre4 (t : RTk) : Prop where
  c : chkE t.b = 0
  s : staErr t.b t.s = 0
  n : ¬ 6 < t.outer.length
  e : ¬ (t.river.length ≠ t.outer.length ∨ t.prices.length ≠ t.outer.length)
section
variable {t : RTk}
theorem chkT_1 (h : chkE t.b ≠ 0) : chkT t = (1, 0, chkE t.b) := by unfold chkT; rw [if_pos h]
theorem chkT_2 (h : chkE t.b = 0) (h2 : staErr t.b t.s ≠ 0) : chkT t = (1, 1, staErr t.b t.s) := by unfold chkT; rw [if_neg (by simp [h]), if_pos h2]
theorem chkT_3 (h : chkE t.b = 0) (h2 : staErr t.b t.s = 0) (h3 : 6 < t.outer.length) : chkT t = (2, 0, 3) := by unfold chkT; rw [if_neg (by simp [h]), if_neg (by simp [h2]), if_pos h3]
theorem chkT_4 (h : chkE t.b = 0) (h2 : staErr t.b t.s = 0) (h3 : ¬ 6 < t.outer.length) (h4 : t.river.length ≠ t.outer.length ∨ t.prices.length ≠ t.outer.length) : chkT t = (2, 0, 2) := by unfold chkT; rw [if_neg (by simp [h]), if_neg (by simp [h2]), if_neg h3, if_pos h4]
variable (p : Pre4 t)
include p
theorem chkT_5 {i : Nat} (hi : i < t.outer.length) (h0 : ∀ j, j < i → tickErr t j = 0) (h : tickErr t i ≠ 0) : chkT t = (2, ((i : Nat) : Int), 7) := by
  unfold chkT
  rw [if_neg (by simp [p.c]), if_neg (by simp [p.s]), if_neg p.n, if_neg p.e, firstN_some hi h0 h]
theorem chkT_6 (h0 : ∀ j, j < t.outer.length → tickErr t j = 0) (h : (outB t.high (-20000) 20000 || outB t.low (t.b.row 0).level t.high) = true) : chkT t = (3, 0, 7) := by
  unfold chkT
  rw [if_neg (by simp [p.c]), if_neg (by simp [p.s]), if_neg p.n, if_neg p.e, firstN_none h0]
  simp only
  rw [if_pos h]
variable (h0 : ∀ j, j < t.outer.length → tickErr t j = 0) (h : (outB t.high (-20000) 20000 || outB t.low (t.b.row 0).level t.high) = false)
include h0 h
theorem chkT_7 (h1 : 2 < t.slu.length ∨ 2 < t.pmp.length) : chkT t = (4, 0, 3) := by
  unfold chkT
  rw [if_neg (by simp [p.c]), if_neg (by simp [p.s]), if_neg p.n, if_neg p.e, firstN_none h0]
  simp only
  rw [if_neg (by simp [h]), if_pos h1]
variable (h1 : ¬ (2 < t.slu.length ∨ 2 < t.pmp.length))
include h1
theorem chkT_8 {i : Nat} (hi : i < t.devs.length) (h2 : ∀ j, j < i → devErr t.devs j = 0) {e : Int} (he : devErr t.devs i = e) (hne : e ≠ 0) : chkT t = (4, ((i : Nat) : Int), e) := by
  subst he
  unfold chkT
  rw [if_neg (by simp [p.c]), if_neg (by simp [p.s]), if_neg p.n, if_neg p.e, firstN_none h0]
  simp only
  rw [if_neg (by simp [h]), if_neg h1, firstN_some hi h2 hne]
variable (h2 : ∀ j, j < t.devs.length → devErr t.devs j = 0)
include h2
theorem chkT_9 (h3 : t.on.length ≠ t.devs.length) : chkT t = (5, 0, 2) := by
  unfold chkT
  rw [if_neg (by simp [p.c]), if_neg (by simp [p.s]), if_neg p.n, if_neg p.e, firstN_none h0]
  simp only
  rw [if_neg (by simp [h]), if_neg h1, firstN_none h2]
  simp only
  rw [if_pos h3]
theorem chkT_0 (h3 : t.on.length = t.devs.length) : chkT t = (0, 0, 0) := by
  unfold chkT
  rw [if_neg (by simp [p.c]), if_neg (by simp [p.s]), if_neg p.n, if_neg p.e, firstN_none h0]
  simp only
  rw [if_neg (by simp [h]), if_neg h1, firstN_none h2]
  simp only
  rw [if_neg (by simp [h3])]
end
theorem devErr_6 {l : List Dev} {i : Nat} (h : nameB (l[i]?.getD d0).name = false) : devErr l i = 6 := by unfold devErr; rw [if_pos h]
theorem devErr_5 {l : List Dev} {i : Nat} (h : nameB (l[i]?.getD d0).name = true) (k : Nat) (hk : k < i) (h2 : (l[k]?.getD d0).name = (l[i]?.getD d0).name) : devErr l i = 5 := by unfold devErr; rw [if_neg (by simp [h]), if_pos ⟨k, hk, h2⟩]
theorem devErr_7 {l : List Dev} {i : Nat} (h : nameB (l[i]?.getD d0).name = true) (h2 : ∀ k, k < i → (l[k]?.getD d0).name ≠ (l[i]?.getD d0).name) (h3 : (l[i]?.getD d0).wild = true) : devErr l i = 7 := by unfold devErr; rw [if_neg (by simp [h]), if_neg (fun ⟨k, a, b⟩ => h2 k a b), if_pos h3]
theorem devErr_0 {l : List Dev} {i : Nat} (h : nameB (l[i]?.getD d0).name = true) (h2 : ∀ k, k < i → (l[k]?.getD d0).name ≠ (l[i]?.getD d0).name) (h3 : (l[i]?.getD d0).wild = false) : devErr l i = 0 := by unfold devErr; rw [if_neg (by simp [h]), if_neg (fun ⟨k, a, b⟩ => h2 k a b), if_neg (by simp [h3])]
end Go.Proofs.Ytmodjcegmgjhoaa.Bs
namespace Go.Proofs.Ytmodjcegmgjhoaa.X
open Go Go.RowKit Go.Proofs.Ytmodjcegmgjhoaa.Bs
set_option linter.unusedVariables false
noncomputable def chkTV (t : RTk) : Value := .tuple ⟨[.int .i64 (chkT t).1, .int .i64 (chkT t).2.1, .int .i64 (chkT t).2.2]⟩
theorem chkTV_of {t : RTk} {x y z : Int} (h : chkT t = (x, y, z)) : Ending.returned (.tuple #[.int .i64 x, .int .i64 y, .int .i64 z]) = .returned (chkTV t) := by unfold chkTV; rw [h]
theorem take_any {l : List Dev} {i : Nat} (hi : i < l.length) : ((l.take i).any fun c => decide (c.name = l[i].name)) = true ↔ ∃ k, k < i ∧ (l[k]?.getD d0).name = (l[i]?.getD d0).name := by
  rw [List.any_eq_true, List.getElem?_eq_getElem hi]
  constructor
  · rintro ⟨x, hx, h⟩
    obtain ⟨k, hk, rfl⟩ := List.mem_iff_getElem.1 hx
    rw [List.length_take] at hk
    refine ⟨k, by omega, ?_⟩
    rw [List.getElem?_eq_getElem (by omega)]
    rw [List.getElem_take] at h
    simpa using h
  · rintro ⟨k, hk, h⟩
    rw [List.getElem?_eq_getElem (by omega : k < l.length)] at h
    refine ⟨l[k], ?_, by simpa using h⟩
    rw [List.mem_iff_getElem]
    exact ⟨k, by rw [List.length_take]; omega, by rw [List.getElem_take]⟩
theorem rows_len {b : Bas} (h : chkE b = 0) : 2 ≤ b.rows.length := (ok_of h).n2
set_option maxHeartbeats 16000000 in
theorem rnCheck_any {v : RTV} {t : RTk} {w : World} (ht : TskAt w w.heap.size v t) (hn : t.slu.length + t.pmp.length ≤ 5000000) :
    Calls Try.prog 17 #[tskV v t] w fun e w' => e = .returned (chkTV t) ∧ Below w.heap.size w w' := by
  obtain ⟨⟨Ab, nb, cb, Ab2, nb2, cb2⟩, q, ⟨Ao, no, co⟩, ⟨Ar, nr, cr⟩, ⟨Ac, nc, cc⟩, su, pu, ⟨An, nn, cn⟩⟩ := v
  have ht0 := ht
  obtain ⟨hbas, hfil, hout, hriv, hpri, hslu, hpmp, hon, hnam⟩ := ht
  have lo := hout.len
  have lr := hriv.len
  have lc := hpri.len
  have ln := hon.len (by decide)
  have lb := hbas.n_eq
  simp only at lo lr lc ln lb hout hriv hpri hslu hpmp hon hbas
  subst lo lr lc ln lb
  simp only [tskV, tskC]
  refine enter Try.func17 rfl Try.ntmps17 rfl ?_; simp only [frame, Nat.zero_add, Nat.reduceAdd]
  repeat (first | (refine M0 ?_; first | refine O0 ?_ | refine z1 tok rfl ?_ | refine O1 rfl ?_ rfl | refine O2 rfl ?_ | refine O3 rfl ?_ rfl | refine U0 _ (Ev.call (f := 45) (ck rfl) rfl (fun w S => (check_any ⟨Ab, t.b.rows.length, cb, Ab2, nb2, cb2⟩ t.b w (hbas.sys S) :))) rfl ?_ | refine O4 rfl rfl rfl (fun _ _ => ?_) | refine O5 tok rfl rfl rfl (fun _ _ => ?_) | refine U0 _ (U2 rfl) rfl ?_ | refine U0 _ (U3 tok rfl rfl rfl rfl rfl) rfl ?_ | refine z3 tok rfl ?_ | refine U0 _ (U4 rfl rfl) rfl ?_ | refine U0 _ (U5 rfl rfl) rfl ?_) | (refine M1 ?_; first | refine J0 ?_ | refine J1 ?_ | refine J2 mixed rfl (by kernel_rfl) ?_ | refine J3 mixed rfl rfl (by kernel_rfl) ?_ | refine J4 ?_ | refine J5 ?_ | refine J6 ?_ | refine J7 ?_ | refine J8 rfl ?_ | refine J9 rfl ?_) | (refine M2 ?_; first | refine I0 ?_ | refine I1 ?_ | refine I2 ?_ | refine I3 ?_ | refine I4 ?_ | refine I5 ?_ | refine I6 rfl ?_ | refine I7 ?_ | refine I8 ?_ | refine z4 ?_) | (refine M3 ?_; first | refine O6 ?_ | refine z2 tok rfl ?_ | refine O8 rfl ?_ | refine O7 rfl ?_ rfl | refine O9 rfl ?_ rfl | refine U1 _ (Ev.call (f := 45) (ck rfl) rfl (fun w S => (check_any ⟨Ab, t.b.rows.length, cb, Ab2, nb2, cb2⟩ t.b w (hbas.sys S) :))) rfl ?_ | refine U1 _ (U4 rfl rfl) rfl ?_ | refine U1 _ (U5 rfl rfl) rfl ?_ | refine U1 _ (U2 rfl) rfl ?_ | refine U1 _ (U3 tok rfl rfl rfl rfl rfl) rfl ?_) | (refine M4 ?_; first | refine M6 ?_ | refine U6 rfl (by kernel_rfl) ?_ | refine U7 (by kernel_rfl) ?_) | (refine M5 ?_; first | exact M7 | refine U8 rfl ?_ | refine U9 rfl rfl ?_ ?_))
  rename_i g1 hg1
  refine XC.cond _ rfl (fun h0 => ?_) (fun h0 => ?_)
  · repeat (first | (refine M0 ?_; first | refine O0 ?_ | refine z1 tok rfl ?_ | refine O1 rfl ?_ rfl | refine O2 rfl ?_ | refine O3 rfl ?_ rfl | refine O4 rfl rfl rfl (fun _ _ => ?_) | refine O5 tok rfl rfl rfl (fun _ _ => ?_) | refine U0 _ (U2 rfl) rfl ?_ | refine U0 _ (U3 tok rfl rfl rfl rfl rfl) rfl ?_ | refine z3 tok rfl ?_ | refine U0 _ (U4 rfl rfl) rfl ?_ | refine U0 _ (U5 rfl rfl) rfl ?_) | (refine M1 ?_; first | refine J0 ?_ | refine J1 ?_ | refine J2 mixed rfl (by kernel_rfl) ?_ | refine J3 mixed rfl rfl (by kernel_rfl) ?_ | refine J4 ?_ | refine J5 ?_ | refine J6 ?_ | refine J7 ?_ | refine J8 rfl ?_ | refine J9 rfl ?_) | (refine M2 ?_; first | refine I0 ?_ | refine I1 ?_ | refine I2 ?_ | refine I3 ?_ | refine I4 ?_ | refine I5 ?_ | refine I6 rfl ?_ | refine I7 ?_ | refine I8 ?_ | refine z4 ?_) | (refine M3 ?_; first | refine O6 ?_ | refine z2 tok rfl ?_ | refine O8 rfl ?_ | refine O7 rfl ?_ rfl | refine O9 rfl ?_ rfl | refine U1 _ (U4 rfl rfl) rfl ?_ | refine U1 _ (U5 rfl rfl) rfl ?_ | refine U1 _ (U2 rfl) rfl ?_ | refine U1 _ (U3 tok rfl rfl rfl rfl rfl) rfl ?_) | (refine M4 ?_; first | refine M6 ?_ | refine U6 rfl (by kernel_rfl) ?_ | refine U7 (by kernel_rfl) ?_) | (refine M5 ?_; first | exact M7 | refine U8 rfl ?_ | refine U9 rfl rfl ?_ ?_))
    refine XE.retg tok Try.results17 rfl (by simp only [and_self, and_true]) (fun w' S => ?_)
    exact ⟨chkTV_of (chkT_1 (by simpa [chkE] using h0)), S.toBelow⟩
  have hE : chkE t.b = 0 := by simpa [chkE] using h0
  repeat (first | (refine M0 ?_; first | refine O0 ?_ | refine z1 tok rfl ?_ | refine O1 rfl ?_ rfl | refine O2 rfl ?_ | refine O3 rfl ?_ rfl | refine U0 _ (Ev.call (f := 35) (ck rfl) rfl (fun w S => (checkState_any (p := ⟨Ab, t.b.rows.length, cb, Ab2, nb2, cb2⟩) (q := q) (hbas.sys S) (hfil.arg S) :))) rfl ?_ | refine O4 rfl rfl rfl (fun _ _ => ?_) | refine O5 tok rfl rfl rfl (fun _ _ => ?_) | refine U0 _ (U2 rfl) rfl ?_ | refine U0 _ (U3 tok rfl rfl rfl rfl rfl) rfl ?_ | refine z3 tok rfl ?_ | refine U0 _ (U4 rfl rfl) rfl ?_ | refine U0 _ (U5 rfl rfl) rfl ?_) | (refine M1 ?_; first | refine J0 ?_ | refine J1 ?_ | refine J2 mixed rfl (by kernel_rfl) ?_ | refine J3 mixed rfl rfl (by kernel_rfl) ?_ | refine J4 ?_ | refine J5 ?_ | refine J6 ?_ | refine J7 ?_ | refine J8 rfl ?_ | refine J9 rfl ?_) | (refine M2 ?_; first | refine I0 ?_ | refine I1 ?_ | refine I2 ?_ | refine I3 ?_ | refine I4 ?_ | refine I5 ?_ | refine I6 rfl ?_ | refine I7 ?_ | refine I8 ?_ | refine z4 ?_) | (refine M3 ?_; first | refine O6 ?_ | refine z2 tok rfl ?_ | refine O8 rfl ?_ | refine O7 rfl ?_ rfl | refine O9 rfl ?_ rfl | refine U1 _ (Ev.call (f := 35) (ck rfl) rfl (fun w S => (checkState_any (p := ⟨Ab, t.b.rows.length, cb, Ab2, nb2, cb2⟩) (q := q) (hbas.sys S) (hfil.arg S) :))) rfl ?_ | refine U1 _ (U4 rfl rfl) rfl ?_ | refine U1 _ (U5 rfl rfl) rfl ?_ | refine U1 _ (U2 rfl) rfl ?_ | refine U1 _ (U3 tok rfl rfl rfl rfl rfl) rfl ?_) | (refine M4 ?_; first | refine M6 ?_ | refine U6 rfl (by kernel_rfl) ?_ | refine U7 (by kernel_rfl) ?_) | (refine M5 ?_; first | exact M7 | refine U8 rfl ?_ | refine U9 rfl rfl ?_ ?_))
  refine XC.cond _ rfl (fun h1 => ?_) (fun h1 => ?_)
  · repeat (first | (refine M0 ?_; first | refine O0 ?_ | refine z1 tok rfl ?_ | refine O1 rfl ?_ rfl | refine O2 rfl ?_ | refine O3 rfl ?_ rfl | refine O4 rfl rfl rfl (fun _ _ => ?_) | refine O5 tok rfl rfl rfl (fun _ _ => ?_) | refine U0 _ (U2 rfl) rfl ?_ | refine U0 _ (U3 tok rfl rfl rfl rfl rfl) rfl ?_ | refine z3 tok rfl ?_ | refine U0 _ (U4 rfl rfl) rfl ?_ | refine U0 _ (U5 rfl rfl) rfl ?_) | (refine M1 ?_; first | refine J0 ?_ | refine J1 ?_ | refine J2 mixed rfl (by kernel_rfl) ?_ | refine J3 mixed rfl rfl (by kernel_rfl) ?_ | refine J4 ?_ | refine J5 ?_ | refine J6 ?_ | refine J7 ?_ | refine J8 rfl ?_ | refine J9 rfl ?_) | (refine M2 ?_; first | refine I0 ?_ | refine I1 ?_ | refine I2 ?_ | refine I3 ?_ | refine I4 ?_ | refine I5 ?_ | refine I6 rfl ?_ | refine I7 ?_ | refine I8 ?_ | refine z4 ?_) | (refine M3 ?_; first | refine O6 ?_ | refine z2 tok rfl ?_ | refine O8 rfl ?_ | refine O7 rfl ?_ rfl | refine O9 rfl ?_ rfl | refine U1 _ (U4 rfl rfl) rfl ?_ | refine U1 _ (U5 rfl rfl) rfl ?_ | refine U1 _ (U2 rfl) rfl ?_ | refine U1 _ (U3 tok rfl rfl rfl rfl rfl) rfl ?_) | (refine M4 ?_; first | refine M6 ?_ | refine U6 rfl (by kernel_rfl) ?_ | refine U7 (by kernel_rfl) ?_) | (refine M5 ?_; first | exact M7 | refine U8 rfl ?_ | refine U9 rfl rfl ?_ ?_))
    refine XE.retg tok Try.results17 rfl (by simp only [and_self, and_true]) (fun w' S => ?_)
    exact ⟨chkTV_of (chkT_2 hE (by simpa using h1)), S.toBelow⟩
  have hS : staErr t.b t.s = 0 := by simpa using h1
  repeat (first | (refine M0 ?_; first | refine O0 ?_ | refine z1 tok rfl ?_ | refine O1 rfl ?_ rfl | refine O2 rfl ?_ | refine O3 rfl ?_ rfl | refine O4 rfl rfl rfl (fun _ _ => ?_) | refine O5 tok rfl rfl rfl (fun _ _ => ?_) | refine U0 _ (U2 rfl) rfl ?_ | refine U0 _ (U3 tok rfl rfl rfl rfl rfl) rfl ?_ | refine z3 tok rfl ?_ | refine U0 _ (U4 rfl rfl) rfl ?_ | refine U0 _ (U5 rfl rfl) rfl ?_) | (refine M1 ?_; first | refine J0 ?_ | refine J1 ?_ | refine J2 mixed rfl (by kernel_rfl) ?_ | refine J3 mixed rfl rfl (by kernel_rfl) ?_ | refine J4 ?_ | refine J5 ?_ | refine J6 ?_ | refine J7 ?_ | refine J8 rfl ?_ | refine J9 rfl ?_) | (refine M2 ?_; first | refine I0 ?_ | refine I1 ?_ | refine I2 ?_ | refine I3 ?_ | refine I4 ?_ | refine I5 ?_ | refine I6 rfl ?_ | refine I7 ?_ | refine I8 ?_ | refine z4 ?_) | (refine M3 ?_; first | refine O6 ?_ | refine z2 tok rfl ?_ | refine O8 rfl ?_ | refine O7 rfl ?_ rfl | refine O9 rfl ?_ rfl | refine U1 _ (U4 rfl rfl) rfl ?_ | refine U1 _ (U5 rfl rfl) rfl ?_ | refine U1 _ (U2 rfl) rfl ?_ | refine U1 _ (U3 tok rfl rfl rfl rfl rfl) rfl ?_) | (refine M4 ?_; first | refine M6 ?_ | refine U6 rfl (by kernel_rfl) ?_ | refine U7 (by kernel_rfl) ?_) | (refine M5 ?_; first | exact M7 | refine U8 rfl ?_ | refine U9 rfl rfl ?_ ?_))
  refine XC.cond _ rfl (fun h2 => ?_) (fun h2 => ?_)
  · repeat (first | (refine M0 ?_; first | refine O0 ?_ | refine z1 tok rfl ?_ | refine O1 rfl ?_ rfl | refine O2 rfl ?_ | refine O3 rfl ?_ rfl | refine O4 rfl rfl rfl (fun _ _ => ?_) | refine O5 tok rfl rfl rfl (fun _ _ => ?_) | refine U0 _ (U2 rfl) rfl ?_ | refine U0 _ (U3 tok rfl rfl rfl rfl rfl) rfl ?_ | refine z3 tok rfl ?_ | refine U0 _ (U4 rfl rfl) rfl ?_ | refine U0 _ (U5 rfl rfl) rfl ?_) | (refine M1 ?_; first | refine J0 ?_ | refine J1 ?_ | refine J2 mixed rfl (by kernel_rfl) ?_ | refine J3 mixed rfl rfl (by kernel_rfl) ?_ | refine J4 ?_ | refine J5 ?_ | refine J6 ?_ | refine J7 ?_ | refine J8 rfl ?_ | refine J9 rfl ?_) | (refine M2 ?_; first | refine I0 ?_ | refine I1 ?_ | refine I2 ?_ | refine I3 ?_ | refine I4 ?_ | refine I5 ?_ | refine I6 rfl ?_ | refine I7 ?_ | refine I8 ?_ | refine z4 ?_) | (refine M3 ?_; first | refine O6 ?_ | refine z2 tok rfl ?_ | refine O8 rfl ?_ | refine O7 rfl ?_ rfl | refine O9 rfl ?_ rfl | refine U1 _ (U4 rfl rfl) rfl ?_ | refine U1 _ (U5 rfl rfl) rfl ?_ | refine U1 _ (U2 rfl) rfl ?_ | refine U1 _ (U3 tok rfl rfl rfl rfl rfl) rfl ?_) | (refine M4 ?_; first | refine M6 ?_ | refine U6 rfl (by kernel_rfl) ?_ | refine U7 (by kernel_rfl) ?_) | (refine M5 ?_; first | exact M7 | refine U8 rfl ?_ | refine U9 rfl rfl ?_ ?_))
    refine XE.retg tok Try.results17 rfl (by simp only [and_self, and_true]) (fun w' S => ?_)
    exact ⟨chkTV_of (chkT_3 hE hS (by have := of_decide_eq_true h2; omega)), S.toBelow⟩
  have h6 : ¬ 6 < t.outer.length := by have := of_decide_eq_false h2; omega
  cases e4 : decide ((t.river.length : Int) ≠ (t.outer.length : Int)) with
  | true =>
    have e4' := of_decide_eq_true e4
    repeat (first | (refine M0 ?_; first | refine O0 ?_ | refine z1 tok rfl ?_ | refine O1 rfl ?_ rfl | refine O2 rfl ?_ | refine O3 rfl ?_ rfl | refine O4 rfl rfl rfl (fun _ _ => ?_) | refine O5 tok rfl rfl rfl (fun _ _ => ?_) | refine U0 _ (U2 rfl) rfl ?_ | refine U0 _ (U3 tok rfl rfl rfl rfl rfl) rfl ?_ | refine z3 tok rfl ?_ | refine U0 _ (U4 rfl rfl) rfl ?_ | refine U0 _ (U5 rfl rfl) rfl ?_) | (refine M1 ?_; first | refine J0 ?_ | refine J1 ?_ | refine J2 mixed rfl (by kernel_rfl) ?_ | refine J3 mixed rfl rfl (by kernel_rfl) ?_ | refine J4 ?_ | refine J5 ?_ | refine J6 ?_ | refine J7 ?_ | refine J8 rfl ?_ | refine J9 rfl ?_) | (refine M2 ?_; first | refine I0 ?_ | refine I1 ?_ | refine I2 ?_ | refine I3 ?_ | refine I4 ?_ | refine I5 ?_ | refine I6 rfl ?_ | refine I7 ?_ | refine I8 ?_ | refine z4 ?_) | (refine M3 ?_; first | refine O6 ?_ | refine z2 tok rfl ?_ | refine O8 rfl ?_ | refine O7 rfl ?_ rfl | refine O9 rfl ?_ rfl | refine U1 _ (U4 rfl rfl) rfl ?_ | refine U1 _ (U5 rfl rfl) rfl ?_ | refine U1 _ (U2 rfl) rfl ?_ | refine U1 _ (U3 tok rfl rfl rfl rfl rfl) rfl ?_) | (refine M4 ?_; first | refine M6 ?_ | refine U6 rfl (by kernel_rfl) ?_ | refine U7 (by kernel_rfl) ?_) | (refine M5 ?_; first | exact M7 | refine U8 rfl ?_ | refine U9 rfl rfl ?_ ?_))
    rw [e4]
    repeat (first | (refine M0 ?_; first | refine O0 ?_ | refine z1 tok rfl ?_ | refine O1 rfl ?_ rfl | refine O2 rfl ?_ | refine O3 rfl ?_ rfl | refine O4 rfl rfl rfl (fun _ _ => ?_) | refine O5 tok rfl rfl rfl (fun _ _ => ?_) | refine U0 _ (U2 rfl) rfl ?_ | refine U0 _ (U3 tok rfl rfl rfl rfl rfl) rfl ?_ | refine z3 tok rfl ?_ | refine U0 _ (U4 rfl rfl) rfl ?_ | refine U0 _ (U5 rfl rfl) rfl ?_) | (refine M1 ?_; first | refine J0 ?_ | refine J1 ?_ | refine J2 mixed rfl (by kernel_rfl) ?_ | refine J3 mixed rfl rfl (by kernel_rfl) ?_ | refine J4 ?_ | refine J5 ?_ | refine J6 ?_ | refine J7 ?_ | refine J8 rfl ?_ | refine J9 rfl ?_) | (refine M2 ?_; first | refine I0 ?_ | refine I1 ?_ | refine I2 ?_ | refine I3 ?_ | refine I4 ?_ | refine I5 ?_ | refine I6 rfl ?_ | refine I7 ?_ | refine I8 ?_ | refine z4 ?_) | (refine M3 ?_; first | refine O6 ?_ | refine z2 tok rfl ?_ | refine O8 rfl ?_ | refine O7 rfl ?_ rfl | refine O9 rfl ?_ rfl | refine U1 _ (U4 rfl rfl) rfl ?_ | refine U1 _ (U5 rfl rfl) rfl ?_ | refine U1 _ (U2 rfl) rfl ?_ | refine U1 _ (U3 tok rfl rfl rfl rfl rfl) rfl ?_) | (refine M4 ?_; first | refine M6 ?_ | refine U6 rfl (by kernel_rfl) ?_ | refine U7 (by kernel_rfl) ?_) | (refine M5 ?_; first | exact M7 | refine U8 rfl ?_ | refine U9 rfl rfl ?_ ?_))
    refine XE.retg tok Try.results17 rfl (by simp only [and_self, and_true]) (fun w' S => ?_)
    exact ⟨chkTV_of (chkT_4 hE hS h6 (.inl (by omega))), S.toBelow⟩
  | false =>
  have e4' := of_decide_eq_false e4
  repeat (first | (refine M0 ?_; first | refine O0 ?_ | refine z1 tok rfl ?_ | refine O1 rfl ?_ rfl | refine O2 rfl ?_ | refine O3 rfl ?_ rfl | refine O4 rfl rfl rfl (fun _ _ => ?_) | refine O5 tok rfl rfl rfl (fun _ _ => ?_) | refine U0 _ (U2 rfl) rfl ?_ | refine U0 _ (U3 tok rfl rfl rfl rfl rfl) rfl ?_ | refine z3 tok rfl ?_ | refine U0 _ (U4 rfl rfl) rfl ?_ | refine U0 _ (U5 rfl rfl) rfl ?_) | (refine M1 ?_; first | refine J0 ?_ | refine J1 ?_ | refine J2 mixed rfl (by kernel_rfl) ?_ | refine J3 mixed rfl rfl (by kernel_rfl) ?_ | refine J4 ?_ | refine J5 ?_ | refine J6 ?_ | refine J7 ?_ | refine J8 rfl ?_ | refine J9 rfl ?_) | (refine M2 ?_; first | refine I0 ?_ | refine I1 ?_ | refine I2 ?_ | refine I3 ?_ | refine I4 ?_ | refine I5 ?_ | refine I6 rfl ?_ | refine I7 ?_ | refine I8 ?_ | refine z4 ?_) | (refine M3 ?_; first | refine O6 ?_ | refine z2 tok rfl ?_ | refine O8 rfl ?_ | refine O7 rfl ?_ rfl | refine O9 rfl ?_ rfl | refine U1 _ (U4 rfl rfl) rfl ?_ | refine U1 _ (U5 rfl rfl) rfl ?_ | refine U1 _ (U2 rfl) rfl ?_ | refine U1 _ (U3 tok rfl rfl rfl rfl rfl) rfl ?_) | (refine M4 ?_; first | refine M6 ?_ | refine U6 rfl (by kernel_rfl) ?_ | refine U7 (by kernel_rfl) ?_) | (refine M5 ?_; first | exact M7 | refine U8 rfl ?_ | refine U9 rfl rfl ?_ ?_))
  rw [e4]
  repeat (first | (refine M0 ?_; first | refine O0 ?_ | refine z1 tok rfl ?_ | refine O1 rfl ?_ rfl | refine O2 rfl ?_ | refine O3 rfl ?_ rfl | refine O4 rfl rfl rfl (fun _ _ => ?_) | refine O5 tok rfl rfl rfl (fun _ _ => ?_) | refine U0 _ (U2 rfl) rfl ?_ | refine U0 _ (U3 tok rfl rfl rfl rfl rfl) rfl ?_ | refine z3 tok rfl ?_ | refine U0 _ (U4 rfl rfl) rfl ?_ | refine U0 _ (U5 rfl rfl) rfl ?_) | (refine M1 ?_; first | refine J0 ?_ | refine J1 ?_ | refine J2 mixed rfl (by kernel_rfl) ?_ | refine J3 mixed rfl rfl (by kernel_rfl) ?_ | refine J4 ?_ | refine J5 ?_ | refine J6 ?_ | refine J7 ?_ | refine J8 rfl ?_ | refine J9 rfl ?_) | (refine M2 ?_; first | refine I0 ?_ | refine I1 ?_ | refine I2 ?_ | refine I3 ?_ | refine I4 ?_ | refine I5 ?_ | refine I6 rfl ?_ | refine I7 ?_ | refine I8 ?_ | refine z4 ?_) | (refine M3 ?_; first | refine O6 ?_ | refine z2 tok rfl ?_ | refine O8 rfl ?_ | refine O7 rfl ?_ rfl | refine O9 rfl ?_ rfl | refine U1 _ (U4 rfl rfl) rfl ?_ | refine U1 _ (U5 rfl rfl) rfl ?_ | refine U1 _ (U2 rfl) rfl ?_ | refine U1 _ (U3 tok rfl rfl rfl rfl rfl) rfl ?_) | (refine M4 ?_; first | refine M6 ?_ | refine U6 rfl (by kernel_rfl) ?_ | refine U7 (by kernel_rfl) ?_) | (refine M5 ?_; first | exact M7 | refine U8 rfl ?_ | refine U9 rfl rfl ?_ ?_))
  refine XC.cond _ rfl (fun h3 => ?_) (fun h3 => ?_)
  · repeat (first | (refine M0 ?_; first | refine O0 ?_ | refine z1 tok rfl ?_ | refine O1 rfl ?_ rfl | refine O2 rfl ?_ | refine O3 rfl ?_ rfl | refine O4 rfl rfl rfl (fun _ _ => ?_) | refine O5 tok rfl rfl rfl (fun _ _ => ?_) | refine U0 _ (U2 rfl) rfl ?_ | refine U0 _ (U3 tok rfl rfl rfl rfl rfl) rfl ?_ | refine z3 tok rfl ?_ | refine U0 _ (U4 rfl rfl) rfl ?_ | refine U0 _ (U5 rfl rfl) rfl ?_) | (refine M1 ?_; first | refine J0 ?_ | refine J1 ?_ | refine J2 mixed rfl (by kernel_rfl) ?_ | refine J3 mixed rfl rfl (by kernel_rfl) ?_ | refine J4 ?_ | refine J5 ?_ | refine J6 ?_ | refine J7 ?_ | refine J8 rfl ?_ | refine J9 rfl ?_) | (refine M2 ?_; first | refine I0 ?_ | refine I1 ?_ | refine I2 ?_ | refine I3 ?_ | refine I4 ?_ | refine I5 ?_ | refine I6 rfl ?_ | refine I7 ?_ | refine I8 ?_ | refine z4 ?_) | (refine M3 ?_; first | refine O6 ?_ | refine z2 tok rfl ?_ | refine O8 rfl ?_ | refine O7 rfl ?_ rfl | refine O9 rfl ?_ rfl | refine U1 _ (U4 rfl rfl) rfl ?_ | refine U1 _ (U5 rfl rfl) rfl ?_ | refine U1 _ (U2 rfl) rfl ?_ | refine U1 _ (U3 tok rfl rfl rfl rfl rfl) rfl ?_) | (refine M4 ?_; first | refine M6 ?_ | refine U6 rfl (by kernel_rfl) ?_ | refine U7 (by kernel_rfl) ?_) | (refine M5 ?_; first | exact M7 | refine U8 rfl ?_ | refine U9 rfl rfl ?_ ?_))
    refine XE.retg tok Try.results17 rfl (by simp only [and_self, and_true]) (fun w' S => ?_)
    exact ⟨chkTV_of (chkT_4 hE hS h6 (.inr (by have := of_decide_eq_true h3; omega))), S.toBelow⟩
  have hp4 : Pre4 t := ⟨hE, hS, h6, fun h => h.elim (fun h => h (by omega)) (fun h => h (by have := of_decide_eq_false h3; omega))⟩
  have e5' : t.prices.length = t.outer.length := by have := of_decide_eq_false h3; omega
  repeat (first | (refine M0 ?_; first | refine O0 ?_ | refine z1 tok rfl ?_ | refine O1 rfl ?_ rfl | refine O2 rfl ?_ | refine O3 rfl ?_ rfl | refine O4 rfl rfl rfl (fun _ _ => ?_) | refine O5 tok rfl rfl rfl (fun _ _ => ?_) | refine U0 _ (U2 rfl) rfl ?_ | refine U0 _ (U3 tok rfl rfl rfl rfl rfl) rfl ?_ | refine z3 tok rfl ?_ | refine U0 _ (U4 rfl rfl) rfl ?_ | refine U0 _ (U5 rfl rfl) rfl ?_) | (refine M1 ?_; first | refine J0 ?_ | refine J1 ?_ | refine J2 mixed rfl (by kernel_rfl) ?_ | refine J3 mixed rfl rfl (by kernel_rfl) ?_ | refine J4 ?_ | refine J5 ?_ | refine J6 ?_ | refine J7 ?_ | refine J8 rfl ?_ | refine J9 rfl ?_) | (refine M2 ?_; first | refine I0 ?_ | refine I1 ?_ | refine I2 ?_ | refine I3 ?_ | refine I4 ?_ | refine I5 ?_ | refine I6 rfl ?_ | refine I7 ?_ | refine I8 ?_ | refine z4 ?_) | (refine M3 ?_; first | refine O6 ?_ | refine z2 tok rfl ?_ | refine O8 rfl ?_ | refine O7 rfl ?_ rfl | refine O9 rfl ?_ rfl | refine U1 _ (U4 rfl rfl) rfl ?_ | refine U1 _ (U5 rfl rfl) rfl ?_ | refine U1 _ (U2 rfl) rfl ?_ | refine U1 _ (U3 tok rfl rfl rfl rfl rfl) rfl ?_) | (refine M4 ?_; first | refine M6 ?_ | refine U6 rfl (by kernel_rfl) ?_ | refine U7 (by kernel_rfl) ?_) | (refine M5 ?_; first | exact M7 | refine U8 rfl ?_ | refine U9 rfl rfl ?_ ?_))
  refine XC.loopk [1, 51, 52] rfl (fun k : Nat => [(53, .int .i64 (k : Nat))]) (fun _ => [(g1, _)]) (fun _ => w) (fun k => k ≤ t.outer.length ∧ ∀ j, j < k → tickErr t j = 0) (fun k => t.outer.length - k) 0 ⟨Nat.zero_le _, fun j h => absurd h (by omega)⟩ (by repeat (first | exact Sub.nil | refine Sub.cons rfl ?_)) (fun _ h => h) ?_
  rintro k ⟨hk, h0⟩
  dsimp only [List.cons_append, List.nil_append]
  repeat (first | (refine M0 ?_; first | refine O0 ?_ | refine z1 tok rfl ?_ | refine O1 rfl ?_ rfl | refine O2 rfl ?_ | refine O3 rfl ?_ rfl | refine O4 rfl rfl rfl (fun _ _ => ?_) | refine O5 tok rfl rfl rfl (fun _ _ => ?_) | refine U0 _ (U2 rfl) rfl ?_ | refine U0 _ (U3 tok rfl rfl rfl rfl rfl) rfl ?_ | refine z3 tok rfl ?_ | refine U0 _ (U4 rfl rfl) rfl ?_ | refine U0 _ (U5 rfl rfl) rfl ?_) | (refine M1 ?_; first | refine J0 ?_ | refine J1 ?_ | refine J2 mixed rfl (by kernel_rfl) ?_ | refine J3 mixed rfl rfl (by kernel_rfl) ?_ | refine J4 ?_ | refine J5 ?_ | refine J6 ?_ | refine J7 ?_ | refine J8 rfl ?_ | refine J9 rfl ?_) | (refine M2 ?_; first | refine I0 ?_ | refine I1 ?_ | refine I2 ?_ | refine I3 ?_ | refine I4 ?_ | refine I5 ?_ | refine I6 rfl ?_ | refine I7 ?_ | refine I8 ?_ | refine z4 ?_) | (refine M3 ?_; first | refine O6 ?_ | refine z2 tok rfl ?_ | refine O8 rfl ?_ | refine O7 rfl ?_ rfl | refine O9 rfl ?_ rfl | refine U1 _ (U4 rfl rfl) rfl ?_ | refine U1 _ (U5 rfl rfl) rfl ?_ | refine U1 _ (U2 rfl) rfl ?_ | refine U1 _ (U3 tok rfl rfl rfl rfl rfl) rfl ?_) | (refine M4 ?_; first | refine M6 ?_ | refine U6 rfl (by kernel_rfl) ?_ | refine U7 (by kernel_rfl) ?_) | (refine M5 ?_; first | exact M7 | refine U8 rfl ?_ | refine U9 rfl rfl ?_ ?_))
  refine XC.cond _ rfl (fun h7 => ?_) (fun h7 => ?_)
  · have hkn : k < t.outer.length := by simpa using h7
    obtain ⟨a1, rfl, hl1, hc1⟩ := hout.at_ (by omega)
    obtain ⟨a2, rfl, hl2, hc2⟩ := hriv.at_ (by omega)
    obtain ⟨a3, rfl, hl3, hc3⟩ := hpri.at_ (by omega)
    have d1 := hc1 k hkn
    have d2 := hc2 k (by omega)
    have d3 := hc3 k (by omega)
    repeat (first | (refine M0 ?_; first | refine O0 ?_ | refine z1 tok rfl ?_ | refine O1 rfl ?_ rfl | refine O2 rfl ?_ | refine O3 rfl ?_ rfl | refine U0 _ (Ev.load_old tok rfl rfl (add_lt hl1) d1) rfl ?_ | refine O4 rfl rfl rfl (fun _ _ => ?_) | refine O5 tok rfl rfl rfl (fun _ _ => ?_) | refine U0 _ (U2 rfl) rfl ?_ | refine U0 _ (U3 tok rfl rfl rfl rfl rfl) rfl ?_ | refine z3 tok rfl ?_ | refine U0 _ (U4 rfl rfl) rfl ?_ | refine U0 _ (U5 rfl rfl) rfl ?_) | (refine M1 ?_; first | refine J0 ?_ | refine J1 ?_ | refine J2 mixed rfl (by kernel_rfl) ?_ | refine J3 mixed rfl rfl (by kernel_rfl) ?_ | refine J4 ?_ | refine J5 ?_ | refine J6 ?_ | refine J7 ?_ | refine J8 rfl ?_ | refine J9 rfl ?_) | (refine M2 ?_; first | refine I0 ?_ | refine I1 ?_ | refine I2 ?_ | refine I3 ?_ | refine I4 ?_ | refine I5 ?_ | refine I6 rfl ?_ | refine I7 ?_ | refine I8 ?_ | refine z4 ?_) | (refine M3 ?_; first | refine O6 ?_ | refine z2 tok rfl ?_ | refine O8 rfl ?_ | refine O7 rfl ?_ rfl | refine O9 rfl ?_ rfl | refine U1 _ (Ev.load_old tok rfl rfl (add_lt hl1) d1) rfl ?_ | refine U1 _ (U4 rfl rfl) rfl ?_ | refine U1 _ (U5 rfl rfl) rfl ?_ | refine U1 _ (U2 rfl) rfl ?_ | refine U1 _ (U3 tok rfl rfl rfl rfl rfl) rfl ?_) | (refine M4 ?_; first | refine M6 ?_ | refine U6 rfl (by kernel_rfl) ?_ | refine U7 (by kernel_rfl) ?_) | (refine M5 ?_; first | exact M7 | refine U8 rfl ?_ | refine U9 rfl rfl ?_ ?_))
    cases e0 : outB (at0 t.outer k) (-20000) 20000 with
    | true =>
      repeat (first | (refine M0 ?_; first | refine O0 ?_ | refine z1 tok rfl ?_ | refine O1 rfl ?_ rfl | refine O2 rfl ?_ | refine O3 rfl ?_ rfl | refine U0 _ (Ev.call (f := 46) (vs := [.int .i64 (at0 t.outer k), .int .i64 (-20000), .int .i64 20000]) (ck rfl) rfl (fun w S => outP e0 w)) rfl ?_ | refine O4 rfl rfl rfl (fun _ _ => ?_) | refine O5 tok rfl rfl rfl (fun _ _ => ?_) | refine U0 _ (U2 rfl) rfl ?_ | refine U0 _ (U3 tok rfl rfl rfl rfl rfl) rfl ?_ | refine z3 tok rfl ?_ | refine U0 _ (U4 rfl rfl) rfl ?_ | refine U0 _ (U5 rfl rfl) rfl ?_) | (refine M1 ?_; first | refine J0 ?_ | refine J1 ?_ | refine J2 mixed rfl (by kernel_rfl) ?_ | refine J3 mixed rfl rfl (by kernel_rfl) ?_ | refine J4 ?_ | refine J5 ?_ | refine J6 ?_ | refine J7 ?_ | refine J8 rfl ?_ | refine J9 rfl ?_) | (refine M2 ?_; first | refine I0 ?_ | refine I1 ?_ | refine I2 ?_ | refine I3 ?_ | refine I4 ?_ | refine I5 ?_ | refine I6 rfl ?_ | refine I7 ?_ | refine I8 ?_ | refine z4 ?_) | (refine M3 ?_; first | refine O6 ?_ | refine z2 tok rfl ?_ | refine O8 rfl ?_ | refine O7 rfl ?_ rfl | refine O9 rfl ?_ rfl | refine U1 _ (Ev.call (f := 46) (vs := [.int .i64 (at0 t.outer k), .int .i64 (-20000), .int .i64 20000]) (ck rfl) rfl (fun w S => outP e0 w)) rfl ?_ | refine U1 _ (U4 rfl rfl) rfl ?_ | refine U1 _ (U5 rfl rfl) rfl ?_ | refine U1 _ (U2 rfl) rfl ?_ | refine U1 _ (U3 tok rfl rfl rfl rfl rfl) rfl ?_) | (refine M4 ?_; first | refine M6 ?_ | refine U6 rfl (by kernel_rfl) ?_ | refine U7 (by kernel_rfl) ?_) | (refine M5 ?_; first | exact M7 | refine U8 rfl ?_ | refine U9 rfl rfl ?_ ?_))
      refine XE.retg tok Try.results17 rfl (by simp only [and_self, and_true]) (fun w' S => ?_)
      exact ⟨chkTV_of (chkT_5 hp4 hkn h0 (by simp [tickErr, e0])), S.toBelow⟩
    | false =>
    repeat (first | (refine M0 ?_; first | refine O0 ?_ | refine z1 tok rfl ?_ | refine O1 rfl ?_ rfl | refine O2 rfl ?_ | refine O3 rfl ?_ rfl | refine U0 _ (Ev.call (f := 46) (vs := [.int .i64 (at0 t.outer k), .int .i64 (-20000), .int .i64 20000]) (ck rfl) rfl (fun w S => outP e0 w)) rfl ?_ | refine U0 _ (Ev.load_old tok rfl rfl (add_lt hl2) d2) rfl ?_ | refine O4 rfl rfl rfl (fun _ _ => ?_) | refine O5 tok rfl rfl rfl (fun _ _ => ?_) | refine U0 _ (U2 rfl) rfl ?_ | refine U0 _ (U3 tok rfl rfl rfl rfl rfl) rfl ?_ | refine z3 tok rfl ?_ | refine U0 _ (U4 rfl rfl) rfl ?_ | refine U0 _ (U5 rfl rfl) rfl ?_) | (refine M1 ?_; first | refine J0 ?_ | refine J1 ?_ | refine J2 mixed rfl (by kernel_rfl) ?_ | refine J3 mixed rfl rfl (by kernel_rfl) ?_ | refine J4 ?_ | refine J5 ?_ | refine J6 ?_ | refine J7 ?_ | refine J8 rfl ?_ | refine J9 rfl ?_) | (refine M2 ?_; first | refine I0 ?_ | refine I1 ?_ | refine I2 ?_ | refine I3 ?_ | refine I4 ?_ | refine I5 ?_ | refine I6 rfl ?_ | refine I7 ?_ | refine I8 ?_ | refine z4 ?_) | (refine M3 ?_; first | refine O6 ?_ | refine z2 tok rfl ?_ | refine O8 rfl ?_ | refine O7 rfl ?_ rfl | refine O9 rfl ?_ rfl | refine U1 _ (Ev.call (f := 46) (vs := [.int .i64 (at0 t.outer k), .int .i64 (-20000), .int .i64 20000]) (ck rfl) rfl (fun w S => outP e0 w)) rfl ?_ | refine U1 _ (Ev.load_old tok rfl rfl (add_lt hl2) d2) rfl ?_ | refine U1 _ (U4 rfl rfl) rfl ?_ | refine U1 _ (U5 rfl rfl) rfl ?_ | refine U1 _ (U2 rfl) rfl ?_ | refine U1 _ (U3 tok rfl rfl rfl rfl rfl) rfl ?_) | (refine M4 ?_; first | refine M6 ?_ | refine U6 rfl (by kernel_rfl) ?_ | refine U7 (by kernel_rfl) ?_) | (refine M5 ?_; first | exact M7 | refine U8 rfl ?_ | refine U9 rfl rfl ?_ ?_))
    cases e1 : outB (at0 t.river k) 0 10000000 with
    | true =>
      repeat (first | (refine M0 ?_; first | refine O0 ?_ | refine z1 tok rfl ?_ | refine O1 rfl ?_ rfl | refine O2 rfl ?_ | refine O3 rfl ?_ rfl | refine U0 _ (Ev.call (f := 46) (vs := [.int .i64 (at0 t.river k), .int .i64 0, .int .i64 10000000]) (ck rfl) rfl (fun w S => outP e1 w)) rfl ?_ | refine O4 rfl rfl rfl (fun _ _ => ?_) | refine O5 tok rfl rfl rfl (fun _ _ => ?_) | refine U0 _ (U2 rfl) rfl ?_ | refine U0 _ (U3 tok rfl rfl rfl rfl rfl) rfl ?_ | refine z3 tok rfl ?_ | refine U0 _ (U4 rfl rfl) rfl ?_ | refine U0 _ (U5 rfl rfl) rfl ?_) | (refine M1 ?_; first | refine J0 ?_ | refine J1 ?_ | refine J2 mixed rfl (by kernel_rfl) ?_ | refine J3 mixed rfl rfl (by kernel_rfl) ?_ | refine J4 ?_ | refine J5 ?_ | refine J6 ?_ | refine J7 ?_ | refine J8 rfl ?_ | refine J9 rfl ?_) | (refine M2 ?_; first | refine I0 ?_ | refine I1 ?_ | refine I2 ?_ | refine I3 ?_ | refine I4 ?_ | refine I5 ?_ | refine I6 rfl ?_ | refine I7 ?_ | refine I8 ?_ | refine z4 ?_) | (refine M3 ?_; first | refine O6 ?_ | refine z2 tok rfl ?_ | refine O8 rfl ?_ | refine O7 rfl ?_ rfl | refine O9 rfl ?_ rfl | refine U1 _ (Ev.call (f := 46) (vs := [.int .i64 (at0 t.river k), .int .i64 0, .int .i64 10000000]) (ck rfl) rfl (fun w S => outP e1 w)) rfl ?_ | refine U1 _ (U4 rfl rfl) rfl ?_ | refine U1 _ (U5 rfl rfl) rfl ?_ | refine U1 _ (U2 rfl) rfl ?_ | refine U1 _ (U3 tok rfl rfl rfl rfl rfl) rfl ?_) | (refine M4 ?_; first | refine M6 ?_ | refine U6 rfl (by kernel_rfl) ?_ | refine U7 (by kernel_rfl) ?_) | (refine M5 ?_; first | exact M7 | refine U8 rfl ?_ | refine U9 rfl rfl ?_ ?_))
      refine XE.retg tok Try.results17 rfl (by simp only [and_self, and_true]) (fun w' S => ?_)
      exact ⟨chkTV_of (chkT_5 hp4 hkn h0 (by simp [tickErr, e1])), S.toBelow⟩
    | false =>
    repeat (first | (refine M0 ?_; first | refine O0 ?_ | refine z1 tok rfl ?_ | refine O1 rfl ?_ rfl | refine O2 rfl ?_ | refine O3 rfl ?_ rfl | refine U0 _ (Ev.call (f := 46) (vs := [.int .i64 (at0 t.river k), .int .i64 0, .int .i64 10000000]) (ck rfl) rfl (fun w S => outP e1 w)) rfl ?_ | refine U0 _ (Ev.load_old tok rfl rfl (add_lt hl3) d3) rfl ?_ | refine O4 rfl rfl rfl (fun _ _ => ?_) | refine O5 tok rfl rfl rfl (fun _ _ => ?_) | refine U0 _ (U2 rfl) rfl ?_ | refine U0 _ (U3 tok rfl rfl rfl rfl rfl) rfl ?_ | refine z3 tok rfl ?_ | refine U0 _ (U4 rfl rfl) rfl ?_ | refine U0 _ (U5 rfl rfl) rfl ?_) | (refine M1 ?_; first | refine J0 ?_ | refine J1 ?_ | refine J2 mixed rfl (by kernel_rfl) ?_ | refine J3 mixed rfl rfl (by kernel_rfl) ?_ | refine J4 ?_ | refine J5 ?_ | refine J6 ?_ | refine J7 ?_ | refine J8 rfl ?_ | refine J9 rfl ?_) | (refine M2 ?_; first | refine I0 ?_ | refine I1 ?_ | refine I2 ?_ | refine I3 ?_ | refine I4 ?_ | refine I5 ?_ | refine I6 rfl ?_ | refine I7 ?_ | refine I8 ?_ | refine z4 ?_) | (refine M3 ?_; first | refine O6 ?_ | refine z2 tok rfl ?_ | refine O8 rfl ?_ | refine O7 rfl ?_ rfl | refine O9 rfl ?_ rfl | refine U1 _ (Ev.call (f := 46) (vs := [.int .i64 (at0 t.river k), .int .i64 0, .int .i64 10000000]) (ck rfl) rfl (fun w S => outP e1 w)) rfl ?_ | refine U1 _ (Ev.load_old tok rfl rfl (add_lt hl3) d3) rfl ?_ | refine U1 _ (U4 rfl rfl) rfl ?_ | refine U1 _ (U5 rfl rfl) rfl ?_ | refine U1 _ (U2 rfl) rfl ?_ | refine U1 _ (U3 tok rfl rfl rfl rfl rfl) rfl ?_) | (refine M4 ?_; first | refine M6 ?_ | refine U6 rfl (by kernel_rfl) ?_ | refine U7 (by kernel_rfl) ?_) | (refine M5 ?_; first | exact M7 | refine U8 rfl ?_ | refine U9 rfl rfl ?_ ?_))
    cases e2 : outB (at0 t.prices k) 0 10000 with
    | true =>
      repeat (first | (refine M0 ?_; first | refine O0 ?_ | refine z1 tok rfl ?_ | refine O1 rfl ?_ rfl | refine O2 rfl ?_ | refine O3 rfl ?_ rfl | refine U0 _ (Ev.call (f := 46) (vs := [.int .i64 (at0 t.prices k), .int .i64 0, .int .i64 10000]) (ck rfl) rfl (fun w S => outP e2 w)) rfl ?_ | refine O4 rfl rfl rfl (fun _ _ => ?_) | refine O5 tok rfl rfl rfl (fun _ _ => ?_) | refine U0 _ (U2 rfl) rfl ?_ | refine U0 _ (U3 tok rfl rfl rfl rfl rfl) rfl ?_ | refine z3 tok rfl ?_ | refine U0 _ (U4 rfl rfl) rfl ?_ | refine U0 _ (U5 rfl rfl) rfl ?_) | (refine M1 ?_; first | refine J0 ?_ | refine J1 ?_ | refine J2 mixed rfl (by kernel_rfl) ?_ | refine J3 mixed rfl rfl (by kernel_rfl) ?_ | refine J4 ?_ | refine J5 ?_ | refine J6 ?_ | refine J7 ?_ | refine J8 rfl ?_ | refine J9 rfl ?_) | (refine M2 ?_; first | refine I0 ?_ | refine I1 ?_ | refine I2 ?_ | refine I3 ?_ | refine I4 ?_ | refine I5 ?_ | refine I6 rfl ?_ | refine I7 ?_ | refine I8 ?_ | refine z4 ?_) | (refine M3 ?_; first | refine O6 ?_ | refine z2 tok rfl ?_ | refine O8 rfl ?_ | refine O7 rfl ?_ rfl | refine O9 rfl ?_ rfl | refine U1 _ (Ev.call (f := 46) (vs := [.int .i64 (at0 t.prices k), .int .i64 0, .int .i64 10000]) (ck rfl) rfl (fun w S => outP e2 w)) rfl ?_ | refine U1 _ (U4 rfl rfl) rfl ?_ | refine U1 _ (U5 rfl rfl) rfl ?_ | refine U1 _ (U2 rfl) rfl ?_ | refine U1 _ (U3 tok rfl rfl rfl rfl rfl) rfl ?_) | (refine M4 ?_; first | refine M6 ?_ | refine U6 rfl (by kernel_rfl) ?_ | refine U7 (by kernel_rfl) ?_) | (refine M5 ?_; first | exact M7 | refine U8 rfl ?_ | refine U9 rfl rfl ?_ ?_))
      refine XE.retg tok Try.results17 rfl (by simp only [and_self, and_true]) (fun w' S => ?_)
      exact ⟨chkTV_of (chkT_5 hp4 hkn h0 (by simp [tickErr, e2])), S.toBelow⟩
    | false =>
    repeat (first | (refine M0 ?_; first | refine O0 ?_ | refine z1 tok rfl ?_ | refine O1 rfl ?_ rfl | refine O2 rfl ?_ | refine O3 rfl ?_ rfl | refine U0 _ (Ev.call (f := 46) (vs := [.int .i64 (at0 t.prices k), .int .i64 0, .int .i64 10000]) (ck rfl) rfl (fun w S => outP e2 w)) rfl ?_ | refine O4 rfl rfl rfl (fun _ _ => ?_) | refine O5 tok rfl rfl rfl (fun _ _ => ?_) | refine U0 _ (U2 rfl) rfl ?_ | refine U0 _ (U3 tok rfl rfl rfl rfl rfl) rfl ?_ | refine z3 tok rfl ?_ | refine U0 _ (U4 rfl rfl) rfl ?_ | refine U0 _ (U5 rfl rfl) rfl ?_) | (refine M1 ?_; first | refine J0 ?_ | refine J1 ?_ | refine J2 mixed rfl (by kernel_rfl) ?_ | refine J3 mixed rfl rfl (by kernel_rfl) ?_ | refine J4 ?_ | refine J5 ?_ | refine J6 ?_ | refine J7 ?_ | refine J8 rfl ?_ | refine J9 rfl ?_) | (refine M2 ?_; first | refine I0 ?_ | refine I1 ?_ | refine I2 ?_ | refine I3 ?_ | refine I4 ?_ | refine I5 ?_ | refine I6 rfl ?_ | refine I7 ?_ | refine I8 ?_ | refine z4 ?_) | (refine M3 ?_; first | refine O6 ?_ | refine z2 tok rfl ?_ | refine O8 rfl ?_ | refine O7 rfl ?_ rfl | refine O9 rfl ?_ rfl | refine U1 _ (Ev.call (f := 46) (vs := [.int .i64 (at0 t.prices k), .int .i64 0, .int .i64 10000]) (ck rfl) rfl (fun w S => outP e2 w)) rfl ?_ | refine U1 _ (U4 rfl rfl) rfl ?_ | refine U1 _ (U5 rfl rfl) rfl ?_ | refine U1 _ (U2 rfl) rfl ?_ | refine U1 _ (U3 tok rfl rfl rfl rfl rfl) rfl ?_) | (refine M4 ?_; first | refine M6 ?_ | refine U6 rfl (by kernel_rfl) ?_ | refine U7 (by kernel_rfl) ?_) | (refine M5 ?_; first | exact M7 | refine U8 rfl ?_ | refine U9 rfl rfl ?_ ?_))
    refine XE.round (k + 1) ⟨hkn, fun j hj => ?_⟩ (by omega) (by repeat (first | exact Sub.nil | refine Sub.cons rfl ?_)) (fun _ h => h)
    by_cases e : j = k
    · subst e; simp [tickErr, e0, e1, e2]
    · exact h0 j (by omega)
  have hkn : k = t.outer.length := by have : ¬ (k < t.outer.length) := by simpa using h7
                                      omega
  subst hkn
  clear hk h7
  obtain ⟨ab, rfl, hlb⟩ := hbas.rows.addr (by have := rows_len hE; simp only; omega)
  have hr2 := rows_len hE
  have db := hbas.rowLevel (i := 0) (by omega)
  cases e6 : outB t.high (-20000) 20000 with
  | true =>
    repeat (first | (refine M0 ?_; first | refine O0 ?_ | refine z1 tok rfl ?_ | refine O1 rfl ?_ rfl | refine O2 rfl ?_ | refine O3 rfl ?_ rfl | refine U0 _ (Ev.call (f := 46) (vs := [.int .i64 t.high, .int .i64 (-20000), .int .i64 20000]) (ck rfl) rfl (fun w S => outP e6 w)) rfl ?_ | refine O4 rfl rfl rfl (fun _ _ => ?_) | refine O5 tok rfl rfl rfl (fun _ _ => ?_) | refine U0 _ (U2 rfl) rfl ?_ | refine U0 _ (U3 tok rfl rfl rfl rfl rfl) rfl ?_ | refine z3 tok rfl ?_ | refine U0 _ (U4 rfl rfl) rfl ?_ | refine U0 _ (U5 rfl rfl) rfl ?_) | (refine M1 ?_; first | refine J0 ?_ | refine J1 ?_ | refine J2 mixed rfl (by kernel_rfl) ?_ | refine J3 mixed rfl rfl (by kernel_rfl) ?_ | refine J4 ?_ | refine J5 ?_ | refine J6 ?_ | refine J7 ?_ | refine J8 rfl ?_ | refine J9 rfl ?_) | (refine M2 ?_; first | refine I0 ?_ | refine I1 ?_ | refine I2 ?_ | refine I3 ?_ | refine I4 ?_ | refine I5 ?_ | refine I6 rfl ?_ | refine I7 ?_ | refine I8 ?_ | refine z4 ?_) | (refine M3 ?_; first | refine O6 ?_ | refine z2 tok rfl ?_ | refine O8 rfl ?_ | refine O7 rfl ?_ rfl | refine O9 rfl ?_ rfl | refine U1 _ (Ev.call (f := 46) (vs := [.int .i64 t.high, .int .i64 (-20000), .int .i64 20000]) (ck rfl) rfl (fun w S => outP e6 w)) rfl ?_ | refine U1 _ (U4 rfl rfl) rfl ?_ | refine U1 _ (U5 rfl rfl) rfl ?_ | refine U1 _ (U2 rfl) rfl ?_ | refine U1 _ (U3 tok rfl rfl rfl rfl rfl) rfl ?_) | (refine M4 ?_; first | refine M6 ?_ | refine U6 rfl (by kernel_rfl) ?_ | refine U7 (by kernel_rfl) ?_) | (refine M5 ?_; first | exact M7 | refine U8 rfl ?_ | refine U9 rfl rfl ?_ ?_))
    refine XE.retg tok Try.results17 rfl (by simp only [and_self, and_true]) (fun w' S => ?_)
    exact ⟨chkTV_of (chkT_6 hp4 h0 (by simp [e6])), S.toBelow⟩
  | false =>
  repeat (first | (refine M0 ?_; first | refine O0 ?_ | refine z1 tok rfl ?_ | refine O1 rfl ?_ rfl | refine O2 rfl ?_ | refine O3 rfl ?_ rfl | refine U0 _ (Ev.call (f := 46) (vs := [.int .i64 t.high, .int .i64 (-20000), .int .i64 20000]) (ck rfl) rfl (fun w S => outP e6 w)) rfl ?_ | refine U0 _ (Ev.load_old tok rfl rfl (add_lt2 hlb) db) rfl ?_ | refine U0 _ (Ev.call (f := 46) (vs := [.int .i64 t.low, .int .i64 (t.b.row 0).level, .int .i64 t.high]) (ck rfl) rfl (fun w S => rnout_any _ _ _ w)) rfl ?_ | refine O4 rfl rfl rfl (fun _ _ => ?_) | refine O5 tok rfl rfl rfl (fun _ _ => ?_) | refine U0 _ (U2 rfl) rfl ?_ | refine U0 _ (U3 tok rfl rfl rfl rfl rfl) rfl ?_ | refine z3 tok rfl ?_ | refine U0 _ (U4 rfl rfl) rfl ?_ | refine U0 _ (U5 rfl rfl) rfl ?_) | (refine M1 ?_; first | refine J0 ?_ | refine J1 ?_ | refine J2 mixed rfl (by kernel_rfl) ?_ | refine J3 mixed rfl rfl (by kernel_rfl) ?_ | refine J4 ?_ | refine J5 ?_ | refine J6 ?_ | refine J7 ?_ | refine J8 rfl ?_ | refine J9 rfl ?_) | (refine M2 ?_; first | refine I0 ?_ | refine I1 ?_ | refine I2 ?_ | refine I3 ?_ | refine I4 ?_ | refine I5 ?_ | refine I6 rfl ?_ | refine I7 ?_ | refine I8 ?_ | refine z4 ?_) | (refine M3 ?_; first | refine O6 ?_ | refine z2 tok rfl ?_ | refine O8 rfl ?_ | refine O7 rfl ?_ rfl | refine O9 rfl ?_ rfl | refine U1 _ (Ev.call (f := 46) (vs := [.int .i64 t.high, .int .i64 (-20000), .int .i64 20000]) (ck rfl) rfl (fun w S => outP e6 w)) rfl ?_ | refine U1 _ (Ev.load_old tok rfl rfl (add_lt2 hlb) db) rfl ?_ | refine U1 _ (Ev.call (f := 46) (vs := [.int .i64 t.low, .int .i64 (t.b.row 0).level, .int .i64 t.high]) (ck rfl) rfl (fun w S => rnout_any _ _ _ w)) rfl ?_ | refine U1 _ (U4 rfl rfl) rfl ?_ | refine U1 _ (U5 rfl rfl) rfl ?_ | refine U1 _ (U2 rfl) rfl ?_ | refine U1 _ (U3 tok rfl rfl rfl rfl rfl) rfl ?_) | (refine M4 ?_; first | refine M6 ?_ | refine U6 rfl (by kernel_rfl) ?_ | refine U7 (by kernel_rfl) ?_) | (refine M5 ?_; first | exact M7 | refine U8 rfl ?_ | refine U9 rfl rfl ?_ ?_))
  refine XC.cond _ rfl (fun h8 => ?_) (fun h8 => ?_)
  · repeat (first | (refine M0 ?_; first | refine O0 ?_ | refine z1 tok rfl ?_ | refine O1 rfl ?_ rfl | refine O2 rfl ?_ | refine O3 rfl ?_ rfl | refine O4 rfl rfl rfl (fun _ _ => ?_) | refine O5 tok rfl rfl rfl (fun _ _ => ?_) | refine U0 _ (U2 rfl) rfl ?_ | refine U0 _ (U3 tok rfl rfl rfl rfl rfl) rfl ?_ | refine z3 tok rfl ?_ | refine U0 _ (U4 rfl rfl) rfl ?_ | refine U0 _ (U5 rfl rfl) rfl ?_) | (refine M1 ?_; first | refine J0 ?_ | refine J1 ?_ | refine J2 mixed rfl (by kernel_rfl) ?_ | refine J3 mixed rfl rfl (by kernel_rfl) ?_ | refine J4 ?_ | refine J5 ?_ | refine J6 ?_ | refine J7 ?_ | refine J8 rfl ?_ | refine J9 rfl ?_) | (refine M2 ?_; first | refine I0 ?_ | refine I1 ?_ | refine I2 ?_ | refine I3 ?_ | refine I4 ?_ | refine I5 ?_ | refine I6 rfl ?_ | refine I7 ?_ | refine I8 ?_ | refine z4 ?_) | (refine M3 ?_; first | refine O6 ?_ | refine z2 tok rfl ?_ | refine O8 rfl ?_ | refine O7 rfl ?_ rfl | refine O9 rfl ?_ rfl | refine U1 _ (U4 rfl rfl) rfl ?_ | refine U1 _ (U5 rfl rfl) rfl ?_ | refine U1 _ (U2 rfl) rfl ?_ | refine U1 _ (U3 tok rfl rfl rfl rfl rfl) rfl ?_) | (refine M4 ?_; first | refine M6 ?_ | refine U6 rfl (by kernel_rfl) ?_ | refine U7 (by kernel_rfl) ?_) | (refine M5 ?_; first | exact M7 | refine U8 rfl ?_ | refine U9 rfl rfl ?_ ?_))
    refine XE.retg tok Try.results17 rfl (by simp only [and_self, and_true]) (fun w' S => ?_)
    exact ⟨chkTV_of (chkT_6 hp4 h0 (by simp [h8])), S.toBelow⟩
  have h9 : (outB t.high (-20000) 20000 || outB t.low (t.b.row 0).level t.high) = false := by rw [e6, h8]; rfl
  repeat (first | (refine M0 ?_; first | refine O0 ?_ | refine z1 tok rfl ?_ | refine O1 rfl ?_ rfl | refine O2 rfl ?_ | refine O3 rfl ?_ rfl | refine O4 rfl rfl rfl (fun _ _ => ?_) | refine O5 tok rfl rfl rfl (fun _ _ => ?_) | refine U0 _ (U2 rfl) rfl ?_ | refine U0 _ (U3 tok rfl rfl rfl rfl rfl) rfl ?_ | refine z3 tok rfl ?_ | refine U0 _ (U4 rfl rfl) rfl ?_ | refine U0 _ (U5 rfl rfl) rfl ?_) | (refine M1 ?_; first | refine J0 ?_ | refine J1 ?_ | refine J2 mixed rfl (by kernel_rfl) ?_ | refine J3 mixed rfl rfl (by kernel_rfl) ?_ | refine J4 ?_ | refine J5 ?_ | refine J6 ?_ | refine J7 ?_ | refine J8 rfl ?_ | refine J9 rfl ?_) | (refine M2 ?_; first | refine I0 ?_ | refine I1 ?_ | refine I2 ?_ | refine I3 ?_ | refine I4 ?_ | refine I5 ?_ | refine I6 rfl ?_ | refine I7 ?_ | refine I8 ?_ | refine z4 ?_) | (refine M3 ?_; first | refine O6 ?_ | refine z2 tok rfl ?_ | refine O8 rfl ?_ | refine O7 rfl ?_ rfl | refine O9 rfl ?_ rfl | refine U1 _ (U4 rfl rfl) rfl ?_ | refine U1 _ (U5 rfl rfl) rfl ?_ | refine U1 _ (U2 rfl) rfl ?_ | refine U1 _ (U3 tok rfl rfl rfl rfl rfl) rfl ?_) | (refine M4 ?_; first | refine M6 ?_ | refine U6 rfl (by kernel_rfl) ?_ | refine U7 (by kernel_rfl) ?_) | (refine M5 ?_; first | exact M7 | refine U8 rfl ?_ | refine U9 rfl rfl ?_ ?_))
  refine XL.callF (DevsV t.devs) (vs := [.agg ⟨tskC ⟨⟨some ab, t.b.rows.length, cb, Ab2, nb2, cb2⟩, q, ⟨Ao, t.outer.length, co⟩, ⟨Ar, t.river.length, cr⟩, ⟨Ac, t.prices.length, cc⟩, su, pu, ⟨An, t.on.length, cn⟩⟩ t⟩]) (ck rfl) rfl rfl (Fam.start (ks := []) (Nat.le_refl w.heap.size)) (fun _ h => by cases h) (Below.refl w.heap.size w) (fun w1 S1 _ _ => devices_made (ht0.sys S1) hn) (fun w2 vd new hR hF2 hB2 hk2 => ?_)
  obtain ⟨⟨Ad, nd, cd⟩, rfl, rfl, hcap⟩ := hR
  have hF2 : Fam w2 w.heap.size [g1] [] [hList devK ⟨Ad, nd, cd⟩ t.devs] := hF2
  have hg1 : g1 < w2.heap.size := hk2 g1 (.head _)
  have hlsF : ListAt devK w2 (Free w2 w.heap.size [g1] []) ⟨Ad, nd, cd⟩ t.devs := hF2.held _ (.head _)
  have hnd := ListAt.len hlsF (by decide)
  simp only at hnd
  subst hnd
  have hls : ∀ (L : Lo) (w5 : World), Sys w.heap.size w2 L w5 → (∀ e, e ∈ L → e.1 ∈ [g1] ∨ w2.heap.size ≤ e.1) → ListAt devK w5 (Lt w5.heap.size) ⟨Ad, t.devs.length, cd⟩ t.devs := fun L w5 S5 hL => (Held.lt ((hF2.sys S5 hL).get (.head _)) : _)
  have hm := t.devs_len
  simp only [svV]
  repeat (first | (refine M0 ?_; first | refine O0 ?_ | refine z1 tok rfl ?_ | refine O1 rfl ?_ rfl | refine O2 rfl ?_ | refine O3 rfl ?_ rfl | refine U0 _ (Ev.call (f := 48) (ck rfl) rfl (fun w5 S5 => (kinds_any (hls _ w5 S5 (by intro e he; repeat (first | (cases he; done) | (rcases List.mem_cons.1 he with rfl | he; · first | (right; assumption) | (left; simp <;> fail))))) (by rw [hm]; unfold RTk.many; omega) :))) rfl ?_ | refine O4 rfl rfl rfl (fun _ _ => ?_) | refine O5 tok rfl rfl rfl (fun _ _ => ?_) | refine U0 _ (U2 rfl) rfl ?_ | refine U0 _ (U3 tok rfl rfl rfl rfl rfl) rfl ?_ | refine z3 tok rfl ?_ | refine U0 _ (U4 rfl rfl) rfl ?_ | refine U0 _ (U5 rfl rfl) rfl ?_) | (refine M1 ?_; first | refine J0 ?_ | refine J1 ?_ | refine J2 mixed rfl (by kernel_rfl) ?_ | refine J3 mixed rfl rfl (by kernel_rfl) ?_ | refine J4 ?_ | refine J5 ?_ | refine J6 ?_ | refine J7 ?_ | refine J8 rfl ?_ | refine J9 rfl ?_) | (refine M2 ?_; first | refine I0 ?_ | refine I1 ?_ | refine I2 ?_ | refine I3 ?_ | refine I4 ?_ | refine I5 ?_ | refine I6 rfl ?_ | refine I7 ?_ | refine I8 ?_ | refine z4 ?_) | (refine M3 ?_; first | refine O6 ?_ | refine z2 tok rfl ?_ | refine O8 rfl ?_ | refine O7 rfl ?_ rfl | refine O9 rfl ?_ rfl | refine U1 _ (Ev.call (f := 48) (ck rfl) rfl (fun w5 S5 => (kinds_any (hls _ w5 S5 (by intro e he; repeat (first | (cases he; done) | (rcases List.mem_cons.1 he with rfl | he; · first | (right; assumption) | (left; simp <;> fail))))) (by rw [hm]; unfold RTk.many; omega) :))) rfl ?_ | refine U1 _ (U4 rfl rfl) rfl ?_ | refine U1 _ (U5 rfl rfl) rfl ?_ | refine U1 _ (U2 rfl) rfl ?_ | refine U1 _ (U3 tok rfl rfl rfl rfl rfl) rfl ?_) | (refine M4 ?_; first | refine M6 ?_ | refine U6 rfl (by kernel_rfl) ?_ | refine U7 (by kernel_rfl) ?_) | (refine M5 ?_; first | exact M7 | refine U8 rfl ?_ | refine U9 rfl rfl ?_ ?_))
  rw [(count_devs t).1, (count_devs t).2]
  cases e7 : decide ((2 : Int) < (t.slu.length : Int)) with
  | true =>
    have e7' := of_decide_eq_true e7
    repeat (first | (refine M0 ?_; first | refine O0 ?_ | refine z1 tok rfl ?_ | refine O1 rfl ?_ rfl | refine O2 rfl ?_ | refine O3 rfl ?_ rfl | refine O4 rfl rfl rfl (fun _ _ => ?_) | refine O5 tok rfl rfl rfl (fun _ _ => ?_) | refine U0 _ (U2 rfl) rfl ?_ | refine U0 _ (U3 tok rfl rfl rfl rfl rfl) rfl ?_ | refine z3 tok rfl ?_ | refine U0 _ (U4 rfl rfl) rfl ?_ | refine U0 _ (U5 rfl rfl) rfl ?_) | (refine M1 ?_; first | refine J0 ?_ | refine J1 ?_ | refine J2 mixed rfl (by kernel_rfl) ?_ | refine J3 mixed rfl rfl (by kernel_rfl) ?_ | refine J4 ?_ | refine J5 ?_ | refine J6 ?_ | refine J7 ?_ | refine J8 rfl ?_ | refine J9 rfl ?_) | (refine M2 ?_; first | refine I0 ?_ | refine I1 ?_ | refine I2 ?_ | refine I3 ?_ | refine I4 ?_ | refine I5 ?_ | refine I6 rfl ?_ | refine I7 ?_ | refine I8 ?_ | refine z4 ?_) | (refine M3 ?_; first | refine O6 ?_ | refine z2 tok rfl ?_ | refine O8 rfl ?_ | refine O7 rfl ?_ rfl | refine O9 rfl ?_ rfl | refine U1 _ (U4 rfl rfl) rfl ?_ | refine U1 _ (U5 rfl rfl) rfl ?_ | refine U1 _ (U2 rfl) rfl ?_ | refine U1 _ (U3 tok rfl rfl rfl rfl rfl) rfl ?_) | (refine M4 ?_; first | refine M6 ?_ | refine U6 rfl (by kernel_rfl) ?_ | refine U7 (by kernel_rfl) ?_) | (refine M5 ?_; first | exact M7 | refine U8 rfl ?_ | refine U9 rfl rfl ?_ ?_))
    refine XE.retg tok Try.results17 rfl (by simp only [and_self, and_true]) (fun w' S => ?_)
    exact ⟨chkTV_of (chkT_7 hp4 h0 h9 (.inl (by omega))), hB2.trans S.toBelow⟩
  | false =>
  have e7' := of_decide_eq_false e7
  repeat (first | (refine M0 ?_; first | refine O0 ?_ | refine z1 tok rfl ?_ | refine O1 rfl ?_ rfl | refine O2 rfl ?_ | refine O3 rfl ?_ rfl | refine O4 rfl rfl rfl (fun _ _ => ?_) | refine O5 tok rfl rfl rfl (fun _ _ => ?_) | refine U0 _ (U2 rfl) rfl ?_ | refine U0 _ (U3 tok rfl rfl rfl rfl rfl) rfl ?_ | refine z3 tok rfl ?_ | refine U0 _ (U4 rfl rfl) rfl ?_ | refine U0 _ (U5 rfl rfl) rfl ?_) | (refine M1 ?_; first | refine J0 ?_ | refine J1 ?_ | refine J2 mixed rfl (by kernel_rfl) ?_ | refine J3 mixed rfl rfl (by kernel_rfl) ?_ | refine J4 ?_ | refine J5 ?_ | refine J6 ?_ | refine J7 ?_ | refine J8 rfl ?_ | refine J9 rfl ?_) | (refine M2 ?_; first | refine I0 ?_ | refine I1 ?_ | refine I2 ?_ | refine I3 ?_ | refine I4 ?_ | refine I5 ?_ | refine I6 rfl ?_ | refine I7 ?_ | refine I8 ?_ | refine z4 ?_) | (refine M3 ?_; first | refine O6 ?_ | refine z2 tok rfl ?_ | refine O8 rfl ?_ | refine O7 rfl ?_ rfl | refine O9 rfl ?_ rfl | refine U1 _ (U4 rfl rfl) rfl ?_ | refine U1 _ (U5 rfl rfl) rfl ?_ | refine U1 _ (U2 rfl) rfl ?_ | refine U1 _ (U3 tok rfl rfl rfl rfl rfl) rfl ?_) | (refine M4 ?_; first | refine M6 ?_ | refine U6 rfl (by kernel_rfl) ?_ | refine U7 (by kernel_rfl) ?_) | (refine M5 ?_; first | exact M7 | refine U8 rfl ?_ | refine U9 rfl rfl ?_ ?_))
  refine XC.cond _ rfl (fun h7 => ?_) (fun h7 => ?_)
  · repeat (first | (refine M0 ?_; first | refine O0 ?_ | refine z1 tok rfl ?_ | refine O1 rfl ?_ rfl | refine O2 rfl ?_ | refine O3 rfl ?_ rfl | refine O4 rfl rfl rfl (fun _ _ => ?_) | refine O5 tok rfl rfl rfl (fun _ _ => ?_) | refine U0 _ (U2 rfl) rfl ?_ | refine U0 _ (U3 tok rfl rfl rfl rfl rfl) rfl ?_ | refine z3 tok rfl ?_ | refine U0 _ (U4 rfl rfl) rfl ?_ | refine U0 _ (U5 rfl rfl) rfl ?_) | (refine M1 ?_; first | refine J0 ?_ | refine J1 ?_ | refine J2 mixed rfl (by kernel_rfl) ?_ | refine J3 mixed rfl rfl (by kernel_rfl) ?_ | refine J4 ?_ | refine J5 ?_ | refine J6 ?_ | refine J7 ?_ | refine J8 rfl ?_ | refine J9 rfl ?_) | (refine M2 ?_; first | refine I0 ?_ | refine I1 ?_ | refine I2 ?_ | refine I3 ?_ | refine I4 ?_ | refine I5 ?_ | refine I6 rfl ?_ | refine I7 ?_ | refine I8 ?_ | refine z4 ?_) | (refine M3 ?_; first | refine O6 ?_ | refine z2 tok rfl ?_ | refine O8 rfl ?_ | refine O7 rfl ?_ rfl | refine O9 rfl ?_ rfl | refine U1 _ (U4 rfl rfl) rfl ?_ | refine U1 _ (U5 rfl rfl) rfl ?_ | refine U1 _ (U2 rfl) rfl ?_ | refine U1 _ (U3 tok rfl rfl rfl rfl rfl) rfl ?_) | (refine M4 ?_; first | refine M6 ?_ | refine U6 rfl (by kernel_rfl) ?_ | refine U7 (by kernel_rfl) ?_) | (refine M5 ?_; first | exact M7 | refine U8 rfl ?_ | refine U9 rfl rfl ?_ ?_))
    refine XE.retg tok Try.results17 rfl (by simp only [and_self, and_true]) (fun w' S => ?_)
    exact ⟨chkTV_of (chkT_7 hp4 h0 h9 (.inr (by have := of_decide_eq_true h7; omega))), hB2.trans S.toBelow⟩
  have h22 : ¬ (2 < t.slu.length ∨ 2 < t.pmp.length) := by have := of_decide_eq_false h7; omega
  have hm4 : t.devs.length ≤ 4 := by rw [hm]; unfold RTk.many; omega
  repeat (first | (refine M0 ?_; first | refine O0 ?_ | refine z1 tok rfl ?_ | refine O1 rfl ?_ rfl | refine O2 rfl ?_ | refine O3 rfl ?_ rfl | refine O4 rfl rfl rfl (fun _ _ => ?_) | refine O5 tok rfl rfl rfl (fun _ _ => ?_) | refine U0 _ (U2 rfl) rfl ?_ | refine U0 _ (U3 tok rfl rfl rfl rfl rfl) rfl ?_ | refine z3 tok rfl ?_ | refine U0 _ (U4 rfl rfl) rfl ?_ | refine U0 _ (U5 rfl rfl) rfl ?_) | (refine M1 ?_; first | refine J0 ?_ | refine J1 ?_ | refine J2 mixed rfl (by kernel_rfl) ?_ | refine J3 mixed rfl rfl (by kernel_rfl) ?_ | refine J4 ?_ | refine J5 ?_ | refine J6 ?_ | refine J7 ?_ | refine J8 rfl ?_ | refine J9 rfl ?_) | (refine M2 ?_; first | refine I0 ?_ | refine I1 ?_ | refine I2 ?_ | refine I3 ?_ | refine I4 ?_ | refine I5 ?_ | refine I6 rfl ?_ | refine I7 ?_ | refine I8 ?_ | refine z4 ?_) | (refine M3 ?_; first | refine O6 ?_ | refine z2 tok rfl ?_ | refine O8 rfl ?_ | refine O7 rfl ?_ rfl | refine O9 rfl ?_ rfl | refine U1 _ (U4 rfl rfl) rfl ?_ | refine U1 _ (U5 rfl rfl) rfl ?_ | refine U1 _ (U2 rfl) rfl ?_ | refine U1 _ (U3 tok rfl rfl rfl rfl rfl) rfl ?_) | (refine M4 ?_; first | refine M6 ?_ | refine U6 rfl (by kernel_rfl) ?_ | refine U7 (by kernel_rfl) ?_) | (refine M5 ?_; first | exact M7 | refine U8 rfl ?_ | refine U9 rfl rfl ?_ ?_))
  refine XC.loopk [1, 8, 107, 108] rfl (fun k : Nat => [(109, .int .i64 (k : Nat))]) (fun _ => [(g1, _)]) (fun _ => w2) (fun k => k ≤ t.devs.length ∧ ∀ j, j < k → devErr t.devs j = 0) (fun k => t.devs.length - k) 0 ⟨Nat.zero_le _, fun j h => absurd h (by omega)⟩ (by repeat (first | exact Sub.nil | refine Sub.cons rfl ?_)) (fun _ h => h) ?_
  rintro k ⟨hk, hd0⟩
  dsimp only [List.cons_append, List.nil_append]
  repeat (first | (refine M0 ?_; first | refine O0 ?_ | refine z1 tok rfl ?_ | refine O1 rfl ?_ rfl | refine O2 rfl ?_ | refine O3 rfl ?_ rfl | refine O4 rfl rfl rfl (fun _ _ => ?_) | refine O5 tok rfl rfl rfl (fun _ _ => ?_) | refine U0 _ (U2 rfl) rfl ?_ | refine U0 _ (U3 tok rfl rfl rfl rfl rfl) rfl ?_ | refine z3 tok rfl ?_ | refine U0 _ (U4 rfl rfl) rfl ?_ | refine U0 _ (U5 rfl rfl) rfl ?_) | (refine M1 ?_; first | refine J0 ?_ | refine J1 ?_ | refine J2 mixed rfl (by kernel_rfl) ?_ | refine J3 mixed rfl rfl (by kernel_rfl) ?_ | refine J4 ?_ | refine J5 ?_ | refine J6 ?_ | refine J7 ?_ | refine J8 rfl ?_ | refine J9 rfl ?_) | (refine M2 ?_; first | refine I0 ?_ | refine I1 ?_ | refine I2 ?_ | refine I3 ?_ | refine I4 ?_ | refine I5 ?_ | refine I6 rfl ?_ | refine I7 ?_ | refine I8 ?_ | refine z4 ?_) | (refine M3 ?_; first | refine O6 ?_ | refine z2 tok rfl ?_ | refine O8 rfl ?_ | refine O7 rfl ?_ rfl | refine O9 rfl ?_ rfl | refine U1 _ (U4 rfl rfl) rfl ?_ | refine U1 _ (U5 rfl rfl) rfl ?_ | refine U1 _ (U2 rfl) rfl ?_ | refine U1 _ (U3 tok rfl rfl rfl rfl rfl) rfl ?_) | (refine M4 ?_; first | refine M6 ?_ | refine U6 rfl (by kernel_rfl) ?_ | refine U7 (by kernel_rfl) ?_) | (refine M5 ?_; first | exact M7 | refine U8 rfl ?_ | refine U9 rfl rfl ?_ ?_))
  refine XC.cond _ rfl (fun h10 => ?_) (fun h10 => ?_)
  · have hkn : k < t.devs.length := by simpa using h10
    obtain ⟨ad, rfl, hfl⟩ := ListAt.addr hlsF (by decide) (by omega)
    have hdk : t.devs[k]? = some t.devs[k] := List.getElem?_eq_getElem hkn
    have hc0 := ListAt.elem hlsF hdk 0 (devV t.devs[k]) rfl
    rw [add_add, Nat.add_zero] at hc0
    have hc : w2.cell? (ad.add (k * 1)) = some (devV t.devs[k]) := hc0
    have hnm := hnam t.devs[k] (List.getElem_mem hkn)
    have hta := take_any hkn
    have hgd : t.devs[k]?.getD d0 = t.devs[k] := by rw [hdk]; rfl
    have hcapk : k ≤ cd := by have := hcap (by omega); simp only at this; omega
    obtain ⟨d, hd⟩ : ∃ d, d = t.devs[k] := ⟨_, rfl⟩
    rw [← hd] at hc hnm hta hgd
    have hblk : ad.block < w2.heap.size := hfl.2.1
    have hne1 : ad.block ≠ g1 := fun e => hfl.2.2.1 (by rw [e]; exact .head _)
    obtain ⟨f1, m1, k1, c1⟩ := dev_name d
    obtain ⟨f2, m2, k2, c2⟩ := dev_wild d
    have e6 : nameB d.name = false → devErr t.devs k = 6 := fun h => devErr_6 (by rw [hgd]; exact h)
    repeat (first | (refine M0 ?_; first | refine O0 ?_ | refine z1 tok rfl ?_ | refine O1 rfl ?_ rfl | refine O2 rfl ?_ | refine O3 rfl ?_ rfl | refine U0 _ (Ev.load_far tok rfl rfl (add_lt hblk) (Free.far hfl (by intro e he; left; rw [List.mem_singleton.1 he]; exact .head _)) hc) rfl ?_ | refine O4 rfl rfl rfl (fun _ _ => ?_) | refine O5 tok rfl rfl rfl (fun _ _ => ?_) | refine U0 _ (U2 rfl) rfl ?_ | refine U0 _ (U3 tok rfl rfl rfl rfl rfl) rfl ?_ | refine z3 tok rfl ?_ | refine U0 _ (U4 rfl rfl) rfl ?_ | refine U0 _ (U5 rfl rfl) rfl ?_) | (refine M1 ?_; first | refine J0 ?_ | refine J1 ?_ | refine J2 mixed rfl (by kernel_rfl) ?_ | refine J3 mixed rfl rfl (by kernel_rfl) ?_ | refine J4 ?_ | refine J5 ?_ | refine J6 ?_ | refine J7 ?_ | refine J8 rfl ?_ | refine J9 rfl ?_) | (refine M2 ?_; first | refine I0 ?_ | refine I1 ?_ | refine I2 ?_ | refine I3 ?_ | refine I4 ?_ | refine I5 ?_ | refine I6 rfl ?_ | refine I7 ?_ | refine I8 ?_ | refine z4 ?_) | (refine M3 ?_; first | refine O6 ?_ | refine z2 tok rfl ?_ | refine O8 rfl ?_ | refine O7 rfl ?_ rfl | refine O9 rfl ?_ rfl | refine U1 _ (Ev.load_far tok rfl rfl (add_lt hblk) (Free.far hfl (by intro e he; left; rw [List.mem_singleton.1 he]; exact .head _)) hc) rfl ?_ | refine U1 _ (U4 rfl rfl) rfl ?_ | refine U1 _ (U5 rfl rfl) rfl ?_ | refine U1 _ (U2 rfl) rfl ?_ | refine U1 _ (U3 tok rfl rfl rfl rfl rfl) rfl ?_) | (refine M4 ?_; first | refine M6 ?_ | refine U6 rfl (by kernel_rfl) ?_ | refine U7 (by kernel_rfl) ?_) | (refine M5 ?_; first | exact M7 | refine U8 rfl ?_ | refine U9 rfl rfl ?_ ?_))
    rename_i g12 hg12
    have hL12 : ∀ (o o2 : Obj) (e : Nat × Obj), e ∈ [(g12, o), (g1, o2)] → e.1 ∈ [g1] ∨ w2.heap.size ≤ e.1 := fun o o2 e he => by
      rcases List.mem_cons.1 he with rfl | he
      · exact .inr hg12
      · rw [List.mem_singleton.1 he]; exact .inl (.head _)
    cases e8 : nameB d.name with
    | false =>
      have ncall := fun (w : World) => (name_any d.name hnm w)
      rw [e8] at ncall
      repeat (first | (refine M0 ?_; first | refine O0 ?_ | refine z1 tok rfl ?_ | refine O1 rfl ?_ rfl | refine O2 rfl ?_ | refine O3 rfl ?_ rfl | refine U0 _ (Ev.invoke (t := d.ty) (v := .agg ⟨d.c⟩) m1 k1 rfl rfl (fun w S => c1 w)) rfl ?_ | refine U0 _ (Ev.call (f := 49) (ck rfl) rfl (fun w _ => ncall w)) rfl ?_ | refine O4 rfl rfl rfl (fun _ _ => ?_) | refine O5 tok rfl rfl rfl (fun _ _ => ?_) | refine U0 _ (U2 rfl) rfl ?_ | refine U0 _ (U3 tok rfl rfl rfl rfl rfl) rfl ?_ | refine z3 tok rfl ?_ | refine U0 _ (U4 rfl rfl) rfl ?_ | refine U0 _ (U5 rfl rfl) rfl ?_) | (refine M1 ?_; first | refine J0 ?_ | refine J1 ?_ | refine J2 mixed rfl (by kernel_rfl) ?_ | refine J3 mixed rfl rfl (by kernel_rfl) ?_ | refine J4 ?_ | refine J5 ?_ | refine J6 ?_ | refine J7 ?_ | refine J8 rfl ?_ | refine J9 rfl ?_) | (refine M2 ?_; first | refine I0 ?_ | refine I1 ?_ | refine I2 ?_ | refine I3 ?_ | refine I4 ?_ | refine I5 ?_ | refine I6 rfl ?_ | refine I7 ?_ | refine I8 ?_ | refine z4 ?_) | (refine M3 ?_; first | refine O6 ?_ | refine z2 tok rfl ?_ | refine O8 rfl ?_ | refine O7 rfl ?_ rfl | refine O9 rfl ?_ rfl | refine U1 _ (Ev.invoke (t := d.ty) (v := .agg ⟨d.c⟩) m1 k1 rfl rfl (fun w S => c1 w)) rfl ?_ | refine U1 _ (Ev.call (f := 49) (ck rfl) rfl (fun w _ => ncall w)) rfl ?_ | refine U1 _ (U4 rfl rfl) rfl ?_ | refine U1 _ (U5 rfl rfl) rfl ?_ | refine U1 _ (U2 rfl) rfl ?_ | refine U1 _ (U3 tok rfl rfl rfl rfl rfl) rfl ?_) | (refine M4 ?_; first | refine M6 ?_ | refine U6 rfl (by kernel_rfl) ?_ | refine U7 (by kernel_rfl) ?_) | (refine M5 ?_; first | exact M7 | refine U8 rfl ?_ | refine U9 rfl rfl ?_ ?_))
      refine XE.retg tok Try.results17 rfl (by simp only [and_self, and_true]) (fun w' S => ?_)
      exact ⟨chkTV_of (chkT_8 hp4 h0 h9 h22 hkn hd0 (devErr_6 (by rw [hgd]; exact e8)) (by decide)), hB2.trans S.toBelow⟩
    | true =>
    have ncall := fun (w : World) => (name_any d.name hnm w)
    rw [e8] at ncall
    repeat (first | (refine M0 ?_; first | refine O0 ?_ | refine z1 tok rfl ?_ | refine O1 rfl ?_ rfl | refine O2 rfl ?_ | refine O3 rfl ?_ rfl | refine U0 _ (Ev.invoke (t := d.ty) (v := .agg ⟨d.c⟩) m1 k1 rfl rfl (fun w S => c1 w)) rfl ?_ | refine U0 _ (Ev.call (f := 49) (ck rfl) rfl (fun w _ => ncall w)) rfl ?_ | refine U0 _ (Ev.slice_hi tok k rfl rfl rfl rfl hcapk) rfl ?_ | refine U0 _ (Ev.makeFunc rfl rfl) rfl ?_ | refine O4 rfl rfl rfl (fun _ _ => ?_) | refine O5 tok rfl rfl rfl (fun _ _ => ?_) | refine U0 _ (U2 rfl) rfl ?_ | refine U0 _ (U3 tok rfl rfl rfl rfl rfl) rfl ?_ | refine z3 tok rfl ?_ | refine U0 _ (U4 rfl rfl) rfl ?_ | refine U0 _ (U5 rfl rfl) rfl ?_) | (refine M1 ?_; first | refine J0 ?_ | refine J1 ?_ | refine J2 mixed rfl (by kernel_rfl) ?_ | refine J3 mixed rfl rfl (by kernel_rfl) ?_ | refine J4 ?_ | refine J5 ?_ | refine J6 ?_ | refine J7 ?_ | refine J8 rfl ?_ | refine J9 rfl ?_) | (refine M2 ?_; first | refine I0 ?_ | refine I1 ?_ | refine I2 ?_ | refine I3 ?_ | refine I4 ?_ | refine I5 ?_ | refine I6 rfl ?_ | refine I7 ?_ | refine I8 ?_ | refine z4 ?_) | (refine M3 ?_; first | refine O6 ?_ | refine z2 tok rfl ?_ | refine O8 rfl ?_ | refine O7 rfl ?_ rfl | refine O9 rfl ?_ rfl | refine U1 _ (Ev.invoke (t := d.ty) (v := .agg ⟨d.c⟩) m1 k1 rfl rfl (fun w S => c1 w)) rfl ?_ | refine U1 _ (Ev.call (f := 49) (ck rfl) rfl (fun w _ => ncall w)) rfl ?_ | refine U1 _ (Ev.slice_hi tok k rfl rfl rfl rfl hcapk) rfl ?_ | refine U1 _ (Ev.makeFunc rfl rfl) rfl ?_ | refine U1 _ (U4 rfl rfl) rfl ?_ | refine U1 _ (U5 rfl rfl) rfl ?_ | refine U1 _ (U2 rfl) rfl ?_ | refine U1 _ (U3 tok rfl rfl rfl rfl rfl) rfl ?_) | (refine M4 ?_; first | refine M6 ?_ | refine U6 rfl (by kernel_rfl) ?_ | refine U7 (by kernel_rfl) ?_) | (refine M5 ?_; first | exact M7 | refine U8 rfl ?_ | refine U9 rfl rfl ?_ ?_))
    refine XL.step _ (Ev.call (f := 50) (ck rfl) rfl (fun w5 S5 => (contDev (f := 51) (cap := [.pointer (some ⟨g12, 0, none⟩)]) (P := fun c => decide (c.name = d.name)) (r := ⟨some ad, k, cd⟩) (ms := t.devs.take k) (ck rfl) ((hls _ w5 S5 (hL12 _ _)).take (by omega) (by decide)) (by rw [List.length_take]; omega) (fun m _ w' hb => rncheck1_any (g := g12) (c := m) (d := d) ((hb.block g12 (S5.lt (e := (g12, _)) (.head _))).trans (S5.own (g12, _) (.head _)).2)) :))) rfl ?_
    repeat (first | (refine M0 ?_; first | refine O0 ?_ | refine z1 tok rfl ?_ | refine O1 rfl ?_ rfl | refine O2 rfl ?_ | refine O3 rfl ?_ rfl | refine O4 rfl rfl rfl (fun _ _ => ?_) | refine O5 tok rfl rfl rfl (fun _ _ => ?_) | refine U0 _ (U2 rfl) rfl ?_ | refine U0 _ (U3 tok rfl rfl rfl rfl rfl) rfl ?_ | refine z3 tok rfl ?_ | refine U0 _ (U4 rfl rfl) rfl ?_ | refine U0 _ (U5 rfl rfl) rfl ?_) | (refine M1 ?_; first | refine J0 ?_ | refine J1 ?_ | refine J2 mixed rfl (by kernel_rfl) ?_ | refine J3 mixed rfl rfl (by kernel_rfl) ?_ | refine J4 ?_ | refine J5 ?_ | refine J6 ?_ | refine J7 ?_ | refine J8 rfl ?_ | refine J9 rfl ?_) | (refine M2 ?_; first | refine I0 ?_ | refine I1 ?_ | refine I2 ?_ | refine I3 ?_ | refine I4 ?_ | refine I5 ?_ | refine I6 rfl ?_ | refine I7 ?_ | refine I8 ?_ | refine z4 ?_) | (refine M3 ?_; first | refine O6 ?_ | refine z2 tok rfl ?_ | refine O8 rfl ?_ | refine O7 rfl ?_ rfl | refine O9 rfl ?_ rfl | refine U1 _ (U4 rfl rfl) rfl ?_ | refine U1 _ (U5 rfl rfl) rfl ?_ | refine U1 _ (U2 rfl) rfl ?_ | refine U1 _ (U3 tok rfl rfl rfl rfl rfl) rfl ?_) | (refine M4 ?_; first | refine M6 ?_ | refine U6 rfl (by kernel_rfl) ?_ | refine U7 (by kernel_rfl) ?_) | (refine M5 ?_; first | exact M7 | refine U8 rfl ?_ | refine U9 rfl rfl ?_ ?_))
    refine XC.cond _ rfl (fun h11 => ?_) (fun h11 => ?_)
    · obtain ⟨k3, hk3, hnn⟩ := hta.1 h11
      repeat (first | (refine M0 ?_; first | refine O0 ?_ | refine z1 tok rfl ?_ | refine O1 rfl ?_ rfl | refine O2 rfl ?_ | refine O3 rfl ?_ rfl | refine O4 rfl rfl rfl (fun _ _ => ?_) | refine O5 tok rfl rfl rfl (fun _ _ => ?_) | refine U0 _ (U2 rfl) rfl ?_ | refine U0 _ (U3 tok rfl rfl rfl rfl rfl) rfl ?_ | refine z3 tok rfl ?_ | refine U0 _ (U4 rfl rfl) rfl ?_ | refine U0 _ (U5 rfl rfl) rfl ?_) | (refine M1 ?_; first | refine J0 ?_ | refine J1 ?_ | refine J2 mixed rfl (by kernel_rfl) ?_ | refine J3 mixed rfl rfl (by kernel_rfl) ?_ | refine J4 ?_ | refine J5 ?_ | refine J6 ?_ | refine J7 ?_ | refine J8 rfl ?_ | refine J9 rfl ?_) | (refine M2 ?_; first | refine I0 ?_ | refine I1 ?_ | refine I2 ?_ | refine I3 ?_ | refine I4 ?_ | refine I5 ?_ | refine I6 rfl ?_ | refine I7 ?_ | refine I8 ?_ | refine z4 ?_) | (refine M3 ?_; first | refine O6 ?_ | refine z2 tok rfl ?_ | refine O8 rfl ?_ | refine O7 rfl ?_ rfl | refine O9 rfl ?_ rfl | refine U1 _ (U4 rfl rfl) rfl ?_ | refine U1 _ (U5 rfl rfl) rfl ?_ | refine U1 _ (U2 rfl) rfl ?_ | refine U1 _ (U3 tok rfl rfl rfl rfl rfl) rfl ?_) | (refine M4 ?_; first | refine M6 ?_ | refine U6 rfl (by kernel_rfl) ?_ | refine U7 (by kernel_rfl) ?_) | (refine M5 ?_; first | exact M7 | refine U8 rfl ?_ | refine U9 rfl rfl ?_ ?_))
      refine XE.retg tok Try.results17 rfl (by simp only [and_self, and_true]) (fun w' S => ?_)
      exact ⟨chkTV_of (chkT_8 hp4 h0 h9 h22 hkn hd0 (devErr_5 (by rw [hgd]; exact e8) k3 hk3 hnn) (by decide)), hB2.trans S.toBelow⟩
    have hno : ∀ k3, k3 < k → (t.devs[k3]?.getD d0).name ≠ (t.devs[k]?.getD d0).name := fun k3 hk3 hnn => by
      have := hta.2 ⟨k3, hk3, hnn⟩
      rw [this] at h11
      cases h11
    repeat (first | (refine M0 ?_; first | refine O0 ?_ | refine z1 tok rfl ?_ | refine O1 rfl ?_ rfl | refine O2 rfl ?_ | refine O3 rfl ?_ rfl | refine U0 _ (Ev.invoke (t := d.ty) (v := .agg ⟨d.c⟩) m2 k2 rfl rfl (fun w S => c2 w)) rfl ?_ | refine O4 rfl rfl rfl (fun _ _ => ?_) | refine O5 tok rfl rfl rfl (fun _ _ => ?_) | refine U0 _ (U2 rfl) rfl ?_ | refine U0 _ (U3 tok rfl rfl rfl rfl rfl) rfl ?_ | refine z3 tok rfl ?_ | refine U0 _ (U4 rfl rfl) rfl ?_ | refine U0 _ (U5 rfl rfl) rfl ?_) | (refine M1 ?_; first | refine J0 ?_ | refine J1 ?_ | refine J2 mixed rfl (by kernel_rfl) ?_ | refine J3 mixed rfl rfl (by kernel_rfl) ?_ | refine J4 ?_ | refine J5 ?_ | refine J6 ?_ | refine J7 ?_ | refine J8 rfl ?_ | refine J9 rfl ?_) | (refine M2 ?_; first | refine I0 ?_ | refine I1 ?_ | refine I2 ?_ | refine I3 ?_ | refine I4 ?_ | refine I5 ?_ | refine I6 rfl ?_ | refine I7 ?_ | refine I8 ?_ | refine z4 ?_) | (refine M3 ?_; first | refine O6 ?_ | refine z2 tok rfl ?_ | refine O8 rfl ?_ | refine O7 rfl ?_ rfl | refine O9 rfl ?_ rfl | refine U1 _ (Ev.invoke (t := d.ty) (v := .agg ⟨d.c⟩) m2 k2 rfl rfl (fun w S => c2 w)) rfl ?_ | refine U1 _ (U4 rfl rfl) rfl ?_ | refine U1 _ (U5 rfl rfl) rfl ?_ | refine U1 _ (U2 rfl) rfl ?_ | refine U1 _ (U3 tok rfl rfl rfl rfl rfl) rfl ?_) | (refine M4 ?_; first | refine M6 ?_ | refine U6 rfl (by kernel_rfl) ?_ | refine U7 (by kernel_rfl) ?_) | (refine M5 ?_; first | exact M7 | refine U8 rfl ?_ | refine U9 rfl rfl ?_ ?_))
    refine XC.cond _ rfl (fun h12 => ?_) (fun h12 => ?_)
    · repeat (first | (refine M0 ?_; first | refine O0 ?_ | refine z1 tok rfl ?_ | refine O1 rfl ?_ rfl | refine O2 rfl ?_ | refine O3 rfl ?_ rfl | refine O4 rfl rfl rfl (fun _ _ => ?_) | refine O5 tok rfl rfl rfl (fun _ _ => ?_) | refine U0 _ (U2 rfl) rfl ?_ | refine U0 _ (U3 tok rfl rfl rfl rfl rfl) rfl ?_ | refine z3 tok rfl ?_ | refine U0 _ (U4 rfl rfl) rfl ?_ | refine U0 _ (U5 rfl rfl) rfl ?_) | (refine M1 ?_; first | refine J0 ?_ | refine J1 ?_ | refine J2 mixed rfl (by kernel_rfl) ?_ | refine J3 mixed rfl rfl (by kernel_rfl) ?_ | refine J4 ?_ | refine J5 ?_ | refine J6 ?_ | refine J7 ?_ | refine J8 rfl ?_ | refine J9 rfl ?_) | (refine M2 ?_; first | refine I0 ?_ | refine I1 ?_ | refine I2 ?_ | refine I3 ?_ | refine I4 ?_ | refine I5 ?_ | refine I6 rfl ?_ | refine I7 ?_ | refine I8 ?_ | refine z4 ?_) | (refine M3 ?_; first | refine O6 ?_ | refine z2 tok rfl ?_ | refine O8 rfl ?_ | refine O7 rfl ?_ rfl | refine O9 rfl ?_ rfl | refine U1 _ (U4 rfl rfl) rfl ?_ | refine U1 _ (U5 rfl rfl) rfl ?_ | refine U1 _ (U2 rfl) rfl ?_ | refine U1 _ (U3 tok rfl rfl rfl rfl rfl) rfl ?_) | (refine M4 ?_; first | refine M6 ?_ | refine U6 rfl (by kernel_rfl) ?_ | refine U7 (by kernel_rfl) ?_) | (refine M5 ?_; first | exact M7 | refine U8 rfl ?_ | refine U9 rfl rfl ?_ ?_))
      refine XE.retg tok Try.results17 rfl (by simp only [and_self, and_true]) (fun w' S => ?_)
      exact ⟨chkTV_of (chkT_8 hp4 h0 h9 h22 hkn hd0 (devErr_7 (by rw [hgd]; exact e8) hno (by rw [hgd]; exact h12)) (by decide)), hB2.trans S.toBelow⟩
    repeat (first | (refine M0 ?_; first | refine O0 ?_ | refine z1 tok rfl ?_ | refine O1 rfl ?_ rfl | refine O2 rfl ?_ | refine O3 rfl ?_ rfl | refine O4 rfl rfl rfl (fun _ _ => ?_) | refine O5 tok rfl rfl rfl (fun _ _ => ?_) | refine U0 _ (U2 rfl) rfl ?_ | refine U0 _ (U3 tok rfl rfl rfl rfl rfl) rfl ?_ | refine z3 tok rfl ?_ | refine U0 _ (U4 rfl rfl) rfl ?_ | refine U0 _ (U5 rfl rfl) rfl ?_) | (refine M1 ?_; first | refine J0 ?_ | refine J1 ?_ | refine J2 mixed rfl (by kernel_rfl) ?_ | refine J3 mixed rfl rfl (by kernel_rfl) ?_ | refine J4 ?_ | refine J5 ?_ | refine J6 ?_ | refine J7 ?_ | refine J8 rfl ?_ | refine J9 rfl ?_) | (refine M2 ?_; first | refine I0 ?_ | refine I1 ?_ | refine I2 ?_ | refine I3 ?_ | refine I4 ?_ | refine I5 ?_ | refine I6 rfl ?_ | refine I7 ?_ | refine I8 ?_ | refine z4 ?_) | (refine M3 ?_; first | refine O6 ?_ | refine z2 tok rfl ?_ | refine O8 rfl ?_ | refine O7 rfl ?_ rfl | refine O9 rfl ?_ rfl | refine U1 _ (U4 rfl rfl) rfl ?_ | refine U1 _ (U5 rfl rfl) rfl ?_ | refine U1 _ (U2 rfl) rfl ?_ | refine U1 _ (U3 tok rfl rfl rfl rfl rfl) rfl ?_) | (refine M4 ?_; first | refine M6 ?_ | refine U6 rfl (by kernel_rfl) ?_ | refine U7 (by kernel_rfl) ?_) | (refine M5 ?_; first | exact M7 | refine U8 rfl ?_ | refine U9 rfl rfl ?_ ?_))
    refine XE.round (k + 1) ⟨hkn, fun j hj => ?_⟩ (by omega) (by repeat (first | exact Sub.nil | refine Sub.cons rfl ?_)) (fun _ h => h.pop hg12)
    by_cases e : j = k
    · subst e; exact devErr_0 (by rw [hgd]; exact e8) hno (by rw [hgd]; exact h12)
    · exact hd0 j (by omega)
  have hkn : k = t.devs.length := by have : ¬ (k < t.devs.length) := by simpa using h10
                                     omega
  subst hkn
  repeat (first | (refine M0 ?_; first | refine O0 ?_ | refine z1 tok rfl ?_ | refine O1 rfl ?_ rfl | refine O2 rfl ?_ | refine O3 rfl ?_ rfl | refine O4 rfl rfl rfl (fun _ _ => ?_) | refine O5 tok rfl rfl rfl (fun _ _ => ?_) | refine U0 _ (U2 rfl) rfl ?_ | refine U0 _ (U3 tok rfl rfl rfl rfl rfl) rfl ?_ | refine z3 tok rfl ?_ | refine U0 _ (U4 rfl rfl) rfl ?_ | refine U0 _ (U5 rfl rfl) rfl ?_) | (refine M1 ?_; first | refine J0 ?_ | refine J1 ?_ | refine J2 mixed rfl (by kernel_rfl) ?_ | refine J3 mixed rfl rfl (by kernel_rfl) ?_ | refine J4 ?_ | refine J5 ?_ | refine J6 ?_ | refine J7 ?_ | refine J8 rfl ?_ | refine J9 rfl ?_) | (refine M2 ?_; first | refine I0 ?_ | refine I1 ?_ | refine I2 ?_ | refine I3 ?_ | refine I4 ?_ | refine I5 ?_ | refine I6 rfl ?_ | refine I7 ?_ | refine I8 ?_ | refine z4 ?_) | (refine M3 ?_; first | refine O6 ?_ | refine z2 tok rfl ?_ | refine O8 rfl ?_ | refine O7 rfl ?_ rfl | refine O9 rfl ?_ rfl | refine U1 _ (U4 rfl rfl) rfl ?_ | refine U1 _ (U5 rfl rfl) rfl ?_ | refine U1 _ (U2 rfl) rfl ?_ | refine U1 _ (U3 tok rfl rfl rfl rfl rfl) rfl ?_) | (refine M4 ?_; first | refine M6 ?_ | refine U6 rfl (by kernel_rfl) ?_ | refine U7 (by kernel_rfl) ?_) | (refine M5 ?_; first | exact M7 | refine U8 rfl ?_ | refine U9 rfl rfl ?_ ?_))
  refine XC.cond _ rfl (fun h11 => ?_) (fun h11 => ?_)
  · repeat (first | (refine M0 ?_; first | refine O0 ?_ | refine z1 tok rfl ?_ | refine O1 rfl ?_ rfl | refine O2 rfl ?_ | refine O3 rfl ?_ rfl | refine O4 rfl rfl rfl (fun _ _ => ?_) | refine O5 tok rfl rfl rfl (fun _ _ => ?_) | refine U0 _ (U2 rfl) rfl ?_ | refine U0 _ (U3 tok rfl rfl rfl rfl rfl) rfl ?_ | refine z3 tok rfl ?_ | refine U0 _ (U4 rfl rfl) rfl ?_ | refine U0 _ (U5 rfl rfl) rfl ?_) | (refine M1 ?_; first | refine J0 ?_ | refine J1 ?_ | refine J2 mixed rfl (by kernel_rfl) ?_ | refine J3 mixed rfl rfl (by kernel_rfl) ?_ | refine J4 ?_ | refine J5 ?_ | refine J6 ?_ | refine J7 ?_ | refine J8 rfl ?_ | refine J9 rfl ?_) | (refine M2 ?_; first | refine I0 ?_ | refine I1 ?_ | refine I2 ?_ | refine I3 ?_ | refine I4 ?_ | refine I5 ?_ | refine I6 rfl ?_ | refine I7 ?_ | refine I8 ?_ | refine z4 ?_) | (refine M3 ?_; first | refine O6 ?_ | refine z2 tok rfl ?_ | refine O8 rfl ?_ | refine O7 rfl ?_ rfl | refine O9 rfl ?_ rfl | refine U1 _ (U4 rfl rfl) rfl ?_ | refine U1 _ (U5 rfl rfl) rfl ?_ | refine U1 _ (U2 rfl) rfl ?_ | refine U1 _ (U3 tok rfl rfl rfl rfl rfl) rfl ?_) | (refine M4 ?_; first | refine M6 ?_ | refine U6 rfl (by kernel_rfl) ?_ | refine U7 (by kernel_rfl) ?_) | (refine M5 ?_; first | exact M7 | refine U8 rfl ?_ | refine U9 rfl rfl ?_ ?_))
    refine XE.retg tok Try.results17 rfl (by simp only [and_self, and_true]) (fun w' S => ?_)
    exact ⟨chkTV_of (chkT_9 hp4 h0 h9 h22 hd0 (by have := of_decide_eq_true h11; omega)), hB2.trans S.toBelow⟩
  · repeat (first | (refine M0 ?_; first | refine O0 ?_ | refine z1 tok rfl ?_ | refine O1 rfl ?_ rfl | refine O2 rfl ?_ | refine O3 rfl ?_ rfl | refine O4 rfl rfl rfl (fun _ _ => ?_) | refine O5 tok rfl rfl rfl (fun _ _ => ?_) | refine U0 _ (U2 rfl) rfl ?_ | refine U0 _ (U3 tok rfl rfl rfl rfl rfl) rfl ?_ | refine z3 tok rfl ?_ | refine U0 _ (U4 rfl rfl) rfl ?_ | refine U0 _ (U5 rfl rfl) rfl ?_) | (refine M1 ?_; first | refine J0 ?_ | refine J1 ?_ | refine J2 mixed rfl (by kernel_rfl) ?_ | refine J3 mixed rfl rfl (by kernel_rfl) ?_ | refine J4 ?_ | refine J5 ?_ | refine J6 ?_ | refine J7 ?_ | refine J8 rfl ?_ | refine J9 rfl ?_) | (refine M2 ?_; first | refine I0 ?_ | refine I1 ?_ | refine I2 ?_ | refine I3 ?_ | refine I4 ?_ | refine I5 ?_ | refine I6 rfl ?_ | refine I7 ?_ | refine I8 ?_ | refine z4 ?_) | (refine M3 ?_; first | refine O6 ?_ | refine z2 tok rfl ?_ | refine O8 rfl ?_ | refine O7 rfl ?_ rfl | refine O9 rfl ?_ rfl | refine U1 _ (U4 rfl rfl) rfl ?_ | refine U1 _ (U5 rfl rfl) rfl ?_ | refine U1 _ (U2 rfl) rfl ?_ | refine U1 _ (U3 tok rfl rfl rfl rfl rfl) rfl ?_) | (refine M4 ?_; first | refine M6 ?_ | refine U6 rfl (by kernel_rfl) ?_ | refine U7 (by kernel_rfl) ?_) | (refine M5 ?_; first | exact M7 | refine U8 rfl ?_ | refine U9 rfl rfl ?_ ?_))
    refine XE.retg tok Try.results17 rfl (by simp only [and_self, and_true]) (fun w' S => ?_)
    exact ⟨chkTV_of (chkT_0 hp4 h0 h9 h22 hd0 (by have := of_decide_eq_false h11; omega)), hB2.trans S.toBelow⟩
end Go.Proofs.Ytmodjcegmgjhoaa.X
