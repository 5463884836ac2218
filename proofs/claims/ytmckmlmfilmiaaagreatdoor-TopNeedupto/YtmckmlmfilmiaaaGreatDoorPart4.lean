/-
  The plain law of layer 7 (runoff): the choices in order; the first one of the cheapest plans.
-/
import Derived.Test.YtmckmlmfilmiaaaGreatDoorPart3
import Derived.Test.YtmckmlmfilmiaaaGreatDoorPart2
import Derived.KernelRfl
set_option linter.unusedVariables false
set_option linter.unusedSimpArgs false
namespace Go.Proofs.YtmckmlmfilmiaaaGreatDoor.Bs
open Go Go.Proofs.YtmckmlmfilmiaaaGreatDoor.X
set_option linter.unusedVariables false
/-! ### the choices -/
theorem chc_len (m i : Nat) : (chc m i).length = m := by simp [chc]
theorem chc_at {m i j : Nat} (h : j < m) : (chc m i)[j]? = some (i.testBit (m - 1 - j)) := by simp [chc, h]
theorem chc_0 {m r : Nat} (hr : r < 2 ^ m) : chc (m + 1) r = false :: chc m r := by
  apply List.ext_getElem?
  intro j
  cases j with
  | zero =>
    rw [chc_at (by omega)]
    simp only [List.getElem?_cons_zero, Option.some.injEq]
    exact Nat.testBit_lt_two_pow (by simpa using hr)
  | succ j =>
    simp only [List.getElem?_cons_succ]
    rcases Nat.lt_or_ge j m with h | h
    · rw [chc_at (by omega), chc_at h]
      congr 2; omega
    · rw [List.getElem?_eq_none (by rw [chc_len]; omega), List.getElem?_eq_none (by rw [chc_len]; omega)]
theorem chc_1 {m r : Nat} (hr : r < 2 ^ m) : chc (m + 1) (2 ^ m + r) = true :: chc m r := by
  apply List.ext_getElem?
  intro j
  cases j with
  | zero =>
    rw [chc_at (by omega)]
    simp only [List.getElem?_cons_zero, Option.some.injEq, Nat.add_sub_cancel, Nat.sub_zero]
    rw [Nat.testBit_two_pow_add_eq, Nat.testBit_lt_two_pow hr]; rfl
  | succ j =>
    simp only [List.getElem?_cons_succ]
    rcases Nat.lt_or_ge j m with h | h
    · rw [chc_at (by omega), chc_at h, Nat.testBit_two_pow_add_gt (by omega)]
      congr 2; omega
    · rw [List.getElem?_eq_none (by rw [chc_len]; omega), List.getElem?_eq_none (by rw [chc_len]; omega)]
/-- every list of this length is a choice. -/
theorem chc_all : ∀ {m : Nat} {l : List Bool}, l.length = m → ∃ i, i < 2 ^ m ∧ chc m i = l := by
  intro m
  induction m with
  | zero => intro l h; exact ⟨0, by simp, by rw [List.length_eq_zero_iff.1 h]; rfl⟩
  | succ m ih =>
    intro l h
    cases l with
    | nil => cases h
    | cons b l =>
      obtain ⟨r, hr, e⟩ := ih (l := l) (by simpa using h)
      cases b with
      | false => exact ⟨r, by rw [Nat.pow_succ]; omega, by rw [chc_0 hr, e]⟩
      | true => exact ⟨2 ^ m + r, by rw [Nat.pow_succ]; omega, by rw [chc_1 hr, e]⟩
/-- the first difference: off in p, on in q. -/
def Bef (p q : List Bool) : Prop := ∃ k : Nat, (∀ j : Nat, j < k → p[j]? = q[j]?) ∧ p[k]? = some false ∧ q[k]? = some true
/-! ### the first one of the cheapest -/
theorem pick_none {g : Nat → Fd} : ∀ {n : Nat}, pick g n = none → ∀ i, i < n → g i = none := by
  intro n
  induction n with
  | zero => intro _ i h; omega
  | succ n ih =>
    intro h i hi
    unfold pick at h
    cases h1 : pick g n with
    | none =>
      rw [h1] at h
      simp only [better] at h
      rcases Nat.lt_or_ge i n with h2 | h2
      · exact ih h1 i h2
      · rw [show i = n by omega]; exact h
    | some x =>
      rw [h1] at h
      cases h2 : g n with
      | none => rw [h2] at h; simp [better] at h
      | some y => rw [h2] at h; simp only [better] at h; split at h <;> cases h
theorem pick_some {g : Nat → Fd} : ∀ {n : Nat} {x : Int × Plan}, pick g n = some x → ∃ i, i < n ∧ g i = some x ∧ (∀ j y, j < n → g j = some y → x.1 ≤ y.1) ∧ (∀ j y, j < i → g j = some y → x.1 < y.1) := by
  intro n
  induction n with
  | zero => intro x h; cases h
  | succ n ih =>
    intro x h
    unfold pick at h
    cases h1 : pick g n with
    | none =>
      rw [h1] at h
      simp only [better] at h
      have h2 := pick_none h1
      refine ⟨n, by omega, h, fun j y hj hy => ?_, fun j y hj hy => ?_⟩
      · rcases Nat.lt_or_ge j n with h3 | h3
        · rw [h2 j h3] at hy; cases hy
        · rw [show j = n by omega, h] at hy; cases hy; exact Int.le_refl _
      · rw [h2 j hj] at hy; cases hy
    | some z =>
      rw [h1] at h
      obtain ⟨i, a1, a2, a3, a4⟩ := ih h1
      cases h2 : g n with
      | none =>
        rw [h2] at h
        simp only [better, Option.some.injEq] at h
        subst h
        refine ⟨i, by omega, a2, fun j y hj hy => ?_, a4⟩
        rcases Nat.lt_or_ge j n with h3 | h3
        · exact a3 j y h3 hy
        · rw [show j = n by omega, h2] at hy; cases hy
      | some y0 =>
        rw [h2] at h
        simp only [better] at h
        by_cases h3 : y0.1 < z.1
        · rw [if_pos h3] at h
          cases h
          refine ⟨n, by omega, h2, fun j y hj hy => ?_, fun j y hj hy => ?_⟩
          · rcases Nat.lt_or_ge j n with h4 | h4
            · have := a3 j y h4 hy; omega
            · rw [show j = n by omega, h2] at hy; cases hy; exact Int.le_refl _
          · have := a3 j y hj hy; omega
        · rw [if_neg h3] at h
          cases h
          refine ⟨i, by omega, a2, fun j y hj hy => ?_, a4⟩
          rcases Nat.lt_or_ge j n with h4 | h4
          · exact a3 j y h4 hy
          · rw [show j = n by omega, h2] at hy; cases hy; omega
theorem costs_go (l : List Done) : ∀ a : Int, (l.map (·.cost)).foldl (· + ·) a = a + costs l := by
  induction l with
  | nil => intro a; simp [costs]
  | cons x l ih =>
    intro a
    have h1 := ih (a + x.cost)
    have h2 := ih (0 + x.cost)
    unfold costs
    simp only [List.map_cons, List.foldl_cons] at h1 h2 ⊢
    rw [h1, h2]; omega
theorem costs_cons (x : Done) (l : List Done) : costs (x :: l) = x.cost + costs l := by
  have := costs_go l (0 + x.cost)
  unfold costs at *
  simp only [List.map_cons, List.foldl_cons] at this ⊢
  rw [this]; omega
theorem costs_nil : costs [] = 0 := rfl
theorem costs_snoc (x : Done) (l : List Done) : costs (l ++ [x]) = costs l + x.cost := by
  unfold costs
  rw [List.map_append, List.foldl_append]; rfl
section
variable {t : RTk}
/-- a plan for the last k ticks that is good: all have a choice, and no fault. -/
structure GoodP (t : RTk) (k : Nat) (s : Sta) (before : List Bool) (p : Plan) : Prop where
  len : p.length = k
  row : ∀ on, on ∈ p → on.length = t.m
  ok : (t.flw (t.n - k) s before p).2 = 0
theorem one_some {more : Sta → List Bool → Fd} {s : Sta} {i : Nat} {before on : List Bool} {x : Int × Plan} (h : t.one more s i before on = some x) : t.doE s i before on = 0 ∧ ∃ c p, more (t.doD s i before on).s on = some (c, p) ∧ x = ((t.doD s i before on).cost + c, on :: p) := by
  unfold RTk.one at h
  by_cases h0 : t.doE s i before on = 0
  · rw [if_pos h0] at h
    cases h1 : more (t.doD s i before on).s on with
    | none => rw [h1] at h; cases h
    | some y => rw [h1] at h; cases h; exact ⟨h0, _, _, rfl, rfl⟩
  · rw [if_neg h0] at h; cases h
theorem one_of {more : Sta → List Bool → Fd} {s : Sta} {i : Nat} {before on : List Bool} {c : Int} {p : Plan} (h0 : t.doE s i before on = 0) (h1 : more (t.doD s i before on).s on = some (c, p)) : t.one more s i before on = some ((t.doD s i before on).cost + c, on :: p) := by
  unfold RTk.one
  rw [if_pos h0, h1]
theorem flw_eq (i : Nat) (s : Sta) (before on : List Bool) (r : Plan) : t.flw i s before (on :: r) = if t.doE s i before on = 0 then ((t.doD s i before on) :: (t.flw (i + 1) (t.doD s i before on).s on r).1, (t.flw (i + 1) (t.doD s i before on).s on r).2) else ([], t.doE s i before on) := rfl
theorem flw_cons_of {i : Nat} {s : Sta} {before on : List Bool} {r : Plan} (h0 : t.doE s i before on = 0) : t.flw i s before (on :: r) = (t.doD s i before on :: (t.flw (i + 1) (t.doD s i before on).s on r).1, (t.flw (i + 1) (t.doD s i before on).s on r).2) := by
  rw [flw_eq, if_pos h0]
/-- what rest finds is a good plan of that cost. -/
theorem rest_good : ∀ {k : Nat} {s : Sta} {before : List Bool} {c : Int} {p : Plan}, k ≤ t.n → t.rest k s before = some (c, p) → GoodP t k s before p ∧ costs (t.flw (t.n - k) s before p).1 = c := by
  intro k
  induction k with
  | zero =>
    intro s before c p _ h
    cases h
    exact ⟨GoodP.mk rfl (fun _ h => nomatch h) rfl, rfl⟩
  | succ k ih =>
    intro s before c p hk h
    unfold RTk.rest at h
    obtain ⟨i, hi, h1, _, _⟩ := pick_some h
    obtain ⟨h0, c', p', h2, e⟩ := one_some h1
    cases e
    obtain ⟨g, hc⟩ := ih (by omega) h2
    have e1 : t.n - (k + 1) + 1 = t.n - k := by omega
    refine ⟨⟨by simp [g.len], fun on hon => ?_, ?_⟩, ?_⟩
    · rcases List.mem_cons.1 hon with rfl | hon
      · exact chc_len _ _
      · exact g.row on hon
    · rw [flw_cons_of h0, e1]; exact g.ok
    · rw [flw_cons_of h0, e1, costs_cons, hc]
/-- no good plan costs less; one that costs as little is this one, or comes behind it. -/
def PBef (p q : Plan) : Prop := ∃ i : Nat, (∀ j : Nat, j < i → p[j]? = q[j]?) ∧ ∃ a b, p[i]? = some a ∧ q[i]? = some b ∧ Bef a b
/-- the first tick of what rest finds, and the rest of it. -/
theorem rest_next {k : Nat} {s : Sta} {before : List Bool} {c : Int} {p : Plan} (h : t.rest (k + 1) s before = some (c, p)) : ∃ on p', p = on :: p' ∧ t.doE s (t.n - (k + 1)) before on = 0 ∧ t.rest k (t.doD s (t.n - (k + 1)) before on).s on = some (c - (t.doD s (t.n - (k + 1)) before on).cost, p') := by
  unfold RTk.rest at h
  obtain ⟨i, hi, h1, _, _⟩ := pick_some h
  obtain ⟨h0, c', p', h2, e⟩ := one_some h1
  cases e
  exact ⟨_, p', rfl, h0, by rw [h2]; congr 2; omega⟩
end
end Go.Proofs.YtmckmlmfilmiaaaGreatDoor.Bs
/-
  How a task of run-off lies in memory.
-/
namespace Go.Proofs.YtmckmlmfilmiaaaGreatDoor.X
open Go Go.RowKit Go.Proofs.YtmckmlmfilmiaaaGreatDoor.Bs
set_option linter.unusedVariables false
def boolK : Kind Bool := ⟨4, 1, fun b => [.bool b], fun _ => [], fun _ => rfl⟩
def sluC (x : Slu) : List Value := [.string x.name, .int .i64 x.width, .int .i64 x.move]
def pmpC (x : Pmp) : List Value := [.string x.name, .int .i64 x.rate, .int .i64 x.base, .int .i64 x.lift, .int .i64 x.start]
def sluK : Kind Slu := ⟨99, 3, sluC, fun _ => [], fun _ => rfl⟩
def pmpK : Kind Pmp := ⟨102, 5, pmpC, fun _ => [], fun _ => rfl⟩
def _root_.Go.Proofs.YtmckmlmfilmiaaaGreatDoor.Bs.Dev.ty : Dev → Nat
  | .slu _ => 100
  | .pmp _ => 103
def _root_.Go.Proofs.YtmckmlmfilmiaaaGreatDoor.Bs.Dev.c : Dev → List Value
  | .slu x => sluC x
  | .pmp x => pmpC x
def devV (d : Dev) : Value := .iface d.ty (.agg ⟨d.c⟩)
def devK : Kind Dev := ⟨59, 1, fun d => [devV d], fun _ => [], fun _ => rfl⟩
structure RTV where
  p : BV
  q : SV
  o : SV
  r : SV
  c : SV
  su : SV
  pu : SV
  on : SV
def RTV.n (v : RTV) : List Value := [.slice v.o.A v.o.n v.o.c, .slice v.r.A v.r.n v.r.c, .slice v.c.A v.c.n v.c.c]
def tskC (v : RTV) (t : RTk) : List Value :=
  [.slice v.p.A v.p.n v.p.c, .int .i64 t.b.leak, .int .i64 t.b.crest, .int .i64 t.b.over, .slice v.p.A2 v.p.n2 v.p.c2, .int .i64 t.s.vol, .slice v.q.A v.q.n v.q.c, .slice v.o.A v.o.n v.o.c, .slice v.r.A v.r.n v.r.c, .slice v.c.A v.c.n v.c.c, .int .i64 t.low, .int .i64 t.high, .slice v.su.A v.su.n v.su.c, .slice v.pu.A v.pu.n v.pu.c, .slice v.on.A v.on.n v.on.c]
def tskV (v : RTV) (t : RTk) : Value := .agg ⟨tskC v t⟩
structure TskAt (w : World) (B : Nat) (v : RTV) (t : RTk) : Prop where
  bas : BasAt w B v.p t.b
  fil : IntsAt w (Lt B) v.q t.s.fil
  outer : IntsAt w (Lt B) v.o t.outer
  river : IntsAt w (Lt B) v.r t.river
  prices : IntsAt w (Lt B) v.c t.prices
  slu : ListAt sluK w (Lt B) v.su t.slu
  pmp : ListAt pmpK w (Lt B) v.pu t.pmp
  on : ListAt boolK w (Lt B) v.on t.on
  names : ∀ d, d ∈ t.devs → d.name.size ≤ 9223372036854775807
section
variable {w w' w0 : World} {B B' : Nat} {v : RTV} {t : RTk} {L : Lo}
theorem TskAt.below (h : TskAt w B v t) (hb : Below B w w') : TskAt w' B v t :=
  ⟨h.bas.below hb, h.fil.keep fun k hk => hb.block k hk, h.outer.keep fun k hk => hb.block k hk, h.river.keep fun k hk => hb.block k hk, h.prices.keep fun k hk => hb.block k hk, h.slu.below hb, h.pmp.below hb, h.on.below hb, h.names⟩
theorem TskAt.more (h : TskAt w B v t) (hB : B ≤ B') : TskAt w B' v t :=
  ⟨h.bas.more hB, h.fil.mono fun k hk => Nat.lt_of_lt_of_le hk hB, h.outer.mono fun k hk => Nat.lt_of_lt_of_le hk hB, h.river.mono fun k hk => Nat.lt_of_lt_of_le hk hB, h.prices.mono fun k hk => Nat.lt_of_lt_of_le hk hB, h.slu.mono fun k hk => Nat.lt_of_lt_of_le hk hB, h.pmp.mono fun k hk => Nat.lt_of_lt_of_le hk hB, h.on.mono fun k hk => Nat.lt_of_lt_of_le hk hB, h.names⟩
theorem TskAt.sys (h : TskAt w0 B v t) (S : Sys B w0 L w) : TskAt w w.heap.size v t := (h.below S.toBelow).more (Nat.le_trans S.base S.size)
end
end Go.Proofs.YtmckmlmfilmiaaaGreatDoor.X
/-
  The walks of the devices' methods (runoff).
-/
namespace Go.Proofs.YtmckmlmfilmiaaaGreatDoor.X
open Go Go.RowKit Go.Proofs.YtmckmlmfilmiaaaGreatDoor.Bs
set_option linter.unusedVariables false
/-- a level inside, n / d, and one outside. -/
structure HeadOk (n d o : Int) : Prop where
  hd : 1 ≤ d ∧ d ≤ 1000000000
  hn : -20000000000000 ≤ n ∧ n ≤ 60000000000000
  hlo : -20000 * d ≤ n
  ho : -20000 ≤ o ∧ o ≤ 20000
section
variable {n d o : Int} (h : HeadOk n d o)
include h
theorem HeadOk.od : -20000000000000 ≤ o * d ∧ o * d ≤ 20000000000000 ∧ o * d ≤ 20000 * d := by
  have h1 := mul_bd (X := 20000) (Y := 1000000000) (x := o) (y := d) h.ho (by have := h.hd; omega)
  have h2 : o * d ≤ 20000 * d := Int.mul_le_mul_of_nonneg_right h.ho.2 (by have := h.hd; omega)
  omega
theorem HeadOk.ins : -40000000000000 ≤ n - o * d ∧ n - o * d ≤ 80000000000000 ∧ -(n - o * d) ≤ 40000 * d := by
  have h1 := h.od
  have h2 := h.hn
  have h3 := h.hlo
  omega
end
def headC (n d o : Int) : List Value := [.int .i64 n, .int .i64 d, .int .i64 o]
theorem rnout_any (n lo hi : Int) (w : World) :
    Calls Tryz.prog 12 #[.int .i64 n, .int .i64 lo, .int .i64 hi] w fun e w' => e = .returned (.bool (outB n lo hi)) ∧ Below w.heap.size w w' := by
  refine enter Tryz.func12 rfl Tryz.ntmps12 rfl ?_; simp only [frame, Nat.zero_add, Nat.reduceAdd]
  repeat (first | (refine M0 ?_; first | refine SL ?_ | refine SB fun _ _ => ?_) | (refine M1 ?_; first | refine SC ?_ | refine SD ?_) | (refine M2 ?_; refine SE ?_) | (refine M3 ?_; first | refine SG ?_ | refine SF ?_) | (refine M4 ?_; refine SR ?_) | (refine M5 ?_; first | exact M7 | refine YM ?_ | refine YN ?_ ?_))
  refine XL.split _ _ rfl (fun h => ?_) (fun h => ?_) <;> rw [h]
  · repeat (first | (refine M0 ?_; first | refine SL ?_ | refine SB fun _ _ => ?_) | (refine M1 ?_; first | refine SC ?_ | refine SD ?_) | (refine M2 ?_; refine SE ?_) | (refine M3 ?_; first | refine SG ?_ | refine SF ?_) | (refine M4 ?_; refine SR ?_) | (refine M5 ?_; first | exact M7 | refine YM ?_ | refine YN ?_ ?_))
    refine XE.retg tok Tryz.results12 rfl (by simp only [and_self, and_true]) (fun w' S => ?_)
    exact ⟨by unfold outB; rw [h]; rfl, S.toBelow⟩
  · repeat (first | (refine M0 ?_; first | refine SL ?_ | refine SB fun _ _ => ?_) | (refine M1 ?_; first | refine SC ?_ | refine SD ?_) | (refine M2 ?_; refine SE ?_) | (refine M3 ?_; first | refine SG ?_ | refine SF ?_) | (refine M4 ?_; refine SR ?_) | (refine M5 ?_; first | exact M7 | refine YM ?_ | refine YN ?_ ?_))
    refine XE.retg tok Tryz.results12 rfl (by simp only [and_self, and_true]) (fun w' S => ?_)
    exact ⟨by unfold outB; rw [h]; rfl, S.toBelow⟩
theorem inside_any {n d o : Int} (h : HeadOk n d o) (w : World) :
    Calls Tryz.prog 103 #[.agg ⟨headC n d o⟩] w fun e w' => e = .returned (.int .i64 (n - o * d)) ∧ Below w.heap.size w w' := by
  have h1 := h.od
  have h2 := h.ins
  simp only [headC]
  refine enter Tryz.func103 rfl Tryz.ntmps103 rfl ?_; simp only [frame, Nat.zero_add, Nat.reduceAdd]
  repeat (first | (refine M0 ?_; first | refine SL ?_ | refine SB fun _ _ => ?_) | (refine M1 ?_; first | refine SC ?_ | refine SD ?_) | (refine M2 ?_; refine SE ?_) | (refine M3 ?_; first | refine SG ?_ | refine SF ?_) | (refine M4 ?_; refine SR ?_) | (refine M5 ?_; first | exact M7 | refine YM ?_ | refine YN ?_ ?_))
  refine XE.retg tok Tryz.results103 rfl (by simp only [and_self, and_true]) (fun w' S => ?_)
  exact ⟨rfl, S.toBelow⟩
theorem sname_any (x : Slu) (w : World) :
    Calls Tryz.prog 101 #[.agg ⟨sluC x⟩] w fun e w' => e = .returned (.string x.name) ∧ Below w.heap.size w w' := by
  simp only [sluC]
  refine enter Tryz.func101 rfl Tryz.ntmps101 rfl ?_; simp only [frame, Nat.zero_add, Nat.reduceAdd]
  repeat (first | (refine M0 ?_; first | refine SL ?_ | refine SB fun _ _ => ?_) | (refine M1 ?_; first | refine SC ?_ | refine SD ?_) | (refine M2 ?_; refine SE ?_) | (refine M3 ?_; first | refine SG ?_ | refine SF ?_) | (refine M4 ?_; refine SR ?_) | (refine M5 ?_; first | exact M7 | refine YM ?_ | refine YN ?_ ?_))
  refine XE.retg tok Tryz.results101 rfl (by simp only [and_self, and_true]) (fun w' S => ?_)
  exact ⟨rfl, S.toBelow⟩
theorem pname_any (x : Pmp) (w : World) :
    Calls Tryz.prog 106 #[.agg ⟨pmpC x⟩] w fun e w' => e = .returned (.string x.name) ∧ Below w.heap.size w w' := by
  simp only [pmpC]
  refine enter Tryz.func106 rfl Tryz.ntmps106 rfl ?_; simp only [frame, Nat.zero_add, Nat.reduceAdd]
  repeat (first | (refine M0 ?_; first | refine SL ?_ | refine SB fun _ _ => ?_) | (refine M1 ?_; first | refine SC ?_ | refine SD ?_) | (refine M2 ?_; refine SE ?_) | (refine M3 ?_; first | refine SG ?_ | refine SF ?_) | (refine M4 ?_; refine SR ?_) | (refine M5 ?_; first | exact M7 | refine YM ?_ | refine YN ?_ ?_))
  refine XE.retg tok Tryz.results106 rfl (by simp only [and_self, and_true]) (fun w' S => ?_)
  exact ⟨rfl, S.toBelow⟩
theorem outP {n lo hi : Int} {b : Bool} (e : outB n lo hi = b) (w : World) :
    Calls Tryz.prog 12 #[.int .i64 n, .int .i64 lo, .int .i64 hi] w fun e w' => e = .returned (.bool b) ∧ Below w.heap.size w w' := by
  subst e; exact rnout_any n lo hi w
theorem swild_any (x : Slu) (w : World) :
    Calls Tryz.prog 102 #[.agg ⟨sluC x⟩] w fun e w' => e = .returned (.bool (sluWild x)) ∧ Below w.heap.size w w' := by
  simp only [sluC]
  refine enter Tryz.func102 rfl Tryz.ntmps102 rfl ?_; simp only [frame, Nat.zero_add, Nat.reduceAdd]
  cases e0 : outB x.width 0 10000 with
  | true =>
    repeat (first | (refine M0 ?_; first | refine SL ?_ | refine SB fun _ _ => ?_ | refine Y4 (Ev.call (f := 12) (vs := [.int .i64 x.width, .int .i64 0, .int .i64 10000]) (ck rfl) rfl (fun w S => outP e0 w)) ?_) | (refine M1 ?_; first | refine SC ?_ | refine SD ?_) | (refine M2 ?_; refine SE ?_) | (refine M3 ?_; first | refine SG ?_ | refine SF ?_ | refine YF (Ev.call (f := 12) (vs := [.int .i64 x.width, .int .i64 0, .int .i64 10000]) (ck rfl) rfl (fun w S => outP e0 w)) ?_) | (refine M4 ?_; refine SR ?_) | (refine M5 ?_; first | exact M7 | refine YM ?_ | refine YN ?_ ?_))
    refine XE.retg tok Tryz.results102 rfl (by simp only [and_self, and_true]) (fun w' S => ?_)
    exact ⟨by rw [show sluWild x = true by simp only [sluWild, e0, Bool.true_or]]; rfl, S.toBelow⟩
  | false =>
    repeat (first | (refine M0 ?_; first | refine SL ?_ | refine SB fun _ _ => ?_ | refine Y4 (Ev.call (f := 12) (vs := [.int .i64 x.width, .int .i64 0, .int .i64 10000]) (ck rfl) rfl (fun w S => outP e0 w)) ?_ | refine Y4 (Ev.call (f := 12) (vs := [.int .i64 x.move, .int .i64 0, .int .i64 100000]) (ck rfl) rfl (fun w S => rnout_any _ _ _ w)) ?_) | (refine M1 ?_; first | refine SC ?_ | refine SD ?_) | (refine M2 ?_; refine SE ?_) | (refine M3 ?_; first | refine SG ?_ | refine SF ?_ | refine YF (Ev.call (f := 12) (vs := [.int .i64 x.width, .int .i64 0, .int .i64 10000]) (ck rfl) rfl (fun w S => outP e0 w)) ?_ | refine YF (Ev.call (f := 12) (vs := [.int .i64 x.move, .int .i64 0, .int .i64 100000]) (ck rfl) rfl (fun w S => rnout_any _ _ _ w)) ?_) | (refine M4 ?_; refine SR ?_) | (refine M5 ?_; first | exact M7 | refine YM ?_ | refine YN ?_ ?_))
    refine XE.retg tok Tryz.results102 rfl (by simp only [and_self, and_true]) (fun w' S => ?_)
    exact ⟨by rw [show sluWild x = outB x.move 0 100000 by simp only [sluWild, e0, Bool.false_or]]; rfl, S.toBelow⟩
theorem pwild_any (x : Pmp) (w : World) :
    Calls Tryz.prog 107 #[.agg ⟨pmpC x⟩] w fun e w' => e = .returned (.bool (pmpWild x)) ∧ Below w.heap.size w w' := by
  simp only [pmpC]
  refine enter Tryz.func107 rfl Tryz.ntmps107 rfl ?_; simp only [frame, Nat.zero_add, Nat.reduceAdd]
  cases e0 : outB x.rate 0 10000000 with
  | true =>
    repeat (first | (refine M0 ?_; first | refine SL ?_ | refine SB fun _ _ => ?_ | refine Y4 (Ev.call (f := 12) (vs := [.int .i64 x.rate, .int .i64 0, .int .i64 10000000]) (ck rfl) rfl (fun w S => outP e0 w)) ?_) | (refine M1 ?_; first | refine SC ?_ | refine SD ?_) | (refine M2 ?_; refine SE ?_) | (refine M3 ?_; first | refine SG ?_ | refine SF ?_ | refine YF (Ev.call (f := 12) (vs := [.int .i64 x.rate, .int .i64 0, .int .i64 10000000]) (ck rfl) rfl (fun w S => outP e0 w)) ?_) | (refine M4 ?_; refine SR ?_) | (refine M5 ?_; first | exact M7 | refine YM ?_ | refine YN ?_ ?_))
    refine XE.retg tok Tryz.results107 rfl (by simp only [and_self, and_true]) (fun w' S => ?_)
    exact ⟨by rw [show pmpWild x = true by simp only [pmpWild, e0, Bool.true_or]]; rfl, S.toBelow⟩
  | false =>
  cases e1 : outB x.base 0 100000 with
  | true =>
    repeat (first | (refine M0 ?_; first | refine SL ?_ | refine SB fun _ _ => ?_ | refine Y4 (Ev.call (f := 12) (vs := [.int .i64 x.rate, .int .i64 0, .int .i64 10000000]) (ck rfl) rfl (fun w S => outP e0 w)) ?_ | refine Y4 (Ev.call (f := 12) (vs := [.int .i64 x.base, .int .i64 0, .int .i64 100000]) (ck rfl) rfl (fun w S => outP e1 w)) ?_) | (refine M1 ?_; first | refine SC ?_ | refine SD ?_) | (refine M2 ?_; refine SE ?_) | (refine M3 ?_; first | refine SG ?_ | refine SF ?_ | refine YF (Ev.call (f := 12) (vs := [.int .i64 x.rate, .int .i64 0, .int .i64 10000000]) (ck rfl) rfl (fun w S => outP e0 w)) ?_ | refine YF (Ev.call (f := 12) (vs := [.int .i64 x.base, .int .i64 0, .int .i64 100000]) (ck rfl) rfl (fun w S => outP e1 w)) ?_) | (refine M4 ?_; refine SR ?_) | (refine M5 ?_; first | exact M7 | refine YM ?_ | refine YN ?_ ?_))
    refine XE.retg tok Tryz.results107 rfl (by simp only [and_self, and_true]) (fun w' S => ?_)
    exact ⟨by rw [show pmpWild x = true by simp only [pmpWild, e0, e1, Bool.true_or, Bool.false_or]]; rfl, S.toBelow⟩
  | false =>
  cases e2 : outB x.lift 0 100000 with
  | true =>
    repeat (first | (refine M0 ?_; first | refine SL ?_ | refine SB fun _ _ => ?_ | refine Y4 (Ev.call (f := 12) (vs := [.int .i64 x.rate, .int .i64 0, .int .i64 10000000]) (ck rfl) rfl (fun w S => outP e0 w)) ?_ | refine Y4 (Ev.call (f := 12) (vs := [.int .i64 x.base, .int .i64 0, .int .i64 100000]) (ck rfl) rfl (fun w S => outP e1 w)) ?_ | refine Y4 (Ev.call (f := 12) (vs := [.int .i64 x.lift, .int .i64 0, .int .i64 100000]) (ck rfl) rfl (fun w S => outP e2 w)) ?_) | (refine M1 ?_; first | refine SC ?_ | refine SD ?_) | (refine M2 ?_; refine SE ?_) | (refine M3 ?_; first | refine SG ?_ | refine SF ?_ | refine YF (Ev.call (f := 12) (vs := [.int .i64 x.rate, .int .i64 0, .int .i64 10000000]) (ck rfl) rfl (fun w S => outP e0 w)) ?_ | refine YF (Ev.call (f := 12) (vs := [.int .i64 x.base, .int .i64 0, .int .i64 100000]) (ck rfl) rfl (fun w S => outP e1 w)) ?_ | refine YF (Ev.call (f := 12) (vs := [.int .i64 x.lift, .int .i64 0, .int .i64 100000]) (ck rfl) rfl (fun w S => outP e2 w)) ?_) | (refine M4 ?_; refine SR ?_) | (refine M5 ?_; first | exact M7 | refine YM ?_ | refine YN ?_ ?_))
    refine XE.retg tok Tryz.results107 rfl (by simp only [and_self, and_true]) (fun w' S => ?_)
    exact ⟨by rw [show pmpWild x = true by simp only [pmpWild, e0, e1, e2, Bool.true_or, Bool.false_or]]; rfl, S.toBelow⟩
  | false =>
    repeat (first | (refine M0 ?_; first | refine SL ?_ | refine SB fun _ _ => ?_ | refine Y4 (Ev.call (f := 12) (vs := [.int .i64 x.rate, .int .i64 0, .int .i64 10000000]) (ck rfl) rfl (fun w S => outP e0 w)) ?_ | refine Y4 (Ev.call (f := 12) (vs := [.int .i64 x.base, .int .i64 0, .int .i64 100000]) (ck rfl) rfl (fun w S => outP e1 w)) ?_ | refine Y4 (Ev.call (f := 12) (vs := [.int .i64 x.lift, .int .i64 0, .int .i64 100000]) (ck rfl) rfl (fun w S => outP e2 w)) ?_ | refine Y4 (Ev.call (f := 12) (vs := [.int .i64 x.start, .int .i64 0, .int .i64 100000]) (ck rfl) rfl (fun w S => rnout_any _ _ _ w)) ?_) | (refine M1 ?_; first | refine SC ?_ | refine SD ?_) | (refine M2 ?_; refine SE ?_) | (refine M3 ?_; first | refine SG ?_ | refine SF ?_ | refine YF (Ev.call (f := 12) (vs := [.int .i64 x.rate, .int .i64 0, .int .i64 10000000]) (ck rfl) rfl (fun w S => outP e0 w)) ?_ | refine YF (Ev.call (f := 12) (vs := [.int .i64 x.base, .int .i64 0, .int .i64 100000]) (ck rfl) rfl (fun w S => outP e1 w)) ?_ | refine YF (Ev.call (f := 12) (vs := [.int .i64 x.lift, .int .i64 0, .int .i64 100000]) (ck rfl) rfl (fun w S => outP e2 w)) ?_ | refine YF (Ev.call (f := 12) (vs := [.int .i64 x.start, .int .i64 0, .int .i64 100000]) (ck rfl) rfl (fun w S => rnout_any _ _ _ w)) ?_) | (refine M4 ?_; refine SR ?_) | (refine M5 ?_; first | exact M7 | refine YM ?_ | refine YN ?_ ?_))
    refine XE.retg tok Tryz.results107 rfl (by simp only [and_self, and_true]) (fun w' S => ?_)
    exact ⟨by rw [show pmpWild x = outB x.start 0 100000 by simp only [pmpWild, e0, e1, e2, Bool.false_or]]; rfl, S.toBelow⟩
/-- what flow answers. -/
def flowV : Option Int → Value
  | none => .tuple ⟨[.int .i64 0, .bool false]⟩
  | some f => .tuple ⟨[.int .i64 f, .bool true]⟩
theorem tdiv_sml {a b : Int} (hb : 1 ≤ b) (ha : 0 ≤ a) : 0 ≤ a.tdiv b ∧ a.tdiv b ≤ a := by
  have h1 := tdiv_bd (a := a) hb
  have h2 := Int.tdiv_nonneg ha (by omega : 0 ≤ b)
  omega
theorem sflow_any {x : Slu} {n d o : Int} (h : HeadOk n d o) (hx : DevOk (.slu x)) (w : World) :
    Calls Tryz.prog 100 #[.agg ⟨sluC x⟩, .agg ⟨headC n d o⟩] w fun e w' => e = .returned (flowV ((Dev.slu x).flow n d o)) ∧ Below w.heap.size w w' := by
  have h2 := h.ins
  have hd := h.hd
  simp only [sluC, headC]
  refine enter Tryz.func100 rfl Tryz.ntmps100 rfl ?_; simp only [frame, Nat.zero_add, Nat.reduceAdd]
  repeat (first | (refine M0 ?_; first | refine SL ?_ | refine SB fun _ _ => ?_ | refine Y4 (Ev.call (f := 103) (ck rfl) rfl (fun w S => inside_any h w)) ?_) | (refine M1 ?_; first | refine SC ?_ | refine SD ?_) | (refine M2 ?_; refine SE ?_) | (refine M3 ?_; first | refine SG ?_ | refine SF ?_ | refine YF (Ev.call (f := 103) (ck rfl) rfl (fun w S => inside_any h w)) ?_) | (refine M4 ?_; refine SR ?_) | (refine M5 ?_; first | exact M7 | refine YM ?_ | refine YN ?_ ?_))
  refine XC.cond _ rfl (fun h1 => ?_) (fun h1 => ?_)
  · repeat (first | (refine M0 ?_; first | refine SL ?_ | refine SB fun _ _ => ?_) | (refine M1 ?_; first | refine SC ?_ | refine SD ?_) | (refine M2 ?_; refine SE ?_) | (refine M3 ?_; first | refine SG ?_ | refine SF ?_) | (refine M4 ?_; refine SR ?_) | (refine M5 ?_; first | exact M7 | refine YM ?_ | refine YN ?_ ?_))
    refine XE.retg tok Tryz.results100 rfl (by simp only [and_self, and_true]) (fun w' S => ?_)
    exact ⟨by rw [show (Dev.slu x).flow n d o = none by simp only [Dev.flow]; rw [if_pos (of_decide_eq_true h1)]]; rfl, S.toBelow⟩
  · have h3 : ¬ n - o * d ≤ 0 := of_decide_eq_false h1
    have h4 := mul_bd (X := 10000) (Y := 80000000000000) (x := x.width) (y := n - o * d) (by have := hx.1; omega) (by omega)
    have h5 : 0 ≤ x.width * (n - o * d) := Int.mul_nonneg hx.1.1 (by omega)
    have h6 := tdiv_sml hd.1 h5
    repeat (first | (refine M0 ?_; first | refine SL ?_ | refine SB fun _ _ => ?_ | refine Y4 (Ev.call (f := 103) (ck rfl) rfl (fun w S => inside_any h w)) ?_) | (refine M1 ?_; first | refine SC ?_ | refine SD ?_) | (refine M2 ?_; refine SE ?_) | (refine M3 ?_; first | refine SG ?_ | refine SF ?_ | refine YF (Ev.call (f := 103) (ck rfl) rfl (fun w S => inside_any h w)) ?_) | (refine M4 ?_; refine SR ?_) | (refine M5 ?_; first | exact M7 | refine YM ?_ | refine YN ?_ ?_))
    refine XE.retg tok Tryz.results100 rfl (by simp only [and_self, and_true]) (fun w' S => ?_)
    exact ⟨by rw [show (Dev.slu x).flow n d o = some ((x.width * (n - o * d)).tdiv d) by simp only [Dev.flow]; rw [if_neg h3]]; rfl, S.toBelow⟩
theorem pflow_any {x : Pmp} {n d o : Int} (w : World) :
    Calls Tryz.prog 105 #[.agg ⟨pmpC x⟩, .agg ⟨headC n d o⟩] w fun e w' => e = .returned (flowV ((Dev.pmp x).flow n d o)) ∧ Below w.heap.size w w' := by
  simp only [pmpC, headC]
  refine enter Tryz.func105 rfl Tryz.ntmps105 rfl ?_; simp only [frame, Nat.zero_add, Nat.reduceAdd]
  repeat (first | (refine M0 ?_; first | refine SL ?_ | refine SB fun _ _ => ?_) | (refine M1 ?_; first | refine SC ?_ | refine SD ?_) | (refine M2 ?_; refine SE ?_) | (refine M3 ?_; first | refine SG ?_ | refine SF ?_) | (refine M4 ?_; refine SR ?_) | (refine M5 ?_; first | exact M7 | refine YM ?_ | refine YN ?_ ?_))
  refine XE.retg tok Tryz.results105 rfl (by simp only [and_self, and_true]) (fun w' S => ?_)
  exact ⟨rfl, S.toBelow⟩
theorem senergy_any {x : Slu} {n d o : Int} {before on : Bool} (w : World) :
    Calls Tryz.prog 99 #[.agg ⟨sluC x⟩, .agg ⟨headC n d o⟩, .bool before, .bool on] w fun e w' => e = .returned (.int .i64 ((Dev.slu x).energy n d o before on)) ∧ Below w.heap.size w w' := by
  simp only [sluC, headC]
  refine enter Tryz.func99 rfl Tryz.ntmps99 rfl ?_; simp only [frame, Nat.zero_add, Nat.reduceAdd]
  repeat (first | (refine M0 ?_; first | refine SL ?_ | refine SB fun _ _ => ?_ | refine Y4 (Ev.eqlB Tryz.underlying4 rfl rfl) ?_) | (refine M1 ?_; first | refine SC ?_ | refine SD ?_) | (refine M2 ?_; refine SE ?_) | (refine M3 ?_; first | refine SG ?_ | refine SF ?_ | refine YF (Ev.eqlB Tryz.underlying4 rfl rfl) ?_) | (refine M4 ?_; refine SR ?_) | (refine M5 ?_; first | exact M7 | refine YM ?_ | refine YN ?_ ?_))
  refine XC.cond _ rfl (fun h1 => ?_) (fun h1 => ?_)
  · repeat (first | (refine M0 ?_; first | refine SL ?_ | refine SB fun _ _ => ?_) | (refine M1 ?_; first | refine SC ?_ | refine SD ?_) | (refine M2 ?_; refine SE ?_) | (refine M3 ?_; first | refine SG ?_ | refine SF ?_) | (refine M4 ?_; refine SR ?_) | (refine M5 ?_; first | exact M7 | refine YM ?_ | refine YN ?_ ?_))
    refine XE.retg tok Tryz.results99 rfl (by simp only [and_self, and_true]) (fun w' S => ?_)
    exact ⟨by simp only [Dev.energy]; rw [if_pos (by simpa using h1)]; rfl, S.toBelow⟩
  · repeat (first | (refine M0 ?_; first | refine SL ?_ | refine SB fun _ _ => ?_) | (refine M1 ?_; first | refine SC ?_ | refine SD ?_) | (refine M2 ?_; refine SE ?_) | (refine M3 ?_; first | refine SG ?_ | refine SF ?_) | (refine M4 ?_; refine SR ?_) | (refine M5 ?_; first | exact M7 | refine YM ?_ | refine YN ?_ ?_))
    refine XE.retg tok Tryz.results99 rfl (by simp only [and_self, and_true]) (fun w' S => ?_)
    exact ⟨by simp only [Dev.energy]; rw [if_neg (by simpa using h1)]; rfl, S.toBelow⟩
/-- what the lift takes. -/
theorem lift_bd {x l d : Int} (hd : 1 ≤ d ∧ d ≤ 1000000000) (hl : 0 ≤ l ∧ l ≤ 100000) (hx : 0 ≤ x ∧ x ≤ 40000000000000 ∧ x ≤ 40000 * d) : (0 ≤ l * x ∧ l * x ≤ 4000000000000000000) ∧ 0 ≤ (l * x + d - 1).tdiv d ∧ (l * x + d - 1).tdiv d ≤ 4000000001 := by
  have h1 := mul_bd (X := 100000) (Y := 40000000000000) (x := l) (y := x) (by omega) (by omega)
  have h2 : 0 ≤ l * x := Int.mul_nonneg hl.1 hx.1
  have h3 : l * x ≤ 100000 * (40000 * d) := Int.le_trans (Int.mul_le_mul_of_nonneg_right hl.2 hx.1) (Int.mul_le_mul_of_nonneg_left hx.2.2 (by omega))
  have h4 : 0 ≤ (l * x + d - 1).tdiv d := Int.tdiv_nonneg (by omega) (by omega)
  refine ⟨by omega, h4, ?_⟩
  have h5 := (tdiv_mul (a := l * x + d - 1) hd.1).2.2.1 (by omega)
  have h6 : (l * x + d - 1).tdiv d * d ≤ 4000000001 * d := by omega
  exact Int.le_of_mul_le_mul_right h6 (by omega)
theorem penergy_any {x : Pmp} {n d o : Int} {before on : Bool} (h : HeadOk n d o) (hx : DevOk (.pmp x)) (w : World) :
    Calls Tryz.prog 104 #[.agg ⟨pmpC x⟩, .agg ⟨headC n d o⟩, .bool before, .bool on] w fun e w' => e = .returned (.int .i64 ((Dev.pmp x).energy n d o before on)) ∧ Below w.heap.size w w' := by
  have h2 := h.ins
  have hd := h.hd
  obtain ⟨_, x1, x2, x3⟩ := hx
  have h3 := lift_bd (x := max 0 (-(n - o * d))) (l := x.lift) hd x2 (by omega)
  simp only [pmpC, headC]
  refine enter Tryz.func104 rfl Tryz.ntmps104 rfl ?_; simp only [frame, Nat.zero_add, Nat.reduceAdd]
  cases on
  · repeat (first | (refine M0 ?_; first | refine SL ?_ | refine SB fun _ _ => ?_) | (refine M1 ?_; first | refine SC ?_ | refine SD ?_) | (refine M2 ?_; refine SE ?_) | (refine M3 ?_; first | refine SG ?_ | refine SF ?_) | (refine M4 ?_; refine SR ?_) | (refine M5 ?_; first | exact M7 | refine YM ?_ | refine YN ?_ ?_))
    refine XE.retg tok Tryz.results104 rfl (by simp only [and_self, and_true]) (fun w' S => ?_)
    exact ⟨rfl, S.toBelow⟩
  cases before
  all_goals
    repeat (first | (refine M0 ?_; first | refine SL ?_ | refine SB fun _ _ => ?_ | refine Y4 (Ev.call (f := 103) (ck rfl) rfl (fun w S => inside_any h w)) ?_) | (refine M1 ?_; first | refine SC ?_ | refine SD ?_) | (refine M2 ?_; refine SE ?_) | (refine M3 ?_; first | refine SG ?_ | refine SF ?_ | refine YF (Ev.call (f := 103) (ck rfl) rfl (fun w S => inside_any h w)) ?_) | (refine M4 ?_; refine SR ?_) | (refine M5 ?_; first | exact M7 | refine YM ?_ | refine YN ?_ ?_))
    refine XE.retg tok Tryz.results104 rfl (by simp only [and_self, and_true]) (fun w' S => ?_)
    exact ⟨by first | rfl | (simp only [Dev.energy, if_true, Bool.false_eq_true, if_false, Int.add_zero]; rfl), S.toBelow⟩
/-! ### a device, whichever it is -/
theorem dev_name (x : Dev) : ∃ f, methO Tryz.prog x.ty "barrage/runoff.name" = some f ∧ callOk Tryz.prog f = true ∧ ∀ w, Calls Tryz.prog f (Value.agg ⟨x.c⟩ :: []).toArray w fun e w' => e = .returned (.string x.name) ∧ Below w.heap.size w w' := by
  cases x with
  | slu x => exact ⟨101, by kernel_rfl, ck rfl, fun w => sname_any x w⟩
  | pmp x => exact ⟨106, by kernel_rfl, ck rfl, fun w => pname_any x w⟩
theorem dev_wild (x : Dev) : ∃ f, methO Tryz.prog x.ty "barrage/runoff.wild" = some f ∧ callOk Tryz.prog f = true ∧ ∀ w, Calls Tryz.prog f (Value.agg ⟨x.c⟩ :: []).toArray w fun e w' => e = .returned (.bool x.wild) ∧ Below w.heap.size w w' := by
  cases x with
  | slu x => exact ⟨102, by kernel_rfl, ck rfl, fun w => swild_any x w⟩
  | pmp x => exact ⟨107, by kernel_rfl, ck rfl, fun w => pwild_any x w⟩
theorem dev_flow {x : Dev} {n d o : Int} (h : HeadOk n d o) (hx : DevOk x) : ∃ f, methO Tryz.prog x.ty "barrage/runoff.flow" = some f ∧ callOk Tryz.prog f = true ∧ ∀ w, Calls Tryz.prog f (Value.agg ⟨x.c⟩ :: [.agg ⟨headC n d o⟩]).toArray w fun e w' => e = .returned (flowV (x.flow n d o)) ∧ Below w.heap.size w w' := by
  cases x with
  | slu x => exact ⟨100, by kernel_rfl, ck rfl, fun w => sflow_any h hx w⟩
  | pmp x => exact ⟨105, by kernel_rfl, ck rfl, fun w => pflow_any w⟩
theorem dev_energy {x : Dev} {n d o : Int} (before on : Bool) (h : HeadOk n d o) (hx : DevOk x) : ∃ f, methO Tryz.prog x.ty "barrage/runoff.energy" = some f ∧ callOk Tryz.prog f = true ∧ ∀ w, Calls Tryz.prog f (Value.agg ⟨x.c⟩ :: [.agg ⟨headC n d o⟩, .bool before, .bool on]).toArray w fun e w' => e = .returned (.int .i64 (x.energy n d o before on)) ∧ Below w.heap.size w w' := by
  cases x with
  | slu x => exact ⟨99, by kernel_rfl, ck rfl, fun w => senergy_any w⟩
  | pmp x => exact ⟨104, by kernel_rfl, ck rfl, fun w => penergy_any h hx w⟩
/-- bounds. -/
theorem flow_bd {x : Dev} {n d o f : Int} (h : HeadOk n d o) (hx : DevOk x) (e : x.flow n d o = some f) : 0 ≤ f ∧ f ≤ 800000000000000000 := by
  cases x with
  | slu x =>
    simp only [Dev.flow] at e
    split at e
    · cases e
    · rename_i h3
      cases e
      have h2 := h.ins
      have h4 := mul_bd (X := 10000) (Y := 80000000000000) (x := x.width) (y := n - o * d) (by have := hx.1; omega) (by omega)
      have h5 : 0 ≤ x.width * (n - o * d) := Int.mul_nonneg hx.1.1 (by omega)
      have h6 := tdiv_sml h.hd.1 h5
      omega
  | pmp x => simp only [Dev.flow, Option.some.injEq] at e; have := hx.1; omega
theorem energy_bd {x : Dev} {n d o : Int} (before on : Bool) (h : HeadOk n d o) (hx : DevOk x) : 0 ≤ x.energy n d o before on ∧ x.energy n d o before on ≤ 5000000000 := by
  have h2 := h.ins
  have hd := h.hd
  cases x with
  | slu x => have := hx.2; simp only [Dev.energy]; split <;> omega
  | pmp x =>
    obtain ⟨_, x1, x2, x3⟩ := hx
    have h3 := lift_bd (x := max 0 (-(n - o * d))) (l := x.lift) h.hd x2 (by omega)
    simp only [Dev.energy]
    split
    · split <;> omega
    · omega
end Go.Proofs.YtmckmlmfilmiaaaGreatDoor.X
/-
  The walks of devices, kinds and Check's closure (runoff).
-/
namespace Go.Proofs.YtmckmlmfilmiaaaGreatDoor.X
open Go Go.RowKit Go.Proofs.YtmckmlmfilmiaaaGreatDoor.Bs
set_option linter.unusedVariables false
theorem dev_el : elemOk Tryz.prog 54 devK.ty devK.m 16 = true := by kernel_rfl
theorem slu_con : conB (Tryz.prog.underlying 100) = true := by kernel_rfl
theorem pmp_con : conB (Tryz.prog.underlying 103) = true := by kernel_rfl
def DevsV (ds : List Dev) (v : Value) (new : List Held) : Prop := ∃ r : SV, v = svV r ∧ new = [hList devK r ds] ∧ (0 < ds.length → ds.length ≤ r.c)
theorem take_map_succ {α β : Type} (f : α → β) {l : List α} {k : Nat} (h : k < l.length) : (l.take (k + 1)).map f = (l.take k).map f ++ [f l[k]] := by
  rw [List.take_add_one, List.getElem?_eq_getElem h, List.map_append]; rfl
set_option maxHeartbeats 8000000 in
theorem devices_made {v : RTV} {t : RTk} {w : World} (ht : TskAt w w.heap.size v t) (hn : t.slu.length + t.pmp.length ≤ 5000000) :
    Calls Tryz.prog 13 #[tskV v t] w (Made w (DevsV t.devs)) := by
  obtain ⟨p, q, o, r, c, ⟨As, ns, cs⟩, ⟨Ap, np, cp⟩, on⟩ := v
  have hls := ht.slu.len (by decide)
  have hlp := ht.pmp.len (by decide)
  simp only at hls hlp
  subst hls hlp
  have hsl := ht.slu
  have hpl := ht.pmp
  simp only at hsl hpl
  simp only [tskV, tskC]
  refine enter Tryz.func13 rfl Tryz.ntmps13 rfl ?_; simp only [frame, Nat.zero_add, Nat.reduceAdd]
  repeat (first | (refine M0 ?_; first | refine SL ?_ | refine SB fun _ _ => ?_) | (refine M1 ?_; first | refine SC ?_ | refine SD ?_) | (refine M2 ?_; refine SE ?_) | (refine M3 ?_; first | refine SG ?_ | refine SF ?_) | (refine M4 ?_; refine SR ?_) | (refine M5 ?_; first | exact M7 | refine YM ?_ | refine YN ?_ ?_))
  rename_i g1 hg1
  refine XC.rebase (List.Sublist.refl _) (fun W0 S0 => ?_)
  have hl1 : ∀ (l : List Dev), l.length ≤ 5000000 → l.length + 1 ≤ 10000000 := fun l h => by omega
  have ha1 : ∀ (d : Dev) x, x ∈ devK.sl d → x ∈ ([] : List Held) := fun d x hx => hx
  refine XC.loopk [1, 8, 9] rfl (fun s : Nat × World × Value => [(10, .int .i64 (s.1 : Nat)), (2, s.2.2)]) (fun s => [(g1, _)]) (fun s => s.2.1)
    (fun s => s.1 ≤ t.slu.length ∧ Fam s.2.1 w.heap.size [g1] [⟨Dev, devK, s.2.2, (t.slu.take s.1).map Dev.slu⟩] [] ∧ Below w.heap.size w s.2.1 ∧ g1 < s.2.1.heap.size)
    (fun s => t.slu.length - s.1) (0, W0, .slice none 0 0) ⟨Nat.zero_le _, (Fam.start (ks := [g1]) S0.size).nil devK, S0.toBelow, S0.keyLt g1 (by simp)⟩ ZZSUB (fun _ h => h) ?_
  · rintro ⟨k, W, v⟩ ⟨hk, hF, hBW, hgW⟩
    simp only at hk hF hBW hgW
    dsimp only [List.cons_append, List.nil_append]
    repeat (first | (refine M0 ?_; first | refine SL ?_ | refine SB fun _ _ => ?_) | (refine M1 ?_; first | refine SC ?_ | refine SD ?_) | (refine M2 ?_; refine SE ?_) | (refine M3 ?_; first | refine SG ?_ | refine SF ?_) | (refine M4 ?_; refine SR ?_) | (refine M5 ?_; first | exact M7 | refine YM ?_ | refine YN ?_ ?_))
    refine XC.cond _ rfl (fun h1 => ?_) (fun h1 => ?_)
    · have hkn : k < t.slu.length := by simpa using h1
      obtain ⟨ad, rfl, hlt⟩ := hsl.addr (by decide) (by omega)
      obtain ⟨x, hx⟩ : ∃ x, x = t.slu[k] := ⟨_, rfl⟩
      have hcell : ∀ j u, (sluC x)[j]? = some u → W.cell? ((ad.add (k * 3)).add j) = some u := by rw [hx]; exact (hsl.below hBW).elem (List.getElem?_eq_getElem hkn)
      have hks : ∀ j, j ∈ [g1] → j < W.heap.size := fun j hj => by rw [List.mem_singleton.1 hj]; exact hgW
      simp only [sluC] at hcell
      repeat (first | (refine M0 ?_; first | refine SL ?_ | refine SB fun _ _ => ?_ | refine Y4 (Ev.load_old_agg tok _ rfl rfl rfl (add_lt hlt) hcell) ?_ | refine Y4 (Ev.makeI slu_con rfl) ?_ | refine XL.buildSlice tok rfl rfl rfl rfl rfl rfl rfl rfl rfl (fun _ _ => ?_)) | (refine M1 ?_; first | refine SC ?_ | refine SD ?_) | (refine M2 ?_; refine SE ?_) | (refine M3 ?_; first | refine SG ?_ | refine SF ?_ | refine YF (Ev.load_old_agg tok _ rfl rfl rfl (add_lt hlt) hcell) ?_ | refine YF (Ev.makeI slu_con rfl) ?_) | (refine M4 ?_; refine SR ?_) | (refine M5 ?_; first | exact M7 | refine YM ?_ | refine YN ?_ ?_))
      refine XL.push (K := devK) (a := Dev.slu x) (wE := w) 0 dev_el (by decide) rfl rfl rfl hF rfl hks hBW (Nat.le_refl _) rfl (hl1 _ (by rw [List.length_map, List.length_take]; omega)) (by decide) (ha1 _) (fun W1 u1 hF1 hB1 hk1 => ?_)
      repeat (first | (refine M0 ?_; first | refine SL ?_ | refine SB fun _ _ => ?_) | (refine M1 ?_; first | refine SC ?_ | refine SD ?_) | (refine M2 ?_; refine SE ?_) | (refine M3 ?_; first | refine SG ?_ | refine SF ?_) | (refine M4 ?_; refine SR ?_) | (refine M5 ?_; first | exact M7 | refine YM ?_ | refine YN ?_ ?_))
      refine XE.roundW (s := (k, W, v)) (fun w6 S6 => ⟨(k + 1, w6, u1), ⟨hkn, ?_, hB1.trans S6.toBelow, S6.keyLt g1 (by simp)⟩, by simp only; omega, ZZSUB, S6.rebase ZZSL⟩)
      simp only [take_map_succ Dev.slu hkn, ← hx]
      exact Fam.add (Fam.sys hF1 S6 ZZHL) ZZHK
    · have hkn : k = t.slu.length := by have : ¬ (k < t.slu.length) := by simpa using h1
                                        omega
      subst hkn
      rw [List.take_length] at hF
      repeat (first | (refine M0 ?_; first | refine SL ?_ | refine SB fun _ _ => ?_) | (refine M1 ?_; first | refine SC ?_ | refine SD ?_) | (refine M2 ?_; refine SE ?_) | (refine M3 ?_; first | refine SG ?_ | refine SF ?_) | (refine M4 ?_; refine SR ?_) | (refine M5 ?_; first | exact M7 | refine YM ?_ | refine YN ?_ ?_))
      refine XC.rebase (List.Sublist.refl _) (fun W2 S2 => ?_)
      refine XC.loopk [21, 22] rfl (fun s : Nat × World × Value => [(23, .int .i64 (s.1 : Nat)), (2, s.2.2)]) (fun s => [(g1, _)]) (fun s => s.2.1)
        (fun s => s.1 ≤ t.pmp.length ∧ Fam s.2.1 w.heap.size [g1] [⟨Dev, devK, s.2.2, t.slu.map Dev.slu ++ (t.pmp.take s.1).map Dev.pmp⟩] [] ∧ Below w.heap.size w s.2.1 ∧ g1 < s.2.1.heap.size)
        (fun s => t.pmp.length - s.1) (0, W2, v) ⟨Nat.zero_le _, by simpa using hF.sys S2 ZZHL, hBW.trans S2.toBelow, S2.keyLt g1 (by simp)⟩ ZZSUB (fun _ h => h) ?_
      rintro ⟨k, W, v⟩ ⟨hk, hF, hBW, hgW⟩
      simp only at hk hF hBW hgW
      dsimp only [List.cons_append, List.nil_append]
      repeat (first | (refine M0 ?_; first | refine SL ?_ | refine SB fun _ _ => ?_) | (refine M1 ?_; first | refine SC ?_ | refine SD ?_) | (refine M2 ?_; refine SE ?_) | (refine M3 ?_; first | refine SG ?_ | refine SF ?_) | (refine M4 ?_; refine SR ?_) | (refine M5 ?_; first | exact M7 | refine YM ?_ | refine YN ?_ ?_))
      refine XC.cond _ rfl (fun h1 => ?_) (fun h1 => ?_)
      · have hkn : k < t.pmp.length := by simpa using h1
        obtain ⟨ad, rfl, hlt⟩ := hpl.addr (by decide) (by omega)
        obtain ⟨x, hx⟩ : ∃ x, x = t.pmp[k] := ⟨_, rfl⟩
        have hcell : ∀ j u, (pmpC x)[j]? = some u → W.cell? ((ad.add (k * 5)).add j) = some u := by rw [hx]; exact (hpl.below hBW).elem (List.getElem?_eq_getElem hkn)
        have hks : ∀ j, j ∈ [g1] → j < W.heap.size := fun j hj => by rw [List.mem_singleton.1 hj]; exact hgW
        simp only [pmpC] at hcell
        repeat (first | (refine M0 ?_; first | refine SL ?_ | refine SB fun _ _ => ?_ | refine Y4 (Ev.load_old_agg tok _ rfl rfl rfl (add_lt hlt) hcell) ?_ | refine Y4 (Ev.makeI pmp_con rfl) ?_ | refine XL.buildSlice tok rfl rfl rfl rfl rfl rfl rfl rfl rfl (fun _ _ => ?_)) | (refine M1 ?_; first | refine SC ?_ | refine SD ?_) | (refine M2 ?_; refine SE ?_) | (refine M3 ?_; first | refine SG ?_ | refine SF ?_ | refine YF (Ev.load_old_agg tok _ rfl rfl rfl (add_lt hlt) hcell) ?_ | refine YF (Ev.makeI pmp_con rfl) ?_) | (refine M4 ?_; refine SR ?_) | (refine M5 ?_; first | exact M7 | refine YM ?_ | refine YN ?_ ?_))
        refine XL.push (K := devK) (a := Dev.pmp x) (wE := w) 0 dev_el (by decide) rfl rfl rfl hF rfl hks hBW (Nat.le_refl _) rfl (hl1 _ (by rw [List.length_append, List.length_map, List.length_map, List.length_take]; omega)) (by decide) (ha1 _) (fun W1 u1 hF1 hB1 hk1 => ?_)
        repeat (first | (refine M0 ?_; first | refine SL ?_ | refine SB fun _ _ => ?_) | (refine M1 ?_; first | refine SC ?_ | refine SD ?_) | (refine M2 ?_; refine SE ?_) | (refine M3 ?_; first | refine SG ?_ | refine SF ?_) | (refine M4 ?_; refine SR ?_) | (refine M5 ?_; first | exact M7 | refine YM ?_ | refine YN ?_ ?_))
        refine XE.roundW (s := (k, W, v)) (fun w6 S6 => ⟨(k + 1, w6, u1), ⟨hkn, ?_, hB1.trans S6.toBelow, S6.keyLt g1 (by simp)⟩, by simp only; omega, ZZSUB, S6.rebase ZZSL⟩)
        simp only [take_map_succ Dev.pmp hkn, ← hx, ← List.append_assoc]
        exact Fam.add (Fam.sys hF1 S6 ZZHL) ZZHK
      · have hkn : k = t.pmp.length := by have : ¬ (k < t.pmp.length) := by simpa using h1
                                          omega
        subst hkn
        rw [List.take_length] at hF
        repeat (first | (refine M0 ?_; first | refine SL ?_ | refine SB fun _ _ => ?_) | (refine M1 ?_; first | refine SC ?_ | refine SD ?_) | (refine M2 ?_; refine SE ?_) | (refine M3 ?_; first | refine SG ?_ | refine SF ?_) | (refine M4 ?_; refine SR ?_) | (refine M5 ?_; first | exact M7 | refine YM ?_ | refine YN ?_ ?_))
        refine XE.retg tok Tryz.results13 rfl (by simp only [and_self, and_true]) (fun w' S => ?_)
        have hF6 := hF.sys S ZZHL
        obtain ⟨r1, rfl, h5⟩ := hF6.list (.head _)
        exact ⟨_, _, rfl, ⟨r1, rfl, rfl, fun h0 => hF6.cap (r := r1) (.head _) h0⟩, fun x hx => by rw [List.mem_singleton.1 hx]; exact h5, hBW.trans S.toBelow⟩
/-! ### kinds -/
def isS : Dev → Bool
  | .slu _ => true
  | .pmp _ => false
def isP (d : Dev) : Bool := !isS d
theorem countP_succ (f : Dev → Bool) {l : List Dev} {k : Nat} (h : k < l.length) : (l.take (k + 1)).countP f = (l.take k).countP f + (if f l[k] = true then 1 else 0) := by
  rw [List.take_add_one, List.getElem?_eq_getElem h, List.countP_append]
  congr 1
  simp [List.countP_cons]
theorem count_devs (t : RTk) : t.devs.countP isS = t.slu.length ∧ t.devs.countP isP = t.pmp.length := by
  unfold RTk.devs
  rw [List.countP_append, List.countP_append, List.countP_map, List.countP_map, List.countP_map, List.countP_map]
  have e1 : t.slu.countP (isS ∘ Dev.slu) = t.slu.length := List.countP_eq_length.2 fun _ _ => rfl
  have e2 : t.pmp.countP (isS ∘ Dev.pmp) = 0 := List.countP_eq_zero.2 fun _ _ => by simp [isS]
  have e3 : t.slu.countP (isP ∘ Dev.slu) = 0 := List.countP_eq_zero.2 fun _ _ => by simp [isP, isS]
  have e4 : t.pmp.countP (isP ∘ Dev.pmp) = t.pmp.length := List.countP_eq_length.2 fun _ _ => rfl
  omega
set_option maxHeartbeats 4000000 in
theorem kinds_any {r : SV} {ds : List Dev} {w : World} (hr : ListAt devK w (Lt w.heap.size) r ds) (hn : ds.length ≤ 10000000) :
    Calls Tryz.prog 14 #[svV r] w fun e w' => e = .returned (.tuple ⟨[.int .i64 (ds.countP isS : Nat), .int .i64 (ds.countP isP : Nat)]⟩) ∧ Below w.heap.size w w' := by
  obtain ⟨A, n, c⟩ := r
  have hln := hr.len (by decide)
  simp only at hln
  subst hln
  simp only [svV]
  refine enter Tryz.func14 rfl Tryz.ntmps14 rfl ?_; simp only [frame, Nat.zero_add, Nat.reduceAdd]
  repeat (first | (refine M0 ?_; first | refine SL ?_ | refine SB fun _ _ => ?_) | (refine M1 ?_; first | refine SC ?_ | refine SD ?_) | (refine M2 ?_; refine SE ?_) | (refine M3 ?_; first | refine SG ?_ | refine SF ?_) | (refine M4 ?_; refine SR ?_) | (refine M5 ?_; first | exact M7 | refine YM ?_ | refine YN ?_ ?_))
  refine XC.loopk [6, 7] rfl (fun k : Nat => [(2, .int .i64 ((ds.take k).countP isS : Nat)), (3, .int .i64 ((ds.take k).countP isP : Nat)), (8, .int .i64 (k : Nat))]) (fun _ => []) (fun _ => w) (fun k => k ≤ ds.length) (fun k => ds.length - k) 0 (Nat.zero_le _) ZZSUB (fun _ h => h) ?_
  intro k hk
  dsimp only [List.cons_append, List.nil_append]
  repeat (first | (refine M0 ?_; first | refine SL ?_ | refine SB fun _ _ => ?_) | (refine M1 ?_; first | refine SC ?_ | refine SD ?_) | (refine M2 ?_; refine SE ?_) | (refine M3 ?_; first | refine SG ?_ | refine SF ?_) | (refine M4 ?_; refine SR ?_) | (refine M5 ?_; first | exact M7 | refine YM ?_ | refine YN ?_ ?_))
  refine XC.cond _ rfl (fun h1 => ?_) (fun h1 => ?_)
  · have hkn : k < ds.length := by simpa using h1
    obtain ⟨ad, rfl, hlt⟩ := hr.addr (by decide) (by omega)
    have h9 := hr.elem (List.getElem?_eq_getElem hkn) 0 (devV ds[k]) rfl
    rw [add_add, Nat.add_zero] at h9
    have h9' : w.cell? (ad.add (k * 1)) = some (devV ds[k]) := h9
    have b1 := List.countP_le_length (p := isS) (l := ds.take k)
    have b2 := List.countP_le_length (p := isP) (l := ds.take k)
    have b3 : (ds.take k).length ≤ ds.length := by rw [List.length_take]; omega
    have c1 := countP_succ isS hkn
    have c2 := countP_succ isP hkn
    cases hd : ds[k] with
    | slu x =>
      rw [hd] at h9' c1 c2
      simp only [isS, isP, if_true, Bool.not_true, Bool.false_eq_true, if_false, Nat.add_zero] at c1 c2
      repeat (first | (refine M0 ?_; first | refine SL ?_ | refine SB fun _ _ => ?_ | refine Y4 (Ev.load_old tok rfl rfl (add_lt hlt) h9') ?_ | refine Y4 (Ev.assertOk (s := 100) (v := .agg ⟨sluC x⟩) rfl slu_con tok rfl (.tuple ⟨[.agg ⟨sluC x⟩, .bool true]⟩) (if_pos rfl).symm) ?_) | (refine M1 ?_; first | refine SC ?_ | refine SD ?_) | (refine M2 ?_; refine SE ?_) | (refine M3 ?_; first | refine SG ?_ | refine SF ?_ | refine YF (Ev.load_old tok rfl rfl (add_lt hlt) h9') ?_ | refine YF (Ev.assertOk (s := 100) (v := .agg ⟨sluC x⟩) rfl slu_con tok rfl (.tuple ⟨[.agg ⟨sluC x⟩, .bool true]⟩) (if_pos rfl).symm) ?_) | (refine M4 ?_; refine SR ?_) | (refine M5 ?_; first | exact M7 | refine YM ?_ | refine YN ?_ ?_))
      exact XE.round (k + 1) hkn (by omega) (by rw [c1, c2]; repeat (first | exact Sub.nil | refine Sub.cons rfl ?_)) (fun _ h => h)
    | pmp x =>
      rw [hd] at h9' c1 c2
      simp only [isS, isP, if_true, Bool.not_false, Bool.false_eq_true, if_false, Nat.add_zero] at c1 c2
      repeat (first | (refine M0 ?_; first | refine SL ?_ | refine SB fun _ _ => ?_ | refine Y4 (Ev.load_old tok rfl rfl (add_lt hlt) h9') ?_ | refine Y4 (Ev.assertOk (u := 100) (s := 103) (v := .agg ⟨pmpC x⟩) rfl slu_con tok rfl (.tuple ⟨[_, .bool false]⟩) (if_neg (by decide)).symm) ?_ | refine Y4 (Ev.assertOk (u := 103) (s := 103) (v := .agg ⟨pmpC x⟩) rfl pmp_con tok rfl (.tuple ⟨[.agg ⟨pmpC x⟩, .bool true]⟩) (if_pos rfl).symm) ?_) | (refine M1 ?_; first | refine SC ?_ | refine SD ?_) | (refine M2 ?_; refine SE ?_) | (refine M3 ?_; first | refine SG ?_ | refine SF ?_ | refine YF (Ev.load_old tok rfl rfl (add_lt hlt) h9') ?_ | refine YF (Ev.assertOk (u := 100) (s := 103) (v := .agg ⟨pmpC x⟩) rfl slu_con tok rfl (.tuple ⟨[_, .bool false]⟩) (if_neg (by decide)).symm) ?_ | refine YF (Ev.assertOk (u := 103) (s := 103) (v := .agg ⟨pmpC x⟩) rfl pmp_con tok rfl (.tuple ⟨[.agg ⟨pmpC x⟩, .bool true]⟩) (if_pos rfl).symm) ?_) | (refine M4 ?_; refine SR ?_) | (refine M5 ?_; first | exact M7 | refine YM ?_ | refine YN ?_ ?_))
      exact XE.round (k + 1) hkn (by omega) (by rw [c1, c2]; repeat (first | exact Sub.nil | refine Sub.cons rfl ?_)) (fun _ h => h)
  · have hkn : k = ds.length := by have : ¬ (k < ds.length) := by simpa using h1
                                   omega
    subst hkn
    rw [List.take_length]
    repeat (first | (refine M0 ?_; first | refine SL ?_ | refine SB fun _ _ => ?_) | (refine M1 ?_; first | refine SC ?_ | refine SD ?_) | (refine M2 ?_; refine SE ?_) | (refine M3 ?_; first | refine SG ?_ | refine SF ?_) | (refine M4 ?_; refine SR ?_) | (refine M5 ?_; first | exact M7 | refine YM ?_ | refine YN ?_ ?_))
    refine XE.retg tok Tryz.results14 rfl (by simp only [and_self, and_true]) (fun w' S => ?_)
    exact ⟨rfl, S.toBelow⟩
/-! ### is it there already -/
set_option maxHeartbeats 4000000 in
theorem rncheck1_any {g : Nat} {c d : Dev} {w : World} (h : w.heap[g]? = some (cel 59 [devV d])) :
    Calls Tryz.prog 17 #[devV c, .pointer (some ⟨g, 0, none⟩)] w fun e w' => e = .returned (.bool (decide (c.name = d.name))) ∧ Below w.heap.size w w' := by
  have hl := (Array.getElem?_eq_some_iff.1 h).1
  have d0 : w.cell? ⟨g, 0, none⟩ = some (devV d) := by simp [World.cell?, h]
  obtain ⟨f1, m1, k1, c1⟩ := dev_name c
  obtain ⟨f2, m2, k2, c2⟩ := dev_name d
  refine enter Tryz.func17 rfl Tryz.ntmps17 rfl ?_; simp only [frame, Nat.zero_add, Nat.reduceAdd]
  repeat (first | (refine M0 ?_; first | refine SL ?_ | refine SB fun _ _ => ?_ | refine Y4 (Ev.load_old tok rfl rfl hl d0) ?_ | refine Y4 (Ev.invoke (t := c.ty) (v := .agg ⟨c.c⟩) m1 k1 rfl rfl (fun w S => c1 w)) ?_ | refine Y4 (Ev.invoke (t := d.ty) (v := .agg ⟨d.c⟩) m2 k2 rfl rfl (fun w S => c2 w)) ?_ | refine Y4 (Ev.eql_str rfl rfl) ?_) | (refine M1 ?_; first | refine SC ?_ | refine SD ?_) | (refine M2 ?_; refine SE ?_) | (refine M3 ?_; first | refine SG ?_ | refine SF ?_ | refine YF (Ev.load_old tok rfl rfl hl d0) ?_ | refine YF (Ev.invoke (t := c.ty) (v := .agg ⟨c.c⟩) m1 k1 rfl rfl (fun w S => c1 w)) ?_ | refine YF (Ev.invoke (t := d.ty) (v := .agg ⟨d.c⟩) m2 k2 rfl rfl (fun w S => c2 w)) ?_ | refine YF (Ev.eql_str rfl rfl) ?_) | (refine M4 ?_; refine SR ?_) | (refine M5 ?_; first | exact M7 | refine YM ?_ | refine YN ?_ ?_))
  refine XE.retg tok Tryz.results17 rfl (by simp only [and_self, and_true]) (fun w' S => ?_)
  exact ⟨rfl, S.toBelow⟩
theorem idxDev {f : FuncId} {cap : List Value} {P : Dev → Bool} {r : SV} {ms : List Dev} {w : World} (hck : callOk Tryz.prog f = true) (hr : ListAt devK w (Lt w.heap.size) r ms) (hn : ms.length ≤ 1000)
    (hc : ∀ m, m ∈ ms → ∀ w', Below w.heap.size w w' → Calls Tryz.prog f ([] ++ [devV m] ++ cap).toArray w' fun e w'' => e = .returned (.bool (P m)) ∧ Below w'.heap.size w' w'') :
    Calls Tryz.prog 36 #[svV r, .func (.func f) #[] cap.toArray] w fun e w' => e = .returned (.int .i64 (idxL ms P)) ∧ Below w.heap.size w w' := by
  obtain ⟨A, n, c⟩ := r
  have hln := hr.len (by decide)
  simp only at hln
  subst hln
  simp only [svV]
  refine enter Tryz.func36 rfl Tryz.ntmps36 rfl ?_; simp only [frame, Nat.zero_add, Nat.reduceAdd]
  repeat (first | (refine M0 ?_; first | refine SL ?_ | refine SB fun _ _ => ?_) | (refine M1 ?_; first | refine SC ?_ | refine SD ?_) | (refine M2 ?_; refine SE ?_) | (refine M3 ?_; first | refine SG ?_ | refine SF ?_) | (refine M4 ?_; refine SR ?_) | (refine M5 ?_; first | exact M7 | refine YM ?_ | refine YN ?_ ?_))
  refine XC.loopk [0, 1, 7] rfl (fun k : Nat => [(8, .int .i64 (k : Nat))]) (fun _ => []) (fun _ => w) (fun k => k ≤ ms.length ∧ ∀ j m, j < k → ms[j]? = some m → P m = false) (fun k => ms.length - k) 0 ⟨Nat.zero_le _, fun j m h => absurd h (by omega)⟩ ZZSUB (fun _ h => h) ?_
  rintro k ⟨hk, h0⟩
  dsimp only [List.cons_append, List.nil_append]
  repeat (first | (refine M0 ?_; first | refine SL ?_ | refine SB fun _ _ => ?_) | (refine M1 ?_; first | refine SC ?_ | refine SD ?_) | (refine M2 ?_; refine SE ?_) | (refine M3 ?_; first | refine SG ?_ | refine SF ?_) | (refine M4 ?_; refine SR ?_) | (refine M5 ?_; first | exact M7 | refine YM ?_ | refine YN ?_ ?_))
  refine XC.cond _ rfl (fun h3 => ?_) (fun h3 => ?_)
  · have hkn : k < ms.length := by simpa using h3
    obtain ⟨ad, rfl, hlt⟩ := hr.addr (by decide) (by omega)
    have hmk : ms[k]? = some ms[k] := List.getElem?_eq_getElem hkn
    have h9 := hr.elem hmk 0 (devV ms[k]) rfl
    rw [add_add, Nat.add_zero] at h9
    have hcell : w.cell? (ad.add (k * 1)) = some (devV ms[k]) := h9
    repeat (first | (refine M0 ?_; first | refine SL ?_ | refine SB fun _ _ => ?_ | refine Y4 (Ev.load_old tok rfl rfl (add_lt hlt) hcell) ?_ | refine Y4 (Ev.callv (f := f) (fst := []) (cap := cap) hck rfl rfl (fun w S => hc _ (List.getElem_mem hkn) w S.toBelow)) ?_) | (refine M1 ?_; first | refine SC ?_ | refine SD ?_) | (refine M2 ?_; refine SE ?_) | (refine M3 ?_; first | refine SG ?_ | refine SF ?_ | refine YF (Ev.load_old tok rfl rfl (add_lt hlt) hcell) ?_ | refine YF (Ev.callv (f := f) (fst := []) (cap := cap) hck rfl rfl (fun w S => hc _ (List.getElem_mem hkn) w S.toBelow)) ?_) | (refine M4 ?_; refine SR ?_) | (refine M5 ?_; first | exact M7 | refine YM ?_ | refine YN ?_ ?_))
    refine XC.cond _ rfl (fun h4 => ?_) (fun h4 => ?_)
    · repeat (first | (refine M0 ?_; first | refine SL ?_ | refine SB fun _ _ => ?_) | (refine M1 ?_; first | refine SC ?_ | refine SD ?_) | (refine M2 ?_; refine SE ?_) | (refine M3 ?_; first | refine SG ?_ | refine SF ?_) | (refine M4 ?_; refine SR ?_) | (refine M5 ?_; first | exact M7 | refine YM ?_ | refine YN ?_ ?_))
      refine XE.retg tok Tryz.results36 rfl (by simp only [and_self, and_true]) (fun w' S => ?_)
      have : ms.findIdx? P = some k := by
        rw [List.findIdx?_eq_some_iff_getElem]
        exact ⟨hkn, h4, fun j hj => by simpa using h0 j _ hj (List.getElem?_eq_getElem (by omega))⟩
      unfold idxL
      rw [this]
      exact ⟨rfl, S.toBelow⟩
    · repeat (first | (refine M0 ?_; first | refine SL ?_ | refine SB fun _ _ => ?_) | (refine M1 ?_; first | refine SC ?_ | refine SD ?_) | (refine M2 ?_; refine SE ?_) | (refine M3 ?_; first | refine SG ?_ | refine SF ?_) | (refine M4 ?_; refine SR ?_) | (refine M5 ?_; first | exact M7 | refine YM ?_ | refine YN ?_ ?_))
      refine XE.round (k + 1) ⟨hkn, fun j m hj hm => ?_⟩ (by omega) ZZSUB (fun _ h => h)
      rcases Nat.lt_or_ge j k with h5 | h5
      · exact h0 j m h5 hm
      · have : j = k := by omega
        subst this
        rw [hmk] at hm
        cases hm
        exact h4
  · have hkn : ¬ k < ms.length := by simpa using h3
    repeat (first | (refine M0 ?_; first | refine SL ?_ | refine SB fun _ _ => ?_) | (refine M1 ?_; first | refine SC ?_ | refine SD ?_) | (refine M2 ?_; refine SE ?_) | (refine M3 ?_; first | refine SG ?_ | refine SF ?_) | (refine M4 ?_; refine SR ?_) | (refine M5 ?_; first | exact M7 | refine YM ?_ | refine YN ?_ ?_))
    refine XE.retg tok Tryz.results36 rfl (by simp only [and_self, and_true]) (fun w' S => ?_)
    have : ms.findIdx? P = none := by
      rw [List.findIdx?_eq_none_iff]
      intro m hm
      obtain ⟨j, hj, e⟩ := List.mem_iff_getElem.1 hm
      exact h0 j m (by omega) (by rw [List.getElem?_eq_getElem hj, e])
    unfold idxL
    rw [this]
    exact ⟨rfl, S.toBelow⟩
theorem contDev {f : FuncId} {cap : List Value} {P : Dev → Bool} {r : SV} {ms : List Dev} {w : World} (hck : callOk Tryz.prog f = true) (hr : ListAt devK w (Lt w.heap.size) r ms) (hn : ms.length ≤ 1000)
    (hc : ∀ m, m ∈ ms → ∀ w', Below w.heap.size w w' → Calls Tryz.prog f ([] ++ [devV m] ++ cap).toArray w' fun e w'' => e = .returned (.bool (P m)) ∧ Below w'.heap.size w' w'') :
    Calls Tryz.prog 16 #[svV r, .func (.func f) #[] cap.toArray] w fun e w' => e = .returned (.bool (ms.any P)) ∧ Below w.heap.size w w' := by
  obtain ⟨A, n, c⟩ := r
  simp only [svV]
  refine enter Tryz.func16 rfl Tryz.ntmps16 rfl ?_; simp only [frame, Nat.zero_add, Nat.reduceAdd]
  repeat (first | (refine M0 ?_; first | refine SL ?_ | refine SB fun _ _ => ?_ | refine Y4 (Ev.call (f := 36) (ck rfl) rfl (fun w5 S5 => (idxDev (f := f) (cap := cap) (P := P) (r := ⟨A, n, c⟩) (ms := ms) hck (hr.arg S5) hn (fun m hm w' hb => hc m hm w' (S5.toBelow.trans (hb.mono S5.size))) :))) ?_) | (refine M1 ?_; first | refine SC ?_ | refine SD ?_) | (refine M2 ?_; refine SE ?_) | (refine M3 ?_; first | refine SG ?_ | refine SF ?_ | refine YF (Ev.call (f := 36) (ck rfl) rfl (fun w5 S5 => (idxDev (f := f) (cap := cap) (P := P) (r := ⟨A, n, c⟩) (ms := ms) hck (hr.arg S5) hn (fun m hm w' hb => hc m hm w' (S5.toBelow.trans (hb.mono S5.size))) :))) ?_) | (refine M4 ?_; refine SR ?_) | (refine M5 ?_; first | exact M7 | refine YM ?_ | refine YN ?_ ?_))
  refine XE.retg tok Tryz.results16 rfl (by simp only [and_self, and_true]) (fun w' S => ?_)
  exact ⟨by rw [idxL_any]; rfl, S.toBelow⟩
end Go.Proofs.YtmckmlmfilmiaaaGreatDoor.X
/-
  The walk of Check (runoff).
-/
namespace Go.Proofs.YtmckmlmfilmiaaaGreatDoor.Bs
open Go.Proofs.YtmckmlmfilmiaaaGreatDoor.X
structure Pre4 (t : RTk) : Prop where
  c : chkE t.b = 0
  s : staErr t.b t.s = 0
  n : ¬ 6 < t.outer.length
  e : ¬ (t.river.length ≠ t.outer.length ∨ t.prices.length ≠ t.outer.length)
section
variable {t : RTk}
theorem chkT_1 (h : chkE t.b ≠ 0) : chkT t = (1, 0, chkE t.b) := by unfold chkT; rw [if_pos h]
theorem chkT_2 (h : chkE t.b = 0) (h2 : staErr t.b t.s ≠ 0) : chkT t = (1, 1, staErr t.b t.s) := by unfold chkT; rw [if_neg (by simp [h]), if_pos h2]
theorem chkT_3 (h : chkE t.b = 0) (h2 : staErr t.b t.s = 0) (h3 : 6 < t.outer.length) : chkT t = (2, 0, 3) := by unfold chkT; rw [if_neg (by simp [h]), if_neg (by simp [h2]), if_pos h3]
theorem chkT_4 (h : chkE t.b = 0) (h2 : staErr t.b t.s = 0) (h3 : ¬ 6 < t.outer.length) (h4 : t.river.length ≠ t.outer.length ∨ t.prices.length ≠ t.outer.length) : chkT t = (2, 0, 2) := by unfold chkT; rw [if_neg (by simp [h]), if_neg (by simp [h2]), if_neg h3, if_pos h4]
variable (p : Pre4 t)
include p
theorem chkT_5 {i : Nat} (hi : i < t.outer.length) (h0 : ∀ j, j < i → tickErr t j = 0) (h : tickErr t i ≠ 0) : chkT t = (2, ((i : Nat) : Int), 7) := by
  unfold chkT
  rw [if_neg (by simp [p.c]), if_neg (by simp [p.s]), if_neg p.n, if_neg p.e, firstN_some hi h0 h]
theorem chkT_6 (h0 : ∀ j, j < t.outer.length → tickErr t j = 0) (h : (outB t.high (-20000) 20000 || outB t.low (t.b.row 0).level t.high) = true) : chkT t = (3, 0, 7) := by
  unfold chkT
  rw [if_neg (by simp [p.c]), if_neg (by simp [p.s]), if_neg p.n, if_neg p.e, firstN_none h0]
  simp only
  rw [if_pos h]
variable (h0 : ∀ j, j < t.outer.length → tickErr t j = 0) (h : (outB t.high (-20000) 20000 || outB t.low (t.b.row 0).level t.high) = false)
include h0 h
theorem chkT_7 (h1 : 2 < t.slu.length ∨ 2 < t.pmp.length) : chkT t = (4, 0, 3) := by
  unfold chkT
  rw [if_neg (by simp [p.c]), if_neg (by simp [p.s]), if_neg p.n, if_neg p.e, firstN_none h0]
  simp only
  rw [if_neg (by simp [h]), if_pos h1]
variable (h1 : ¬ (2 < t.slu.length ∨ 2 < t.pmp.length))
include h1
theorem chkT_8 {i : Nat} (hi : i < t.devs.length) (h2 : ∀ j, j < i → devErr t.devs j = 0) {e : Int} (he : devErr t.devs i = e) (hne : e ≠ 0) : chkT t = (4, ((i : Nat) : Int), e) := by
  subst he
  unfold chkT
  rw [if_neg (by simp [p.c]), if_neg (by simp [p.s]), if_neg p.n, if_neg p.e, firstN_none h0]
  simp only
  rw [if_neg (by simp [h]), if_neg h1, firstN_some hi h2 hne]
variable (h2 : ∀ j, j < t.devs.length → devErr t.devs j = 0)
include h2
theorem chkT_9 (h3 : t.on.length ≠ t.devs.length) : chkT t = (5, 0, 2) := by
  unfold chkT
  rw [if_neg (by simp [p.c]), if_neg (by simp [p.s]), if_neg p.n, if_neg p.e, firstN_none h0]
  simp only
  rw [if_neg (by simp [h]), if_neg h1, firstN_none h2]
  simp only
  rw [if_pos h3]
theorem chkT_0 (h3 : t.on.length = t.devs.length) : chkT t = (0, 0, 0) := by
  unfold chkT
  rw [if_neg (by simp [p.c]), if_neg (by simp [p.s]), if_neg p.n, if_neg p.e, firstN_none h0]
  simp only
  rw [if_neg (by simp [h]), if_neg h1, firstN_none h2]
  simp only
  rw [if_neg (by simp [h3])]
end
theorem devErr_6 {l : List Dev} {i : Nat} (h : nameB (l[i]?.getD d0).name = false) : devErr l i = 6 := by unfold devErr; rw [if_pos h]
theorem devErr_5 {l : List Dev} {i : Nat} (h : nameB (l[i]?.getD d0).name = true) (k : Nat) (hk : k < i) (h2 : (l[k]?.getD d0).name = (l[i]?.getD d0).name) : devErr l i = 5 := by unfold devErr; rw [if_neg (by simp [h]), if_pos ⟨k, hk, h2⟩]
theorem devErr_7 {l : List Dev} {i : Nat} (h : nameB (l[i]?.getD d0).name = true) (h2 : ∀ k, k < i → (l[k]?.getD d0).name ≠ (l[i]?.getD d0).name) (h3 : (l[i]?.getD d0).wild = true) : devErr l i = 7 := by unfold devErr; rw [if_neg (by simp [h]), if_neg (fun ⟨k, a, b⟩ => h2 k a b), if_pos h3]
theorem devErr_0 {l : List Dev} {i : Nat} (h : nameB (l[i]?.getD d0).name = true) (h2 : ∀ k, k < i → (l[k]?.getD d0).name ≠ (l[i]?.getD d0).name) (h3 : (l[i]?.getD d0).wild = false) : devErr l i = 0 := by unfold devErr; rw [if_neg (by simp [h]), if_neg (fun ⟨k, a, b⟩ => h2 k a b), if_neg (by simp [h3])]
end Go.Proofs.YtmckmlmfilmiaaaGreatDoor.Bs
namespace Go.Proofs.YtmckmlmfilmiaaaGreatDoor.X
open Go Go.RowKit Go.Proofs.YtmckmlmfilmiaaaGreatDoor.Bs
set_option linter.unusedVariables false
noncomputable def chkTV (t : RTk) : Value := .tuple ⟨[.int .i64 (chkT t).1, .int .i64 (chkT t).2.1, .int .i64 (chkT t).2.2]⟩
theorem chkTV_of {t : RTk} {x y z : Int} (h : chkT t = (x, y, z)) : Ending.returned (.tuple #[.int .i64 x, .int .i64 y, .int .i64 z]) = .returned (chkTV t) := by unfold chkTV; rw [h]
theorem take_any {l : List Dev} {i : Nat} (hi : i < l.length) : ((l.take i).any fun c => decide (c.name = l[i].name)) = true ↔ ∃ k, k < i ∧ (l[k]?.getD d0).name = (l[i]?.getD d0).name := by
  rw [List.any_eq_true, List.getElem?_eq_getElem hi]
  constructor
  · rintro ⟨x, hx, h⟩
    obtain ⟨k, hk, rfl⟩ := List.mem_iff_getElem.1 hx
    rw [List.length_take] at hk
    refine ⟨k, by omega, ?_⟩
    rw [List.getElem?_eq_getElem (by omega)]
    rw [List.getElem_take] at h
    simpa using h
  · rintro ⟨k, hk, h⟩
    rw [List.getElem?_eq_getElem (by omega : k < l.length)] at h
    refine ⟨l[k], ?_, by simpa using h⟩
    rw [List.mem_iff_getElem]
    exact ⟨k, by rw [List.length_take]; omega, by rw [List.getElem_take]⟩
theorem rows_len {b : Bas} (h : chkE b = 0) : 2 ≤ b.rows.length := (ok_of h).n2
set_option maxHeartbeats 16000000 in
theorem rnCheck_any {v : RTV} {t : RTk} {w : World} (ht : TskAt w w.heap.size v t) (hn : t.slu.length + t.pmp.length ≤ 5000000) :
    Calls Tryz.prog 4 #[tskV v t] w fun e w' => e = .returned (chkTV t) ∧ Below w.heap.size w w' := by
  obtain ⟨⟨Ab, nb, cb, Ab2, nb2, cb2⟩, q, ⟨Ao, no, co⟩, ⟨Ar, nr, cr⟩, ⟨Ac, nc, cc⟩, su, pu, ⟨An, nn, cn⟩⟩ := v
  have ht0 := ht
  obtain ⟨hbas, hfil, hout, hriv, hpri, hslu, hpmp, hon, hnam⟩ := ht
  have lo := hout.len
  have lr := hriv.len
  have lc := hpri.len
  have ln := hon.len (by decide)
  have lb := hbas.n_eq
  simp only at lo lr lc ln lb hout hriv hpri hslu hpmp hon hbas
  subst lo lr lc ln lb
  simp only [tskV, tskC]
  refine enter Tryz.func4 rfl Tryz.ntmps4 rfl ?_; simp only [frame, Nat.zero_add, Nat.reduceAdd]
  repeat (first | (refine M0 ?_; first | refine SL ?_ | refine SB fun _ _ => ?_ | refine Y4 (Ev.call (f := 10) (ck rfl) rfl (fun w S => (check_any ⟨Ab, t.b.rows.length, cb, Ab2, nb2, cb2⟩ t.b w (hbas.sys S) :))) ?_) | (refine M1 ?_; first | refine SC ?_ | refine SD ?_) | (refine M2 ?_; refine SE ?_) | (refine M3 ?_; first | refine SG ?_ | refine SF ?_ | refine YF (Ev.call (f := 10) (ck rfl) rfl (fun w S => (check_any ⟨Ab, t.b.rows.length, cb, Ab2, nb2, cb2⟩ t.b w (hbas.sys S) :))) ?_) | (refine M4 ?_; refine SR ?_) | (refine M5 ?_; first | exact M7 | refine YM ?_ | refine YN ?_ ?_))
  rename_i g1 hg1
  refine XC.cond _ rfl (fun h0 => ?_) (fun h0 => ?_)
  · repeat (first | (refine M0 ?_; first | refine SL ?_ | refine SB fun _ _ => ?_) | (refine M1 ?_; first | refine SC ?_ | refine SD ?_) | (refine M2 ?_; refine SE ?_) | (refine M3 ?_; first | refine SG ?_ | refine SF ?_) | (refine M4 ?_; refine SR ?_) | (refine M5 ?_; first | exact M7 | refine YM ?_ | refine YN ?_ ?_))
    refine XE.retg tok Tryz.results4 rfl (by simp only [and_self, and_true]) (fun w' S => ?_)
    exact ⟨chkTV_of (chkT_1 (by simpa [chkE] using h0)), S.toBelow⟩
  have hE : chkE t.b = 0 := by simpa [chkE] using h0
  repeat (first | (refine M0 ?_; first | refine SL ?_ | refine SB fun _ _ => ?_ | refine Y4 (Ev.call (f := 11) (ck rfl) rfl (fun w S => (checkState_any (p := ⟨Ab, t.b.rows.length, cb, Ab2, nb2, cb2⟩) (q := q) (hbas.sys S) (hfil.arg S) :))) ?_) | (refine M1 ?_; first | refine SC ?_ | refine SD ?_) | (refine M2 ?_; refine SE ?_) | (refine M3 ?_; first | refine SG ?_ | refine SF ?_ | refine YF (Ev.call (f := 11) (ck rfl) rfl (fun w S => (checkState_any (p := ⟨Ab, t.b.rows.length, cb, Ab2, nb2, cb2⟩) (q := q) (hbas.sys S) (hfil.arg S) :))) ?_) | (refine M4 ?_; refine SR ?_) | (refine M5 ?_; first | exact M7 | refine YM ?_ | refine YN ?_ ?_))
  refine XC.cond _ rfl (fun h1 => ?_) (fun h1 => ?_)
  · repeat (first | (refine M0 ?_; first | refine SL ?_ | refine SB fun _ _ => ?_) | (refine M1 ?_; first | refine SC ?_ | refine SD ?_) | (refine M2 ?_; refine SE ?_) | (refine M3 ?_; first | refine SG ?_ | refine SF ?_) | (refine M4 ?_; refine SR ?_) | (refine M5 ?_; first | exact M7 | refine YM ?_ | refine YN ?_ ?_))
    refine XE.retg tok Tryz.results4 rfl (by simp only [and_self, and_true]) (fun w' S => ?_)
    exact ⟨chkTV_of (chkT_2 hE (by simpa using h1)), S.toBelow⟩
  have hS : staErr t.b t.s = 0 := by simpa using h1
  repeat (first | (refine M0 ?_; first | refine SL ?_ | refine SB fun _ _ => ?_) | (refine M1 ?_; first | refine SC ?_ | refine SD ?_) | (refine M2 ?_; refine SE ?_) | (refine M3 ?_; first | refine SG ?_ | refine SF ?_) | (refine M4 ?_; refine SR ?_) | (refine M5 ?_; first | exact M7 | refine YM ?_ | refine YN ?_ ?_))
  refine XC.cond _ rfl (fun h2 => ?_) (fun h2 => ?_)
  · repeat (first | (refine M0 ?_; first | refine SL ?_ | refine SB fun _ _ => ?_) | (refine M1 ?_; first | refine SC ?_ | refine SD ?_) | (refine M2 ?_; refine SE ?_) | (refine M3 ?_; first | refine SG ?_ | refine SF ?_) | (refine M4 ?_; refine SR ?_) | (refine M5 ?_; first | exact M7 | refine YM ?_ | refine YN ?_ ?_))
    refine XE.retg tok Tryz.results4 rfl (by simp only [and_self, and_true]) (fun w' S => ?_)
    exact ⟨chkTV_of (chkT_3 hE hS (by have := of_decide_eq_true h2; omega)), S.toBelow⟩
  have h6 : ¬ 6 < t.outer.length := by have := of_decide_eq_false h2; omega
  cases e4 : decide ((t.river.length : Int) ≠ (t.outer.length : Int)) with
  | true =>
    have e4' := of_decide_eq_true e4
    repeat (first | (refine M0 ?_; first | refine SL ?_ | refine SB fun _ _ => ?_) | (refine M1 ?_; first | refine SC ?_ | refine SD ?_) | (refine M2 ?_; refine SE ?_) | (refine M3 ?_; first | refine SG ?_ | refine SF ?_) | (refine M4 ?_; refine SR ?_) | (refine M5 ?_; first | exact M7 | refine YM ?_ | refine YN ?_ ?_))
    rw [e4]
    repeat (first | (refine M0 ?_; first | refine SL ?_ | refine SB fun _ _ => ?_) | (refine M1 ?_; first | refine SC ?_ | refine SD ?_) | (refine M2 ?_; refine SE ?_) | (refine M3 ?_; first | refine SG ?_ | refine SF ?_) | (refine M4 ?_; refine SR ?_) | (refine M5 ?_; first | exact M7 | refine YM ?_ | refine YN ?_ ?_))
    refine XE.retg tok Tryz.results4 rfl (by simp only [and_self, and_true]) (fun w' S => ?_)
    exact ⟨chkTV_of (chkT_4 hE hS h6 (.inl (by omega))), S.toBelow⟩
  | false =>
  have e4' := of_decide_eq_false e4
  repeat (first | (refine M0 ?_; first | refine SL ?_ | refine SB fun _ _ => ?_) | (refine M1 ?_; first | refine SC ?_ | refine SD ?_) | (refine M2 ?_; refine SE ?_) | (refine M3 ?_; first | refine SG ?_ | refine SF ?_) | (refine M4 ?_; refine SR ?_) | (refine M5 ?_; first | exact M7 | refine YM ?_ | refine YN ?_ ?_))
  rw [e4]
  repeat (first | (refine M0 ?_; first | refine SL ?_ | refine SB fun _ _ => ?_) | (refine M1 ?_; first | refine SC ?_ | refine SD ?_) | (refine M2 ?_; refine SE ?_) | (refine M3 ?_; first | refine SG ?_ | refine SF ?_) | (refine M4 ?_; refine SR ?_) | (refine M5 ?_; first | exact M7 | refine YM ?_ | refine YN ?_ ?_))
  refine XC.cond _ rfl (fun h3 => ?_) (fun h3 => ?_)
  · repeat (first | (refine M0 ?_; first | refine SL ?_ | refine SB fun _ _ => ?_) | (refine M1 ?_; first | refine SC ?_ | refine SD ?_) | (refine M2 ?_; refine SE ?_) | (refine M3 ?_; first | refine SG ?_ | refine SF ?_) | (refine M4 ?_; refine SR ?_) | (refine M5 ?_; first | exact M7 | refine YM ?_ | refine YN ?_ ?_))
    refine XE.retg tok Tryz.results4 rfl (by simp only [and_self, and_true]) (fun w' S => ?_)
    exact ⟨chkTV_of (chkT_4 hE hS h6 (.inr (by have := of_decide_eq_true h3; omega))), S.toBelow⟩
  have hp4 : Pre4 t := ⟨hE, hS, h6, fun h => h.elim (fun h => h (by omega)) (fun h => h (by have := of_decide_eq_false h3; omega))⟩
  have e5' : t.prices.length = t.outer.length := by have := of_decide_eq_false h3; omega
  repeat (first | (refine M0 ?_; first | refine SL ?_ | refine SB fun _ _ => ?_) | (refine M1 ?_; first | refine SC ?_ | refine SD ?_) | (refine M2 ?_; refine SE ?_) | (refine M3 ?_; first | refine SG ?_ | refine SF ?_) | (refine M4 ?_; refine SR ?_) | (refine M5 ?_; first | exact M7 | refine YM ?_ | refine YN ?_ ?_))
  refine XC.loopk [1, 51, 52] rfl (fun k : Nat => [(53, .int .i64 (k : Nat))]) (fun _ => [(g1, _)]) (fun _ => w) (fun k => k ≤ t.outer.length ∧ ∀ j, j < k → tickErr t j = 0) (fun k => t.outer.length - k) 0 ⟨Nat.zero_le _, fun j h => absurd h (by omega)⟩ ZZSUB (fun _ h => h) ?_
  rintro k ⟨hk, h0⟩
  dsimp only [List.cons_append, List.nil_append]
  repeat (first | (refine M0 ?_; first | refine SL ?_ | refine SB fun _ _ => ?_) | (refine M1 ?_; first | refine SC ?_ | refine SD ?_) | (refine M2 ?_; refine SE ?_) | (refine M3 ?_; first | refine SG ?_ | refine SF ?_) | (refine M4 ?_; refine SR ?_) | (refine M5 ?_; first | exact M7 | refine YM ?_ | refine YN ?_ ?_))
  refine XC.cond _ rfl (fun h7 => ?_) (fun h7 => ?_)
  · have hkn : k < t.outer.length := by simpa using h7
    obtain ⟨a1, rfl, hl1, hc1⟩ := hout.at_ (by omega)
    obtain ⟨a2, rfl, hl2, hc2⟩ := hriv.at_ (by omega)
    obtain ⟨a3, rfl, hl3, hc3⟩ := hpri.at_ (by omega)
    have d1 := hc1 k hkn
    have d2 := hc2 k (by omega)
    have d3 := hc3 k (by omega)
    repeat (first | (refine M0 ?_; first | refine SL ?_ | refine SB fun _ _ => ?_ | refine Y4 (Ev.load_old tok rfl rfl (add_lt hl1) d1) ?_) | (refine M1 ?_; first | refine SC ?_ | refine SD ?_) | (refine M2 ?_; refine SE ?_) | (refine M3 ?_; first | refine SG ?_ | refine SF ?_ | refine YF (Ev.load_old tok rfl rfl (add_lt hl1) d1) ?_) | (refine M4 ?_; refine SR ?_) | (refine M5 ?_; first | exact M7 | refine YM ?_ | refine YN ?_ ?_))
    cases e0 : outB (at0 t.outer k) (-20000) 20000 with
    | true =>
      repeat (first | (refine M0 ?_; first | refine SL ?_ | refine SB fun _ _ => ?_ | refine Y4 (Ev.call (f := 12) (vs := [.int .i64 (at0 t.outer k), .int .i64 (-20000), .int .i64 20000]) (ck rfl) rfl (fun w S => outP e0 w)) ?_) | (refine M1 ?_; first | refine SC ?_ | refine SD ?_) | (refine M2 ?_; refine SE ?_) | (refine M3 ?_; first | refine SG ?_ | refine SF ?_ | refine YF (Ev.call (f := 12) (vs := [.int .i64 (at0 t.outer k), .int .i64 (-20000), .int .i64 20000]) (ck rfl) rfl (fun w S => outP e0 w)) ?_) | (refine M4 ?_; refine SR ?_) | (refine M5 ?_; first | exact M7 | refine YM ?_ | refine YN ?_ ?_))
      refine XE.retg tok Tryz.results4 rfl (by simp only [and_self, and_true]) (fun w' S => ?_)
      exact ⟨chkTV_of (chkT_5 hp4 hkn h0 (by simp [tickErr, e0])), S.toBelow⟩
    | false =>
    repeat (first | (refine M0 ?_; first | refine SL ?_ | refine SB fun _ _ => ?_ | refine Y4 (Ev.call (f := 12) (vs := [.int .i64 (at0 t.outer k), .int .i64 (-20000), .int .i64 20000]) (ck rfl) rfl (fun w S => outP e0 w)) ?_ | refine Y4 (Ev.load_old tok rfl rfl (add_lt hl2) d2) ?_) | (refine M1 ?_; first | refine SC ?_ | refine SD ?_) | (refine M2 ?_; refine SE ?_) | (refine M3 ?_; first | refine SG ?_ | refine SF ?_ | refine YF (Ev.call (f := 12) (vs := [.int .i64 (at0 t.outer k), .int .i64 (-20000), .int .i64 20000]) (ck rfl) rfl (fun w S => outP e0 w)) ?_ | refine YF (Ev.load_old tok rfl rfl (add_lt hl2) d2) ?_) | (refine M4 ?_; refine SR ?_) | (refine M5 ?_; first | exact M7 | refine YM ?_ | refine YN ?_ ?_))
    cases e1 : outB (at0 t.river k) 0 10000000 with
    | true =>
      repeat (first | (refine M0 ?_; first | refine SL ?_ | refine SB fun _ _ => ?_ | refine Y4 (Ev.call (f := 12) (vs := [.int .i64 (at0 t.river k), .int .i64 0, .int .i64 10000000]) (ck rfl) rfl (fun w S => outP e1 w)) ?_) | (refine M1 ?_; first | refine SC ?_ | refine SD ?_) | (refine M2 ?_; refine SE ?_) | (refine M3 ?_; first | refine SG ?_ | refine SF ?_ | refine YF (Ev.call (f := 12) (vs := [.int .i64 (at0 t.river k), .int .i64 0, .int .i64 10000000]) (ck rfl) rfl (fun w S => outP e1 w)) ?_) | (refine M4 ?_; refine SR ?_) | (refine M5 ?_; first | exact M7 | refine YM ?_ | refine YN ?_ ?_))
      refine XE.retg tok Tryz.results4 rfl (by simp only [and_self, and_true]) (fun w' S => ?_)
      exact ⟨chkTV_of (chkT_5 hp4 hkn h0 (by simp [tickErr, e1])), S.toBelow⟩
    | false =>
    repeat (first | (refine M0 ?_; first | refine SL ?_ | refine SB fun _ _ => ?_ | refine Y4 (Ev.call (f := 12) (vs := [.int .i64 (at0 t.river k), .int .i64 0, .int .i64 10000000]) (ck rfl) rfl (fun w S => outP e1 w)) ?_ | refine Y4 (Ev.load_old tok rfl rfl (add_lt hl3) d3) ?_) | (refine M1 ?_; first | refine SC ?_ | refine SD ?_) | (refine M2 ?_; refine SE ?_) | (refine M3 ?_; first | refine SG ?_ | refine SF ?_ | refine YF (Ev.call (f := 12) (vs := [.int .i64 (at0 t.river k), .int .i64 0, .int .i64 10000000]) (ck rfl) rfl (fun w S => outP e1 w)) ?_ | refine YF (Ev.load_old tok rfl rfl (add_lt hl3) d3) ?_) | (refine M4 ?_; refine SR ?_) | (refine M5 ?_; first | exact M7 | refine YM ?_ | refine YN ?_ ?_))
    cases e2 : outB (at0 t.prices k) 0 10000 with
    | true =>
      repeat (first | (refine M0 ?_; first | refine SL ?_ | refine SB fun _ _ => ?_ | refine Y4 (Ev.call (f := 12) (vs := [.int .i64 (at0 t.prices k), .int .i64 0, .int .i64 10000]) (ck rfl) rfl (fun w S => outP e2 w)) ?_) | (refine M1 ?_; first | refine SC ?_ | refine SD ?_) | (refine M2 ?_; refine SE ?_) | (refine M3 ?_; first | refine SG ?_ | refine SF ?_ | refine YF (Ev.call (f := 12) (vs := [.int .i64 (at0 t.prices k), .int .i64 0, .int .i64 10000]) (ck rfl) rfl (fun w S => outP e2 w)) ?_) | (refine M4 ?_; refine SR ?_) | (refine M5 ?_; first | exact M7 | refine YM ?_ | refine YN ?_ ?_))
      refine XE.retg tok Tryz.results4 rfl (by simp only [and_self, and_true]) (fun w' S => ?_)
      exact ⟨chkTV_of (chkT_5 hp4 hkn h0 (by simp [tickErr, e2])), S.toBelow⟩
    | false =>
    repeat (first | (refine M0 ?_; first | refine SL ?_ | refine SB fun _ _ => ?_ | refine Y4 (Ev.call (f := 12) (vs := [.int .i64 (at0 t.prices k), .int .i64 0, .int .i64 10000]) (ck rfl) rfl (fun w S => outP e2 w)) ?_) | (refine M1 ?_; first | refine SC ?_ | refine SD ?_) | (refine M2 ?_; refine SE ?_) | (refine M3 ?_; first | refine SG ?_ | refine SF ?_ | refine YF (Ev.call (f := 12) (vs := [.int .i64 (at0 t.prices k), .int .i64 0, .int .i64 10000]) (ck rfl) rfl (fun w S => outP e2 w)) ?_) | (refine M4 ?_; refine SR ?_) | (refine M5 ?_; first | exact M7 | refine YM ?_ | refine YN ?_ ?_))
    refine XE.round (k + 1) ⟨hkn, fun j hj => ?_⟩ (by omega) ZZSUB (fun _ h => h)
    by_cases e : j = k
    · subst e; simp [tickErr, e0, e1, e2]
    · exact h0 j (by omega)
  have hkn : k = t.outer.length := by have : ¬ (k < t.outer.length) := by simpa using h7
                                      omega
  subst hkn
  clear hk h7
  obtain ⟨ab, rfl, hlb⟩ := hbas.rows.addr (by have := rows_len hE; simp only; omega)
  have hr2 := rows_len hE
  have db := hbas.rowLevel (i := 0) (by omega)
  cases e6 : outB t.high (-20000) 20000 with
  | true =>
    repeat (first | (refine M0 ?_; first | refine SL ?_ | refine SB fun _ _ => ?_ | refine Y4 (Ev.call (f := 12) (vs := [.int .i64 t.high, .int .i64 (-20000), .int .i64 20000]) (ck rfl) rfl (fun w S => outP e6 w)) ?_) | (refine M1 ?_; first | refine SC ?_ | refine SD ?_) | (refine M2 ?_; refine SE ?_) | (refine M3 ?_; first | refine SG ?_ | refine SF ?_ | refine YF (Ev.call (f := 12) (vs := [.int .i64 t.high, .int .i64 (-20000), .int .i64 20000]) (ck rfl) rfl (fun w S => outP e6 w)) ?_) | (refine M4 ?_; refine SR ?_) | (refine M5 ?_; first | exact M7 | refine YM ?_ | refine YN ?_ ?_))
    refine XE.retg tok Tryz.results4 rfl (by simp only [and_self, and_true]) (fun w' S => ?_)
    exact ⟨chkTV_of (chkT_6 hp4 h0 (by simp [e6])), S.toBelow⟩
  | false =>
  repeat (first | (refine M0 ?_; first | refine SL ?_ | refine SB fun _ _ => ?_ | refine Y4 (Ev.call (f := 12) (vs := [.int .i64 t.high, .int .i64 (-20000), .int .i64 20000]) (ck rfl) rfl (fun w S => outP e6 w)) ?_ | refine Y4 (Ev.load_old tok rfl rfl (add_lt2 hlb) db) ?_ | refine Y4 (Ev.call (f := 12) (vs := [.int .i64 t.low, .int .i64 (t.b.row 0).level, .int .i64 t.high]) (ck rfl) rfl (fun w S => rnout_any _ _ _ w)) ?_) | (refine M1 ?_; first | refine SC ?_ | refine SD ?_) | (refine M2 ?_; refine SE ?_) | (refine M3 ?_; first | refine SG ?_ | refine SF ?_ | refine YF (Ev.call (f := 12) (vs := [.int .i64 t.high, .int .i64 (-20000), .int .i64 20000]) (ck rfl) rfl (fun w S => outP e6 w)) ?_ | refine YF (Ev.load_old tok rfl rfl (add_lt2 hlb) db) ?_ | refine YF (Ev.call (f := 12) (vs := [.int .i64 t.low, .int .i64 (t.b.row 0).level, .int .i64 t.high]) (ck rfl) rfl (fun w S => rnout_any _ _ _ w)) ?_) | (refine M4 ?_; refine SR ?_) | (refine M5 ?_; first | exact M7 | refine YM ?_ | refine YN ?_ ?_))
  refine XC.cond _ rfl (fun h8 => ?_) (fun h8 => ?_)
  · repeat (first | (refine M0 ?_; first | refine SL ?_ | refine SB fun _ _ => ?_) | (refine M1 ?_; first | refine SC ?_ | refine SD ?_) | (refine M2 ?_; refine SE ?_) | (refine M3 ?_; first | refine SG ?_ | refine SF ?_) | (refine M4 ?_; refine SR ?_) | (refine M5 ?_; first | exact M7 | refine YM ?_ | refine YN ?_ ?_))
    refine XE.retg tok Tryz.results4 rfl (by simp only [and_self, and_true]) (fun w' S => ?_)
    exact ⟨chkTV_of (chkT_6 hp4 h0 (by simp [h8])), S.toBelow⟩
  have h9 : (outB t.high (-20000) 20000 || outB t.low (t.b.row 0).level t.high) = false := by rw [e6, h8]; rfl
  repeat (first | (refine M0 ?_; first | refine SL ?_ | refine SB fun _ _ => ?_) | (refine M1 ?_; first | refine SC ?_ | refine SD ?_) | (refine M2 ?_; refine SE ?_) | (refine M3 ?_; first | refine SG ?_ | refine SF ?_) | (refine M4 ?_; refine SR ?_) | (refine M5 ?_; first | exact M7 | refine YM ?_ | refine YN ?_ ?_))
  refine XL.callF (DevsV t.devs) (vs := [.agg ⟨tskC ⟨⟨some ab, t.b.rows.length, cb, Ab2, nb2, cb2⟩, q, ⟨Ao, t.outer.length, co⟩, ⟨Ar, t.river.length, cr⟩, ⟨Ac, t.prices.length, cc⟩, su, pu, ⟨An, t.on.length, cn⟩⟩ t⟩]) (ck rfl) rfl rfl (Fam.start (ks := []) (Nat.le_refl w.heap.size)) (fun _ h => by cases h) (Below.refl w.heap.size w) (fun w1 S1 _ _ => devices_made (ht0.sys S1) hn) (fun w2 vd new hR hF2 hB2 hk2 => ?_)
  obtain ⟨⟨Ad, nd, cd⟩, rfl, rfl, hcap⟩ := hR
  have hF2 : Fam w2 w.heap.size [g1] [] [hList devK ⟨Ad, nd, cd⟩ t.devs] := hF2
  have hg1 : g1 < w2.heap.size := hk2 g1 (.head _)
  have hlsF : ListAt devK w2 (Free w2 w.heap.size [g1] []) ⟨Ad, nd, cd⟩ t.devs := hF2.held _ (.head _)
  have hnd := ListAt.len hlsF (by decide)
  simp only at hnd
  subst hnd
  have hls : ∀ (L : Lo) (w5 : World), Sys w.heap.size w2 L w5 → (∀ e, e ∈ L → e.1 ∈ [g1] ∨ w2.heap.size ≤ e.1) → ListAt devK w5 (Lt w5.heap.size) ⟨Ad, t.devs.length, cd⟩ t.devs := fun L w5 S5 hL => (Held.lt ((hF2.sys S5 hL).get (.head _)) : _)
  have hm := t.devs_len
  simp only [svV]
  repeat (first | (refine M0 ?_; first | refine SL ?_ | refine SB fun _ _ => ?_ | refine Y4 (Ev.call (f := 14) (ck rfl) rfl (fun w5 S5 => (kinds_any (hls _ w5 S5 ZZHL) (by rw [hm]; unfold RTk.many; omega) :))) ?_) | (refine M1 ?_; first | refine SC ?_ | refine SD ?_) | (refine M2 ?_; refine SE ?_) | (refine M3 ?_; first | refine SG ?_ | refine SF ?_ | refine YF (Ev.call (f := 14) (ck rfl) rfl (fun w5 S5 => (kinds_any (hls _ w5 S5 ZZHL) (by rw [hm]; unfold RTk.many; omega) :))) ?_) | (refine M4 ?_; refine SR ?_) | (refine M5 ?_; first | exact M7 | refine YM ?_ | refine YN ?_ ?_))
  rw [(count_devs t).1, (count_devs t).2]
  cases e7 : decide ((2 : Int) < (t.slu.length : Int)) with
  | true =>
    have e7' := of_decide_eq_true e7
    repeat (first | (refine M0 ?_; first | refine SL ?_ | refine SB fun _ _ => ?_) | (refine M1 ?_; first | refine SC ?_ | refine SD ?_) | (refine M2 ?_; refine SE ?_) | (refine M3 ?_; first | refine SG ?_ | refine SF ?_) | (refine M4 ?_; refine SR ?_) | (refine M5 ?_; first | exact M7 | refine YM ?_ | refine YN ?_ ?_))
    refine XE.retg tok Tryz.results4 rfl (by simp only [and_self, and_true]) (fun w' S => ?_)
    exact ⟨chkTV_of (chkT_7 hp4 h0 h9 (.inl (by omega))), hB2.trans S.toBelow⟩
  | false =>
  have e7' := of_decide_eq_false e7
  repeat (first | (refine M0 ?_; first | refine SL ?_ | refine SB fun _ _ => ?_) | (refine M1 ?_; first | refine SC ?_ | refine SD ?_) | (refine M2 ?_; refine SE ?_) | (refine M3 ?_; first | refine SG ?_ | refine SF ?_) | (refine M4 ?_; refine SR ?_) | (refine M5 ?_; first | exact M7 | refine YM ?_ | refine YN ?_ ?_))
  refine XC.cond _ rfl (fun h7 => ?_) (fun h7 => ?_)
  · repeat (first | (refine M0 ?_; first | refine SL ?_ | refine SB fun _ _ => ?_) | (refine M1 ?_; first | refine SC ?_ | refine SD ?_) | (refine M2 ?_; refine SE ?_) | (refine M3 ?_; first | refine SG ?_ | refine SF ?_) | (refine M4 ?_; refine SR ?_) | (refine M5 ?_; first | exact M7 | refine YM ?_ | refine YN ?_ ?_))
    refine XE.retg tok Tryz.results4 rfl (by simp only [and_self, and_true]) (fun w' S => ?_)
    exact ⟨chkTV_of (chkT_7 hp4 h0 h9 (.inr (by have := of_decide_eq_true h7; omega))), hB2.trans S.toBelow⟩
  have h22 : ¬ (2 < t.slu.length ∨ 2 < t.pmp.length) := by have := of_decide_eq_false h7; omega
  have hm4 : t.devs.length ≤ 4 := by rw [hm]; unfold RTk.many; omega
  repeat (first | (refine M0 ?_; first | refine SL ?_ | refine SB fun _ _ => ?_) | (refine M1 ?_; first | refine SC ?_ | refine SD ?_) | (refine M2 ?_; refine SE ?_) | (refine M3 ?_; first | refine SG ?_ | refine SF ?_) | (refine M4 ?_; refine SR ?_) | (refine M5 ?_; first | exact M7 | refine YM ?_ | refine YN ?_ ?_))
  refine XC.loopk [1, 8, 107, 108] rfl (fun k : Nat => [(109, .int .i64 (k : Nat))]) (fun _ => [(g1, _)]) (fun _ => w2) (fun k => k ≤ t.devs.length ∧ ∀ j, j < k → devErr t.devs j = 0) (fun k => t.devs.length - k) 0 ⟨Nat.zero_le _, fun j h => absurd h (by omega)⟩ ZZSUB (fun _ h => h) ?_
  rintro k ⟨hk, hd0⟩
  dsimp only [List.cons_append, List.nil_append]
  repeat (first | (refine M0 ?_; first | refine SL ?_ | refine SB fun _ _ => ?_) | (refine M1 ?_; first | refine SC ?_ | refine SD ?_) | (refine M2 ?_; refine SE ?_) | (refine M3 ?_; first | refine SG ?_ | refine SF ?_) | (refine M4 ?_; refine SR ?_) | (refine M5 ?_; first | exact M7 | refine YM ?_ | refine YN ?_ ?_))
  refine XC.cond _ rfl (fun h10 => ?_) (fun h10 => ?_)
  · have hkn : k < t.devs.length := by simpa using h10
    obtain ⟨ad, rfl, hfl⟩ := ListAt.addr hlsF (by decide) (by omega)
    have hdk : t.devs[k]? = some t.devs[k] := List.getElem?_eq_getElem hkn
    have hc0 := ListAt.elem hlsF hdk 0 (devV t.devs[k]) rfl
    rw [add_add, Nat.add_zero] at hc0
    have hc : w2.cell? (ad.add (k * 1)) = some (devV t.devs[k]) := hc0
    have hnm := hnam t.devs[k] (List.getElem_mem hkn)
    have hta := take_any hkn
    have hgd : t.devs[k]?.getD d0 = t.devs[k] := by rw [hdk]; rfl
    have hcapk : k ≤ cd := by have := hcap (by omega); simp only at this; omega
    obtain ⟨d, hd⟩ : ∃ d, d = t.devs[k] := ⟨_, rfl⟩
    rw [← hd] at hc hnm hta hgd
    have hblk : ad.block < w2.heap.size := hfl.2.1
    have hne1 : ad.block ≠ g1 := fun e => hfl.2.2.1 (by rw [e]; exact .head _)
    obtain ⟨f1, m1, k1, c1⟩ := dev_name d
    obtain ⟨f2, m2, k2, c2⟩ := dev_wild d
    have e6 : nameB d.name = false → devErr t.devs k = 6 := fun h => devErr_6 (by rw [hgd]; exact h)
    repeat (first | (refine M0 ?_; first | refine SL ?_ | refine SB fun _ _ => ?_ | refine Y4 (Ev.load_far tok rfl rfl (add_lt hblk) (Free.far hfl (by intro e he; left; rw [List.mem_singleton.1 he]; exact .head _)) hc) ?_) | (refine M1 ?_; first | refine SC ?_ | refine SD ?_) | (refine M2 ?_; refine SE ?_) | (refine M3 ?_; first | refine SG ?_ | refine SF ?_ | refine YF (Ev.load_far tok rfl rfl (add_lt hblk) (Free.far hfl (by intro e he; left; rw [List.mem_singleton.1 he]; exact .head _)) hc) ?_) | (refine M4 ?_; refine SR ?_) | (refine M5 ?_; first | exact M7 | refine YM ?_ | refine YN ?_ ?_))
    rename_i g12 hg12
    have hL12 : ∀ (o o2 : Obj) (e : Nat × Obj), e ∈ [(g12, o), (g1, o2)] → e.1 ∈ [g1] ∨ w2.heap.size ≤ e.1 := fun o o2 e he => by
      rcases List.mem_cons.1 he with rfl | he
      · exact .inr hg12
      · rw [List.mem_singleton.1 he]; exact .inl (.head _)
    cases e8 : nameB d.name with
    | false =>
      have ncall := fun (w : World) => (name_any d.name hnm w)
      rw [e8] at ncall
      repeat (first | (refine M0 ?_; first | refine SL ?_ | refine SB fun _ _ => ?_ | refine Y4 (Ev.invoke (t := d.ty) (v := .agg ⟨d.c⟩) m1 k1 rfl rfl (fun w S => c1 w)) ?_ | refine Y4 (Ev.call (f := 15) (ck rfl) rfl (fun w _ => ncall w)) ?_) | (refine M1 ?_; first | refine SC ?_ | refine SD ?_) | (refine M2 ?_; refine SE ?_) | (refine M3 ?_; first | refine SG ?_ | refine SF ?_ | refine YF (Ev.invoke (t := d.ty) (v := .agg ⟨d.c⟩) m1 k1 rfl rfl (fun w S => c1 w)) ?_ | refine YF (Ev.call (f := 15) (ck rfl) rfl (fun w _ => ncall w)) ?_) | (refine M4 ?_; refine SR ?_) | (refine M5 ?_; first | exact M7 | refine YM ?_ | refine YN ?_ ?_))
      refine XE.retg tok Tryz.results4 rfl (by simp only [and_self, and_true]) (fun w' S => ?_)
      exact ⟨chkTV_of (chkT_8 hp4 h0 h9 h22 hkn hd0 (devErr_6 (by rw [hgd]; exact e8)) (by decide)), hB2.trans S.toBelow⟩
    | true =>
    have ncall := fun (w : World) => (name_any d.name hnm w)
    rw [e8] at ncall
    repeat (first | (refine M0 ?_; first | refine SL ?_ | refine SB fun _ _ => ?_ | refine Y4 (Ev.invoke (t := d.ty) (v := .agg ⟨d.c⟩) m1 k1 rfl rfl (fun w S => c1 w)) ?_ | refine Y4 (Ev.call (f := 15) (ck rfl) rfl (fun w _ => ncall w)) ?_ | refine Y4 (Ev.slice_hi tok k rfl rfl rfl rfl hcapk) ?_ | refine Y4 (Ev.makeFunc rfl rfl) ?_) | (refine M1 ?_; first | refine SC ?_ | refine SD ?_) | (refine M2 ?_; refine SE ?_) | (refine M3 ?_; first | refine SG ?_ | refine SF ?_ | refine YF (Ev.invoke (t := d.ty) (v := .agg ⟨d.c⟩) m1 k1 rfl rfl (fun w S => c1 w)) ?_ | refine YF (Ev.call (f := 15) (ck rfl) rfl (fun w _ => ncall w)) ?_ | refine YF (Ev.slice_hi tok k rfl rfl rfl rfl hcapk) ?_ | refine YF (Ev.makeFunc rfl rfl) ?_) | (refine M4 ?_; refine SR ?_) | (refine M5 ?_; first | exact M7 | refine YM ?_ | refine YN ?_ ?_))
    refine XL.step _ (Ev.call (f := 16) (ck rfl) rfl (fun w5 S5 => (contDev (f := 17) (cap := [.pointer (some ⟨g12, 0, none⟩)]) (P := fun c => decide (c.name = d.name)) (r := ⟨some ad, k, cd⟩) (ms := t.devs.take k) (ck rfl) ((hls _ w5 S5 (hL12 _ _)).take (by omega) (by decide)) (by rw [List.length_take]; omega) (fun m _ w' hb => rncheck1_any (g := g12) (c := m) (d := d) ((hb.block g12 (S5.lt (e := (g12, _)) (.head _))).trans (S5.own (g12, _) (.head _)).2)) :))) rfl ?_
    repeat (first | (refine M0 ?_; first | refine SL ?_ | refine SB fun _ _ => ?_) | (refine M1 ?_; first | refine SC ?_ | refine SD ?_) | (refine M2 ?_; refine SE ?_) | (refine M3 ?_; first | refine SG ?_ | refine SF ?_) | (refine M4 ?_; refine SR ?_) | (refine M5 ?_; first | exact M7 | refine YM ?_ | refine YN ?_ ?_))
    refine XC.cond _ rfl (fun h11 => ?_) (fun h11 => ?_)
    · obtain ⟨k3, hk3, hnn⟩ := hta.1 h11
      repeat (first | (refine M0 ?_; first | refine SL ?_ | refine SB fun _ _ => ?_) | (refine M1 ?_; first | refine SC ?_ | refine SD ?_) | (refine M2 ?_; refine SE ?_) | (refine M3 ?_; first | refine SG ?_ | refine SF ?_) | (refine M4 ?_; refine SR ?_) | (refine M5 ?_; first | exact M7 | refine YM ?_ | refine YN ?_ ?_))
      refine XE.retg tok Tryz.results4 rfl (by simp only [and_self, and_true]) (fun w' S => ?_)
      exact ⟨chkTV_of (chkT_8 hp4 h0 h9 h22 hkn hd0 (devErr_5 (by rw [hgd]; exact e8) k3 hk3 hnn) (by decide)), hB2.trans S.toBelow⟩
    have hno : ∀ k3, k3 < k → (t.devs[k3]?.getD d0).name ≠ (t.devs[k]?.getD d0).name := fun k3 hk3 hnn => by
      have := hta.2 ⟨k3, hk3, hnn⟩
      rw [this] at h11
      cases h11
    repeat (first | (refine M0 ?_; first | refine SL ?_ | refine SB fun _ _ => ?_ | refine Y4 (Ev.invoke (t := d.ty) (v := .agg ⟨d.c⟩) m2 k2 rfl rfl (fun w S => c2 w)) ?_) | (refine M1 ?_; first | refine SC ?_ | refine SD ?_) | (refine M2 ?_; refine SE ?_) | (refine M3 ?_; first | refine SG ?_ | refine SF ?_ | refine YF (Ev.invoke (t := d.ty) (v := .agg ⟨d.c⟩) m2 k2 rfl rfl (fun w S => c2 w)) ?_) | (refine M4 ?_; refine SR ?_) | (refine M5 ?_; first | exact M7 | refine YM ?_ | refine YN ?_ ?_))
    refine XC.cond _ rfl (fun h12 => ?_) (fun h12 => ?_)
    · repeat (first | (refine M0 ?_; first | refine SL ?_ | refine SB fun _ _ => ?_) | (refine M1 ?_; first | refine SC ?_ | refine SD ?_) | (refine M2 ?_; refine SE ?_) | (refine M3 ?_; first | refine SG ?_ | refine SF ?_) | (refine M4 ?_; refine SR ?_) | (refine M5 ?_; first | exact M7 | refine YM ?_ | refine YN ?_ ?_))
      refine XE.retg tok Tryz.results4 rfl (by simp only [and_self, and_true]) (fun w' S => ?_)
      exact ⟨chkTV_of (chkT_8 hp4 h0 h9 h22 hkn hd0 (devErr_7 (by rw [hgd]; exact e8) hno (by rw [hgd]; exact h12)) (by decide)), hB2.trans S.toBelow⟩
    repeat (first | (refine M0 ?_; first | refine SL ?_ | refine SB fun _ _ => ?_) | (refine M1 ?_; first | refine SC ?_ | refine SD ?_) | (refine M2 ?_; refine SE ?_) | (refine M3 ?_; first | refine SG ?_ | refine SF ?_) | (refine M4 ?_; refine SR ?_) | (refine M5 ?_; first | exact M7 | refine YM ?_ | refine YN ?_ ?_))
    refine XE.round (k + 1) ⟨hkn, fun j hj => ?_⟩ (by omega) ZZSUB (fun _ h => h.pop hg12)
    by_cases e : j = k
    · subst e; exact devErr_0 (by rw [hgd]; exact e8) hno (by rw [hgd]; exact h12)
    · exact hd0 j (by omega)
  have hkn : k = t.devs.length := by have : ¬ (k < t.devs.length) := by simpa using h10
                                     omega
  subst hkn
  repeat (first | (refine M0 ?_; first | refine SL ?_ | refine SB fun _ _ => ?_) | (refine M1 ?_; first | refine SC ?_ | refine SD ?_) | (refine M2 ?_; refine SE ?_) | (refine M3 ?_; first | refine SG ?_ | refine SF ?_) | (refine M4 ?_; refine SR ?_) | (refine M5 ?_; first | exact M7 | refine YM ?_ | refine YN ?_ ?_))
  refine XC.cond _ rfl (fun h11 => ?_) (fun h11 => ?_)
  · repeat (first | (refine M0 ?_; first | refine SL ?_ | refine SB fun _ _ => ?_) | (refine M1 ?_; first | refine SC ?_ | refine SD ?_) | (refine M2 ?_; refine SE ?_) | (refine M3 ?_; first | refine SG ?_ | refine SF ?_) | (refine M4 ?_; refine SR ?_) | (refine M5 ?_; first | exact M7 | refine YM ?_ | refine YN ?_ ?_))
    refine XE.retg tok Tryz.results4 rfl (by simp only [and_self, and_true]) (fun w' S => ?_)
    exact ⟨chkTV_of (chkT_9 hp4 h0 h9 h22 hd0 (by have := of_decide_eq_true h11; omega)), hB2.trans S.toBelow⟩
  · repeat (first | (refine M0 ?_; first | refine SL ?_ | refine SB fun _ _ => ?_) | (refine M1 ?_; first | refine SC ?_ | refine SD ?_) | (refine M2 ?_; refine SE ?_) | (refine M3 ?_; first | refine SG ?_ | refine SF ?_) | (refine M4 ?_; refine SR ?_) | (refine M5 ?_; first | exact M7 | refine YM ?_ | refine YN ?_ ?_))
    refine XE.retg tok Tryz.results4 rfl (by simp only [and_self, and_true]) (fun w' S => ?_)
    exact ⟨chkTV_of (chkT_0 hp4 h0 h9 h22 hd0 (by have := of_decide_eq_false h11; omega)), hB2.trans S.toBelow⟩
end Go.Proofs.YtmckmlmfilmiaaaGreatDoor.X
/-
  The walks of the planner: begin, head, use (runoff).
-/
namespace Go.Proofs.YtmckmlmfilmiaaaGreatDoor.X
open Go Go.RowKit Go.Proofs.YtmckmlmfilmiaaaGreatDoor.Bs
set_option linter.unusedVariables false
def plnC (v : RTV) (r : SV) (t : RTk) (gt gm : Nat) : List Value := tskC v t ++ [.slice r.A r.n r.c, .func (.func 52) #[] #[.pointer (some ⟨gt, 0, none⟩)], .map (some gm)]
/-- a planner in memory. -/
structure PlnAt (w : World) (ok : Nat → Prop) (g gt gm : Nat) (v : RTV) (r : SV) (t : RTk) : Prop where
  kg : ok g
  kt : ok gt
  hg : w.heap[g]? = some (cel 88 (plnC v r t gt gm))
  ht : w.heap[gt]? = some (cel 33 (tskC v t))
  all : ListAt devK w ok r t.devs
theorem PlnAt.keep {w w' : World} {ok : Nat → Prop} {g gt gm : Nat} {v : RTV} {r : SV} {t : RTk} (h : PlnAt w ok g gt gm v r t) (hk : ∀ k, ok k → w'.heap[k]? = w.heap[k]?) : PlnAt w' ok g gt gm v r t := ⟨h.kg, h.kt, (hk _ h.kg).trans h.hg, (hk _ h.kt).trans h.ht, h.all.keep hk⟩
theorem PlnAt.mono {w : World} {ok ok' : Nat → Prop} {g gt gm : Nat} {v : RTV} {r : SV} {t : RTk} (h : PlnAt w ok g gt gm v r t) (hk : ∀ k, ok k → ok' k) : PlnAt w ok' g gt gm v r t := ⟨hk _ h.kg, hk _ h.kt, h.hg, h.ht, h.all.mono hk⟩
def Ng (gm : Nat) (ok : Nat → Prop) : Nat → Prop := fun j => ok j ∧ j ≠ gm
/-- just begun. -/
structure Pln0 (w : World) (ok : Nat → Prop) (g gt gm : Nat) (v : RTV) (r : SV) (t : RTk) : Prop where
  p : PlnAt w (Ng gm ok) g gt gm v r t
  km : ok gm
  hm : w.heap[gm]? = some (mapO [])
def hPln (g gt gm : Nat) (v : RTV) (r : SV) (t : RTk) : Held := ⟨fun w ok => Pln0 w ok g gt gm v r t, fun h hk => ⟨h.p.keep fun k hj => hk k hj.1, h.km, (hk _ h.km).trans h.hm⟩, fun h hk => ⟨h.p.mono fun k hj => ⟨hk k hj.1, hj.2⟩, hk _ h.km, h.hm⟩⟩
def BegV (v : RTV) (t : RTk) (x : Value) (new : List Held) : Prop :=
  (rtE t ≠ 0 ∧ x = .tuple ⟨[.pointer none, .int .i64 (rtE t)]⟩ ∧ new = []) ∨
  (rtE t = 0 ∧ ∃ g gt gm r, x = .tuple ⟨[.pointer (some ⟨g, 0, none⟩), .int .i64 0]⟩ ∧ new = [hPln g gt gm v r t])
theorem begin_end {B b0 g gt gm : Nat} {w2 w' : World} {L : Lo} {ks : List Nat} {r : SV} {v : RTV} {t : RTk} (S : Sys B w2 L w') (hF : Fam w2 b0 ks [] [hList devK r t.devs]) (hg : (g, cel 88 (plnC v r t gt gm)) ∈ L) (hm : (gm, mapO []) ∈ L) (ht : (gt, cel 33 (tskC v t)) ∈ L)
    (hL : ∀ e, e ∈ L → e.1 ∈ ks ∨ w2.heap.size ≤ e.1) (hb : ∀ e, e ∈ L → b0 ≤ e.1) : Pln0 w' (Btw b0 w'.heap.size) g gt gm v r t := by
  have h1 := (S.own _ hg).2
  have h2 := (S.own _ hm).2
  have h3 := (S.own _ ht).2
  simp only at h1 h2 h3
  have hF2 : Fam w2 b0 (gm :: ks) [] [hList devK r t.devs] := hF.add fun k hk => by
    rcases List.mem_cons.1 hk with rfl | hk
    · exact hL _ hm
    · exact .inl hk
  have h4 : ListAt devK w' (Free w' b0 (gm :: ks) []) r t.devs := (hF2.sys S fun e he => (hL e he).elim (fun h => .inl (.tail _ h)) .inr).held _ (.head _)
  refine ⟨⟨⟨⟨hb _ hg, S.lt hg⟩, fun e => ?_⟩, ⟨⟨hb _ ht, S.lt ht⟩, fun e => ?_⟩, h1, h3, h4.mono fun j hj => ⟨⟨hj.1, hj.2.1⟩, fun e => hj.2.2.1 (by rw [e]; exact .head _)⟩⟩, ⟨hb _ hm, S.lt hm⟩, h2⟩
  · subst e; rw [h1] at h2; cases h2
  · subst e; rw [h3] at h2; cases h2
theorem begin_fin {g gt gm : Nat} {w w2 w' : World} {L : Lo} {ks : List Nat} {r : SV} {v : RTV} {t : RTk} (h0 : rtE t = 0) (S : Sys w.heap.size w2 L w') (hF : Fam w2 w.heap.size ks [] [hList devK r t.devs]) (hB : Below w.heap.size w w') (hg : (g, cel 88 (plnC v r t gt gm)) ∈ L) (hm : (gm, mapO []) ∈ L) (ht : (gt, cel 33 (tskC v t)) ∈ L)
    (hL : ∀ e, e ∈ L → e.1 ∈ ks ∨ w2.heap.size ≤ e.1) : Made w (BegV v t) (.returned (tupV [.pointer (some ⟨g, 0, none⟩), .int .i64 0])) w' :=
  ⟨_, [hPln g gt gm v r t], rfl, .inr ⟨h0, g, gt, gm, r, rfl, rfl⟩, fun x hx => by
    rw [List.mem_singleton.1 hx]
    exact begin_end S hF hg hm ht hL (fun e he => (S.own e he).1), hB⟩
set_option maxHeartbeats 8000000 in
theorem begin_made {v : RTV} {t : RTk} {w : World} (ht : TskAt w w.heap.size v t) (hn : t.slu.length + t.pmp.length ≤ 5000000) :
    Calls Tryz.prog 37 #[tskV v t] w (Made w (BegV v t)) := by
  have hc := fun {L : Lo} (w5 : World) (S5 : Sys w.heap.size w L w5) => rnCheck_any (ht.sys S5) hn
  have hd := fun {L : Lo} (w5 : World) (S5 : Sys w.heap.size w L w5) => devices_made (ht.sys S5) hn
  obtain ⟨p, q, o, r, c, su, pu, on⟩ := v
  simp only [tskV, tskC] at hc hd ⊢
  refine enter Tryz.func37 rfl Tryz.ntmps37 rfl ?_; simp only [frame, Nat.zero_add, Nat.reduceAdd]
  repeat (first | (refine M0 ?_; first | refine SL ?_ | refine SB fun _ _ => ?_ | refine Y4 (Ev.call (f := 4) (ck rfl) rfl (fun w5 S5 => hc w5 S5)) ?_) | (refine M1 ?_; first | refine SC ?_ | refine SD ?_) | (refine M2 ?_; refine SE ?_) | (refine M3 ?_; first | refine SG ?_ | refine SF ?_ | refine YF (Ev.call (f := 4) (ck rfl) rfl (fun w5 S5 => hc w5 S5)) ?_) | (refine M4 ?_; refine SR ?_) | (refine M5 ?_; first | exact M7 | refine YM ?_ | refine YN ?_ ?_))
  rename_i g1 hg1
  refine XC.cond _ rfl (fun h0 => ?_) (fun h0 => ?_)
  · repeat (first | (refine M0 ?_; first | refine SL ?_ | refine SB fun _ _ => ?_) | (refine M1 ?_; first | refine SC ?_ | refine SD ?_) | (refine M2 ?_; refine SE ?_) | (refine M3 ?_; first | refine SG ?_ | refine SF ?_) | (refine M4 ?_; refine SR ?_) | (refine M5 ?_; first | exact M7 | refine YM ?_ | refine YN ?_ ?_))
    refine XE.retg tok Tryz.results37 rfl (by simp only [and_self, and_true]) (fun w' S => ?_)
    exact ⟨_, [], rfl, .inl ⟨by unfold rtE; simpa using h0, rfl, rfl⟩, (fun x hx => by cases hx), S.toBelow⟩
  have h0' : rtE t = 0 := by unfold rtE; simpa using h0
  repeat (first | (refine M0 ?_; first | refine SL ?_ | refine SB fun _ _ => ?_) | (refine M1 ?_; refine SC ?_) | (refine M2 ?_; refine SE ?_))
  refine XC.rebase (List.Sublist.refl _) (fun W0 S0 => ?_)
  have hB0 := S0.toBelow
  have hF0 : Fam W0 w.heap.size [g1] [] [] := Fam.start S0.size
  have hk0 : ∀ k, k ∈ [g1] → k < W0.heap.size := fun k hk => S0.keyLt k hk
  refine XC.drawRS _ [(g1, _)] [0, 1, 3] [2, 4, 5, 6, 7, 8] mixed (fun _ h => Sys.anchor2 (by assumption) h ZZSM) rfl (by kernel_rfl) ?_
  repeat (any_goals (first | (refine M0 ?_; first | refine SL ?_ | refine SB fun _ _ => ?_ | refine Y4 (Ev.makeFunc rfl rfl) ?_ | refine XL.makeMap rfl (fun _ _ => ?_) | (refine XL.at_call 13 ?_; refine XL.callF (DevsV t.devs) (ck rfl) rfl rfl (by assumption) (by assumption) (by assumption) (fun w1 S1 _ hB1 => (hd w1 (Sys.ofBelow hB1))) (fun w2 x new hR hF2 hB2 hk2 => ?_); obtain ⟨rd, rfl, rfl, _⟩ := hR; simp only [svV])) | (refine M1 ?_; refine SC ?_) | (refine M2 ?_; refine SE ?_) | (refine M3 ?_; first | refine SG ?_ | refine SF ?_ | refine YF (Ev.makeFunc rfl rfl) ?_) | (refine M4 ?_; refine SR ?_) | (refine M5 ?_; first | exact M7 | refine YM ?_ | refine YN ?_ ?_)))
  any_goals (repeat (first | exact AnyR.nil | refine AnyR.skip rfl ?_))
  all_goals
    refine XE.retg tok Tryz.results37 rfl (by simp only [and_self, and_true]) (fun w' S => ?_)
    exact begin_fin (v := ⟨p, q, o, r, c, su, pu, on⟩) h0' S (by assumption) (Below.trans (by assumption) S.toBelow) (by repeat (first | exact List.mem_cons_self | apply List.mem_cons_of_mem)) (by repeat (first | exact List.mem_cons_self | apply List.mem_cons_of_mem)) (by repeat (first | exact List.mem_cons_self | apply List.mem_cons_of_mem)) ZZHL
/-! ### the price of a tick, and the levels in it -/
theorem begin1_any {gt : Nat} {v : RTV} {t : RTk} {i : Nat} {e : Int} {w : World} (hg : w.heap[gt]? = some (cel 33 (tskC v t))) (ht : IntsAt w (Lt w.heap.size) v.c t.prices) (hi : i < t.prices.length) (he : i64in (e * at0 t.prices i)) :
    Calls Tryz.prog 52 #[.int .i64 (i : Nat), .int .i64 e, .pointer (some ⟨gt, 0, none⟩)] w fun x w' => x = .returned (.int .i64 (e * at0 t.prices i)) ∧ Below w.heap.size w w' := by
  obtain ⟨p, q, o, r, ⟨Ac, nc, cc⟩, su, pu, on⟩ := v
  simp only at ht
  have hl := ht.len
  simp only at hl
  subst hl
  obtain ⟨ad, rfl, hlt, hc⟩ := ht.at_ (by omega)
  have d1 := hc i hi
  have hlg := (Array.getElem?_eq_some_iff.1 hg).1
  have d0 : w.cell? ⟨gt, 9, none⟩ = some (.slice (some ad) t.prices.length cc) := by simp [World.cell?, hg, tskC]
  refine enter Tryz.func52 rfl Tryz.ntmps52 rfl ?_; simp only [frame, Nat.zero_add, Nat.reduceAdd]
  repeat (first | (refine M0 ?_; first | refine SL ?_ | refine SB fun _ _ => ?_ | refine Y4 (Ev.load_old tok rfl rfl hlg d0) ?_ | refine Y4 (Ev.load_old tok rfl rfl (add_lt hlt) d1) ?_) | (refine M1 ?_; first | refine SC ?_ | refine SD ?_) | (refine M2 ?_; refine SE ?_) | (refine M3 ?_; first | refine SG ?_ | refine SF ?_ | refine YF (Ev.load_old tok rfl rfl hlg d0) ?_ | refine YF (Ev.load_old tok rfl rfl (add_lt hlt) d1) ?_) | (refine M4 ?_; refine SR ?_) | (refine M5 ?_; first | exact M7 | refine YM ?_ | refine YN ?_ ?_))
  refine XE.retg tok Tryz.results52 rfl (by simp only [and_self, and_true]) (fun w' S => ?_)
  exact ⟨rfl, S.toBelow⟩
theorem plnCell {w : World} {ok : Nat → Prop} {g gt gm : Nat} {v : RTV} {r : SV} {t : RTk} (h : PlnAt w ok g gt gm v r t) : g < w.heap.size ∧ ∀ j u, (plnC v r t gt gm)[j]? = some u → w.cell? ⟨g, j, none⟩ = some u :=
  ⟨(Array.getElem?_eq_some_iff.1 h.hg).1, fun j u hj => by simp [World.cell?, h.hg, hj]⟩
def outI (t : RTk) (i : Nat) : Int := if i < t.outer.length then at0 t.outer i else 0
set_option maxHeartbeats 8000000 in
theorem head_any {g gt gm : Nat} {v : RTV} {r : SV} {t : RTk} {x : Int} {i : Nat} {w : World} (hp : PlnAt w (Lt w.heap.size) g gt gm v r t) (ht : TskAt w w.heap.size v t) (ho : Ok t.b) (hx : (t.b.row 0).vol ≤ x ∧ x ≤ 1000000000) :
    Calls Tryz.prog 46 #[.pointer (some ⟨g, 0, none⟩), .int .i64 x, .int .i64 (i : Nat)] w fun e w' => e = .returned (.agg ⟨headC (num t.b x) (den t.b x) (outI t i)⟩) ∧ Below w.heap.size w w' := by
  obtain ⟨hlg, hc⟩ := plnCell hp
  have hbas := ht.bas
  have hout := ht.outer
  obtain ⟨⟨Ab, nb, cb, Ab2, nb2, cb2⟩, q, ⟨Ao, no, co⟩, rv, pv, su, pu, on⟩ := v
  have lb := hbas.n_eq
  have lo := hout.len
  simp only at lb lo hbas hout
  subst lb lo
  have h2 := ho.n2
  have h12 := ho.n12
  obtain ⟨ab, rfl, hlb⟩ := hbas.rows.addr (by simp only; omega)
  have c0 : w.cell? ⟨g, 0, none⟩ = some (.slice (some ab) t.b.rows.length cb) := hc 0 _ rfl
  have c7 : w.cell? ⟨g, 7, none⟩ = some (.slice Ao t.outer.length co) := hc 7 _ rfl
  have hR := ho.rowsOk
  have hsg := seg_lt hR x
  have hcl := fun (k : Nat) (h : k ≤ t.b.rows.length - 2) (h1 : k = 0 ∨ (t.b.row k).vol ≤ x) (h2 : ∀ j, k < j → j ≤ t.b.rows.length - 2 → x < (t.b.row j).vol) => (segTo_eq (b := t.b) (v := x) (s := k) h h1 h2 : seg t.b x = k)
  refine enter Tryz.func46 rfl Tryz.ntmps46 rfl ?_; simp only [frame, Nat.zero_add, Nat.reduceAdd]
  refine XC.seq (XC.region ?_)
  repeat (first | (refine M0 ?_; first | refine SL ?_ | refine SB fun _ _ => ?_) | (refine M2 ?_; refine SE ?_) | (refine M3 ?_; first | refine SG ?_ | refine SF ?_) | (refine M4 ?_; refine SR ?_) | (refine M5 ?_; first | exact M7 | refine YM ?_ | refine YN ?_ ?_))
  refine XC.seq (XC.region ?_)
  repeat (first | (refine M0 ?_; first | refine SL ?_ | refine SB fun _ _ => ?_ | refine Y4 (Ev.load_old tok rfl rfl hlg c0) ?_) | (refine M2 ?_; refine SE ?_) | (refine M3 ?_; first | refine SG ?_ | refine SF ?_ | refine YF (Ev.load_old tok rfl rfl hlg c0) ?_) | (refine M4 ?_; refine SR ?_) | (refine M5 ?_; first | exact M7 | refine YM ?_ | refine YN ?_ ?_))
  rename_i g6 hg6
  rw [show ((t.b.rows.length : Int) - 2) = ((t.b.rows.length - 2 : Nat) : Int) by omega]
  refine XC.cutl [0, 1, 2, 6] rfl (fun _ : Unit => [(7, .int .i64 (seg t.b x : Nat))]) (fun _ => []) (fun _ => True) ?_ (fun _ _ => ?_)
  · refine XC.block ?_
    refine XC.loopk [0, 1, 2, 6] rfl (fun k : Nat => [(7, .int .i64 (k : Nat))]) (fun _ => [(g6, _)]) (fun _ => w) (fun k => k ≤ t.b.rows.length - 2 ∧ ∀ j, k < j → j ≤ t.b.rows.length - 2 → x < (t.b.row j).vol) (fun k => k) (t.b.rows.length - 2) ⟨Nat.le_refl _, fun j h1 h2 => absurd h1 (by omega)⟩ ZZSUB (fun _ h => h) ?_
    rintro k ⟨hk, hj⟩
    dsimp only [List.cons_append, List.nil_append]
    repeat (first | (refine M0 ?_; first | refine SL ?_ | refine SB fun _ _ => ?_) | (refine M1 ?_; first | refine SC ?_ | refine SD ?_) | (refine M2 ?_; refine SE ?_) | (refine M3 ?_; first | refine SG ?_ | refine SF ?_) | (refine M4 ?_; refine SR ?_) | (refine M5 ?_; first | exact M7 | refine YM ?_ | refine YN ?_ ?_))
    refine XL.split _ _ rfl (fun h1 => ?_) (fun h1 => ?_) <;> rw [h1]
    · have hk0 : 0 < k := by have := of_decide_eq_true h1; omega
      repeat (first | (refine M0 ?_; first | refine SL ?_ | refine SB fun _ _ => ?_ | refine Y4 (Ev.load_old tok rfl rfl hlg c0) ?_ | refine Y4 (Ev.load_old tok rfl rfl (add_lt2 hlb) (hbas.rowVol (i := k) (by omega))) ?_) | (refine M1 ?_; first | refine SC ?_ | refine SD ?_) | (refine M2 ?_; refine SE ?_) | (refine M3 ?_; first | refine SG ?_ | refine SF ?_ | refine YF (Ev.load_old tok rfl rfl hlg c0) ?_ | refine YF (Ev.load_old tok rfl rfl (add_lt2 hlb) (hbas.rowVol (i := k) (by omega))) ?_) | (refine M4 ?_; refine SR ?_) | (refine M5 ?_; first | exact M7 | refine YM ?_ | refine YN ?_ ?_))
      refine XC.cond _ rfl (fun h3 => ?_) (fun h3 => ?_)
      · repeat (first | (refine M0 ?_; first | refine SL ?_ | refine SB fun _ _ => ?_) | (refine M1 ?_; first | refine SC ?_ | refine SD ?_) | (refine M2 ?_; refine SE ?_) | (refine M3 ?_; first | refine SG ?_ | refine SF ?_) | (refine M4 ?_; refine SR ?_) | (refine M5 ?_; first | exact M7 | refine YM ?_ | refine YN ?_ ?_))
        rw [show ((k : Int) - 1) = ((k - 1 : Nat) : Int) by omega]
        refine XE.round (k - 1) ⟨by omega, fun j h4 h5 => ?_⟩ (by omega) ZZSUB (fun _ h => h)
        by_cases e : j = k
        · subst e; exact of_decide_eq_true h3
        · exact hj j (by omega) h5
      · repeat (first | (refine M0 ?_; first | refine SL ?_ | refine SB fun _ _ => ?_) | (refine M1 ?_; first | refine SC ?_ | refine SD ?_) | (refine M2 ?_; refine SE ?_) | (refine M3 ?_; first | refine SG ?_ | refine SF ?_) | (refine M4 ?_; refine SR ?_) | (refine M5 ?_; first | exact M7 | refine YM ?_ | refine YN ?_ ?_))
        rw [← hcl k hk (.inr (by have := of_decide_eq_false h3; omega)) hj]
        refine XE.leaf () ZZSUB (fun _ S' => S') trivial
    · repeat (first | (refine M0 ?_; first | refine SL ?_ | refine SB fun _ _ => ?_) | (refine M1 ?_; first | refine SC ?_ | refine SD ?_) | (refine M2 ?_; refine SE ?_) | (refine M3 ?_; first | refine SG ?_ | refine SF ?_) | (refine M4 ?_; refine SR ?_) | (refine M5 ?_; first | exact M7 | refine YM ?_ | refine YN ?_ ?_))
      rw [← hcl k hk (.inl (by have := of_decide_eq_false h1; omega)) hj]
      refine XE.leaf () ZZSUB (fun _ S' => S') trivial
  dsimp only [List.cons_append, List.nil_append]
  obtain ⟨k, hk⟩ : ∃ k, k = seg t.b x := ⟨_, rfl⟩
  have hpb := parts_bd hR hx
  have htb := terms_bd hR hx
  have hnb := num_bd hR hx
  rw [← hk] at hsg hpb htb ⊢
  have hra := hbas.row (i := k) (by omega)
  have hrb : ∀ j u, (rowC (t.b.row (k + 1)))[j]? = some u → w.cell? ((ab.add (((k : Int) + 1).toNat * 2)).add j) = some u := by rw [show ((k : Int) + 1).toNat = k + 1 by omega]; exact hbas.row (by omega)
  have hden : den t.b x = (t.b.row (k + 1)).vol - (t.b.row k).vol := by rw [hk]; rfl
  have hnum : num t.b x = (t.b.row k).level * den t.b x + (x - (t.b.row k).vol) * ((t.b.row (k + 1)).level - (t.b.row k).level) := by rw [hk]; rfl
  rw [hden] at hpb htb hnum
  rw [hden, hnum]
  refine XC.cutl [0, 1, 2, 6] rfl (fun s : Nat × Nat => [(8, .pointer (some ⟨s.1, 0, none⟩)), (9, .pointer (some ⟨s.2, 0, none⟩))]) (fun s => [(s.2, cel 53 (rowC (t.b.row (k + 1)))), (s.1, cel 53 (rowC (t.b.row k)))]) (fun _ => True) ?_ ?_
  · refine XC.drawR _ [0, 1, 2, 3, 4, 5, 6, 7, 8, 9, 10, 11, 12, 13, 14, 15, 16, 17, 18] [19, 20, 21, 22] mixed (fun _ h => h) rfl (by kernel_rfl) ?_
    repeat (any_goals (first | (refine M0 ?_; first | refine SL ?_ | refine SB fun _ _ => ?_ | refine Y4 (Ev.load_old tok rfl rfl hlg c0) ?_ | refine Y4 (Ev.load_old_agg tok (rowC (t.b.row k)) rfl rfl rfl (add_lt hlb) hra) ?_ | refine Y4 (Ev.load_old_agg tok (rowC (t.b.row (k + 1))) rfl rfl rfl (add_lt hlb) hrb) ?_) | (refine M1 ?_; refine SC ?_) | (refine M2 ?_; refine SE ?_) | (refine M3 ?_; first | refine SG ?_ | refine SF ?_ | refine YF (Ev.load_old tok rfl rfl hlg c0) ?_ | refine YF (Ev.load_old_agg tok (rowC (t.b.row k)) rfl rfl rfl (add_lt hlb) hra) ?_ | refine YF (Ev.load_old_agg tok (rowC (t.b.row (k + 1))) rfl rfl rfl (add_lt hlb) hrb) ?_) | (refine M4 ?_; refine SR ?_) | (refine M5 ?_; first | exact M7 | refine YM ?_ | refine YN ?_ ?_)))
    any_goals (repeat (first | exact AnyR.nil | refine AnyR.skip rfl ?_))
    all_goals exact XE.leaf (_, _) ZZSUB (fun _ S' => by first | exact S' | exact S'.perm (by repeat (first | exact List.Perm.refl _ | refine perm1 ?_ | refine List.Perm.cons _ ?_ | refine perm2 ?_)) | exact (S'.pop (by assumption)) | exact (S'.pop2 (by assumption))) trivial
  rintro ⟨g8, g9⟩ _
  dsimp only [List.cons_append, List.nil_append]
  refine XC.hint 8 1 (XC.hint 9 2 ?_)
  simp only [rowC]
  repeat (first | (refine M0 ?_; first | refine SL ?_ | refine SB fun _ _ => ?_ | refine Y4 (Ev.load_old tok rfl rfl hlg c7) ?_) | (refine M1 ?_; first | refine SC ?_ | refine SD ?_) | (refine M2 ?_; refine SE ?_) | (refine M3 ?_; first | refine SG ?_ | refine SF ?_ | refine YF (Ev.load_old tok rfl rfl hlg c7) ?_) | (refine M4 ?_; refine SR ?_) | (refine M5 ?_; first | exact M7 | refine YM ?_ | refine YN ?_ ?_))
  refine XC.cond _ rfl (fun h1 => ?_) (fun h1 => ?_)
  · have hi : i < t.outer.length := by have := of_decide_eq_true h1; omega
    obtain ⟨ao, rfl, hlo, hco⟩ := hout.at_ (by omega)
    have c8 := hco i hi
    have hoi : outI t i = at0 t.outer i := by unfold outI; rw [if_pos hi]
    repeat (first | (refine M0 ?_; first | refine SL ?_ | refine SB fun _ _ => ?_ | refine Y4 (Ev.load_old tok rfl rfl hlg c7) ?_ | refine Y4 (Ev.load_old tok rfl rfl (add_lt hlo) c8) ?_) | (refine M1 ?_; first | refine SC ?_ | refine SD ?_) | (refine M2 ?_; refine SE ?_) | (refine M3 ?_; first | refine SG ?_ | refine SF ?_ | refine YF (Ev.load_old tok rfl rfl hlg c7) ?_ | refine YF (Ev.load_old tok rfl rfl (add_lt hlo) c8) ?_) | (refine M4 ?_; refine SR ?_) | (refine M5 ?_; first | exact M7 | refine YM ?_ | refine YN ?_ ?_))
    refine XE.retg tok Tryz.results46 rfl (by simp only [and_self, and_true]) (fun w' S => ?_)
    rw [hoi]
    exact ⟨rfl, S.toBelow⟩
  · have hi : ¬ i < t.outer.length := by have := of_decide_eq_false h1; omega
    have hoi : outI t i = 0 := by unfold outI; rw [if_neg hi]
    repeat (first | (refine M0 ?_; first | refine SL ?_ | refine SB fun _ _ => ?_) | (refine M1 ?_; first | refine SC ?_ | refine SD ?_) | (refine M2 ?_; refine SE ?_) | (refine M3 ?_; first | refine SG ?_ | refine SF ?_) | (refine M4 ?_; refine SR ?_) | (refine M5 ?_; first | exact M7 | refine YM ?_ | refine YN ?_ ?_))
    refine XE.retg tok Tryz.results46 rfl (by simp only [and_self, and_true]) (fun w' S => ?_)
    rw [hoi]
    exact ⟨rfl, S.toBelow⟩
end Go.Proofs.YtmckmlmfilmiaaaGreatDoor.X
/-
  The walk of use (runoff).
-/
namespace Go.Proofs.YtmckmlmfilmiaaaGreatDoor.Bs
open Go.Proofs.YtmckmlmfilmiaaaGreatDoor.X
theorem useTo_none {n d o : Int} {ds : List Dev} {b f : List Bool} {k : Nat} : ∀ {m : Nat}, k ≤ m → useTo n d o ds b f k = none → useTo n d o ds b f m = none := by
  intro m
  induction m with
  | zero => intro h1 h2; rw [show k = 0 by omega] at h2; exact h2
  | succ m ih =>
    intro h1 h2
    rcases Nat.lt_or_ge k (m + 1) with h3 | h3
    · unfold useTo
      rw [ih (by omega) h2]
    · rw [show m + 1 = k by omega]; exact h2
theorem useTo_on {n d o : Int} {ds : List Dev} {b f : List Bool} {k : Nat} {p : Int × Int} (h : useTo n d o ds b f k = some p) (h1 : bl f k = true) : useTo n d o ds b f (k + 1) = match (ds[k]?.getD d0).flow n d o with
        | none => none
        | some x => some (p.1 + x, p.2 + (ds[k]?.getD d0).energy n d o (bl b k) true) := by
  obtain ⟨a, c⟩ := p
  conv => lhs; unfold useTo
  rw [h]
  simp only
  rw [if_pos h1]
  first | done | (cases (ds[k]?.getD d0).flow n d o <;> rfl)
theorem useTo_off {n d o : Int} {ds : List Dev} {b f : List Bool} {k : Nat} {p : Int × Int} (h : useTo n d o ds b f k = some p) (h1 : bl f k = false) : useTo n d o ds b f (k + 1) = some (p.1, p.2 + (ds[k]?.getD d0).energy n d o (bl b k) false) := by
  obtain ⟨a, c⟩ := p
  conv => lhs; unfold useTo
  rw [h]
  simp only
  rw [if_neg (by simp [h1])]
end Go.Proofs.YtmckmlmfilmiaaaGreatDoor.Bs
namespace Go.Proofs.YtmckmlmfilmiaaaGreatDoor.X
open Go Go.RowKit Go.Proofs.YtmckmlmfilmiaaaGreatDoor.Bs
set_option linter.unusedVariables false
def useV : Option (Int × Int) → Value
  | none => .tuple ⟨[.int .i64 0, .int .i64 0, .bool false]⟩
  | some p => .tuple ⟨[.int .i64 p.1, .int .i64 p.2, .bool true]⟩
theorem use_head {t : RTk} (h : RtOk t) {x : Int} (hx : (t.b.row 0).vol ≤ x ∧ x ≤ 1000000000) {i : Nat} (hi : i < t.outer.length) : HeadOk (num t.b x) (den t.b x) (at0 t.outer i) := by
  have hR := h.ok.rowsOk
  have h1 := parts_bd hR hx
  have h2 := terms_bd hR hx
  have h3 := num_bd hR hx
  refine ⟨den_pos hR x, h3, ?_, h.out_ i hi⟩
  have h4 : -20000 * den t.b x ≤ (t.b.row (seg t.b x)).level * den t.b x := Int.mul_le_mul_of_nonneg_right h1.1.1 (by omega)
  have h5 : num t.b x = (t.b.row (seg t.b x)).level * den t.b x + (x - (t.b.row (seg t.b x)).vol) * ((t.b.row (seg t.b x + 1)).level - (t.b.row (seg t.b x)).level) := rfl
  omega
theorem boolAt {w : World} {ok : Nat → Prop} {ad : Addr} {n c : Nat} {l : List Bool} (h : ListAt boolK w ok ⟨some ad, n, c⟩ l) {k : Nat} (hk : k < l.length) : w.cell? (ad.add (k * 1)) = some (.bool (bl l k)) := by
  have h9 := h.elem (List.getElem?_eq_getElem hk) 0 (.bool l[k]) rfl
  rw [add_add, Nat.add_zero] at h9
  unfold bl
  rw [List.getElem?_eq_getElem hk]
  exact h9
set_option maxHeartbeats 8000000 in
set_option maxRecDepth 20000 in
theorem use_any {g gt gm : Nat} {v : RTV} {r p q : SV} {t : RTk} {x : Int} {i : Nat} {before on : List Bool} {w : World} (hp : PlnAt w (Lt w.heap.size) g gt gm v r t) (ht : TskAt w w.heap.size v t) (ho : RtOk t) (hx : (t.b.row 0).vol ≤ x ∧ x ≤ 1000000000) (hi : i < t.outer.length)
    (hb : ListAt boolK w (Lt w.heap.size) p before) (hbl : before.length = t.devs.length) (hf : ListAt boolK w (Lt w.heap.size) q on) (hfl : on.length = t.devs.length) :
    Calls Tryz.prog 29 #[.pointer (some ⟨g, 0, none⟩), .int .i64 x, .int .i64 (i : Nat), svV p, svV q] w fun e w' => e = .returned (useV (t.use x i before on)) ∧ Below w.heap.size w w' := by
  obtain ⟨hlg, hc⟩ := plnCell hp
  have hall := hp.all
  obtain ⟨Ad, nd, cd⟩ := r
  have lnd := hall.len (by decide)
  obtain ⟨Ap, np, cp⟩ := p
  obtain ⟨Aq, nq, cq⟩ := q
  have lp := hb.len (by decide)
  have lq := hf.len (by decide)
  simp only at lnd lp lq
  subst lnd lp lq
  have c15 : w.cell? ⟨g, 15, none⟩ = some (.slice Ad t.devs.length cd) := hc 15 _ rfl
  have hm4 : t.devs.length ≤ 4 := by have := t.devs_len; unfold RTk.many at this; have := ho.s2; have := ho.p2; omega
  have hH := use_head ho hx hi
  have hO : outI t i = at0 t.outer i := by unfold outI; rw [if_pos hi]
  have hU : t.use x i before on = match useTo (num t.b x) (den t.b x) (at0 t.outer i) t.devs before on t.devs.length with
    | none => none
    | some (f, e) => some (min f 10000000, e) := rfl
  have hhead := fun {L : Lo} (w5 : World) (S5 : Sys w.heap.size w L w5) => head_any (i := i) (x := x) ((hp.keep fun k hk => S5.old k hk fun e he e1 => by have := (S5.own e he).1; have hk' : k < w.heap.size := hk; omega).mono fun k hk => Nat.lt_of_lt_of_le hk S5.size) (ht.sys S5) ho.ok hx
  rw [hO] at hhead
  obtain ⟨n, hn⟩ : ∃ n, n = num t.b x := ⟨_, rfl⟩
  obtain ⟨d, hd⟩ : ∃ d, d = den t.b x := ⟨_, rfl⟩
  obtain ⟨o, hoo⟩ : ∃ o, o = at0 t.outer i := ⟨_, rfl⟩
  rw [← hn, ← hd, ← hoo] at hH hU hhead
  simp only [svV, headC] at hhead ⊢
  refine enter Tryz.func29 rfl Tryz.ntmps29 rfl ?_; simp only [frame, Nat.zero_add, Nat.reduceAdd]
  repeat (first | (refine M0 ?_; first | refine SL ?_ | refine SB fun _ _ => ?_ | refine Y4 (Ev.call (f := 46) (ck rfl) rfl (fun w5 S5 => hhead w5 S5)) ?_ | refine Y4 (Ev.load_old tok rfl rfl hlg c15) ?_) | (refine M1 ?_; first | refine SC ?_ | refine SD ?_) | (refine M2 ?_; refine SE ?_) | (refine M3 ?_; first | refine SG ?_ | refine SF ?_ | refine YF (Ev.call (f := 46) (ck rfl) rfl (fun w5 S5 => hhead w5 S5)) ?_ | refine YF (Ev.load_old tok rfl rfl hlg c15) ?_) | (refine M4 ?_; refine SR ?_) | (refine M5 ?_; first | exact M7 | refine YM ?_ | refine YN ?_ ?_))
  rename_i g13 hg13
  refine XC.loopk [3, 4, 13, 25, 26] rfl (fun s : Nat × Int × Int => [(27, .int .i64 (s.1 : Nat)), (10, .int .i64 s.2.1), (11, .int .i64 s.2.2)]) (fun _ => [(g13, _)]) (fun _ => w) (fun s => s.1 ≤ t.devs.length ∧ useTo n d o t.devs before on s.1 = some s.2 ∧ (0 ≤ s.2.1 ∧ s.2.1 ≤ 800000000000000000 * s.1) ∧ 0 ≤ s.2.2 ∧ s.2.2 ≤ 5000000000 * s.1) (fun s => t.devs.length - s.1) (0, 0, 0) ⟨Nat.zero_le _, rfl, by simp, by simp⟩ ZZSUB (fun _ h => h) ?_
  rintro ⟨k, f, e⟩ ⟨hk, hto, hfb, heb⟩
  simp only at hk hto hfb heb
  dsimp only [List.cons_append, List.nil_append]
  repeat (first | (refine M0 ?_; first | refine SL ?_ | refine SB fun _ _ => ?_) | (refine M1 ?_; first | refine SC ?_ | refine SD ?_) | (refine M2 ?_; refine SE ?_) | (refine M3 ?_; first | refine SG ?_ | refine SF ?_) | (refine M4 ?_; refine SR ?_) | (refine M5 ?_; first | exact M7 | refine YM ?_ | refine YN ?_ ?_))
  refine XC.cond _ rfl (fun h1 => ?_) (fun h1 => ?_)
  rotate_left
  · have hkn : k = t.devs.length := by have := of_decide_eq_false h1; omega
    subst hkn
    repeat (first | (refine M0 ?_; first | refine SL ?_ | refine SB fun _ _ => ?_) | (refine M1 ?_; first | refine SC ?_ | refine SD ?_) | (refine M2 ?_; refine SE ?_) | (refine M3 ?_; first | refine SG ?_ | refine SF ?_) | (refine M4 ?_; refine SR ?_) | (refine M5 ?_; first | exact M7 | refine YM ?_ | refine YN ?_ ?_))
    refine XE.retg tok Tryz.results29 rfl (by simp only [and_self, and_true]) (fun w' S => ?_)
    rw [hU, hto]
    exact ⟨rfl, S.toBelow⟩
  have hkn : k < t.devs.length := by have := of_decide_eq_true h1; omega
  obtain ⟨ad, rfl, hld⟩ := hall.addr (by decide) (by omega)
  obtain ⟨ap, rfl, hlp⟩ := hb.addr (by decide) (by omega)
  obtain ⟨aq, rfl, hlq⟩ := hf.addr (by decide) (by omega)
  have hbk := boolAt hb (k := k) (by omega)
  have hfk := boolAt hf (k := k) (by omega)
  have hdk := hall.elem (List.getElem?_eq_getElem hkn) 0 (devV t.devs[k]) rfl
  rw [add_add, Nat.add_zero] at hdk
  have hgd : t.devs[k]?.getD d0 = t.devs[k] := by rw [List.getElem?_eq_getElem hkn]; rfl
  have hok := ho.dev _ (List.getElem_mem hkn)
  obtain ⟨z, hz⟩ : ∃ z, z = t.devs[k] := ⟨_, rfl⟩
  rw [← hz] at hdk hgd hok
  have hdk' : w.cell? (ad.add (k * 1)) = some (devV z) := hdk
  obtain ⟨f1, m1, k1, c1⟩ := dev_flow hH hok
  obtain ⟨f2, m2, k2, c2⟩ := dev_energy (bl before k) (bl on k) hH hok
  have heb2 := energy_bd (bl before k) (bl on k) hH hok
  have hon' : bl on k = true → _ := fun h => useTo_on hto h
  have hoff' : bl on k = false → _ := fun h => useTo_off hto h
  rw [hgd] at hon' hoff'
  have hfbd := fun f => flow_bd (f := f) hH hok
  simp only [headC] at c1 c2
  repeat (first | (refine M0 ?_; first | refine SL ?_ | refine SB fun _ _ => ?_ | refine Y4 (Ev.load_old tok rfl rfl (add_lt hld) hdk') ?_ | refine Y4 (Ev.load_old tok rfl rfl (add_lt hlq) hfk) ?_) | (refine M1 ?_; first | refine SC ?_ | refine SD ?_) | (refine M2 ?_; refine SE ?_) | (refine M3 ?_; first | refine SG ?_ | refine SF ?_ | refine YF (Ev.load_old tok rfl rfl (add_lt hld) hdk') ?_ | refine YF (Ev.load_old tok rfl rfl (add_lt hlq) hfk) ?_) | (refine M4 ?_; refine SR ?_) | (refine M5 ?_; first | exact M7 | refine YM ?_ | refine YN ?_ ?_))
  cases hbo : bl on k with
  | true =>
    have hon2 := hon' hbo
    rw [hbo] at c2 heb2 hfk
    repeat (first | (refine M0 ?_; first | refine SL ?_ | refine SB fun _ _ => ?_ | refine Y4 (Ev.load_old tok rfl rfl (add_lt hlq) hfk) ?_) | (refine M1 ?_; first | refine SC ?_ | refine SD ?_) | (refine M2 ?_; refine SE ?_) | (refine M3 ?_; first | refine SG ?_ | refine SF ?_ | refine YF (Ev.load_old tok rfl rfl (add_lt hlq) hfk) ?_) | (refine M4 ?_; refine SR ?_) | (refine M5 ?_; first | exact M7 | refine YM ?_ | refine YN ?_ ?_))
    cases hfw : z.flow n d o with
    | none =>
      rw [hfw] at hon2 c1
      simp only [flowV] at c1
      repeat (first | (refine M0 ?_; first | refine SL ?_ | refine SB fun _ _ => ?_ | refine Y4 (Ev.invoke (t := z.ty) (v := .agg ⟨z.c⟩) m1 k1 rfl rfl (fun w S => c1 w)) ?_) | (refine M1 ?_; first | refine SC ?_ | refine SD ?_) | (refine M2 ?_; refine SE ?_) | (refine M3 ?_; first | refine SG ?_ | refine SF ?_ | refine YF (Ev.invoke (t := z.ty) (v := .agg ⟨z.c⟩) m1 k1 rfl rfl (fun w S => c1 w)) ?_) | (refine M4 ?_; refine SR ?_) | (refine M5 ?_; first | exact M7 | refine YM ?_ | refine YN ?_ ?_))
      refine XE.retg tok Tryz.results29 rfl (by simp only [and_self, and_true]) (fun w' S => ?_)
      rw [hU, useTo_none (by omega : k + 1 ≤ t.devs.length) hon2]
      exact ⟨rfl, S.toBelow⟩
    | some y =>
      have hy := hfbd y hfw
      rw [hfw] at hon2 c1
      simp only [flowV] at c1 hon2
      repeat (first | (refine M0 ?_; first | refine SL ?_ | refine SB fun _ _ => ?_ | refine Y4 (Ev.invoke (t := z.ty) (v := .agg ⟨z.c⟩) m1 k1 rfl rfl (fun w S => c1 w)) ?_ | refine Y4 (Ev.load_old tok rfl rfl (add_lt hlp) hbk) ?_ | refine Y4 (Ev.load_old tok rfl rfl (add_lt hlq) hfk) ?_ | refine Y4 (Ev.makeFunc rfl rfl) ?_ | refine Y4 (Ev.nilCheckM m2 rfl) ?_ | refine Y4 (Ev.invoke (t := z.ty) (v := .agg ⟨z.c⟩) m2 k2 rfl rfl (fun w S => c2 w)) ?_) | (refine M1 ?_; first | refine SC ?_ | refine SD ?_) | (refine M2 ?_; refine SE ?_) | (refine M3 ?_; first | refine SG ?_ | refine SF ?_ | refine YF (Ev.invoke (t := z.ty) (v := .agg ⟨z.c⟩) m1 k1 rfl rfl (fun w S => c1 w)) ?_ | refine YF (Ev.load_old tok rfl rfl (add_lt hlp) hbk) ?_ | refine YF (Ev.load_old tok rfl rfl (add_lt hlq) hfk) ?_ | refine YF (Ev.makeFunc rfl rfl) ?_ | refine YF (Ev.nilCheckM m2 rfl) ?_ | refine YF (Ev.invoke (t := z.ty) (v := .agg ⟨z.c⟩) m2 k2 rfl rfl (fun w S => c2 w)) ?_) | (refine M4 ?_; refine SR ?_) | (refine M5 ?_; first | exact M7 | refine YM ?_ | refine YN ?_ ?_))
      exact XE.round (s := (k, f, e)) (k + 1, f + y, e + z.energy n d o (bl before k) true) ⟨hkn, hon2, by simp only; omega, by simp only; omega⟩ (by simp only; omega) ZZSUB (fun _ h => h)
  | false =>
    have hoff2 := hoff' hbo
    rw [hbo] at c2 heb2 hfk
    repeat (first | (refine M0 ?_; first | refine SL ?_ | refine SB fun _ _ => ?_ | refine Y4 (Ev.load_old tok rfl rfl (add_lt hlp) hbk) ?_ | refine Y4 (Ev.load_old tok rfl rfl (add_lt hlq) hfk) ?_ | refine Y4 (Ev.makeFunc rfl rfl) ?_ | refine Y4 (Ev.nilCheckM m2 rfl) ?_ | refine Y4 (Ev.invoke (t := z.ty) (v := .agg ⟨z.c⟩) m2 k2 rfl rfl (fun w S => c2 w)) ?_) | (refine M1 ?_; first | refine SC ?_ | refine SD ?_) | (refine M2 ?_; refine SE ?_) | (refine M3 ?_; first | refine SG ?_ | refine SF ?_ | refine YF (Ev.load_old tok rfl rfl (add_lt hlp) hbk) ?_ | refine YF (Ev.load_old tok rfl rfl (add_lt hlq) hfk) ?_ | refine YF (Ev.makeFunc rfl rfl) ?_ | refine YF (Ev.nilCheckM m2 rfl) ?_ | refine YF (Ev.invoke (t := z.ty) (v := .agg ⟨z.c⟩) m2 k2 rfl rfl (fun w S => c2 w)) ?_) | (refine M4 ?_; refine SR ?_) | (refine M5 ?_; first | exact M7 | refine YM ?_ | refine YN ?_ ?_))
    exact XE.round (s := (k, f, e)) (k + 1, f, e + z.energy n d o (bl before k) false) ⟨hkn, hoff2, by simp only; omega, by simp only; omega⟩ (by simp only; omega) ZZSUB (fun _ h => h)
end Go.Proofs.YtmckmlmfilmiaaaGreatDoor.X
/-
  The walk of do (runoff).
-/
namespace Go.Proofs.YtmckmlmfilmiaaaGreatDoor.X
open Go Go.RowKit Go.Proofs.YtmckmlmfilmiaaaGreatDoor.Bs
set_option linter.unusedVariables false
def doneC (q : SV) (d : Done) : List Value := [.int .i64 d.s.vol, .slice q.A q.n q.c, .int .i64 d.out, .int .i64 d.energy, .int .i64 d.cost]
def DoV (E : Int) (D : Done) (v : Value) (new : List Held) : Prop := ∃ q : SV, v = .tuple ⟨[.agg ⟨doneC q D⟩, .int .i64 E]⟩ ∧ new = [hInts q D.s.fil]
def StepMV (b : Bas) (s : Sta) (t : Tick) (v : Value) (new : List Held) : Prop := ∃ q r : SV, v = .tuple ⟨[staV q (outS b s t), floV r (outF b s t), .int .i64 (stepE b s t)]⟩ ∧ new = [hInts q (outS b s t).fil, hInts r (outF b s t).taken]
theorem Step_madeR {p : BV} {b : Bas} {q : SV} {s : Sta} {t : Tick} {w : World} (hb : BasAt w w.heap.size p b) (hq : IntsAt w (Lt w.heap.size) q s.fil) (hc : chkE b = 0) (hs : StaOk b s) :
    Calls Tryz.prog 65 #[basV p b, staV q s, tickV t] w (Made w (StepMV b s t)) :=
  (Step_any (t := t) hb hq).mono fun e w' ⟨v, h1, ⟨q2, r2, h2, h3, h4, h5⟩⟩ => by
    obtain ⟨f1, f2, f3⟩ := full_0 (t := t) (staErr_ok hc hs)
    rw [f1, f2, f3] at h2
    rw [f2] at h3
    rw [f3] at h4
    exact ⟨v, _, h1, ⟨q2, r2, h2, rfl⟩, fun x hx => by
      rcases List.mem_cons.1 hx with rfl | hx
      · exact h3
      · rw [List.mem_singleton.1 hx]; exact h4, h5⟩
/-- where a planner stands in a walk. -/
structure Plr (w : World) (g gt gm : Nat) (v : RTV) (r : SV) (t : RTk) : Prop where
  p : PlnAt w (Lt w.heap.size) g gt gm v r t
  t : TskAt w w.heap.size v t
theorem Plr.sys {w w' : World} {g gt gm : Nat} {v : RTV} {r : SV} {t : RTk} {L : Lo} (h : Plr w g gt gm v r t) (S : Sys w.heap.size w L w') : Plr w' g gt gm v r t :=
  ⟨(h.p.keep fun k hk => S.old k hk fun e he e1 => by have := (S.own e he).1; have hk' : k < w.heap.size := hk; omega).mono fun k hk => Nat.lt_of_lt_of_le hk S.size, h.t.sys S⟩
theorem Plr.below {w w' : World} {g gt gm : Nat} {v : RTV} {r : SV} {t : RTk} (h : Plr w g gt gm v r t) (hb : Below w.heap.size w w') : Plr w' g gt gm v r t := h.sys (Sys.ofBelow hb)
theorem chk_rt {t : RTk} (h : rtE t = 0) : chkE t.b = 0 := by
  unfold rtE chkT at h
  split at h
  · rename_i h1; exact absurd h h1
  · rename_i h1; simpa using h1
theorem useTo_bd {n d o : Int} {ds : List Dev} {b f : List Bool} (h : HeadOk n d o) (hd : ∀ x, x ∈ ds → DevOk x) : ∀ {k : Nat} {p : Int × Int}, k ≤ ds.length → useTo n d o ds b f k = some p → 0 ≤ p.1 ∧ 0 ≤ p.2 ∧ p.2 ≤ 5000000000 * k := by
  intro k
  induction k with
  | zero => intro p _ h; cases h; simp
  | succ k ih =>
    intro p hk hp
    cases h1 : useTo n d o ds b f k with
    | none => rw [useTo_none (Nat.le_succ k) h1] at hp; cases hp
    | some q =>
      have hq := ih (by omega) h1
      have hx : ds[k]?.getD d0 ∈ ds := by rw [List.getElem?_eq_getElem (by omega)]; exact List.getElem_mem _
      have hb := fun y => energy_bd (bl b k) y h (hd _ hx)
      cases h2 : bl f k with
      | true =>
        rw [useTo_on h1 h2] at hp
        cases h3 : (ds[k]?.getD d0).flow n d o with
        | none => rw [h3] at hp; cases hp
        | some x =>
          rw [h3] at hp
          cases hp
          have hf := flow_bd h (hd _ hx) h3
          have := hb true
          simp only
          omega
      | false =>
        rw [useTo_off h1 h2] at hp
        cases hp
        have := hb false
        simp only
        omega
theorem use_bd {t : RTk} (h : RtOk t) {x : Int} (hx : (t.b.row 0).vol ≤ x ∧ x ≤ 1000000000) {i : Nat} (hi : i < t.outer.length) {b f : List Bool} {p : Int × Int} (e : t.use x i b f = some p) : (0 ≤ p.1 ∧ p.1 ≤ 10000000) ∧ 0 ≤ p.2 ∧ p.2 ≤ 20000000000 := by
  unfold RTk.use at e
  cases h1 : useTo (num t.b x) (den t.b x) (at0 t.outer i) t.devs b f t.devs.length with
  | none => rw [h1] at e; cases e
  | some q =>
    rw [h1] at e
    obtain ⟨a, c⟩ := q
    simp only [Option.some.injEq] at e
    subst e
    have := useTo_bd (use_head h hx hi) h.dev (Nat.le_refl _) h1
    have hm4 : t.devs.length ≤ 4 := by have := t.devs_len; unfold RTk.many at this; have := h.s2; have := h.p2; omega
    simp only at this ⊢
    omega
/-- what a choice leads to is a state of the basin. -/
theorem do_sta {t : RTk} (h : RtOk t) {s : Sta} (hs : StaOk t.b s) {i : Nat} (hi : i < t.outer.length) {b f : List Bool} (e : t.doE s i b f = 0) : StaOk t.b (t.doD s i b f).s ∧ 0 ≤ (t.doD s i b f).cost ∧ (t.doD s i b f).cost ≤ 200000000000000 ∧ ∃ p, t.use s.vol i b f = some p ∧ stepE t.b s (t.tickOf i p.1) = 0 ∧ t.doD s i b f = ⟨outS t.b s (t.tickOf i p.1), p.1, p.2, p.2 * at0 t.prices i⟩ := by
  have e' := e
  unfold RTk.doE at e'
  cases h1 : t.use s.vol i b f with
  | none => rw [h1] at e'; cases e'
  | some p =>
    rw [h1] at e'
    obtain ⟨a, c⟩ := p
    simp only at e'
    split at e'
    · cases e'
    · rename_i h2
      have h2' : stepE t.b s (t.tickOf i a) = 0 := by simpa using h2
      have hd : t.doD s i b f = ⟨outS t.b s (t.tickOf i a), a, c, c * at0 t.prices i⟩ := by
        unfold RTk.doD
        rw [if_pos e, h1]
      have hb := use_bd h hs.vol hi h1
      simp only at hb
      have hp := h.pri_ i hi
      have hm := mul_bd (X := 20000000000) (Y := 10000) (x := c) (y := at0 t.prices i) (by omega) (by omega)
      have hm0 : 0 ≤ c * at0 t.prices i := Int.mul_nonneg (by omega) hp.1
      rw [hd]
      refine ⟨?_, hm0, by simp only; omega, (a, c), rfl, h2', rfl⟩
      have := stepS_ok h.ok hs h2'
      rw [← outS_0 h2'] at this
      exact this
/-- the next operation calls what is held in this slot. -/
theorem XL.at_callv {P : Program} {N B : Nat} {w0 : World} {ds : List Deferred} {Q : Exit → Act → World → Prop} {F : Fr} {L : Lo} {ops : Array Oper} {rest : List Oper} {ty : TypeId} {p : String} {af : Array Edge} {d : Nat} (t : Nat) {args : Array Operand} {ats : Array TypeId} (k : XL P N B w0 ds Q ops ({ dst := some d, op := .call { callee := .value (.tmp t), args := args, argTypes := ats }, type := ty, pos := p, after := af, guard := none } :: rest) F L) :
    XL P N B w0 ds Q ops ({ dst := some d, op := .call { callee := .value (.tmp t), args := args, argTypes := ats }, type := ty, pos := p, after := af, guard := none } :: rest) F L := k
theorem below_cell {B : Nat} {w w' : World} (h : Below B w w') {ad : Addr} (hb : ad.block < B) : w'.cell? ad = w.cell? ad := by unfold World.cell?; rw [h.block _ hb]
set_option maxHeartbeats 16000000 in
theorem do_made {g gt gm : Nat} {v : RTV} {r p q sq : SV} {t : RTk} {s : Sta} {i : Nat} {before on : List Bool} {w : World} (hp : Plr w g gt gm v r t) (hc0 : chkE t.b = 0) (ho : RtOk t) (hq : IntsAt w (Lt w.heap.size) sq s.fil) (hs : StaOk t.b s) (hi : i < t.outer.length)
    (hb : ListAt boolK w (Lt w.heap.size) p before) (hbl : before.length = t.devs.length) (hf : ListAt boolK w (Lt w.heap.size) q on) (hfl : on.length = t.devs.length) :
    Calls Tryz.prog 54 #[.pointer (some ⟨g, 0, none⟩), staV sq s, .int .i64 (i : Nat), svV p, svV q] w (Made w (DoV (t.doE s i before on) (t.doD s i before on))) := by
  obtain ⟨hlg, hc⟩ := plnCell hp.p
  have huse := fun {L : Lo} (w5 : World) (S5 : Sys w.heap.size w L w5) => use_any (hp.sys S5).p (hp.sys S5).t ho hs.vol hi (hb.arg S5) hbl (hf.arg S5) hfl
  have hhead := fun {L : Lo} {W : World} (y : Int) (hy : (t.b.row 0).vol ≤ y ∧ y ≤ 1000000000) (hpW : Plr W g gt gm v r t) (B : Nat) (hB : Below W.heap.size W W) (w5 : World) (S5 : Sys W.heap.size W L w5) => head_any (i := t.outer.length) (x := y) (hpW.sys S5).p (hpW.sys S5).t ho.ok hy
  have hcb : ∀ j u, (basC v.p t.b)[j]? = some u → w.cell? ((⟨g, 0, none⟩ : Addr).add j) = some u := fun j u hj => by
    rw [add_off, Nat.zero_add]
    refine hc j u ?_
    have hj5 : j < (basC v.p t.b).length := (List.getElem?_eq_some_iff.1 hj).1
    show (basC v.p t.b ++ _)[j]? = some u
    rw [List.getElem?_append_left hj5]
    exact hj
  obtain ⟨⟨Ab, nb, cb, Ab2, nb2, cb2⟩, tq, ⟨Ao, no, co⟩, ⟨Ar, nr, cr⟩, ⟨Ac, nc, cc⟩, su, pu, ton⟩ := v
  have hout := hp.t.outer
  have hriv := hp.t.river
  have hpri := hp.t.prices
  simp only at hout hriv hpri hcb
  have lo := hout.len
  have lr := hriv.len
  have lc := hpri.len
  simp only at lo lr lc
  subst lo lr lc
  have hrl := ho.river
  have hpl := ho.prices
  obtain ⟨ao, rfl, hlo, hco⟩ := hout.at_ (by omega)
  obtain ⟨ar, rfl, hlr, hcr⟩ := hriv.at_ (by omega)
  have dO := hco i hi
  have dR := hcr i (by omega)
  have c7 : w.cell? ⟨g, 7, none⟩ = some (.slice (some ao) t.outer.length co) := hc 7 _ rfl
  have c8 : w.cell? ⟨g, 8, none⟩ = some (.slice (some ar) t.river.length cr) := hc 8 _ rfl
  have c10 : w.cell? ⟨g, 10, none⟩ = some (.int .i64 t.low) := hc 10 _ rfl
  have c11 : w.cell? ⟨g, 11, none⟩ = some (.int .i64 t.high) := hc 11 _ rfl
  have c16 : w.cell? ⟨g, 16, none⟩ = some (.func (.func 52) #[] #[.pointer (some ⟨gt, 0, none⟩)]) := hc 16 _ rfl
  have hE : t.doE s i before on = match t.use s.vol i before on with
    | none => 170
    | some (f, _) =>
      if stepE t.b s (t.tickOf i f) ≠ 0 then 173
      else if num t.b (outS t.b s (t.tickOf i f)).vol < t.low * den t.b (outS t.b s (t.tickOf i f)).vol then 171
      else if t.high * den t.b (outS t.b s (t.tickOf i f)).vol < num t.b (outS t.b s (t.tickOf i f)).vol then 172 else 0 := rfl
  have hD : t.doE s i before on ≠ 0 → t.doD s i before on = Done.zero := fun h => by unfold RTk.doD; rw [if_neg h]
  have hDs := do_sta ho hs hi (b := before) (f := on)
  simp only [staV, staC, svV, basC] at huse hcb ⊢
  refine enter Tryz.func54 rfl Tryz.ntmps54 rfl ?_; simp only [frame, Nat.zero_add, Nat.reduceAdd]
  repeat (first | (refine M0 ?_; first | refine SL ?_ | refine SB fun _ _ => ?_ | refine Y4 (Ev.call (f := 29) (ck rfl) rfl (fun w5 S5 => huse w5 S5)) ?_) | (refine M1 ?_; first | refine SC ?_ | refine SD ?_) | (refine M2 ?_; refine SE ?_) | (refine M3 ?_; first | refine SG ?_ | refine SF ?_ | refine YF (Ev.call (f := 29) (ck rfl) rfl (fun w5 S5 => huse w5 S5)) ?_) | (refine M4 ?_; refine SR ?_) | (refine M5 ?_; first | exact M7 | refine YM ?_ | refine YN ?_ ?_))
  rename_i g6 hg6 g10 hg10
  cases hu : t.use s.vol i before on with
  | none =>
    rw [hu] at hE
    have hE : t.doE s i before on = 170 := hE
    simp only [useV]
    repeat (first | (refine M0 ?_; first | refine SL ?_ | refine SB fun _ _ => ?_) | (refine M1 ?_; first | refine SC ?_ | refine SD ?_) | (refine M2 ?_; refine SE ?_) | (refine M3 ?_; first | refine SG ?_ | refine SF ?_) | (refine M4 ?_; refine SR ?_) | (refine M5 ?_; first | exact M7 | refine YM ?_ | refine YN ?_ ?_))
    refine XE.retg tok Tryz.results54 rfl (by simp only [and_self, and_true]) (fun w' S => ?_)
    rw [hE, hD (by rw [hE]; decide)]
    exact ⟨_, _, rfl, ⟨⟨none, 0, 0⟩, rfl, rfl⟩, fun x hx => by rw [List.mem_singleton.1 hx]; exact IntsAt.nil, S.toBelow⟩
  | some pr =>
  obtain ⟨f, e⟩ := pr
  rw [hu] at hE
  simp only at hE
  have hub := use_bd ho hs.vol hi hu
  simp only at hub
  simp only [useV]
  obtain ⟨tk, htk⟩ : ∃ tk, tk = t.tickOf i f := ⟨_, rfl⟩
  rw [← htk] at hE
  have htkv : tickV tk = .agg ⟨[.int .i64 (at0 t.outer i), .int .i64 (at0 t.river i), .int .i64 f]⟩ := by rw [htk]; rfl
  have hstep := fun {L : Lo} (w5 : World) (S5 : Sys w.heap.size w L w5) => Step_madeR (t := tk) (hp.t.bas.sys S5) (hq.arg S5) hc0 hs
  rw [htkv] at hstep
  simp only [basV, basC, staV, staC] at hstep
  repeat (first | (refine M0 ?_; first | refine SL ?_ | refine SB fun _ _ => ?_) | (refine M1 ?_; refine SC ?_) | (refine M2 ?_; refine SE ?_))
  refine XC.rebase (List.Sublist.refl _) (fun W0 S0 => ?_)
  have hB0 := S0.toBelow
  have hF0 : Fam W0 w.heap.size [g10, g6] [] [] := Fam.start S0.size
  have hk0 : ∀ k, k ∈ [g10, g6] → k < W0.heap.size := fun k hk => S0.keyLt k hk
  refine XC.cutn [0, 2, 3, 4, 6, 10, 12, 13] rfl (fun z : World × Nat × SV => [(15, .pointer (some ⟨z.2.1, 0, none⟩)), (17, .int .i64 (stepE t.b s tk))]) (fun z => [(z.2.1, cel 28 (staC z.2.2 (outS t.b s tk))), (g10, cel 114 [.int .i64 0, .slice none 0 0, .int .i64 0, .int .i64 0, .int .i64 0]), (g6, cel 28 [.int .i64 s.vol, .slice sq.A sq.n sq.c])]) (fun z => z.1) (fun z => Below w.heap.size w z.1 ∧ Fam z.1 w.heap.size [z.2.1, g10, g6] [] [hInts z.2.2 (outS t.b s tk).fil] ∧ ∀ k, k ∈ [z.2.1, g10, g6] → k < z.1.heap.size) ?_ ?_
  · refine XC.drawRS _ [(g10, cel 114 [.int .i64 0, .slice none 0 0, .int .i64 0, .int .i64 0, .int .i64 0]), (g6, cel 28 [.int .i64 s.vol, .slice sq.A sq.n sq.c])] [0, 1, 2, 3, 4, 5, 6, 7, 8, 9, 10, 11, 12, 13, 14, 15, 16, 17, 18, 19, 20, 21, 22, 23] [24, 25, 26, 27, 28, 29, 30, 31, 32, 33] mixed (fun _ h => Sys.anchor2 (by assumption) h ZZSM) rfl (by kernel_rfl) ?_
    repeat (any_goals (first | (refine M0 ?_; first | refine SL ?_ | refine SB fun _ _ => ?_ | refine Y4 (Ev.load_old_agg tok [.slice Ab nb cb, .int .i64 t.b.leak, .int .i64 t.b.crest, .int .i64 t.b.over, .slice Ab2 nb2 cb2] rfl rfl rfl hlg hcb) ?_ | refine Y4 (Ev.load_old tok rfl rfl hlg c7) ?_ | refine Y4 (Ev.load_old tok rfl rfl hlg c8) ?_ | refine Y4 (Ev.load_old tok rfl rfl (add_lt hlo) dO) ?_ | refine Y4 (Ev.load_old tok rfl rfl (add_lt hlr) dR) ?_ | (refine XL.at_call 65 ?_; refine XL.callF (StepMV t.b s tk) (ck rfl) rfl rfl (by assumption) (by assumption) (by assumption) (fun w1 S1 _ hB1 => hstep w1 (Sys.ofBelow hB1)) (fun w2 x new hR hF2 hB2 hk2 => ?_); obtain ⟨q2, r2, rfl, rfl⟩ := hR; simp only [staV, staC, floV, floC])) | (refine M1 ?_; refine SC ?_) | (refine M2 ?_; refine SE ?_) | (refine M3 ?_; first | refine SG ?_ | refine SF ?_ | refine YF (Ev.load_old_agg tok [.slice Ab nb cb, .int .i64 t.b.leak, .int .i64 t.b.crest, .int .i64 t.b.over, .slice Ab2 nb2 cb2] rfl rfl rfl hlg hcb) ?_ | refine YF (Ev.load_old tok rfl rfl hlg c7) ?_ | refine YF (Ev.load_old tok rfl rfl hlg c8) ?_ | refine YF (Ev.load_old tok rfl rfl (add_lt hlo) dO) ?_ | refine YF (Ev.load_old tok rfl rfl (add_lt hlr) dR) ?_) | (refine M4 ?_; refine SR ?_) | (refine M5 ?_; first | exact M7 | refine YM ?_ | refine YN ?_ ?_)))
    any_goals (repeat (first | exact AnyR.nil | refine AnyR.skip rfl ?_))
    all_goals
      refine XE.leafW (fun w9 S9 => ?_)
      apply Exists.intro (w9, _, q2)
      refine ⟨?pre, ?sub, ?sys⟩
      case sub => repeat (first | exact Sub.nil | refine Sub.cons rfl ?_)
      case sys => exact S9.rebase ZZSM
      case pre => exact ⟨Below.trans (by assumption) S9.toBelow, Fam.forget (Fam.add (Fam.atEnd (by assumption) S9 ZZHL) (fun k hk => by left; simp only [List.mem_cons, List.not_mem_nil, or_false] at hk; simp only [List.map_cons, List.map_nil, List.mem_append, List.mem_cons, List.not_mem_nil, or_false]; omega)) (fun x hx => by simp only [List.mem_cons, List.not_mem_nil, or_false] at hx; subst hx; simp), fun k hk => S9.keyLt k (by simp only [List.map_cons, List.map_nil, List.mem_cons, List.not_mem_nil, or_false] at hk ⊢; omega)⟩
  rintro ⟨W1, g15, q1⟩ ⟨hB1, hF1, hk1⟩
  simp only at hB1 hF1 hk1
  dsimp only [List.cons_append, List.nil_append]
  refine XC.hint 15 2 ?_
  repeat (first | (refine M0 ?_; first | refine SL ?_ | refine SB fun _ _ => ?_) | (refine M1 ?_; refine SC ?_) | (refine M2 ?_; refine SE ?_))
  refine XC.cond _ rfl (fun h1 => ?_) (fun h1 => ?_)
  · repeat (first | (refine M0 ?_; first | refine SL ?_ | refine SB fun _ _ => ?_) | (refine M1 ?_; refine SC ?_) | (refine M2 ?_; refine SE ?_))
    have hE3 : t.doE s i before on = 173 := by rw [hE, if_pos (by simpa using h1)]
    refine XE.retg tok Tryz.results54 rfl (by simp only [and_self, and_true]) (fun w' S => ?_)
    rw [hE3, hD (by rw [hE3]; decide)]
    exact ⟨_, _, rfl, ⟨⟨none, 0, 0⟩, rfl, rfl⟩, fun x hx => by rw [List.mem_singleton.1 hx]; exact IntsAt.nil, hB1.trans S.toBelow⟩
  have hs0 : stepE t.b s tk = 0 := by simpa using h1
  rw [if_neg (by simpa using hs0)] at hE
  have hso : StaOk t.b (outS t.b s tk) := by
    have := stepS_ok ho.ok hs hs0
    rw [← outS_0 hs0] at this
    exact this
  have hhead := fun {L : Lo} (w5 : World) (S5 : Sys w.heap.size W1 L w5) => head_any (i := t.outer.length) (x := (outS t.b s tk).vol) (hp.below (hB1.trans S5.toBelow)).p (hp.below (hB1.trans S5.toBelow)).t ho.ok hso.vol
  have hO : outI t t.outer.length = 0 := by unfold outI; rw [if_neg (Nat.lt_irrefl _)]
  rw [hO] at hhead
  have hR := ho.ok.rowsOk
  have hnb := num_bd hR hso.vol
  have hdb := parts_bd hR hso.vol
  have hdp := den_pos hR (outS t.b s tk).vol
  obtain ⟨y, hy⟩ : ∃ y, y = (outS t.b s tk).vol := ⟨_, rfl⟩
  obtain ⟨n, hn⟩ : ∃ n, n = num t.b (outS t.b s tk).vol := ⟨_, rfl⟩
  obtain ⟨d, hd⟩ : ∃ d, d = den t.b (outS t.b s tk).vol := ⟨_, rfl⟩
  rw [← hn, ← hd] at hhead hE
  rw [← hn] at hnb
  rw [← hd] at hdb hdp
  rw [← hy] at hhead
  have hl := ho.low
  have hh := ho.high
  have hrow0 := (ho.ok.level 0 (by have := ho.ok.n2; omega)).1
  have hm1 := mul_bd (X := 20000) (Y := 1000000000) (x := t.low) (y := d) (by omega) (by omega)
  have hm2 := mul_bd (X := 20000) (Y := 1000000000) (x := t.high) (y := d) (by omega) (by omega)
  have c7' := (below_cell hB1 (ad := ⟨g, 7, none⟩) hlg).trans c7
  have c10' := (below_cell hB1 (ad := ⟨g, 10, none⟩) hlg).trans c10
  have c11' := (below_cell hB1 (ad := ⟨g, 11, none⟩) hlg).trans c11
  have c16' := (below_cell hB1 (ad := ⟨g, 16, none⟩) hlg).trans c16
  simp only [headC] at hhead
  simp only [staC]
  rw [← hy]
  repeat (first | (refine M0 ?_; first | refine SL ?_ | refine SB fun _ _ => ?_) | (refine M1 ?_; refine SC ?_) | (refine M2 ?_; refine SE ?_))
  refine XC.cutln [0, 2, 6, 10, 12, 13, 15] rfl (fun g18 : Nat => [(18, .pointer (some ⟨g18, 0, none⟩))]) (fun g18 => [(g18, cel 124 [.int .i64 n, .int .i64 d, .int .i64 0])]) (fun g18 => W1.heap.size ≤ g18) ?_ (fun g18 hg18 => ?_)
  · refine XC.drawR _ [0, 1, 2, 3, 4, 5, 6, 7, 8] [9, 10, 11] mixed (fun _ h => h) rfl (by kernel_rfl) ?_
    repeat (any_goals (first | (refine M0 ?_; first | refine SL ?_ | refine SB fun _ _ => ?_ | refine Y4 (Ev.load_old tok rfl rfl hlg c7') ?_ | refine Y4 (Ev.call (f := 46) (ck rfl) rfl (fun w5 S5 => hhead w5 S5)) ?_) | (refine M1 ?_; refine SC ?_) | (refine M2 ?_; refine SE ?_) | (refine M3 ?_; first | refine SG ?_ | refine SF ?_ | refine YF (Ev.load_old tok rfl rfl hlg c7') ?_ | refine YF (Ev.call (f := 46) (ck rfl) rfl (fun w5 S5 => hhead w5 S5)) ?_) | (refine M4 ?_; refine SR ?_) | (refine M5 ?_; first | exact M7 | refine YM ?_ | refine YN ?_ ?_)))
    any_goals (repeat (first | exact AnyR.nil | refine AnyR.skip rfl ?_))
    all_goals exact XE.leaf _ ZZSUB (fun _ S' => by first | exact S' | exact S'.perm (by repeat (first | exact List.Perm.refl _ | refine perm1 ?_ | refine List.Perm.cons _ ?_ | refine perm2 ?_)) | exact (S'.pop (by assumption)) | exact (S'.pop2 (by assumption))) (by assumption)
  dsimp only [List.cons_append, List.nil_append]
  refine XC.hint 18 3 (XC.hint 15 2 ?_)
  repeat (first | (refine M0 ?_; first | refine SL ?_ | refine SB fun _ _ => ?_ | refine Y4 (Ev.load_old tok rfl rfl hlg c10') ?_) | (refine M1 ?_; first | refine SC ?_ | refine SD ?_) | (refine M2 ?_; refine SE ?_) | (refine M3 ?_; first | refine SG ?_ | refine SF ?_ | refine YF (Ev.load_old tok rfl rfl hlg c10') ?_) | (refine M4 ?_; refine SR ?_) | (refine M5 ?_; first | exact M7 | refine YM ?_ | refine YN ?_ ?_))
  refine XC.cond _ rfl (fun h2 => ?_) (fun h2 => ?_)
  · repeat (first | (refine M0 ?_; first | refine SL ?_ | refine SB fun _ _ => ?_) | (refine M1 ?_; refine SC ?_) | (refine M2 ?_; refine SE ?_))
    have hE4 : t.doE s i before on = 171 := by rw [hE, if_pos (by simpa using h2)]
    refine XE.retg tok Tryz.results54 rfl (by simp only [and_self, and_true]) (fun w' S => ?_)
    rw [hE4, hD (by rw [hE4]; decide)]
    exact ⟨_, _, rfl, ⟨⟨none, 0, 0⟩, rfl, rfl⟩, fun x hx => by rw [List.mem_singleton.1 hx]; exact IntsAt.nil, hB1.trans S.toBelow⟩
  rw [if_neg (by simpa using h2)] at hE
  repeat (first | (refine M0 ?_; first | refine SL ?_ | refine SB fun _ _ => ?_ | refine Y4 (Ev.load_old tok rfl rfl hlg c11') ?_) | (refine M1 ?_; first | refine SC ?_ | refine SD ?_) | (refine M2 ?_; refine SE ?_) | (refine M3 ?_; first | refine SG ?_ | refine SF ?_ | refine YF (Ev.load_old tok rfl rfl hlg c11') ?_) | (refine M4 ?_; refine SR ?_) | (refine M5 ?_; first | exact M7 | refine YM ?_ | refine YN ?_ ?_))
  refine XC.cond _ rfl (fun h3 => ?_) (fun h3 => ?_)
  · repeat (first | (refine M0 ?_; first | refine SL ?_ | refine SB fun _ _ => ?_) | (refine M1 ?_; refine SC ?_) | (refine M2 ?_; refine SE ?_))
    have hE5 : t.doE s i before on = 172 := by rw [hE, if_pos (by simpa using h3)]
    refine XE.retg tok Tryz.results54 rfl (by simp only [and_self, and_true]) (fun w' S => ?_)
    rw [hE5, hD (by rw [hE5]; decide)]
    exact ⟨_, _, rfl, ⟨⟨none, 0, 0⟩, rfl, rfl⟩, fun x hx => by rw [List.mem_singleton.1 hx]; exact IntsAt.nil, hB1.trans S.toBelow⟩
  rw [if_neg (by simpa using h3)] at hE
  repeat (first | (refine M0 ?_; first | refine SL ?_ | refine SB fun _ _ => ?_) | (refine M1 ?_; refine SC ?_) | (refine M2 ?_; refine SE ?_))
  obtain ⟨hso', _, _, pr2, hu2, _, hDD⟩ := hDs hE
  have hpr : pr2 = (f, e) := by rw [hu] at hu2; exact (Option.some.inj hu2).symm
  subst hpr
  rw [← htk] at hDD
  have hpi := ho.pri_ i hi
  have hmm := mul_bd (X := 20000000000) (Y := 10000) (x := e) (y := at0 t.prices i) (by omega) (by omega)
  have hprice := fun {L : Lo} (w5 : World) (S5 : Sys w.heap.size W1 L w5) => begin1_any (gt := gt) (v := _) (t := t) (i := i) (e := e) (w := w5) (hp.below (hB1.trans S5.toBelow)).p.ht ((hp.below (hB1.trans S5.toBelow)).t.prices) (by omega) (by unfold i64in; omega)
  have hv15 : ∀ (k : Nat) (u : Value), ([.int .i64 y, .slice q1.A q1.n q1.c] : List Value)[k]? = some u → ([.int .i64 y, .slice q1.A q1.n q1.c] : List Value)[0 + 0 + k]? = some u := fun k u h => by rw [show 0 + 0 + k = k by omega]; exact h
  refine XC.drawRS _ [(g18, _), (g15, _), (g6, _)] [0, 1, 2, 3, 4, 5, 6, 7, 8] [9, 10, 11, 12] mixed (fun _ h => Sys.anchor2 (by assumption) h ZZSM) rfl (by kernel_rfl) ?_
  repeat (any_goals (first | (refine M0 ?_; first | refine SL ?_ | refine SB fun _ _ => ?_ | refine Y4 (Ev.load_at_agg tok 1 (g := g15) (o := 0) (j := 0) rfl rfl rfl rfl hv15) ?_ | refine Y4 (Ev.load_old tok rfl rfl hlg c16) ?_ | (refine XL.at_callv 107 ?_; refine XL.step _ (Ev.callv (f := 52) (fst := []) (cap := [.pointer (some ⟨gt, 0, none⟩)]) (ck rfl) rfl rfl (fun w5 S5 => hprice w5 S5)) rfl ?_)) | (refine M1 ?_; refine SC ?_) | (refine M2 ?_; refine SE ?_) | (refine M3 ?_; first | refine SG ?_ | refine SF ?_ | refine YF (Ev.load_at_agg tok 1 (g := g15) (o := 0) (j := 0) rfl rfl rfl rfl hv15) ?_ | refine YF (Ev.load_old tok rfl rfl hlg c16) ?_) | (refine M4 ?_; refine SR ?_) | (refine M5 ?_; first | exact M7 | refine YM ?_ | refine YN ?_ ?_)))
  any_goals (repeat (first | exact AnyR.nil | refine AnyR.skip rfl ?_))
  all_goals
    refine XE.retg tok Tryz.results54 rfl (by simp only [and_self, and_true]) (fun w' S => ?_)
    rw [hE, hDD]
    subst hy
    exact ⟨_, _, rfl, ⟨q1, rfl, rfl⟩, fun x hx => by rw [List.mem_singleton.1 hx]; exact Fam.get (hF1.sys S ZZHL) (.head _), hB1.trans S.toBelow⟩
end Go.Proofs.YtmckmlmfilmiaaaGreatDoor.X
/-
  Where a plan has come to, as a key; what is known of a key (runoff).
-/
namespace Go.Proofs.YtmckmlmfilmiaaaGreatDoor.Bs
open Go.Proofs.YtmckmlmfilmiaaaGreatDoor.X
/-- the first k of a choice as bits. -/
def obits (l : List Bool) : Nat → Nat
  | 0 => 0
  | k + 1 => if bl l k = true then obits l k ||| 2 ^ k else obits l k
theorem obits_bit (l : List Bool) (j : Nat) : ∀ k, (obits l k).testBit j = (decide (j < k) && bl l j) := by
  intro k
  induction k with
  | zero => simp [obits]
  | succ k ih =>
    unfold obits
    by_cases h : bl l k = true
    · rw [if_pos h, Nat.testBit_or, ih, Nat.testBit_two_pow]
      rcases Nat.lt_trichotomy j k with h1 | h1 | h1
      · simp [h1, show j < k + 1 by omega, show ¬ k = j by omega]
      · subst h1; simp [h]
      · simp [show ¬ j < k by omega, show ¬ j < k + 1 by omega, show ¬ k = j by omega]
    · rw [if_neg h, ih]
      rcases Nat.lt_trichotomy j k with h1 | h1 | h1
      · simp [h1, show j < k + 1 by omega]
      · subst h1; simp at h; simp [h]
      · simp [show ¬ j < k by omega, show ¬ j < k + 1 by omega]
theorem obits_lt (l : List Bool) : ∀ k, obits l k < 2 ^ k := by
  intro k
  induction k with
  | zero => simp [obits]
  | succ k ih =>
    have h1 : (2 : Nat) ^ (k + 1) = 2 ^ k + 2 ^ k := by rw [Nat.pow_succ]; omega
    unfold obits
    split
    · exact Nat.or_lt_two_pow (by omega) (by have := Nat.two_pow_pos k; omega)
    · omega
theorem bl_ext {a b : List Bool} (hl : a.length = b.length) (h : ∀ j, j < a.length → bl a j = bl b j) : a = b := by
  refine List.ext_getElem hl fun j h1 h2 => ?_
  have := h j h1
  unfold bl at this
  rw [List.getElem?_eq_getElem h1, List.getElem?_eq_getElem h2] at this
  exact this
theorem obits_inj {a b : List Bool} (hl : a.length = b.length) (h : obits a a.length = obits b b.length) : a = b := by
  refine bl_ext hl fun j hj => ?_
  have h1 := obits_bit a j a.length
  have h2 := obits_bit b j b.length
  rw [h, h2] at h1
  simpa [hj, hl ▸ hj] using h1.symm
/-- a list of numbers, filled up to six. -/
def pad6 (l : List Int) : List Int := [at0 l 0, at0 l 1, at0 l 2, at0 l 3, at0 l 4, at0 l 5]
theorem pad6_inj {a b : List Int} (hl : a.length = b.length) (h6 : a.length ≤ 6) (h : pad6 a = pad6 b) : a = b := by
  refine List.ext_getElem hl fun j h1 h2 => ?_
  simp only [pad6, List.cons.injEq, and_true] at h
  have h3 : at0 a j = at0 b j := by
    obtain ⟨a0, a1, a2, a3, a4, a5⟩ := h
    have : j = 0 ∨ j = 1 ∨ j = 2 ∨ j = 3 ∨ j = 4 ∨ j = 5 := by omega
    rcases this with rfl | rfl | rfl | rfl | rfl | rfl <;> assumption
  unfold at0 at h3
  rw [List.getElem?_eq_getElem h1, List.getElem?_eq_getElem h2] at h3
  exact h3
def fdC (x : Fd) : Int := (x.map (·.1)).getD 0
def fdP (x : Fd) : Plan := (x.map (·.2)).getD []
end Go.Proofs.YtmckmlmfilmiaaaGreatDoor.Bs
namespace Go.Proofs.YtmckmlmfilmiaaaGreatDoor.X
open Go Go.RowKit Go.Proofs.YtmckmlmfilmiaaaGreatDoor.Bs
set_option linter.unusedVariables false
/-! ### the key -/
def placeC (i : Nat) (s : Sta) (b : List Bool) : List Value := [.int .i64 (i : Nat), .int .i64 s.vol, .int .i64 (obits b b.length : Nat), .int .i64 (at0 s.fil 0), .int .i64 (at0 s.fil 1), .int .i64 (at0 s.fil 2), .int .i64 (at0 s.fil 3), .int .i64 (at0 s.fil 4), .int .i64 (at0 s.fil 5)]
theorem placeC_inj {i i' : Nat} {s s' : Sta} {b b' : List Bool} (hb : b.length = b'.length) (hf : s.fil.length = s'.fil.length) (h6 : s.fil.length ≤ 6) (h : Value.agg ⟨placeC i s b⟩ = Value.agg ⟨placeC i' s' b'⟩) : i = i' ∧ s = s' ∧ b = b' := by
  simp only [placeC, Value.agg.injEq, Array.mk.injEq, List.cons.injEq, Value.int.injEq, true_and, and_true] at h
  obtain ⟨h1, h2, h3, h4⟩ := h
  have e3 := obits_inj hb (by omega)
  have e2 := pad6_inj hf h6 (by simp only [pad6, List.cons.injEq, and_true]; exact h4)
  obtain ⟨v, f⟩ := s
  obtain ⟨v', f'⟩ := s'
  simp only at h2 e2
  subst h2 e2
  exact ⟨by omega, rfl, e3⟩
theorem place_law : WideMaps.KeyLaw Tryz.prog 145 := deep_law (m := 4) (by decide) (by kernel_rfl) (by kernel_rfl) (by kernel_rfl)
theorem place_fuel : ∃ d, Tryz.prog.types.size + 1 = d + 3 := by
  have h : Nat.ble 2 Tryz.prog.types.size = true := by kernel_rfl
  have := Nat.le_of_ble_eq_true h
  exact ⟨Tryz.prog.types.size - 2, by omega⟩
def intT (P : Program) (t : TypeId) : Bool := match P.underlying t with
  | some (.int .i64) => P.cellsOf t == 1
  | _ => false
theorem keyLits_int {P : Program} {t : TypeId} (ht : intT P t = true) (d : Nat) {n : Int} (h : i64in n) : P.keyLits (d + 1) t [.int .i64 n] = some [.int .i64 n] := by
  unfold intT at ht
  split at ht
  · rename_i hu
    have h1 : (Lit.int .i64 n).wf = true := by
      have e1 : IntKind.i64.min = -9223372036854775808 := rfl
      have e2 : IntKind.i64.max = 9223372036854775807 := rfl
      unfold i64in at h
      simp only [Lit.wf, e1, e2, Bool.and_eq_true, decide_eq_true_eq]
      omega
    simp [Program.keyLits, hu, h1]
  · cases ht
theorem intT_1 {P : Program} {t : TypeId} (ht : intT P t = true) : P.cellsOf t = 1 := by
  unfold intT at ht
  split at ht
  · simpa using ht
  · cases ht
theorem keyLits_arr {P : Program} {t e : TypeId} {n d : Nat} {cs : List Value} (hu : P.underlying t = some (.array n e)) : P.keyLits (d + 1) t cs = if cs.length = P.cellsOf t then ((List.range n).mapM fun i => P.keyLits d e ((cs.drop (i * P.cellsOf e)).take (P.cellsOf e))).map List.flatten else none := by
  rw [Program.keyLits]
  simp only [hu]
theorem keyLits_str {P : Program} {t : TypeId} {fs : Array Field} {d : Nat} {cs : List Value} (hu : P.underlying t = some (.struct fs)) : P.keyLits (d + 1) t cs = if cs.length = P.cellsOf t ∧ fs.all (·.name != "_") = true then (fs.toList.mapM fun f => P.keyLits d f.type ((cs.drop f.offset).take (P.cellsOf f.type))).map List.flatten else none := by
  conv => lhs; unfold Program.keyLits
  simp only [hu]
def arr6T (P : Program) (t : TypeId) : Bool := match P.underlying t with
  | some (.array 6 e) => intT P e && P.cellsOf t == 6
  | _ => false
theorem keyLits_arr6 {P : Program} {t : TypeId} (ht : arr6T P t = true) (d : Nat) {a b c e f g : Int} (ha : i64in a) (hb : i64in b) (hc : i64in c) (he : i64in e) (hf : i64in f) (hg : i64in g) :
    P.keyLits (d + 2) t [.int .i64 a, .int .i64 b, .int .i64 c, .int .i64 e, .int .i64 f, .int .i64 g] = some [.int .i64 a, .int .i64 b, .int .i64 c, .int .i64 e, .int .i64 f, .int .i64 g] := by
  unfold arr6T at ht
  split at ht
  · rename_i el hu
    simp only [Bool.and_eq_true, beq_iff_eq] at ht
    have h1 := intT_1 ht.1
    rw [keyLits_arr hu]
    simp [ht.2, h1, List.range, List.range.loop, keyLits_int ht.1 d ha, keyLits_int ht.1 d hb, keyLits_int ht.1 d hc, keyLits_int ht.1 d he, keyLits_int ht.1 d hf, keyLits_int ht.1 d hg]
  · cases ht
def placeT (P : Program) (t : TypeId) : Bool := match P.underlying t with
  | some (.struct ⟨[a, b, c, d]⟩) => intT P a.type && (intT P b.type && (intT P c.type && (arr6T P d.type && (a.offset == 0 && (b.offset == 1 && (c.offset == 2 && (d.offset == 3 && (a.name != "_" && (b.name != "_" && (c.name != "_" && (d.name != "_" && (P.cellsOf d.type == 6 && (P.cellsOf t == 9 && P.keyType t)))))))))))))
  | _ => false
theorem keyOf_place {P : Program} {t : TypeId} (ht : placeT P t = true) {D : Nat} (hD : P.types.size + 1 = D + 3) {x y z a b c e f g : Int} (hx : i64in x) (hy : i64in y) (hz : i64in z) (ha : i64in a) (hb : i64in b) (hc : i64in c) (he : i64in e) (hf : i64in f) (hg : i64in g) :
    ∃ l, keyOf P t (.agg ⟨[.int .i64 x, .int .i64 y, .int .i64 z, .int .i64 a, .int .i64 b, .int .i64 c, .int .i64 e, .int .i64 f, .int .i64 g]⟩) = some l := by
  unfold placeT at ht
  split at ht
  · rename_i f1 f2 f3 f4 hu
    simp only [Bool.and_eq_true, beq_iff_eq, bne_iff_ne, ne_eq] at ht
    obtain ⟨t1, t2, t3, t4, o1, o2, o3, o4, n1, n2, n3, n4, c4, c9, hk⟩ := ht
    have h1 : P.keyLits (P.types.size + 1) t [.int .i64 x, .int .i64 y, .int .i64 z, .int .i64 a, .int .i64 b, .int .i64 c, .int .i64 e, .int .i64 f, .int .i64 g] = some [.int .i64 x, .int .i64 y, .int .i64 z, .int .i64 a, .int .i64 b, .int .i64 c, .int .i64 e, .int .i64 f, .int .i64 g] := by
      rw [hD]
      rw [keyLits_str hu]
      simp [c9, n1, n2, n3, n4, o1, o2, o3, o4, c4, intT_1 t1, intT_1 t2, intT_1 t3, keyLits_int t1 (D + 1) hx, keyLits_int t2 (D + 1) hy, keyLits_int t3 (D + 1) hz, keyLits_arr6 t4 D ha hb hc he hf hg]
    refine ⟨.string (keyBytes [.int .i64 x, .int .i64 y, .int .i64 z, .int .i64 a, .int .i64 b, .int .i64 c, .int .i64 e, .int .i64 f, .int .i64 g]), ?_⟩
    unfold keyOf
    simp only [hu]
    rw [if_pos (by simp [hk, Value.formed, hu, c9])]
    simp only [Value.cells]
    rw [h1]
    rfl
  · cases ht
theorem place_t : placeT Tryz.prog 145 = true := by kernel_rfl
/-- every place can be looked for. -/
theorem place_key {i : Nat} {s : Sta} {b : List Bool} (hi : i ≤ 100) (hv : i64in s.vol) (hb : b.length ≤ 4) (hf : ∀ j, i64in (at0 s.fil j)) : ∃ l, keyOf Tryz.prog 145 (.agg ⟨placeC i s b⟩) = some l := by
  obtain ⟨d, hd⟩ := place_fuel
  have h1 := obits_lt b b.length
  have h2 : 2 ^ b.length ≤ 16 := Nat.pow_le_pow_right (n := 2) (by decide) hb
  exact keyOf_place place_t hd (by unfold i64in; omega) hv (by unfold i64in; omega) (hf 0) (hf 1) (hf 2) (hf 3) (hf 4) (hf 5)
end Go.Proofs.YtmckmlmfilmiaaaGreatDoor.X
/-
  Plans and what is known of keys, in memory; what a range over the choices needs (runoff).
-/
namespace Go.Proofs.YtmckmlmfilmiaaaGreatDoor.X
open Go Go.RowKit Go.Proofs.YtmckmlmfilmiaaaGreatDoor.Bs
set_option linter.unusedVariables false
section
variable {P : Program} {T : TT} {N : Nat} {B : Nat} {w0 : World} {ds : List Deferred} {F : Fr} {L : Lo}
/-- one loop variable. -/
theorem Fits.params1 {a : Act} {t : Nat} {v : Value} (h : Fits N ds F a) (ht : Nat.blt t N = true) :
    Fits N [] ((t, v) :: F) { tmps := ((#[t] : Array Tmp).zip #[v]).foldl (fun s (p, y) => s.setIfInBounds p y) a.tmps, defers := [] } := by
  have h1 := h.put (v := v) ht
  have e : ((#[t] : Array Tmp).zip #[v]).foldl (fun s (p, y) => s.setIfInBounds p y) a.tmps = (a.put (some t) v).tmps := by
    simp [Act.put]
  rw [e]
  exact ⟨h1.size, rfl, h1.get⟩
end
/-! ### plans -/
def plnK : Kind (SV × List Bool) := ⟨31, 1, fun e => [svV e.1], fun e => [hList boolK e.1 e.2], fun _ => rfl⟩
def PlanAt (w : World) (ok : Nat → Prop) (q : SV) (p : Plan) : Prop := ∃ es : List (SV × List Bool), ListAt plnK w ok q es ∧ es.map (·.2) = p
theorem PlanAt.keep {w w' : World} {ok : Nat → Prop} {q : SV} {p : Plan} (h : PlanAt w ok q p) (hk : ∀ k, ok k → w'.heap[k]? = w.heap[k]?) : PlanAt w' ok q p := by
  obtain ⟨es, h1, h2⟩ := h
  exact ⟨es, h1.keep hk, h2⟩
theorem PlanAt.mono {w : World} {ok ok' : Nat → Prop} {q : SV} {p : Plan} (h : PlanAt w ok q p) (hk : ∀ k, ok k → ok' k) : PlanAt w ok' q p := by
  obtain ⟨es, h1, h2⟩ := h
  exact ⟨es, h1.mono hk, h2⟩
theorem PlanAt.nil {w : World} {ok : Nat → Prop} : PlanAt w ok ⟨none, 0, 0⟩ [] := ⟨[], ListAt.nil, rfl⟩
def hPlan (q : SV) (p : Plan) : Held := ⟨fun w ok => PlanAt w ok q p, PlanAt.keep, PlanAt.mono⟩
def tailC (q : SV) (x : Bs.Fd) : List Value := [.bool x.isSome, .int .i64 (fdC x), .slice q.A q.n q.c]
def tailV (q : SV) (x : Bs.Fd) : Value := .agg ⟨tailC q x⟩
/-! ### what is known -/
def MemE (t : RTk) (w : World) (ok : Nat → Prop) (e : Value × Value) : Prop := ∃ (i : Nat) (s : Sta) (b : List Bool) (q : SV), e.1 = .agg ⟨placeC i s b⟩ ∧ e.2 = tailV q (t.rest (t.n - i) s b) ∧ i < t.n ∧ StaOk t.b s ∧ b.length = t.m ∧ PlanAt w ok q (fdP (t.rest (t.n - i) s b))
def hMem (t : RTk) (kvs : List (Value × Value)) : Held := ⟨fun w ok => ∀ e, e ∈ kvs → MemE t w ok e,
  fun h hk e he => by obtain ⟨i, s, b, q, h1, h2, h3, h4, h5, h6⟩ := h e he; exact ⟨i, s, b, q, h1, h2, h3, h4, h5, h6.keep hk⟩,
  fun h hk e he => by obtain ⟨i, s, b, q, h1, h2, h3, h4, h5, h6⟩ := h e he; exact ⟨i, s, b, q, h1, h2, h3, h4, h5, h6.mono hk⟩⟩
theorem hMem_nil {t : RTk} {w : World} {ok : Nat → Prop} : (hMem t []).p w ok := fun e he => by cases he
theorem hMem_find {t : RTk} {kvs : List (Value × Value)} {w : World} {ok : Nat → Prop} {i : Nat} {s : Sta} {b : List Bool} {v : Value} (h : (hMem t kvs).p w ok) (hs : StaOk t.b s) (h6 : t.b.pols.length ≤ 6) (hb : b.length = t.m) (hv : (Value.agg ⟨placeC i s b⟩, v) ∈ kvs) :
    ∃ q, v = tailV q (t.rest (t.n - i) s b) ∧ PlanAt w ok q (fdP (t.rest (t.n - i) s b)) := by
  obtain ⟨i', s', b', q, h1, h2, h3, h4, h5, h7⟩ := h _ hv
  simp only at h1 h2
  obtain ⟨rfl, rfl, rfl⟩ := placeC_inj (by rw [hb, h5]) (by rw [hs.len, h4.len]) (by rw [hs.len]; exact h6) h1
  exact ⟨q, h2, h7⟩
theorem hMem_push {t : RTk} {kvs : List (Value × Value)} {w : World} {ok : Nat → Prop} {i : Nat} {s : Sta} {b : List Bool} {q : SV} (h : (hMem t kvs).p w ok) (hs : StaOk t.b s) (hb : b.length = t.m) (hi : i < t.n) (hp : PlanAt w ok q (fdP (t.rest (t.n - i) s b))) :
    (hMem t (kvs ++ [(.agg ⟨placeC i s b⟩, tailV q (t.rest (t.n - i) s b))])).p w ok := fun e he => by
  rcases List.mem_append.1 he with h1 | h1
  · exact h e h1
  · rw [List.mem_singleton.1 h1]
    exact ⟨i, s, b, q, rfl, rfl, hi, hs, hb, hp⟩
/-- new keys are of ticks from i on. -/
def NewK (i : Nat) (new : List (Value × Value)) : Prop := ∀ e, e ∈ new → ∃ (j : Nat) (s : Sta) (b : List Bool), e.1 = .agg ⟨placeC j s b⟩ ∧ i ≤ j
theorem NewK.ne {i j : Nat} {new : List (Value × Value)} (h : NewK i new) (hj : j < i) {s : Sta} {b : List Bool} : ∀ e, e ∈ new → e.1 ≠ .agg ⟨placeC j s b⟩ := fun e he h1 => by
  obtain ⟨k, s', b', h2, h3⟩ := h e he
  rw [h2] at h1
  simp only [placeC, Value.agg.injEq, Array.mk.injEq, List.cons.injEq, Value.int.injEq, true_and, and_true] at h1
  have := h1.1
  omega
end Go.Proofs.YtmckmlmfilmiaaaGreatDoor.X
/-
  The example's task in plain words (runoff).
-/
namespace Go.Proofs.YtmckmlmfilmiaaaGreatDoor.Bs
open Go.Proofs.YtmckmlmfilmiaaaGreatDoor.X
theorem rx_all3 {P : Nat → Prop} (h0 : P 0) (h1 : P 1) (h2 : P 2) : ∀ j, j < 3 → P j := by
  intro j hj
  match j, hj with
  | 0, _ => exact h0
  | 1, _ => exact h1
  | 2, _ => exact h2
theorem rx_all2 {P : Nat → Prop} (h0 : P 0) (h1 : P 1) : ∀ j, j < 2 → P j := by
  intro j hj
  match j, hj with
  | 0, _ => exact h0
  | 1, _ => exact h1
def rxB : Bas := ⟨[⟨-1000, 0⟩, ⟨0, 1000000⟩, ⟨2000, 5000000⟩], 100, 3000, 500, []⟩
def rxS : Sta := ⟨1000000, []⟩
def rxT : RTk := ⟨rxB, rxS, [-500, 500], [60000, 60000], [1, 2], -200, 50, [⟨⟨#[108, 111, 99, 107]⟩, 100, 10⟩], [⟨⟨#[109, 105, 108, 108]⟩, 40000, 5, 1, 7⟩], [false, false]⟩
theorem rx_chk : chkE rxB = 0 := by
  have h1 : firstN (rowErr rxB) rxB.rows.length = none := firstN_none (rx_all3 (by kernel_rfl) (by kernel_rfl) (by kernel_rfl))
  have h2 : firstN (polErr rxB) rxB.pols.length = none := firstN_none (fun j hj => absurd hj (by show ¬ j < 0; omega))
  have h3 : wide rxB (great rxB rxB.pols.length) := fun i hi => by
    have : ∀ j, j < 2 → wideAt rxB (great rxB rxB.pols.length) j := rx_all2 (of_decide_eq_true (by kernel_rfl)) (of_decide_eq_true (by kernel_rfl))
    exact this i (by have : i + 1 < 3 := hi; omega)
  unfold chkE chk
  rw [if_neg (by decide), h1]
  simp only
  rw [if_neg (by decide), if_neg (by decide), h2]
  simp only
  rw [if_pos h3]
theorem rx_sta : staErr rxB rxS = 0 := staErr_ok rx_chk ⟨rfl, ⟨by decide, by decide⟩, fun i hi => absurd hi (by show ¬ i < 0; omega)⟩
theorem rx_dev : ∀ j, j < 2 → devErr rxT.devs j = 0 := by
  refine rx_all2 ?_ ?_
  · unfold devErr
    rw [if_neg (by rw [show nameB (rxT.devs[0]?.getD d0).name = true from by kernel_rfl]; decide), if_neg (by rintro ⟨k, hk, _⟩; omega), if_neg (by rw [show (rxT.devs[0]?.getD d0).wild = false from by kernel_rfl]; decide)]
  · unfold devErr
    rw [if_neg (by rw [show nameB (rxT.devs[1]?.getD d0).name = true from by kernel_rfl]; decide), if_neg, if_neg (by rw [show (rxT.devs[1]?.getD d0).wild = false from by kernel_rfl]; decide)]
    rintro ⟨k, hk, h⟩
    obtain rfl : k = 0 := by omega
    exact absurd h (by decide)
theorem rx_e : rtE rxT = 0 := by
  unfold rtE chkT
  rw [if_neg (by rw [show chkE rxT.b = 0 from rx_chk]; decide), if_neg (by rw [show staErr rxT.b rxT.s = 0 from rx_sta]; decide), if_neg (by decide), if_neg (by decide)]
  rw [show firstN (tickErr rxT) rxT.outer.length = none from firstN_none (rx_all2 (by kernel_rfl) (by kernel_rfl))]
  simp only
  rw [if_neg (by decide), if_neg (by decide)]
  rw [show firstN (devErr rxT.devs) rxT.devs.length = none from firstN_none rx_dev]
  simp only
  rw [if_neg (by decide)]
theorem rx_rest : rxT.rest 2 rxS [false, false] = some (12, [[false, true], [false, false]]) := by kernel_rfl
theorem rx_flw : (rxT.flw 0 rxS [false, false] [[false, false], [false, false]]).2 = 172 := by kernel_rfl
end Go.Proofs.YtmckmlmfilmiaaaGreatDoor.Bs
/-
  The walks of the choices: the iterator (runoff).
-/
namespace Go.Proofs.YtmckmlmfilmiaaaGreatDoor.X
open Go Go.RowKit Go.Proofs.YtmckmlmfilmiaaaGreatDoor.Bs
set_option linter.unusedVariables false
theorem choices_any {g : Nat} {w : World} :
    Calls Tryz.prog 28 #[.pointer (some ⟨g, 0, none⟩)] w fun e w' => ∃ v, e = .returned v ∧ ∃ gp, v = .func (.func 45) #[] #[.pointer (some ⟨gp, 0, none⟩)] ∧ Sys w.heap.size w [(gp, cel 77 [.pointer (some ⟨g, 0, none⟩)])] w' := by
  refine enter Tryz.func28 rfl Tryz.ntmps28 rfl ?_; simp only [frame, Nat.zero_add, Nat.reduceAdd]
  repeat (first | (refine M0 ?_; first | refine SL ?_ | refine SB fun _ _ => ?_ | refine Y4 (Ev.makeFunc rfl rfl) ?_) | (refine M1 ?_; first | refine SC ?_ | refine SD ?_) | (refine M2 ?_; refine SE ?_) | (refine M3 ?_; first | refine SG ?_ | refine SF ?_ | refine YF (Ev.makeFunc rfl rfl) ?_) | (refine M4 ?_; refine SR ?_) | (refine M5 ?_; first | exact M7 | refine YM ?_ | refine YN ?_ ?_))
  refine XE.retg tok Tryz.results28 rfl (by simp only [and_self, and_true]) (fun w' S => ?_)
  exact ⟨_, rfl, _, rfl, S⟩
theorem bools_el : elemOk Tryz.prog 31 4 1 1 = true := by kernel_rfl
theorem bools_zero : (Tryz.prog.info? 4).bind (·.zero) = some (.bool false) := by kernel_rfl
/-- the first k of choice i are set. -/
def prt (m i k : Nat) : List Bool := (List.range m).map fun j => decide (j < k) && i.testBit (m - 1 - j)
theorem prt_len (m i k : Nat) : (prt m i k).length = m := by simp [prt]
theorem prt_0 (m i : Nat) : prt m i 0 = List.replicate m false := by
  apply List.ext_getElem (by simp [prt])
  intro j h1 h2
  simp [prt]
theorem prt_m (m i : Nat) : prt m i m = chc m i := by
  apply List.ext_getElem (by simp [prt, chc])
  intro j h1 h2
  have : j < m := by simpa [prt] using h1
  simp [prt, chc, this]
theorem prt_set {m i k : Nat} (hk : k < m) : (bools (prt m i k)).set k (.bool (i.testBit (m - 1 - k))) = bools (prt m i (k + 1)) := by
  apply List.ext_getElem (by simp [bools, prt])
  intro j h1 h2
  have hj : j < m := by simpa [bools, prt] using h2
  rw [List.getElem_set]
  by_cases e : k = j
  · subst e
    simp [bools, prt]
  · have e2 : decide (j < k) = decide (j < k + 1) := by
      rcases Nat.lt_or_gt_of_ne e with h | h
      · simp [show ¬ j < k by omega, show ¬ j < k + 1 by omega]
      · simp [show j < k by omega, show j < k + 1 by omega]
    simp [bools, prt, e, e2]
theorem bit_eq (i n : Nat) : decide ((((i >>> n) % 2 : Nat) : Int) = 1) = i.testBit n := by
  rw [Nat.testBit_eq_decide_div_mod_eq, Nat.shiftRight_eq_div_pow]
  simp only [decide_eq_decide]
  omega
section
variable {P : Program} {N : Nat} {B : Nat} {w0 : World} {ds : List Deferred} {F : Fr} {L : Lo} {pu : Prop} {dst : Option Tmp} {ty : TypeId} {p : String} {af : Array Edge} {gd : Option (Nat × Bool)}
theorem Ev.shrQ {x y : Operand} {t u : TypeId} {j : IntKind} {m n : Nat} {q : Int} (hx : evo F x = some (.int .i64 (m : Nat))) (hy : evo F y = some (.int j q)) (hq : q = (n : Nat)) (hn : n ≤ 64) :
    Ev P N B w0 ds pu F L ⟨dst, .binOp .shr t x y u, ty, p, af, gd⟩ (.int .i64 ((m >>> n : Nat) : Int)) := by
  subst hq
  exact Ev.shrN hx hy hn
end
set_option maxHeartbeats 16000000 in
theorem chs_any {σ : Type} (Lf : σ → Lo) (Wf : σ → World) (J : Nat → σ → Prop) {B l g gp m c : Nat} {A : Option Addr} (s0 : σ) (hm : m ≤ 4) (S0 : Sys B (Wf s0) (Lf s0) (Wf s0)) (h0 : J 0 s0)
    (hgp : (Wf s0).cell? ⟨gp, 0, none⟩ = some (.pointer (some ⟨g, 0, none⟩))) (hg : (Wf s0).cell? ⟨g, 15, none⟩ = some (.slice A m c)) (hlp : gp < (Wf s0).heap.size) (hlg : g < (Wf s0).heap.size) (hfp : ∀ e, e ∈ Lf s0 → e.1 ≠ gp) (hfg : ∀ e, e ∈ Lf s0 → e.1 ≠ g)
    (hy : ∀ i s gn W, i < 2 ^ m → J i s → (Wf s).heap.size ≤ gn → Sys B (Wf s) ((gn, cel 4 (bools (chc m i))) :: Lf s) W → ∀ w1, Sys B W (Lf s) w1 →
      ∃ fn tmps assign body, (Instr.yield l (#[.slice (some ⟨gn, 0, none⟩) m m] : Array Value)).run Tryz.prog w1 = .ok (.round l fn tmps assign body) w1 ∧
        RoundIn Fence.wide 0 Tryz.prog l fn tmps assign body w1 fun e w' => ∃ v, e = .returned v ∧ v = .bool true ∧ ∃ s', J (i + 1) s' ∧ Sys B (Wf s') (Lf s') w') :
    Calls Tryz.prog 45 #[.func (.yield l) #[] #[], .pointer (some ⟨gp, 0, none⟩)] (Wf s0) fun e w' => ∃ v, e = .returned v ∧ ∃ s, J (2 ^ m) s ∧ Sys B (Wf s) (Lf s) w' := by
  have h16 : 2 ^ m ≤ 16 := Nat.pow_le_pow_right (n := 2) (by decide) hm
  obtain ⟨M, hM⟩ : ∃ M, M = 2 ^ m := ⟨_, rfl⟩
  refine enterL Tryz.func45 rfl Tryz.ntmps45 rfl (S0) ?_; simp only [frame, Nat.zero_add, Nat.reduceAdd]
  repeat (first | (refine M0 ?_; first | refine SL ?_ | refine SB fun _ _ => ?_ | refine Y4 (Ev.load_far tok rfl rfl hlp hfp hgp) ?_ | refine Y4 (Ev.load_far tok rfl rfl hlg hfg hg) ?_ | refine Y4 (Ev.shl1 (n := m) rfl (by omega)) ?_) | (refine M1 ?_; first | refine SC ?_ | refine SD ?_) | (refine M2 ?_; refine SE ?_) | (refine M3 ?_; first | refine SG ?_ | refine SF ?_ | refine YF (Ev.load_far tok rfl rfl hlp hfp hgp) ?_ | refine YF (Ev.load_far tok rfl rfl hlg hfg hg) ?_ | refine YF (Ev.shl1 (n := m) rfl (by omega)) ?_) | (refine M4 ?_; refine SR ?_) | (refine M5 ?_; first | exact M7 | refine YM ?_ | refine YN ?_ ?_))
  rw [← hM] at h16 hy ⊢
  refine XC.loopk [0, 3, 13] rfl (fun s : Nat × σ => [(14, .int .i64 (s.1 : Nat))]) (fun s => Lf s.2) (fun s => Wf s.2) (fun s => s.1 ≤ M ∧ J s.1 s.2) (fun s => M - s.1) (0, s0) ⟨Nat.zero_le _, h0⟩ ZZSUB (fun _ h => h) ?_
  rintro ⟨i, s⟩ ⟨hi, hJ⟩
  simp only at hi hJ
  dsimp only [List.cons_append, List.nil_append]
  repeat (first | (refine M0 ?_; first | refine SL ?_ | refine SB fun _ _ => ?_) | (refine M1 ?_; first | refine SC ?_ | refine SD ?_) | (refine M2 ?_; refine SE ?_) | (refine M3 ?_; first | refine SG ?_ | refine SF ?_) | (refine M4 ?_; refine SR ?_) | (refine M5 ?_; first | exact M7 | refine YM ?_ | refine YN ?_ ?_))
  refine XC.cond _ rfl (fun h1 => ?_) (fun h1 => ?_)
  rotate_left
  · have him : i = M := by have := of_decide_eq_false h1; omega
    subst him
    repeat (first | (refine M0 ?_; first | refine SL ?_ | refine SB fun _ _ => ?_) | (refine M1 ?_; first | refine SC ?_ | refine SD ?_) | (refine M2 ?_; refine SE ?_) | (refine M3 ?_; first | refine SG ?_ | refine SF ?_) | (refine M4 ?_; refine SR ?_) | (refine M5 ?_; first | exact M7 | refine YM ?_ | refine YN ?_ ?_))
    refine XE.end0 Tryz.results45 (fun w' S => ?_)
    exact ⟨_, rfl, s, hJ, S⟩
  have him : i < M := by have := of_decide_eq_true h1; omega
  repeat (first | (refine M0 ?_; first | refine SL ?_ | refine SB fun _ _ => ?_ | refine XL.makeBools bools_el bools_zero rfl rfl rfl (by omega) (fun _ _ => ?_)) | (refine M1 ?_; first | refine SC ?_ | refine SD ?_) | (refine M2 ?_; refine SE ?_) | (refine M3 ?_; first | refine SG ?_ | refine SF ?_) | (refine M4 ?_; refine SR ?_) | (refine M5 ?_; first | exact M7 | refine YM ?_ | refine YN ?_ ?_))
  rename_i gn hgn
  rw [← prt_0 m i]
  refine XC.loopk [0, 3, 4, 5, 13, 14, 20] rfl (fun k : Nat => [(21, .int .i64 (k : Nat))]) (fun k => (gn, cel 4 (bools (prt m i k))) :: Lf s) (fun _ => Wf s) (fun k => k ≤ m) (fun k => m - k) 0 (Nat.zero_le _) ZZSUB (fun _ h => h) ?_
  intro k hk
  dsimp only [List.cons_append, List.nil_append]
  repeat (first | (refine M0 ?_; first | refine SL ?_ | refine SB fun _ _ => ?_) | (refine M1 ?_; first | refine SC ?_ | refine SD ?_) | (refine M2 ?_; refine SE ?_) | (refine M3 ?_; first | refine SG ?_ | refine SF ?_) | (refine M4 ?_; refine SR ?_) | (refine M5 ?_; first | exact M7 | refine YM ?_ | refine YN ?_ ?_))
  refine XC.cond _ rfl (fun h2 => ?_) (fun h2 => ?_)
  · have hkm : k < m := by have := of_decide_eq_true h2; omega
    have hq : (m : Int) - 1 - (k : Int) = ((m - 1 - k : Nat) : Int) := by omega
    have hlt : i >>> (m - 1 - k) < 4611686018427387904 := Nat.lt_of_le_of_lt (Nat.shiftRight_le _ _) (by omega)
    repeat (first | (refine M0 ?_; first | refine SL ?_ | refine SB fun _ _ => ?_ | refine Y4 (Ev.shrQ (m := i) (n := m - 1 - k) rfl rfl hq (by omega)) ?_ | refine Y4 (Ev.and1 (m := i >>> (m - 1 - k)) rfl hlt) ?_) | (refine M1 ?_; first | refine SC ?_ | refine SD ?_) | (refine M2 ?_; refine SE ?_) | (refine M3 ?_; first | refine SG ?_ | refine SF ?_ | refine YF (Ev.shrQ (m := i) (n := m - 1 - k) rfl rfl hq (by omega)) ?_ | refine YF (Ev.and1 (m := i >>> (m - 1 - k)) rfl hlt) ?_) | (refine M4 ?_; refine SR ?_) | (refine M5 ?_; first | exact M7 | refine YM ?_ | refine YN ?_ ?_))
    rw [bit_eq]
    refine XL.store_at tok 0 (o := 0) (j := k * 1) rfl rfl rfl rfl rfl (by rw [bools_len, prt_len]; omega) rfl ?_
    rw [Nat.zero_add, Nat.mul_one k, prt_set (i := i) hkm]
    repeat (first | (refine M0 ?_; first | refine SL ?_ | refine SB fun _ _ => ?_) | (refine M1 ?_; first | refine SC ?_ | refine SD ?_) | (refine M2 ?_; refine SE ?_) | (refine M3 ?_; first | refine SG ?_ | refine SF ?_) | (refine M4 ?_; refine SR ?_) | (refine M5 ?_; first | exact M7 | refine YM ?_ | refine YN ?_ ?_))
    exact XE.round (s := k) (k + 1) hkm (by omega) ZZSUB (fun _ h => h)
  have hkm : k = m := by have := of_decide_eq_false h2; omega
  rw [hkm, prt_m]
  repeat (first | (refine M0 ?_; first | refine SL ?_ | refine SB fun _ _ => ?_) | (refine XI.id ?_; first | refine XI.done ?_ | refine XI.one1 rfl ?_) | (refine XR'.id ?_; first | refine XR'.seq ?_ | refine XR'.region ?_ | refine XR'.block ?_ | refine XR'.skip ?_ | refine XR'.ret ?_ | refine XR'.cond_t rfl ?_ | refine XR'.cond_f rfl ?_ | refine XR'.exit ?_) | (refine M1 ?_; first | refine XC.regionI (id := 10) 1 ?_ | refine SC ?_ | refine SD ?_) | (refine M2 ?_; first | refine XE.nextI ?_ | refine XE.nextR ?_ | refine SE ?_))
  refine XI.rebase (L' := Lf s) (List.sublist_cons_self _ _) (fun W3 S3 => ?_)
  refine XI.yield (vs := [.slice (some ⟨gn, 0, none⟩) m m]) rfl rfl rfl (fun _ v w' => v = .bool true ∧ ∃ s', J (i + 1) s' ∧ Sys B (Wf s') (Lf s') w') (fun w4 S4 => ?_) (fun w4 v5 w5 S4 ⟨e5, s', hJ', S5⟩ => ⟨_, _, S5, ?_⟩)
  · exact hy i s gn W3 him hJ hgn S3 w4 S4
  subst e5
  repeat (first | (refine M0 ?_; first | refine SL ?_ | refine SB fun _ _ => ?_) | (refine XI.id ?_; first | refine XI.done ?_ | refine XI.one1 rfl ?_) | (refine XR'.id ?_; first | refine XR'.seq ?_ | refine XR'.region ?_ | refine XR'.block ?_ | refine XR'.skip ?_ | refine XR'.ret ?_ | refine XR'.cond_t rfl ?_ | refine XR'.cond_f rfl ?_ | refine XR'.exit ?_) | (refine M1 ?_; first | refine SC ?_ | refine SD ?_) | (refine M2 ?_; first | refine XE.nextI ?_ | refine XE.nextR ?_ | refine SE ?_))
  exact XE.round (s := (i, s)) (i + 1, s') ⟨him, hJ'⟩ (by simp only; omega) ZZSUB (fun _ h => h)
end Go.Proofs.YtmckmlmfilmiaaaGreatDoor.X
/-
  The walk of place (runoff).
-/
namespace Go.Proofs.YtmckmlmfilmiaaaGreatDoor.X
open Go Go.RowKit Go.Proofs.YtmckmlmfilmiaaaGreatDoor.Bs
set_option linter.unusedVariables false
theorem ints_el6 : elemOk Tryz.prog 26 3 1 8 = true := by kernel_rfl
theorem arr6 : arrB (Tryz.prog.underlying 143) = some (6, 3) := by kernel_rfl
theorem int_sz : (Tryz.prog.info? 3).map (·.size) = some 1 := by kernel_rfl
theorem pad_list {l : List Int} (h : l.length ≤ 6) : (ints l ++ List.replicate (6 - l.length) (.int .i64 0) : List Value) = [.int .i64 (at0 l 0), .int .i64 (at0 l 1), .int .i64 (at0 l 2), .int .i64 (at0 l 3), .int .i64 (at0 l 4), .int .i64 (at0 l 5)] := by
  match l, h with
  | [], _ => rfl
  | [_], _ => rfl
  | [_, _], _ => rfl
  | [_, _, _], _ => rfl
  | [_, _, _, _], _ => rfl
  | [_, _, _, _, _], _ => rfl
  | [_, _, _, _, _, _], _ => rfl
theorem obits_on {l : List Bool} {k : Nat} (h : bl l k = true) : obits l (k + 1) = obits l k ||| 2 ^ k := by
  rw [obits, if_pos h]
theorem obits_off {l : List Bool} {k : Nat} (h : bl l k = false) : obits l (k + 1) = obits l k := by
  rw [obits, if_neg (by simp [h])]
set_option maxHeartbeats 8000000 in
theorem place_any {g i : Nat} {sq p : SV} {s : Sta} {before : List Bool} {w : World} (hq : IntsAt w (Lt w.heap.size) sq s.fil) (h6 : s.fil.length ≤ 6) (hb : ListAt boolK w (Lt w.heap.size) p before) (hbl : before.length ≤ 4) :
    Calls Tryz.prog 53 #[.pointer (some ⟨g, 0, none⟩), staV sq s, .int .i64 (i : Nat), svV p] w fun e w' => e = .returned (.agg ⟨placeC i s before⟩) ∧ Below w.heap.size w w' := by
  obtain ⟨Ap, np, cp⟩ := p
  obtain ⟨Aq, nq, cq⟩ := sq
  have lp := hb.len (by decide)
  have lq := hq.len
  simp only at lp lq
  subst lp lq
  simp only [staV, staC, svV]
  refine enter Tryz.func53 rfl Tryz.ntmps53 rfl ?_; simp only [frame, Nat.zero_add, Nat.reduceAdd]
  repeat (first | (refine M0 ?_; first | refine SL ?_ | refine SB fun _ _ => ?_) | (refine M1 ?_; first | refine SC ?_ | refine SD ?_) | (refine M2 ?_; refine SE ?_) | (refine M3 ?_; first | refine SG ?_ | refine SF ?_) | (refine M4 ?_; refine SR ?_) | (refine M5 ?_; first | exact M7 | refine YM ?_ | refine YN ?_ ?_))
  rename_i g5 hg5 g8 hg8 g9 hg9
  have h16 : ∀ k, k ≤ 4 → 2 ^ k ≤ 16 := fun k hk => Nat.pow_le_pow_right (n := 2) (by decide) hk
  have hob := fun k => obits_lt before k
  refine XC.loopk [5, 8, 9, 16, 17] rfl (fun k : Nat => [(18, .int .i64 (k : Nat))]) (fun k => [(g9, cel 145 [.int .i64 (i : Nat), .int .i64 s.vol, .int .i64 (obits before k : Nat), .int .i64 0, .int .i64 0, .int .i64 0, .int .i64 0, .int .i64 0, .int .i64 0]), (g8, cel 145 [.int .i64 0, .int .i64 0, .int .i64 0, .int .i64 0, .int .i64 0, .int .i64 0, .int .i64 0, .int .i64 0, .int .i64 0]), (g5, cel 28 [.int .i64 s.vol, .slice Aq s.fil.length cq])]) (fun _ => w) (fun k => k ≤ before.length) (fun k => before.length - k) 0 (Nat.zero_le _) ZZSUB (fun _ h => h) ?_
  intro k hk
  dsimp only [List.cons_append, List.nil_append]
  repeat (first | (refine M0 ?_; first | refine SL ?_ | refine SB fun _ _ => ?_) | (refine M1 ?_; first | refine SC ?_ | refine SD ?_) | (refine M2 ?_; refine SE ?_) | (refine M3 ?_; first | refine SG ?_ | refine SF ?_) | (refine M4 ?_; refine SR ?_) | (refine M5 ?_; first | exact M7 | refine YM ?_ | refine YN ?_ ?_))
  refine XC.cond _ rfl (fun h1 => ?_) (fun h1 => ?_)
  · have hkl : k < before.length := by have := of_decide_eq_true h1; omega
    obtain ⟨ap, rfl, hlp⟩ := hb.addr (by decide) (by omega)
    have hbk := boolAt hb (k := k) hkl
    have hk1 := hob k
    have hk2 := h16 k (by omega)
    repeat (first | (refine M0 ?_; first | refine SL ?_ | refine SB fun _ _ => ?_ | refine Y4 (Ev.load_old tok rfl rfl (add_lt hlp) hbk) ?_) | (refine M1 ?_; first | refine SC ?_ | refine SD ?_) | (refine M2 ?_; refine SE ?_) | (refine M3 ?_; first | refine SG ?_ | refine SF ?_ | refine YF (Ev.load_old tok rfl rfl (add_lt hlp) hbk) ?_) | (refine M4 ?_; refine SR ?_) | (refine M5 ?_; first | exact M7 | refine YM ?_ | refine YN ?_ ?_))
    refine XC.cond _ rfl (fun h2 => ?_) (fun h2 => ?_)
    · repeat (first | (refine M0 ?_; first | refine SL ?_ | refine SB fun _ _ => ?_ | refine Y4 (Ev.shl1 (n := k) rfl (by omega)) ?_ | refine Y4 (Ev.orN (a := obits before k) (b := 2 ^ k) rfl rfl (by omega) (by omega)) ?_) | (refine M1 ?_; first | refine SC ?_ | refine SD ?_) | (refine M2 ?_; refine SE ?_) | (refine M3 ?_; first | refine SG ?_ | refine SF ?_ | refine YF (Ev.shl1 (n := k) rfl (by omega)) ?_ | refine YF (Ev.orN (a := obits before k) (b := 2 ^ k) rfl rfl (by omega) (by omega)) ?_) | (refine M4 ?_; refine SR ?_) | (refine M5 ?_; first | exact M7 | refine YM ?_ | refine YN ?_ ?_))
      rw [← obits_on h2]
      exact XE.round (s := k) (k + 1) hkl (by omega) ZZSUB (fun _ h => h)
    · repeat (first | (refine M0 ?_; first | refine SL ?_ | refine SB fun _ _ => ?_) | (refine M1 ?_; first | refine SC ?_ | refine SD ?_) | (refine M2 ?_; refine SE ?_) | (refine M3 ?_; first | refine SG ?_ | refine SF ?_) | (refine M4 ?_; refine SR ?_) | (refine M5 ?_; first | exact M7 | refine YM ?_ | refine YN ?_ ?_))
      rw [← obits_off h2]
      exact XE.round (s := k) (k + 1) hkl (by omega) ZZSUB (fun _ h => h)
  have hkl : k = before.length := by have := of_decide_eq_false h1; omega
  rw [hkl]
  repeat (first | (refine M0 ?_; first | refine SL ?_ | refine SB fun _ _ => ?_) | (refine M1 ?_; refine SC ?_) | (refine M2 ?_; refine SE ?_))
  refine XC.drawT mixed rfl rfl (by kernel_rfl) ?_
  repeat (first | (refine M0 ?_; first | refine SL ?_ | refine SB fun _ _ => ?_ | refine Y4 (Ev.sliceArr rfl arr6 int_sz (by decide)) ?_) | (refine M2 ?_; refine SE ?_) | (refine M3 ?_; first | refine SG ?_ | refine SF ?_ | refine YF (Ev.sliceArr rfl arr6 int_sz (by decide)) ?_) | (refine M4 ?_; refine SR ?_) | (refine M5 ?_; first | exact M7 | refine YM ?_ | refine YN ?_ ?_))
  refine XL.copyIn 0 (o := 3) (vs := ints s.fil) ints_el6 rfl rfl rfl rfl (fun w5 S5 => (hq.arg S5).rd) h6 (by simp only [List.length_cons, List.length_nil]; omega) (fun v hv => by obtain ⟨x, _, rfl⟩ := List.mem_map.1 hv; rfl) rfl ?_
  have e9 : (([.int .i64 (i : Nat), .int .i64 s.vol, .int .i64 (obits before before.length : Nat), .int .i64 0, .int .i64 0, .int .i64 0, .int .i64 0, .int .i64 0, .int .i64 0] : List Value).take 3 ++ ints s.fil ++ ([.int .i64 (i : Nat), .int .i64 s.vol, .int .i64 (obits before before.length : Nat), .int .i64 0, .int .i64 0, .int .i64 0, .int .i64 0, .int .i64 0, .int .i64 0] : List Value).drop (3 + s.fil.length)) = placeC i s before := by
    have e1 : ([.int .i64 (i : Nat), .int .i64 s.vol, .int .i64 (obits before before.length : Nat), .int .i64 0, .int .i64 0, .int .i64 0, .int .i64 0, .int .i64 0, .int .i64 0] : List Value).drop (3 + s.fil.length) = List.replicate (6 - s.fil.length) (.int .i64 0) := by
      rw [← List.drop_drop, show ([.int .i64 (i : Nat), .int .i64 s.vol, .int .i64 (obits before before.length : Nat), .int .i64 0, .int .i64 0, .int .i64 0, .int .i64 0, .int .i64 0, .int .i64 0] : List Value).drop 3 = List.replicate 6 (.int .i64 0) from rfl, List.drop_replicate]
    rw [e1, List.append_assoc, pad_list h6]
    rfl
  rw [e9]
  simp only [placeC]
  repeat (first | (refine M0 ?_; first | refine SL ?_ | refine SB fun _ _ => ?_) | (refine M1 ?_; refine SC ?_) | (refine M2 ?_; refine SE ?_))
  refine XE.retg tok Tryz.results53 rfl (by simp only [and_self, and_true]) (fun w' S => ?_)
  exact ⟨rfl, S.toBelow⟩
end Go.Proofs.YtmckmlmfilmiaaaGreatDoor.X
/-
  The rounds of rest: what a choice does to the best rest and to what is known (runoff).
-/
namespace Go.Proofs.YtmckmlmfilmiaaaGreatDoor.Bs
open Go.Proofs.YtmckmlmfilmiaaaGreatDoor.X
theorem rest_bd {t : RTk} (h : RtOk t) : ∀ {k : Nat} {s : Sta} {b : List Bool} {c : Int} {p : Plan}, k ≤ t.n → StaOk t.b s → t.rest k s b = some (c, p) → 0 ≤ c ∧ c ≤ 200000000000000 * k := by
  intro k
  induction k with
  | zero => intro s b c p _ _ e; cases e; simp
  | succ k ih =>
    intro s b c p hk hs e
    obtain ⟨on, p', _, h0, h1⟩ := rest_next e
    obtain ⟨a1, a2, a3, _⟩ := do_sta h hs (show t.n - (k + 1) < t.outer.length by unfold RTk.n at *; omega) h0
    have := ih (by omega) a1 h1
    omega
theorem rest_len {t : RTk} {k : Nat} {s : Sta} {b : List Bool} (hk : k ≤ t.n) : (fdP (t.rest k s b)).length ≤ k := by
  cases h : t.rest k s b with
  | none => simp [fdP]
  | some x => obtain ⟨c, p⟩ := x; exact Nat.le_of_eq (rest_good hk h).1.len
end Go.Proofs.YtmckmlmfilmiaaaGreatDoor.Bs
namespace Go.Proofs.YtmckmlmfilmiaaaGreatDoor.X
open Go Go.RowKit Go.Proofs.YtmckmlmfilmiaaaGreatDoor.Bs
set_option linter.unusedVariables false
def rfOf2 : Code → Option (Code × Code)
  | .rangeFunc _ _ a b => some (a, b)
  | .seq x y => match rfOf2 x with
    | some r => some r
    | none => rfOf2 y
  | .block _ c => rfOf2 c
  | .scope c => rfOf2 c
  | _ => none
/-- what rest answers. -/
def RestR (t : RTk) (gm k : Nat) (ks : List Nat) (kvs : List (Value × Value)) (s : Sta) (b : List Bool) (w : World) (vv : Value) (w' : World) : Prop :=
  ∃ (q : SV) (new : List (Value × Value)), vv = tailV q (t.rest k s b) ∧ Sys gm w [(gm, mapO (kvs ++ new))] w' ∧ Fam w' gm ks [] [hMem t (kvs ++ new), hPlan q (fdP (t.rest k s b))] ∧ KeysOk Tryz.prog 145 (kvs ++ new) ∧ NewK (t.n - k) new
def RestC (t : RTk) (v : RTV) (r : SV) (g gt gm k : Nat) : Prop :=
  ∀ {w : World} {ks : List Nat} {kvs : List (Value × Value)} {sq p : SV} {s : Sta} {b : List Bool}, PlnAt w (Ng' gm w) g gt gm v r t → TskAt w gm v t → w.heap[gm]? = some (mapO kvs) → Fam w gm ks [] [hMem t kvs] → gm ∈ ks → (∀ k, k ∈ ks → k < w.heap.size) → KeysOk Tryz.prog 145 kvs →
    StaOk t.b s → b.length = t.m → IntsAt w (Ng' gm w) sq s.fil → ListAt boolK w (Ng' gm w) p b →
    Calls Tryz.prog 38 #[.pointer (some ⟨g, 0, none⟩), staV sq s, .int .i64 (t.n - k : Nat), svV p] w fun e w' => ∃ vv, e = .returned vv ∧ RestR t gm k ks kvs s b w vv w'
theorem better_none (x : Bs.Fd) : better x none = x := by cases x <;> rfl
theorem one_none {t : RTk} {more : Sta → List Bool → Bs.Fd} {s : Sta} {i : Nat} {b f : List Bool} (h : t.doE s i b f ≠ 0) : t.one more s i b f = none := by unfold RTk.one; rw [if_neg h]
theorem plan_el : elemOk Tryz.prog 64 31 1 24 = true := by kernel_rfl
theorem Kp.growV {gm : Nat} {w W W' : World} {L : Lo} {v : Value} (h : Kp gm w W) (hB : Below gm w W') (ho : ∀ j, j < W.heap.size → (∀ e, e ∈ L → e.1 ≠ j) → v.ownBlock ≠ some j → W'.heap[j]? = W.heap[j]?) (hL : ∀ e, e ∈ L → e.1 ∈ [gm] ∨ w.heap.size ≤ e.1) (hv : ∀ k, v.ownBlock = some k → w.heap.size ≤ k) : Kp gm w W' :=
  ⟨hB, fun j hj => (ho j (Nat.lt_of_lt_of_le hj.1 h.below.size) (fun e he e1 => by
    rcases hL e he with h1 | h1
    · exact hj.2 (by rw [← e1]; exact List.mem_singleton.1 h1)
    · have := hj.1; omega) fun e => by have := hv j e; have := hj.1; omega).trans (h.old j hj)⟩
theorem mem_two {α : Type} {a b : α} {l : List α} (h1 : a ∈ l) (h2 : b ∈ l) : ∀ e, e ∈ [a, b] → e ∈ l := fun e he => by
  rcases List.mem_cons.1 he with rfl | he
  · exact h1
  · rw [List.mem_singleton.1 he]; exact h2
theorem one_none2 {t : RTk} {more : Sta → List Bool → Bs.Fd} {s : Sta} {i : Nat} {b f : List Bool} (h : more (t.doD s i b f).s f = none) : t.one more s i b f = none := by unfold RTk.one; split <;> simp [h]
theorem isSome_f {x : Bs.Fd} (h : x.isSome = false) : x = none := by cases x with
  | none => rfl
  | some y => cases h
/-- what costs as much already is no better. -/
theorem better_old {t : RTk} {more : Sta → List Bool → Bs.Fd} {s : Sta} {i : Nat} {b f : List Bool} {best : Bs.Fd} (hb : best.isSome = true) (h : ∀ c p, more (t.doD s i b f).s f = some (c, p) → fdC best ≤ (t.doD s i b f).cost + c) : better best (t.one more s i b f) = best := by
  cases best with
  | none => cases hb
  | some x =>
    cases h1 : t.one more s i b f with
    | none => rfl
    | some y =>
      obtain ⟨_, c, p, h2, rfl⟩ := one_some h1
      have := h c p h2
      simp only [fdC, Option.map_some, Option.getD_some] at this
      simp only [better]
      rw [if_neg (show ¬ ((t.doD s i b f).cost + c < x.1) by omega)]
/-- what is found first, or costs less. -/
theorem better_new {t : RTk} {more : Sta → List Bool → Bs.Fd} {s : Sta} {i : Nat} {b f : List Bool} {best : Bs.Fd} {c : Int} {p : Plan} (h0 : t.doE s i b f = 0) (hm : more (t.doD s i b f).s f = some (c, p)) (h : best.isSome = true → (t.doD s i b f).cost + c < fdC best) : better best (t.one more s i b f) = some ((t.doD s i b f).cost + c, f :: p) := by
  rw [one_of h0 hm]
  cases best with
  | none => rfl
  | some x =>
    have := h rfl
    simp only [fdC, Option.map_some, Option.getD_some] at this
    simp only [better]
    rw [if_pos (show (t.doD s i b f).cost + c < x.1 by omega)]
abbrev KR (l D g12 g10 g9 g8 g7 g6 g5 g4 : Nat) : List Nat := [l, D, g12, g10, g9, g8, g7, g6, g5, g4]
abbrev LR (l D g12 g10 g9 g8 g7 g6 g5 g4 gm : Nat) (r0 : Loop) (o10 o9 o8 : Obj) (q : SV) (best : Bs.Fd) (p : SV) (i0 : Nat) (sq : SV) (s : Sta) (g : Nat) (kvs : List (Value × Value)) : Lo :=
  [(l, .loop r0), (D, .deferred (some [])), (g12, cel 107 (tailC q best)), (g10, o10), (g9, o9), (g8, o8), (g7, cel 31 [svV p]), (g6, cel 3 [.int .i64 (i0 : Nat)]), (g5, cel 28 (staC sq s)), (g4, cel 77 [.pointer (some ⟨g, 0, none⟩)]), (gm, mapO kvs)]
abbrev oneV (tmps : Array Value) (v : Value) : Array Value := ((#[44] : Array Tmp).zip #[v]).foldl (fun s (p, y) => s.setIfInBounds p y) tmps
/-- what a round leaves. -/
def RoundR (t : RTk) (gm : Nat) (ks : List Nat) (kvs : List (Value × Value)) (i1 : Nat) (best : Bs.Fd) (L : SV → List (Value × Value) → Lo) (w w' : World) : Prop :=
  ∃ (W' : World) (q' : SV) (new : List (Value × Value)), Kp gm w W' ∧ Fam W' gm ks [] [hMem t (kvs ++ new), hPlan q' (fdP best)] ∧ (∀ k, k ∈ ks → k < W'.heap.size) ∧ KeysOk Tryz.prog 145 (kvs ++ new) ∧ NewK i1 new ∧ Sys gm W' (L q' (kvs ++ new)) w'
set_option maxHeartbeats 32000000 in
set_option maxRecDepth 10000 in
theorem rest_round {l D g12 g10 g9 g8 g7 g6 g5 g4 gm g gt k i0 j gn n : Nat} {t : RTk} {v : RTV} {r sq p q : SV} {s : Sta} {before on : List Bool} {best : Bs.Fd} {ks : List Nat} {kvs : List (Value × Value)} {w W w1 : World} {fn : FuncId} {a : Act} {assign body : Code} {o10 o9 o8 : Obj} {c : Code}
    (IH : RestC t v r g gt gm k) (ho : RtOk t) (hc0 : chkE t.b = 0) (hi0 : i0 = t.n - (k + 1)) (hk : k + 1 ≤ t.n) (hs : StaOk t.b s) (hbl : before.length = t.m) (hon : on.length = t.m) (hm4 : t.m ≤ 4)
    (hP : PlnAt w (Ng' gm w) g gt gm v r t) (hT : TskAt w gm v t) (hgm : gm < w.heap.size) (hq : IntsAt w (Ng' gm w) sq s.fil) (hb : ListAt boolK w (Ng' gm w) p before)
    (hown : ∀ x, x ∈ KR l D g12 g10 g9 g8 g7 g6 g5 g4 → w.heap.size ≤ x) (hKp : Kp gm w W) (hgk : gm ∈ ks)
    (hF : Fam W gm (KR l D g12 g10 g9 g8 g7 g6 g5 g4 ++ ks) [] [hList boolK ⟨some ⟨gn, 0, none⟩, t.m, t.m⟩ on, hMem t kvs, hPlan q (fdP best)]) (hks : ∀ x, x ∈ KR l D g12 g10 g9 g8 g7 g6 g5 g4 ++ ks → x < W.heap.size) (hkeys : KeysOk Tryz.prog 145 kvs)
    (hbest : ∀ c p, best = some (c, p) → 0 ≤ c ∧ c ≤ 2000000000000000)
    (hc : Tryz.f38.body = some c) (hr : rfOf2 c = some (assign, body))
    (hf : Fits 109 [] [(4, .pointer (some ⟨g4, 0, none⟩)), (5, .pointer (some ⟨g5, 0, none⟩)), (6, .pointer (some ⟨g6, 0, none⟩)), (12, .pointer (some ⟨g12, 0, none⟩)), (7, .pointer (some ⟨g7, 0, none⟩))] a)
    (S : Sys gm W (LR l D g12 g10 g9 g8 g7 g6 g5 g4 gm (recO fn a.tmps #[44] assign body D .ready none) o10 o9 o8 q best p i0 sq s g kvs) w1) :
    (Instr.yield l (#[.slice (some ⟨gn, 0, none⟩) t.m t.m] : Array Value)).run Tryz.prog w1 = .ok (.round l fn (oneV a.tmps (.slice (some ⟨gn, 0, none⟩) t.m t.m)) assign body) w1 ∧
    RoundIn Fence.wide n Tryz.prog l fn (oneV a.tmps (.slice (some ⟨gn, 0, none⟩) t.m t.m)) assign body w1 fun e1 w' => ∃ u, e1 = .returned u ∧ u = .bool true ∧
      RoundR t gm (KR l D g12 g10 g9 g8 g7 g6 g5 g4 ++ ks) kvs (i0 + 1) (better best (t.one (t.rest k) s i0 before on)) (fun q' kvs' => LR l D g12 g10 g9 g8 g7 g6 g5 g4 gm (recO fn a.tmps #[44] assign body D .ready none) o10 o9 o8 q' (better best (t.one (t.rest k) s i0 before on)) p i0 sq s g kvs') w w' := by
  have hloop := (S.own _ List.mem_cons_self).2
  have hgg : gm ∈ [gm] := .head _
  obtain ⟨ks1, hks1⟩ : ∃ ks1, ks1 = KR l D g12 g10 g9 g8 g7 g6 g5 g4 ++ ks := ⟨_, rfl⟩
  rw [← hks1] at hF hks ⊢
  have b1 := hown l (by simp)
  have b2 := hown D (by simp)
  have b3 := hown g12 (by simp)
  have b4 := hown g10 (by simp)
  have b5 := hown g9 (by simp)
  have b6 := hown g8 (by simp)
  have b7 := hown g7 (by simp)
  have b8 := hown g6 (by simp)
  have b9 := hown g5 (by simp)
  have b0 := hown g4 (by simp)
  have m1 : l ∈ ks1 := by rw [hks1]; simp
  have m2 : D ∈ ks1 := by rw [hks1]; simp
  have m3 : g12 ∈ ks1 := by rw [hks1]; simp
  have m4 : g10 ∈ ks1 := by rw [hks1]; simp
  have m5 : g9 ∈ ks1 := by rw [hks1]; simp
  have m6 : g8 ∈ ks1 := by rw [hks1]; simp
  have m7 : g7 ∈ ks1 := by rw [hks1]; simp
  have m8 : g6 ∈ ks1 := by rw [hks1]; simp
  have m9 : g5 ∈ ks1 := by rw [hks1]; simp
  have m0 : g4 ∈ ks1 := by rw [hks1]; simp
  have mg : gm ∈ ks1 := by rw [hks1]; exact List.mem_append_right _ hgk
  clear hks1 hgk
  have hgW : gm ≤ W.heap.size := Nat.le_of_lt (Nat.lt_of_lt_of_le hgm hKp.below.size)
  have hi : i0 < t.outer.length := by unfold RTk.n at hi0 hk; omega
  have hi6 : i0 < 6 := Nat.lt_of_lt_of_le hi ho.n6
  refine ⟨run_yield (args := #[.slice (some ⟨gn, 0, none⟩) t.m t.m]) hloop rfl, ?_⟩
  obtain ⟨r0, hr0, hr1, hr2⟩ : ∃ r0, recO fn a.tmps #[44] assign body D .ready none = r0 ∧ r0.state = .ready ∧ r0.pending = none := ⟨_, rfl, rfl, rfl⟩
  rw [hr0] at S ⊢
  clear hloop hr0
  have hr3 : { { r0 with state := .busy } with state := .ready, pending := none } = r0 := by
    cases r0; simp only at hr1 hr2; subst hr1 hr2; rfl
  have e1 : Tryz.f38.body = some _ := rfl
  rw [e1] at hc
  cases hc
  simp only [rfOf2, Option.some.injEq, Prod.mk.injEq] at hr
  obtain ⟨rfl, rfl⟩ := hr
  clear e1
  refine round_of ((((((hf.params1 rfl).hint 4 (.slice none 1 0)).hint 5 (.slice none 2 0)).hint 6 (.slice none 3 0)).hint 7 (.slice none 4 0)).hint 12 (.slice none 8 0)) S ?_
  simp only [LR, staC, tailC, svV]
  repeat (first | (refine M0 ?_; first | refine SL ?_ | refine SB fun _ _ => ?_) | (refine XI.id ?_; first | refine XI.done ?_ | refine XI.one1 rfl ?_) | (refine XR'.id ?_; first | refine XR'.seq ?_ | refine XR'.region ?_ | refine XR'.block ?_ | refine XR'.skip ?_ | refine XR'.ret ?_ | refine XR'.cond_t rfl ?_ | refine XR'.cond_f rfl ?_ | refine XR'.exit ?_) | (refine M1 ?_; first | refine SC ?_ | refine SD ?_) | (refine M2 ?_; first | refine XE.nextI ?_ | refine XE.nextR ?_ | refine SE ?_))
  refine XE.begin (i := 0) rfl hr1 rfl ?_
  repeat (first | (refine M0 ?_; first | refine SL ?_ | refine SB fun _ _ => ?_) | (refine XI.id ?_; first | refine XI.done ?_ | refine XI.one1 rfl ?_) | (refine XR'.id ?_; first | refine XR'.seq ?_ | refine XR'.region ?_ | refine XR'.block ?_ | refine XR'.skip ?_ | refine XR'.ret ?_ | refine XR'.cond_t rfl ?_ | refine XR'.cond_f rfl ?_ | refine XR'.exit ?_) | (refine M1 ?_; first | refine SC ?_ | refine SD ?_) | (refine M2 ?_; first | refine XE.nextI ?_ | refine XE.nextR ?_ | refine SE ?_))
  refine XL.callr (fst := []) (cap := []) (fun w2 x w3 => ∃ q2 : SV, x = .tuple ⟨[.agg ⟨doneC q2 (t.doD s i0 before on)⟩, .int .i64 (t.doE s i0 before on)]⟩ ∧ IntsAt w3 (Btw w2.heap.size w3.heap.size) q2 (t.doD s i0 before on).s.fil ∧ Below w2.heap.size w2 w3) (ck rfl) rfl rfl rfl (fun w2 S2 => ?_) (fun w2 x w3 S2 hR => ?_)
  · have K2 : Kp gm w w2 := hKp.sys S2 ZZHM
    have F2 := hF.sys S2 ZZHM
    simp only [List.nil_append, List.append_nil]
    exact (do_made (g := g) (gt := gt) (gm := gm) (v := v) (r := r) (p := p) (q := ⟨some ⟨gn, 0, none⟩, t.m, t.m⟩) (sq := sq) ⟨(hP.keep K2.old).mono K2.lt, (hT.below K2.below).more (Nat.le_trans hgW S2.size)⟩ hc0 ho ((hq.keep K2.old).mono K2.lt) hs hi ((hb.keep K2.old).mono K2.lt) hbl ((F2.held (hList boolK ⟨some ⟨gn, 0, none⟩, t.m, t.m⟩ on) (.head _)).mono fun j hj => hj.2.1) hon).mono fun e w' ⟨v, new, e1, e2, e3, e4⟩ => by
      obtain ⟨q2, rfl, rfl⟩ := e2
      exact ⟨_, e1, q2, rfl, e3 _ (.head _), e4⟩
  obtain ⟨q2, rfl, hq2, hB2⟩ := hR
  refine ⟨_, w3, S2.made hB2, ?_⟩
  have K3 : Kp gm w w3 := (hKp.sys S2 ZZHM).made hB2 (Nat.le_trans hgW S2.size)
  have F3 : Fam w3 gm ks1 [] (hInts q2 (t.doD s i0 before on).s.fil :: _) := ((hF.call S2 hB2 ZZHM hks (new := [hInts q2 (t.doD s i0 before on).s.fil]) (fun x hx => by rw [List.mem_singleton.1 hx]; exact hq2)).1).add fun k hk => .inl (List.mem_append_right _ hk)
  have hks3 : ∀ x, x ∈ ks1 → x < w3.heap.size := fun x hx => Nat.lt_of_lt_of_le (hks x hx) (Nat.le_trans S2.size hB2.size)
  have hg3 : gm ≤ w3.heap.size := Nat.le_trans hgW (Nat.le_trans S2.size hB2.size)
  clear S2 hB2 hq2 hF hks hgW hKp S
  obtain ⟨E, hE⟩ : ∃ E, E = t.doE s i0 before on := ⟨_, rfl⟩
  obtain ⟨d, hd⟩ : ∃ d, d = t.doD s i0 before on := ⟨_, rfl⟩
  rw [← hd] at F3
  rw [← hE, ← hd]
  simp only [doneC]
  repeat (first | (refine M0 ?_; first | refine SL ?_ | refine SB fun _ _ => ?_) | (refine XI.id ?_; first | refine XI.done ?_ | refine XI.one1 rfl ?_) | (refine XR'.id ?_; first | refine XR'.seq ?_ | refine XR'.region ?_ | refine XR'.block ?_ | refine XR'.skip ?_ | refine XR'.ret ?_ | refine XR'.cond_t rfl ?_ | refine XR'.cond_f rfl ?_ | refine XR'.exit ?_) | (refine M1 ?_; first | refine SC ?_ | refine SD ?_) | (refine M2 ?_; first | refine XE.nextI ?_ | refine XE.nextR ?_ | refine SE ?_))
  rename_i g14 hg14
  have b14 : w.heap.size ≤ g14 := Nat.le_trans K3.below.size hg14
  by_cases hE0 : E = 0
  rotate_left
  · rw [show decide (E ≠ 0) = true from decide_eq_true hE0]
    repeat (first | (refine M0 ?_; first | refine SL ?_ | refine SB fun _ _ => ?_) | (refine XI.id ?_; first | refine XI.done ?_ | refine XI.one1 rfl ?_) | (refine XR'.id ?_; first | refine XR'.seq ?_ | refine XR'.region ?_ | refine XR'.block ?_ | refine XR'.skip ?_ | refine XR'.ret ?_ | refine XR'.cond_t rfl ?_ | refine XR'.cond_f rfl ?_ | refine XR'.exit ?_) | (refine M1 ?_; first | refine SC ?_ | refine SD ?_) | (refine M2 ?_; first | refine XE.nextI ?_ | refine XE.nextR ?_ | refine SE ?_))
    refine XE.endR (i := 1) rfl rfl (fun w' S' => ?_)
    rw [one_none (by rw [← hE]; exact hE0), better_none]
    have hr3' := hr3
    simp only at hr3'
    simp only [hr3'] at S'
    refine ⟨_, rfl, rfl, w', q, [], K3.sys S' ZZHM, Fam.forget (F3.sys S' ZZHM) ?_, ?_, ?_, (fun x hx => by cases hx), ?_⟩
    · intro x hx
      rcases List.mem_cons.1 hx with rfl | hx
      · simp
      · rw [List.mem_singleton.1 hx]; simp
    · exact fun x hx => Nat.lt_of_lt_of_le (hks3 x hx) S'.size
    · rw [List.append_nil]; exact hkeys
    · exact S'.rebase (by rw [List.append_nil]; simp only [LR, staC, tailC, svV]; repeat (first | exact List.Sublist.refl _ | exact List.nil_sublist _ | refine List.Sublist.cons_cons _ ?_ | refine List.Sublist.cons _ ?_))
  rw [show decide (E ≠ 0) = false from decide_eq_false (fun h => h hE0)]
  have hd0 : t.doE s i0 before on = 0 := by rw [← hE]; exact hE0
  obtain ⟨hds, hdc0, hdc1, _⟩ := do_sta ho hs hi hd0
  rw [← hd] at hds hdc0 hdc1
  obtain ⟨bs, hbs⟩ : ∃ bs, bs = best.isSome := ⟨_, rfl⟩
  obtain ⟨c0, hc0'⟩ : ∃ c0, c0 = fdC best := ⟨_, rfl⟩
  rw [← hbs, ← hc0']
  have hmore0 : ∀ c p, t.rest k d.s on = some (c, p) → 0 ≤ c ∧ c ≤ 200000000000000 * k := fun c p h => rest_bd ho (by omega) hds h
  cases bs
  all_goals
    repeat (first | (refine M0 ?_; first | refine SL ?_ | refine SB fun _ _ => ?_) | (refine XI.id ?_; first | refine XI.done ?_ | refine XI.one1 rfl ?_) | (refine XR'.id ?_; first | refine XR'.seq ?_ | refine XR'.region ?_ | refine XR'.block ?_ | refine XR'.skip ?_ | refine XR'.ret ?_ | refine XR'.cond_t rfl ?_ | refine XR'.cond_f rfl ?_ | refine XR'.exit ?_) | (refine M1 ?_; first | refine SC ?_ | refine SD ?_) | (refine M2 ?_; first | refine XE.nextI ?_ | refine XE.nextR ?_ | refine SE ?_))
  rotate_left
  refine XR'.cond _ rfl (fun h2 => ?_) (fun h2 => ?_)
  · repeat (first | (refine M0 ?_; first | refine SL ?_ | refine SB fun _ _ => ?_) | (refine XI.id ?_; first | refine XI.done ?_ | refine XI.one1 rfl ?_) | (refine XR'.id ?_; first | refine XR'.seq ?_ | refine XR'.region ?_ | refine XR'.block ?_ | refine XR'.skip ?_ | refine XR'.ret ?_ | refine XR'.cond_t rfl ?_ | refine XR'.cond_f rfl ?_ | refine XR'.exit ?_) | (refine M1 ?_; first | refine SC ?_ | refine SD ?_) | (refine M2 ?_; first | refine XE.nextI ?_ | refine XE.nextR ?_ | refine SE ?_))
    refine XE.endR (i := 1) rfl rfl (fun w' S' => ?_)
    rw [better_old hbs.symm (fun c p h => by rw [← hd] at h ⊢; have := hmore0 c p h; have := of_decide_eq_true h2; omega)]
    have hr3' := hr3
    simp only at hr3'
    simp only [hr3'] at S'
    refine ⟨_, rfl, rfl, w', q, [], K3.sys S' ZZHM, Fam.forget (F3.sys S' ZZHM) ?_, ?_, ?_, (fun x hx => by cases hx), ?_⟩
    · intro x hx
      rcases List.mem_cons.1 hx with rfl | hx
      · simp
      · rw [List.mem_singleton.1 hx]; simp
    · exact fun x hx => Nat.lt_of_lt_of_le (hks3 x hx) S'.size
    · rw [List.append_nil]; exact hkeys
    · exact S'.rebase (by rw [List.append_nil]; simp only [LR, staC, tailC, svV]; rw [← hbs, ← hc0']; repeat (first | exact List.Sublist.refl _ | exact List.nil_sublist _ | refine List.Sublist.cons_cons _ ?_ | refine List.Sublist.cons _ ?_))
  repeat (first | (refine M0 ?_; first | refine SL ?_ | refine SB fun _ _ => ?_) | (refine XI.id ?_; first | refine XI.done ?_ | refine XI.one1 rfl ?_) | (refine XR'.id ?_; first | refine XR'.seq ?_ | refine XR'.region ?_ | refine XR'.block ?_ | refine XR'.skip ?_ | refine XR'.ret ?_ | refine XR'.cond_t rfl ?_ | refine XR'.cond_f rfl ?_ | refine XR'.exit ?_) | (refine M1 ?_; first | refine SC ?_ | refine SD ?_) | (refine M2 ?_; first | refine XE.nextI ?_ | refine XE.nextR ?_ | refine SE ?_))
  all_goals
    have htk : ((i0 : Int) + 1) = ((t.n - k : Nat) : Int) := by omega
    rw [htk]
    obtain ⟨ks2, hks2⟩ : ∃ ks2, ks2 = g14 :: ks1 := ⟨_, rfl⟩
    have n14 : g14 ∈ ks2 := by rw [hks2]; exact .head _
    have hsub : ∀ x, x ∈ ks1 → x ∈ ks2 := fun x hx => by rw [hks2]; exact .tail _ hx
    have n1 := hsub _ m1
    have n2 := hsub _ m2
    have n3 := hsub _ m3
    have n4 := hsub _ m4
    have n5 := hsub _ m5
    have n6 := hsub _ m6
    have n7 := hsub _ m7
    have n8 := hsub _ m8
    have n9 := hsub _ m9
    have n0 := hsub _ m0
    have ng := hsub _ mg
    have F3' := F3.add (ks' := ks2) fun x hx => by
      rw [hks2] at hx
      rcases List.mem_cons.1 hx with rfl | hx
      · exact .inr hg14
      · exact .inl hx
    refine XL.callr (fst := []) (cap := []) (fun w4 x w5 => RestR t gm k ks2 kvs d.s on w4 x w5) (ck rfl) rfl rfl rfl (fun w4 S4 => ?_) (fun w4 x w5 S4 hR => ?_)
    · have K4 : Kp gm w w4 := K3.sys S4 ZZHM
      have F4 := F3'.sys S4 ZZHM
      simp only [List.nil_append, List.append_nil]
      refine IH (w := w4) (ks := ks2) (kvs := kvs) (sq := q2) (p := ⟨some ⟨gn, 0, none⟩, t.m, t.m⟩) (s := d.s) (b := on) ((hP.keep K4.old).mono K4.mono) (hT.below K4.below) ?_ (F4.forget fun x hx => by rw [List.mem_singleton.1 hx]; simp) ng (fun x hx => ?_) hkeys hds hon ?_ ?_
      · exact (S4.own (gm, mapO kvs) (by repeat (first | exact List.mem_cons_self | apply List.mem_cons_of_mem))).2
      · rw [hks2] at hx
        rcases List.mem_cons.1 hx with rfl | hx
        · exact S4.lt (e := (x, _)) (.head _)
        · exact Nat.lt_of_lt_of_le (hks3 x hx) S4.size
      · exact (F4.held (hInts q2 d.s.fil) (.head _)).mono fun j hj => ⟨hj.2.1, fun e => hj.2.2.1 (e ▸ ng)⟩
      · exact (F4.held (hList boolK ⟨some ⟨gn, 0, none⟩, t.m, t.m⟩ on) (.tail _ (.head _))).mono fun j hj => ⟨hj.2.1, fun e => hj.2.2.1 (e ▸ ng)⟩
    obtain ⟨q5, new, rfl, S5, F5, hkeys5, hnew⟩ := hR
    have S5' := S4.turned 11 rfl rfl S5
    refine ⟨_, w5, S5'.rebase (List.Sublist.refl _), ?_⟩
    have K5 : Kp gm w w5 := K3.sys S5' ZZHM
    have F6 := (F3'.sys S4 ZZHM).after S5 ng F5
    have hks5 : ∀ x, x ∈ ks2 → x < w5.heap.size := fun x hx => by
      rw [hks2] at hx
      rcases List.mem_cons.1 hx with rfl | hx
      · exact Nat.lt_of_lt_of_le (S4.lt (e := (x, _)) (.head _)) S5.size
      · exact Nat.lt_of_lt_of_le (hks3 x hx) (Nat.le_trans S4.size S5.size)
    clear F3 F3' F5 S4 S5 S5' K3
    obtain ⟨fd, hfd⟩ : ∃ fd, fd = t.rest k d.s on := ⟨_, rfl⟩
    rw [← hfd] at F6
    have hc5 : 0 ≤ fdC fd ∧ fdC fd ≤ 2000000000000000 := by
      cases hfd' : fd with
      | none => simp [fdC]
      | some y =>
        have h6 : (k : Int) ≤ 6 := by have := ho.n6; unfold RTk.n at hk; omega
        have := hmore0 y.1 y.2 (by rw [← hfd, hfd'])
        simp only [fdC, Option.map_some, Option.getD_some]
        omega
    rw [← hfd]
    simp only [tailV, tailC]
    obtain ⟨c5, hc5'⟩ : ∃ c5, c5 = fdC fd := ⟨_, rfl⟩
    obtain ⟨ms, hms⟩ : ∃ ms, ms = fd.isSome := ⟨_, rfl⟩
    rw [← hc5'] at hc5
    rw [← hc5', ← hms]
    have hks5' : ∀ x, x ∈ ks1 → x < w5.heap.size := fun x hx => hks5 x (hsub x hx)
    repeat (first | (refine M0 ?_; first | refine SL ?_ | refine SB fun _ _ => ?_) | (refine XI.id ?_; first | refine XI.done ?_ | refine XI.one1 rfl ?_) | (refine XR'.id ?_; first | refine XR'.seq ?_ | refine XR'.region ?_ | refine XR'.block ?_ | refine XR'.skip ?_ | refine XR'.ret ?_ | refine XR'.cond_t rfl ?_ | refine XR'.cond_f rfl ?_ | refine XR'.exit ?_) | (refine M1 ?_; first | refine SC ?_ | refine SD ?_) | (refine M2 ?_; first | refine XE.nextI ?_ | refine XE.nextR ?_ | refine SE ?_))
  all_goals
    rename_i g16 hg16
    have b16 : w.heap.size ≤ g16 := Nat.le_trans K5.below.size hg16
    cases ms
  all_goals
    repeat (first | (refine M0 ?_; first | refine SL ?_ | refine SB fun _ _ => ?_) | (refine XI.id ?_; first | refine XI.done ?_ | refine XI.one1 rfl ?_) | (refine XR'.id ?_; first | refine XR'.seq ?_ | refine XR'.region ?_ | refine XR'.block ?_ | refine XR'.skip ?_ | refine XR'.ret ?_ | refine XR'.cond_t rfl ?_ | refine XR'.cond_f rfl ?_ | refine XR'.exit ?_) | (refine M1 ?_; first | refine SC ?_ | refine SD ?_) | (refine M2 ?_; first | refine XE.nextI ?_ | refine XE.nextR ?_ | refine SE ?_))
  · refine XE.endR (i := 2) rfl rfl (fun w' S' => ?_)
    rw [one_none2 (by rw [← hd, ← hfd]; exact isSome_f hms.symm), better_none]
    have hr3' := hr3
    simp only at hr3'
    simp only [hr3'] at S'
    refine ⟨_, rfl, rfl, w', q, new, K5.sys S' ZZHM, Fam.forget ((F6.sys S' ZZHM).add (fun x hx => .inl (hsub x hx))) ?_, ?_, ?_, (by rw [hi0, show t.n - (k + 1) + 1 = t.n - k by omega]; exact hnew), ?_⟩
    · intro x hx
      rcases List.mem_cons.1 hx with rfl | hx
      · simp
      · rw [List.mem_singleton.1 hx]; simp
    · exact fun x hx => Nat.lt_of_lt_of_le (hks5'  x hx) S'.size
    · exact hkeys5
    · exact S'.rebase (by simp only [LR, staC, tailC, svV]; rw [← hbs, ← hc0']; repeat (first | exact List.Sublist.refl _ | exact List.nil_sublist _ | refine List.Sublist.cons_cons _ ?_ | refine List.Sublist.cons _ ?_))
  refine XR'.cond _ rfl (fun h3 => ?_) (fun h3 => ?_)
  · repeat (first | (refine M0 ?_; first | refine SL ?_ | refine SB fun _ _ => ?_) | (refine XI.id ?_; first | refine XI.done ?_ | refine XI.one1 rfl ?_) | (refine XR'.id ?_; first | refine XR'.seq ?_ | refine XR'.region ?_ | refine XR'.block ?_ | refine XR'.skip ?_ | refine XR'.ret ?_ | refine XR'.cond_t rfl ?_ | refine XR'.cond_f rfl ?_ | refine XR'.exit ?_) | (refine M1 ?_; first | refine SC ?_ | refine SD ?_) | (refine M2 ?_; first | refine XE.nextI ?_ | refine XE.nextR ?_ | refine SE ?_))
    refine XE.endR (i := 2) rfl rfl (fun w' S' => ?_)
    rw [better_old hbs.symm (fun c p h => by rw [← hd, ← hfd] at h; rw [← hd]; have := of_decide_eq_true h3; rw [hc5', h] at this; simp only [fdC, Option.map_some, Option.getD_some] at this; omega)]
    have hr3' := hr3
    simp only at hr3'
    simp only [hr3'] at S'
    refine ⟨_, rfl, rfl, w', q, new, K5.sys S' ZZHM, Fam.forget ((F6.sys S' ZZHM).add (fun x hx => .inl (hsub x hx))) ?_, ?_, ?_, (by rw [hi0, show t.n - (k + 1) + 1 = t.n - k by omega]; exact hnew), ?_⟩
    · intro x hx
      rcases List.mem_cons.1 hx with rfl | hx
      · simp
      · rw [List.mem_singleton.1 hx]; simp
    · exact fun x hx => Nat.lt_of_lt_of_le (hks5'  x hx) S'.size
    · exact hkeys5
    · exact S'.rebase (by simp only [LR, staC, tailC, svV]; rw [← hbs, ← hc0']; repeat (first | exact List.Sublist.refl _ | exact List.nil_sublist _ | refine List.Sublist.cons_cons _ ?_ | refine List.Sublist.cons _ ?_))
  rotate_left
  · refine XE.endR (i := 2) rfl rfl (fun w' S' => ?_)
    rw [one_none2 (by rw [← hd, ← hfd]; exact isSome_f hms.symm), better_none]
    have hr3' := hr3
    simp only at hr3'
    simp only [hr3'] at S'
    refine ⟨_, rfl, rfl, w', q, new, K5.sys S' ZZHM, Fam.forget ((F6.sys S' ZZHM).add (fun x hx => .inl (hsub x hx))) ?_, ?_, ?_, (by rw [hi0, show t.n - (k + 1) + 1 = t.n - k by omega]; exact hnew), ?_⟩
    · intro x hx
      rcases List.mem_cons.1 hx with rfl | hx
      · simp
      · rw [List.mem_singleton.1 hx]; simp
    · exact fun x hx => Nat.lt_of_lt_of_le (hks5'  x hx) S'.size
    · exact hkeys5
    · exact S'.rebase (by simp only [LR, staC, tailC, svV]; rw [← hbs, ← hc0']; repeat (first | exact List.Sublist.refl _ | exact List.nil_sublist _ | refine List.Sublist.cons_cons _ ?_ | refine List.Sublist.cons _ ?_))
  have hlt : best.isSome = true → d.cost + fdC fd < fdC best := fun h => by rw [← hbs] at h; cases h
  rotate_left
  have hlt : best.isSome = true → d.cost + fdC fd < fdC best := fun _ => by have := of_decide_eq_false h3; omega
  all_goals
    repeat (first | (refine M0 ?_; first | refine SL ?_ | refine SB fun _ _ => ?_) | (refine XI.id ?_; first | refine XI.done ?_ | refine XI.one1 rfl ?_) | (refine XR'.id ?_; first | refine XR'.seq ?_ | refine XR'.region ?_ | refine XR'.block ?_ | refine XR'.skip ?_ | refine XR'.ret ?_ | refine XR'.cond_t rfl ?_ | refine XR'.cond_f rfl ?_ | refine XR'.exit ?_) | (refine M1 ?_; first | refine SC ?_ | refine SD ?_) | (refine M2 ?_; first | refine XE.nextI ?_ | refine XE.nextR ?_ | refine SE ?_))
    obtain ⟨⟨c6, p5⟩, hy⟩ := Option.isSome_iff_exists.1 hms.symm
    have hc6 : c6 = c5 := by rw [hc5', hy]; rfl
    subst hc6
    have hbn : better best (t.one (t.rest k) s i0 before on) = some (d.cost + c6, on :: p5) := by
      rw [better_new hd0 (c := c6) (p := p5) (by rw [← hd, ← hfd]; exact hy) (fun h => by rw [← hd]; have := hlt h; rw [hy] at this; simpa [fdC] using this), ← hd]
    rw [hbn]
    have hlen5 : p5.length ≤ k := by
      have := rest_len (t := t) (k := k) (s := d.s) (b := on) (by omega)
      rw [← hfd, hy] at this
      simpa [fdP] using this
    have hk6 : k ≤ 6 := by have := ho.n6; unfold RTk.n at hk; omega
    have hg5 : gm ≤ w5.heap.size := Nat.le_trans (Nat.le_of_lt hgm) K5.below.size
    have hne : g14 ≠ g16 := fun e => by have := hks5 g14 n14; omega
    refine XR'.drawRS (trunc w5 gm) [(g16, cel 107 [.bool true, .int .i64 c6, .slice q5.A q5.n q5.c]), (g14, cel 114 [.int .i64 d.s.vol, .slice q2.A q2.n q2.c, .int .i64 d.out, .int .i64 d.energy, .int .i64 d.cost])] [0, 1, 2, 3, 4, 5, 7, 8] [6, 9, 10, 11] mixed (fun _ h => Sys.anchorT (Below.refl _ _) h (mem_two (.head _) (.tail _ (.head _))) (by simp; exact fun e => hne e.symm) hg5) rfl rfl (by kernel_rfl) ?_
    repeat (first | (refine M0 ?_; first | refine SL ?_ | refine SB fun _ _ => ?_ | refine Y4 (Ev.load_at tok 1 (g := g14) (o := 4) (j := 0) rfl rfl rfl rfl) ?_ | refine Y4 (Ev.load_at tok 0 (g := g16) (o := 1) (j := 0) rfl rfl rfl rfl) ?_ | refine Y4 (Ev.load_at tok 0 (g := g16) (o := 2) (j := 0) rfl rfl rfl rfl) ?_) | (refine M2 ?_; refine SE ?_) | (refine M3 ?_; first | refine SG ?_ | refine SF ?_ | refine YF (Ev.load_at tok 1 (g := g14) (o := 4) (j := 0) rfl rfl rfl rfl) ?_ | refine YF (Ev.load_at tok 0 (g := g16) (o := 1) (j := 0) rfl rfl rfl rfl) ?_ | refine YF (Ev.load_at tok 0 (g := g16) (o := 2) (j := 0) rfl rfl rfl rfl) ?_) | (refine M4 ?_; refine SRJ ?_) | (refine M5 ?_; first | exact M7 | refine YM ?_ | refine YN ?_ ?_))
    refine XL.newRowW tok (K := plnK) (l := [(⟨some ⟨gn, 0, none⟩, t.m, t.m⟩, on)]) (rs := []) rfl rfl rfl rfl rfl rfl rfl rfl rfl ⟨rfl, rfl⟩ rfl rfl F6 hks5 (Below.refl gm w5) hg5 (fun a ha x hx => ?_) (fun w6 g20 hsz6 hg20 hold6 F7 hB6 hk7 => ?_) ZZHM
    · rw [List.mem_singleton.1 ha] at hx
      rw [List.mem_singleton.1 hx]
      exact F6.held (hList boolK ⟨some ⟨gn, 0, none⟩, t.m, t.m⟩ on) (by simp)
    have K6 : Kp gm w w6 := K5.grow hB6 hold6 ZZHM
    refine XL.done ?_
    refine XE.heldR (fun _ h => Sys.anchorT hB6 h (mem_two (.head _) (.tail _ (.head _))) (by simp; exact fun e => hne e.symm) hg5) ?_
    repeat (first | (refine M0 ?_; first | refine SL ?_ | refine SB fun _ _ => ?_) | (refine M2 ?_; refine SE ?_) | (refine M3 ?_; first | refine SG ?_ | refine SF ?_) | (refine M4 ?_; refine SRJ ?_) | (refine M5 ?_; first | exact M7 | refine YM ?_ | refine YN ?_ ?_))
    have hp5 : fdP fd = p5 := by rw [hy]; rfl
    obtain ⟨es5, hL5, he5⟩ : PlanAt w6 _ q5 (fdP fd) := F7.held (hPlan q5 (fdP fd)) (by simp)
    rw [hp5] at he5
    have hl5 : es5.length ≤ 6 := by have := congrArg List.length he5; simp at this; omega
    refine XL.pushLW (K := plnK) (l := [(⟨some ⟨gn, 0, none⟩, t.m, t.m⟩, on)]) (l2 := es5) (r2 := q5) (bytes := 24) (wE := w5) 0 plan_el (by decide) rfl rfl rfl F7 rfl hk7 hB6 (Nat.le_refl gm) (fun w9 S9 => hL5.sys S9 (fun j hj => ⟨hj.2.1, fun e he e1 => hj.2.2.1 (by rw [← e1]; exact List.mem_append_left _ (List.mem_map.2 ⟨e, he, rfl⟩))⟩)) (fun a ha x hx => hL5.ins a ha x hx) (fun a => rfl) (by simp only [List.length_singleton]; omega) (by decide) (fun w7 v7 hsz7 hold7 F8 hB7 hk8 => ?_)
    have K7 : Kp gm w w7 := K6.growV (K5.below.trans hB7) hold7 ZZHM (fun x hx => by simp only [Value.ownBlock, Option.some.injEq] at hx; rw [← hx]; exact Nat.le_trans K5.below.size hg20)
    obtain ⟨r7, rfl, hn7⟩ := F8.sv (K := plnK) (l := [(⟨some ⟨gn, 0, none⟩, t.m, t.m⟩, on)] ++ es5) (List.mem_singleton.2 rfl)
    simp only [svV]
    refine XL.done ?_
    refine XE.heldR (fun _ h => Sys.anchorT hB7 h (mem_two (.head _) (.tail _ (.head _))) (by simp; exact fun e => hne e.symm) hg5) ?_
    repeat (first | (refine M0 ?_; first | refine SL ?_ | refine SB fun _ _ => ?_) | (refine M2 ?_; refine SE ?_) | (refine M3 ?_; first | refine SG ?_ | refine SF ?_) | (refine M4 ?_; refine SRJ ?_) | (refine M5 ?_; first | exact M7 | refine YM ?_ | refine YN ?_ ?_))
    refine XE.heldR (fun _ h => Sys.anchorT hB7 h (mem_two (.head _) (.tail _ (.head _))) (by simp; exact fun e => hne e.symm) hg5) ?_
    repeat (first | (refine M0 ?_; first | refine SL ?_ | refine SB fun _ _ => ?_) | (refine M2 ?_; refine SE ?_) | (refine M3 ?_; first | refine SG ?_ | refine SF ?_) | (refine M4 ?_; refine SRJ ?_) | (refine M5 ?_; first | exact M7 | refine YM ?_ | refine YN ?_ ?_))
    refine XE.onlyN ?_
    repeat (first | (refine M0 ?_; first | refine SL ?_ | refine SB fun _ _ => ?_) | (refine XI.id ?_; first | refine XI.done ?_ | refine XI.one1 rfl ?_) | (refine XR'.id ?_; first | refine XR'.seq ?_ | refine XR'.region ?_ | refine XR'.block ?_ | refine XR'.skip ?_ | refine XR'.ret ?_ | refine XR'.cond_t rfl ?_ | refine XR'.cond_f rfl ?_ | refine XR'.exit ?_) | (refine M1 ?_; first | refine SC ?_ | refine SD ?_) | (refine M2 ?_; first | refine XE.nextI ?_ | refine XE.nextR ?_ | refine SE ?_))
    refine XE.endR (i := 2) rfl rfl (fun w' S' => ?_)
    have hr3' := hr3
    simp only at hr3'
    simp only [hr3'] at S'
    have F9 := Fam.freeze (rs := []) (K := plnK) (r := r7) (l := [(⟨some ⟨gn, 0, none⟩, t.m, t.m⟩, on)] ++ es5) F8
    have F10 := F9.hold (x := hPlan r7 (on :: p5)) (ok := Free w7 gm _ []) ⟨_, F9.held (hList plnK r7 ([(⟨some ⟨gn, 0, none⟩, t.m, t.m⟩, on)] ++ es5)) (.head _), by simp [he5]⟩ (fun j hj => hj)
    refine ⟨_, rfl, rfl, w', r7, new, K7.sys S' ZZHM, Fam.forget ((F10.sys S' ZZHL).add (fun x hx => .inl (List.mem_append_right _ (List.mem_append_right _ (hsub x hx))))) ?_, fun x hx => Nat.lt_of_lt_of_le (hks5' x hx) (Nat.le_trans hsz6 (Nat.le_trans hsz7 S'.size)), hkeys5, (by rw [hi0, show t.n - (k + 1) + 1 = t.n - k by omega]; exact hnew), ?_⟩
    · intro x hx
      rcases List.mem_cons.1 hx with rfl | hx
      · simp
      · rw [List.mem_singleton.1 hx]; exact .head _
    · exact S'.rebase (by simp only [LR, staC, tailC, svV, fdC, Option.map_some, Option.getD_some, Option.isSome_some]; repeat (first | exact List.Sublist.refl _ | exact List.nil_sublist _ | refine List.Sublist.cons_cons _ ?_ | refine List.Sublist.cons _ ?_))
  any_goals (repeat (first | exact AnyR.nil | refine AnyR.skip rfl ?_))
end Go.Proofs.YtmckmlmfilmiaaaGreatDoor.X
/-
  The walk of rest (runoff).
-/
namespace Go.Proofs.YtmckmlmfilmiaaaGreatDoor.X
open Go Go.RowKit Go.Proofs.YtmckmlmfilmiaaaGreatDoor.Bs
set_option linter.unusedVariables false
theorem bools_flat (l : List Bool) : l.flatMap boolK.c = bools l := by
  induction l with
  | nil => rfl
  | cons a l ih => rw [List.flatMap_cons, ih]; rfl
theorem boolsAt {W : World} {gn lo m c : Nat} {l : List Bool} (h : W.heap[gn]? = some (cel 4 (bools l))) (hg : lo ≤ gn) (hl : l.length = m) (hm : m ≤ 1000000) : ListAt boolK W (Btw lo W.heap.size) ⟨some ⟨gn, 0, none⟩, m, c⟩ l :=
  ⟨by rw [bools_flat]; exact ReadsP.block h hg (by rw [bools_len, hl]; exact (Nat.mul_one _).symm), by simp only; omega, fun a _ x hx => by cases hx⟩
theorem pick_bd {t : RTk} (ho : RtOk t) {k i0 i : Nat} {s : Sta} {b : List Bool} {best : Bs.Fd} (hk : k + 1 ≤ t.n) (hi0 : i0 = t.n - (k + 1)) (hs : StaOk t.b s) (h : best = pick (fun i => t.one (t.rest k) s i0 b (chc t.m i)) i) : ∀ c p, best = some (c, p) → 0 ≤ c ∧ c ≤ 2000000000000000 := by
  intro c p e
  rw [e] at h
  obtain ⟨j, hj, h1, _⟩ := pick_some h.symm
  obtain ⟨h0, c', p', h2, h3⟩ := one_some h1
  obtain ⟨a1, a2, a3, _⟩ := do_sta ho hs (show i0 < t.outer.length by unfold RTk.n at hi0 hk; omega) h0
  have h4 := rest_bd ho (by omega) a1 h2
  have h5 : (k : Int) ≤ 6 := by have := ho.n6; unfold RTk.n at hk; omega
  cases h3
  omega
theorem LR_key {l D g12 g10 g9 g8 g7 g6 g5 g4 gm : Nat} {r0 : Loop} {o10 o9 o8 : Obj} {q : SV} {best : Bs.Fd} {p : SV} {i0 : Nat} {sq : SV} {s : Sta} {g : Nat} {kvs : List (Value × Value)} {e : Nat × Obj} (he : e ∈ LR l D g12 g10 g9 g8 g7 g6 g5 g4 gm r0 o10 o9 o8 q best p i0 sq s g kvs) : e.1 ∈ KR l D g12 g10 g9 g8 g7 g6 g5 g4 ++ [gm] := by
  have := List.mem_map_of_mem (f := Prod.fst) he
  exact this
theorem LR_in {l D g12 g10 g9 g8 g7 g6 g5 g4 gm : Nat} {r0 : Loop} {o10 o9 o8 : Obj} {q : SV} {best : Bs.Fd} {p : SV} {i0 : Nat} {sq : SV} {s : Sta} {g : Nat} {kvs : List (Value × Value)} {e : Nat × Obj} {gn n0 : Nat} {o : Obj} {ks : List Nat} (hgk : gm ∈ ks) (hgn : n0 ≤ gn) (he : e ∈ (gn, o) :: LR l D g12 g10 g9 g8 g7 g6 g5 g4 gm r0 o10 o9 o8 q best p i0 sq s g kvs) : e.1 ∈ KR l D g12 g10 g9 g8 g7 g6 g5 g4 ++ ks ∨ n0 ≤ e.1 := by
  rcases List.mem_cons.1 he with rfl | he
  · exact .inr hgn
  · left
    rcases List.mem_append.1 (LR_key he) with h | h
    · exact List.mem_append_left _ h
    · rw [List.mem_singleton.1 h]; exact List.mem_append_right _ hgk
/-- what a choice has come to: the world, the plan's slice, the best rest, what is known. -/
def RestJ (t : RTk) (gm : Nat) (ks : List Nat) (kvs : List (Value × Value)) (i0 k : Nat) (s : Sta) (b : List Bool) (w : World) (i : Nat) (z : World × SV × Bs.Fd × List (Value × Value)) : Prop :=
  Kp gm w z.1 ∧ Fam z.1 gm ks [] [hMem t z.2.2.2, hPlan z.2.1 (fdP z.2.2.1)] ∧ (∀ x, x ∈ ks → x < z.1.heap.size) ∧ KeysOk Tryz.prog 145 z.2.2.2 ∧ (∃ new, z.2.2.2 = kvs ++ new ∧ NewK (i0 + 1) new) ∧ z.2.2.1 = pick (fun i => t.one (t.rest k) s i0 b (chc t.m i)) i
set_option maxHeartbeats 16000000 in
theorem rest_0 {t : RTk} {v : RTV} {r : SV} {g gt gm : Nat} (ho : RtOk t) : RestC t v r g gt gm 0 := by
  intro w ks kvs sq p s b hP hT hm hF hgk hks hkeys hs hbl hq hb
  obtain ⟨hlg, hc⟩ := plnCell hP
  have hgne : g ≠ gm := hP.kg.2
  have hgm : gm < w.heap.size := (Array.getElem?_eq_some_iff.1 hm).1
  have lo := hT.outer.len
  obtain ⟨tp, tq, ⟨Ao, no, co⟩, tr, tc, su, pu, ton⟩ := v
  simp only at lo
  subst lo
  have c7 : w.cell? ⟨g, 7, none⟩ = some (.slice Ao t.outer.length co) := hc 7 _ rfl
  have e0 : t.n - 0 = t.outer.length := rfl
  rw [e0]
  simp only [staV, staC, svV]
  refine enterML Tryz.func38 rfl Tryz.ntmps38 rfl (Sys.start1 (Nat.le_refl gm) hm) ?_; simp only [frame, Nat.zero_add, Nat.reduceAdd]
  repeat (first | (refine M0 ?_; first | refine SL ?_ | refine SB fun _ _ => ?_) | (refine M1 ?_; refine SC ?_) | (refine M2 ?_; refine SE ?_))
  rename_i g4 hg4 g5 hg5 g6 hg6 g7 hg7 g8 hg8
  refine XC.scope ?_
  repeat (first | (refine M0 ?_; first | refine SL ?_ | refine SB fun _ _ => ?_ | refine Y4 (Ev.load_far tok rfl rfl hlg ZZNE c7) ?_) | (refine M1 ?_; first | refine SC ?_ | refine SD ?_) | (refine M2 ?_; refine SE ?_) | (refine M3 ?_; first | refine SG ?_ | refine SF ?_ | refine YF (Ev.load_far tok rfl rfl hlg ZZNE c7) ?_) | (refine M4 ?_; refine SR ?_) | (refine M5 ?_; first | exact M7 | refine YM ?_ | refine YN ?_ ?_))
  rw [show decide ((t.outer.length : Int) = (t.outer.length : Int)) = true from decide_eq_true rfl]
  repeat (first | (refine M0 ?_; first | refine SL ?_ | refine SB fun _ _ => ?_) | (refine M1 ?_; refine SC ?_) | (refine M2 ?_; refine SE ?_))
  refine XE.noGoto_ret ?_
  refine XE.retM0 tok Tryz.results38 rfl (by simp only [and_self, and_true]) (fun w' S => ?_)
  have hgg : gm ∈ [gm] := .head _
  refine ⟨_, rfl, ⟨none, 0, 0⟩, [], rfl, ?_, ?_, ?_, fun x hx => by cases hx⟩ <;> rw [List.append_nil]
  · exact S.only (by repeat (first | exact List.mem_cons_self | apply List.mem_cons_of_mem)) ZZHM
  · refine Fam.forget ((hF.sys S ZZHM).hold (x := hPlan ⟨none, 0, 0⟩ []) (ok := Free w' gm ks []) PlanAt.nil (fun j hj => hj)) (fun x hx => ?_)
    rcases List.mem_cons.1 hx with rfl | hx
    · exact .tail _ (.head _)
    · rw [List.mem_singleton.1 hx]; exact .head _
  · exact hkeys
set_option maxHeartbeats 32000000 in
theorem rest_s {t : RTk} {v : RTV} {r : SV} {g gt gm k : Nat} (ho : RtOk t) (hc0 : chkE t.b = 0) (hk : k + 1 ≤ t.n) (IH : RestC t v r g gt gm k) : RestC t v r g gt gm (k + 1) := by
  intro w ks kvs sq p s b hP hT hm hF hgk hks hkeys hs hbl hq hb
  have hP0 := hP
  have hT0 := hT
  obtain ⟨hlg, hc⟩ := plnCell hP
  have hgne : g ≠ gm := hP.kg.2
  have hgg : gm ∈ [gm] := .head _
  have hgm : gm < w.heap.size := (Array.getElem?_eq_some_iff.1 hm).1
  have lo := hT.outer.len
  have hall := hP.all
  obtain ⟨i0, hi0⟩ : ∃ i0, i0 = t.n - (k + 1) := ⟨_, rfl⟩
  have hin : i0 < t.outer.length := by unfold RTk.n at hi0 hk; omega
  have hm4 : t.m ≤ 4 := by have := t.devs_len; unfold RTk.many at this; have := ho.s2; have := ho.p2; unfold RTk.m; omega
  have hpl6 : t.b.pols.length ≤ 6 := ho.ok.m6
  have hf6 : s.fil.length ≤ 6 := by rw [hs.len]; exact hpl6
  have c17 : w.cell? ⟨g, 17, none⟩ = some (.map (some gm)) := hc 17 _ rfl
  have c15 : w.cell? ⟨g, 15, none⟩ = some (.slice r.A r.n r.c) := hc 15 _ rfl
  have c7 : w.cell? ⟨g, 7, none⟩ = some (.slice v.o.A v.o.n v.o.c) := hc 7 _ rfl
  have hpk : ∃ l, keyOf Tryz.prog 145 (.agg ⟨placeC i0 s b⟩) = some l := by
    refine place_key (by have := ho.n6; omega) ?_ (by omega) (fun j => ?_)
    · have := hs.vol; have := (ho.ok.vol 0 (by have := ho.ok.n2; omega)); unfold i64in; omega
    · unfold at0
      rcases Nat.lt_or_ge j s.fil.length with h | h
      · have h1 := hs.fil j (by rw [← hs.len]; exact h)
        have h2 := ho.ok.room j (by rw [← hs.len]; exact h)
        have e : s.f j = s.fil[j]?.getD 0 := rfl
        rw [← e]
        unfold i64in
        omega
      · rw [List.getElem?_eq_none h]
        unfold i64in
        simp
  rw [← hi0]
  simp only [staV, staC, svV]
  refine enterML Tryz.func38 rfl Tryz.ntmps38 rfl (Sys.start1 (Nat.le_refl gm) hm) ?_; simp only [frame, Nat.zero_add, Nat.reduceAdd]
  repeat (first | (refine M0 ?_; first | refine SL ?_ | refine SB fun _ _ => ?_) | (refine M1 ?_; refine SC ?_) | (refine M2 ?_; refine SE ?_))
  rename_i g4 hg4 g5 hg5 g6 hg6 g7 hg7 g8 hg8
  refine XC.scope ?_
  repeat (first | (refine M0 ?_; first | refine SL ?_ | refine SB fun _ _ => ?_ | refine Y4 (Ev.load_far tok rfl rfl hlg ZZNE c7) ?_) | (refine M1 ?_; first | refine SC ?_ | refine SD ?_) | (refine M2 ?_; refine SE ?_) | (refine M3 ?_; first | refine SG ?_ | refine SF ?_ | refine YF (Ev.load_far tok rfl rfl hlg ZZNE c7) ?_) | (refine M4 ?_; refine SR ?_) | (refine M5 ?_; first | exact M7 | refine YM ?_ | refine YN ?_ ?_))
  rw [show decide ((i0 : Int) = (v.o.n : Int)) = false from decide_eq_false (by rw [lo]; omega)]
  repeat (first | (refine M0 ?_; first | refine SL ?_ | refine SB fun _ _ => ?_ | refine Y4 (Ev.call (f := 53) (ck rfl) rfl (fun w5 S5 => place_any (g := g) (i := i0) (s := s) (before := b) (sq := sq) (p := p) ((hq.keep fun j hj => (Kp.refl.sys S5 ZZHM).old j hj).mono (Kp.refl.sys S5 ZZHM).lt) hf6 ((hb.keep fun j hj => (Kp.refl.sys S5 ZZHM).old j hj).mono (Kp.refl.sys S5 ZZHM).lt) (by omega))) ?_) | (refine M1 ?_; refine SC ?_) | (refine M2 ?_; refine SE ?_))
  rename_i g9 hg9
  have hk1 : t.n - i0 = k + 1 := by omega
  refine Or.elim (Classical.em (∃ vv, (Value.agg ⟨placeC i0 s b⟩, vv) ∈ kvs)) (fun hfound => ?_) (fun hnone => ?_)
  · obtain ⟨vv, hv⟩ := hfound
    obtain ⟨q, rfl, hpq⟩ := hMem_find (hF.held (hMem t kvs) (.head _)) hs hpl6 hbl hv
    rw [hk1] at hv hpq
    simp only [tailV, tailC] at hv
    refine XC.cutln [4, 5, 6, 7, 8, 9] rfl (fun g10 : Nat => [(10, .pointer (some ⟨g10, 0, none⟩)), (11, .bool true)]) (fun g10 => [(g10, cel 107 (tailC q (t.rest (k + 1) s b)))]) (fun g10 => w.heap.size ≤ g10) ?_ (fun g10 hg10 => ?_)
    · refine XC.drawR _ [0, 1, 2, 3, 4, 5, 6, 7, 8] [9, 10, 11] mixed (fun _ h => h) rfl (by kernel_rfl) ?_
      repeat (any_goals (first | (refine M0 ?_; first | refine SL ?_ | refine SB fun _ _ => ?_ | refine Y4 (Ev.load_far tok rfl rfl hlg ZZNE c17) ?_ | refine Y4 (Ev.lookupYes 6 (k := .agg ⟨placeC i0 s b⟩) kvs place_law rfl rfl rfl Tryz.underlying86 hkeys hpk hv) ?_) | (refine M1 ?_; refine SC ?_) | (refine M2 ?_; refine SE ?_) | (refine M3 ?_; first | refine SG ?_ | refine SF ?_ | refine YF (Ev.load_far tok rfl rfl hlg ZZNE c17) ?_ | refine YF (Ev.lookupYes 6 (k := .agg ⟨placeC i0 s b⟩) kvs place_law rfl rfl rfl Tryz.underlying86 hkeys hpk hv) ?_) | (refine M4 ?_; refine SR ?_) | (refine M5 ?_; first | exact M7 | refine YM ?_ | refine YN ?_ ?_)))
      any_goals (repeat (first | exact AnyR.nil | refine AnyR.skip rfl ?_))
      all_goals exact XE.leaf _ ZZSUB (fun _ S' => by first | exact S' | exact S'.perm (by repeat (first | exact List.Perm.refl _ | refine perm1 ?_ | refine List.Perm.cons _ ?_ | refine perm2 ?_)) | exact (S'.pop (by assumption)) | exact (S'.pop2 (by assumption))) (by assumption)
    dsimp only [List.cons_append, List.nil_append]
    refine XC.hint 10 7 ?_
    simp only [tailC]
    repeat (first | (refine M0 ?_; first | refine SL ?_ | refine SB fun _ _ => ?_) | (refine M1 ?_; refine SC ?_) | (refine M2 ?_; refine SE ?_))
    refine XE.noGoto_ret ?_
    refine XE.retM0 tok Tryz.results38 rfl (by simp only [and_self, and_true]) (fun w' S => ?_)
    refine ⟨_, rfl, q, [], rfl, ?_, ?_, ?_, fun x hx => by cases hx⟩ <;> rw [List.append_nil]
    · exact S.only (by repeat (first | exact List.mem_cons_self | apply List.mem_cons_of_mem)) ZZHM
    · have F1 := hF.sys S ZZHM
      have F2 := (hF.hold (x := hPlan q (fdP (t.rest (k + 1) s b))) (ok := Free w gm ks []) hpq (fun j hj => hj)).sys S ZZHM
      refine Fam.forget F2 (fun x hx => ?_)
      rcases List.mem_cons.1 hx with rfl | hx
      · exact .tail _ (.head _)
      · rw [List.mem_singleton.1 hx]; exact .head _
    · exact hkeys
  have hnv : ∀ e, e ∈ kvs → e.1 ≠ .agg ⟨placeC i0 s b⟩ := fun e he h => hnone ⟨e.2, by rw [← h]; exact he⟩
  refine XC.cutln [4, 5, 6, 7, 8, 9] rfl (fun g10 : Nat => [(10, .pointer (some ⟨g10, 0, none⟩)), (11, .bool false)]) (fun g10 => [(g10, cel 107 [.bool false, .int .i64 0, .slice none 0 0])]) (fun g10 => w.heap.size ≤ g10) ?_ (fun g10 hg10 => ?_)
  · refine XC.drawR _ [0, 1, 2, 3, 4, 5, 6, 7, 8] [9, 10, 11] mixed (fun _ h => h) rfl (by kernel_rfl) ?_
    repeat (any_goals (first | (refine M0 ?_; first | refine SL ?_ | refine SB fun _ _ => ?_ | refine Y4 (Ev.load_far tok rfl rfl hlg ZZNE c17) ?_ | refine Y4 (Ev.lookupNo tok 6 (k := .agg ⟨placeC i0 s b⟩) kvs place_law rfl rfl rfl Tryz.underlying86 rfl hkeys hpk hnv) ?_) | (refine M1 ?_; refine SC ?_) | (refine M2 ?_; refine SE ?_) | (refine M3 ?_; first | refine SG ?_ | refine SF ?_ | refine YF (Ev.load_far tok rfl rfl hlg ZZNE c17) ?_ | refine YF (Ev.lookupNo tok 6 (k := .agg ⟨placeC i0 s b⟩) kvs place_law rfl rfl rfl Tryz.underlying86 rfl hkeys hpk hnv) ?_) | (refine M4 ?_; refine SR ?_) | (refine M5 ?_; first | exact M7 | refine YM ?_ | refine YN ?_ ?_)))
    any_goals (repeat (first | exact AnyR.nil | refine AnyR.skip rfl ?_))
    all_goals exact XE.leaf _ ZZSUB (fun _ S' => by first | exact S' | exact S'.perm (by repeat (first | exact List.Perm.refl _ | refine perm1 ?_ | refine List.Perm.cons _ ?_ | refine perm2 ?_)) | exact (S'.pop (by assumption)) | exact (S'.pop2 (by assumption))) (by assumption)
  dsimp only [List.cons_append, List.nil_append]
  refine XC.hint 10 7 ?_
  repeat (first | (refine M0 ?_; first | refine SL ?_ | refine SB fun _ _ => ?_) | (refine M1 ?_; refine SC ?_) | (refine M2 ?_; refine SE ?_))
  rename_i g12 hg12
  refine XC.label ?_
  repeat (first | (refine M0 ?_; first | refine SL ?_ | refine SB fun _ _ => ?_) | (refine M1 ?_; refine SC ?_) | (refine M2 ?_; refine SE ?_))
  refine XL.callr (fst := []) (cap := []) (fun w1 x w2 => ∃ gp, x = .func (.func 45) #[] #[.pointer (some ⟨gp, 0, none⟩)] ∧ Sys w1.heap.size w1 [(gp, cel 77 [.pointer (some ⟨g, 0, none⟩)])] w2) (ck rfl) rfl rfl rfl (fun w1 S1 => choices_any (g := g) (w := w1)) (fun w1 x w2 S1 hR => ?_)
  obtain ⟨gp, rfl, S2⟩ := hR
  refine ⟨_, w2, (S1.join S2 (List.Sublist.refl _)).rebase (List.sublist_cons_self _ _), ?_⟩
  have K2 : Kp gm w w2 := (Kp.refl.sys S1 ZZHM).made S2.toBelow (Nat.le_trans (Nat.le_of_lt hgm) S1.size)
  have hgp0 : w.heap.size ≤ gp := Nat.le_trans S1.size (S2.own _ (.head _)).1
  have hgpL : ∀ e, e ∈ [(g12, (0 : Nat)), (g10, 0), (g9, 0), (g8, 0), (g7, 0), (g6, 0), (g5, 0), (g4, 0), (gm, 0)] → e.1 < gp := by
    have h1 := (S2.own _ (.head _)).1
    have h2 := S1.keyLt
    intro e he
    have h3 := h2 e.1 (by simp only [List.mem_cons, List.not_mem_nil, or_false] at he; rcases he with rfl | rfl | rfl | rfl | rfl | rfl | rfl | rfl | rfl <;> simp)
    omega
  have hgpc : w2.cell? ⟨gp, 0, none⟩ = some (.pointer (some ⟨g, 0, none⟩)) := by
    have := (S2.own _ (.head _)).2
    simp [World.cell?, this]
  have hgpl : gp < w2.heap.size := S2.lt (.head _)
  have hF2 : Fam w2 gm ([g12, g10, g9, g8, g7, g6, g5, g4] ++ ks) [] [hMem t kvs] := ((hF.call S1 S2.toBelow ZZHM hks (new := []) (fun x hx => by cases hx)).1).add fun k hk => by
    left
    rcases List.mem_append.1 hk with h | h
    · refine List.mem_append_left _ ?_
      simp only [List.mem_cons, List.not_mem_nil, or_false] at h
      rcases h with rfl | rfl | rfl | rfl | rfl | rfl | rfl | rfl <;> simp
    · exact List.mem_append_right _ h
  have hks2 : ∀ x, x ∈ [g12, g10, g9, g8, g7, g6, g5, g4] ++ ks → x < w2.heap.size := fun x hx => by
    rcases List.mem_append.1 hx with h | h
    · have := S1.keyLt x (by simp only [List.mem_cons, List.not_mem_nil, or_false] at h; rcases h with rfl | rfl | rfl | rfl | rfl | rfl | rfl | rfl <;> simp)
      exact Nat.lt_of_lt_of_le this S2.size
    · exact Nat.lt_of_lt_of_le (hks x h) (Nat.le_trans S1.size S2.size)
  clear S1 S2
  repeat (first | (refine M0 ?_; first | refine SL ?_ | refine SB fun _ _ => ?_) | (refine M1 ?_; refine SC ?_) | (refine M2 ?_; refine SE ?_))
  have hKR : ∀ D l, w2.heap.size ≤ D → w2.heap.size ≤ l → ∀ x, x ∈ KR l D g12 g10 g9 g8 g7 g6 g5 g4 → w.heap.size ≤ x := fun D l hD hl x hx => by
    have := K2.below.size
    simp only [KR, List.mem_cons, List.not_mem_nil, or_false] at hx
    rcases hx with rfl | rfl | rfl | rfl | rfl | rfl | rfl | rfl | rfl | rfl <;> omega
  have hLRw : ∀ D, w2.heap.size ≤ D → ∀ e : Nat × Obj, e.1 ∈ KR (D + 1) D g12 g10 g9 g8 g7 g6 g5 g4 ++ [gm] → e.1 ∈ [gm] ∨ w.heap.size ≤ e.1 := fun D hD e he => by
    rcases List.mem_append.1 he with h | h
    · exact .inr (hKR D (D + 1) hD (by omega) _ h)
    · exact .inl h
  refine XC.rangeFunc (cap := [.pointer (some ⟨gp, 0, none⟩)]) rfl (ck rfl) (fun fn a D w3 hD hf S3 => ?_)
  obtain ⟨o10, ho10⟩ : ∃ o10, o10 = cel 107 [.bool false, .int .i64 0, .slice none 0 0] := ⟨_, rfl⟩
  obtain ⟨o9, ho9⟩ : ∃ o9, o9 = cel 145 (placeC i0 s b) := ⟨_, rfl⟩
  have hfS : Fits 109 [] [(4, .pointer (some ⟨g4, 0, none⟩)), (5, .pointer (some ⟨g5, 0, none⟩)), (6, .pointer (some ⟨g6, 0, none⟩)), (12, .pointer (some ⟨g12, 0, none⟩)), (7, .pointer (some ⟨g7, 0, none⟩))] a := Sub.fits ZZSUB hf
  have hn15 : r.n = t.m := hall.len (by decide)
  rw [hn15] at c15
  have K3 : Kp gm w w3 := K2.sys S3 (by
    have := K2.below.size
    intro e he
    repeat (first | (cases he; done) | (rcases List.mem_cons.1 he with rfl | he; · first | (left; assumption) | (right; assumption) | (right; simp only; omega))))
  have hF3 : Fam w3 gm (KR (D + 1) D g12 g10 g9 g8 g7 g6 g5 g4 ++ ks) [] [hMem t kvs, hPlan ⟨none, 0, 0⟩ []] := by
    have h1 := (hF2.hold (x := hPlan ⟨none, 0, 0⟩ []) (ok := Free w2 gm _ []) PlanAt.nil (fun j hj => hj)).add (ks' := KR (D + 1) D g12 g10 g9 g8 g7 g6 g5 g4 ++ ks) fun x hx => by
      simp only [KR, List.cons_append, List.nil_append] at hx
      rcases List.mem_cons.1 hx with rfl | hx
      · right; omega
      rcases List.mem_cons.1 hx with rfl | hx
      · right; omega
      · left; exact hx
    refine Fam.forget (h1.sys S3 ?_) (fun x hx => ?_)
    · intro e he
      left
      have : e.1 ∈ KR (D + 1) D g12 g10 g9 g8 g7 g6 g5 g4 ++ [gm] := List.mem_map.2 ⟨e, he, rfl⟩
      rcases List.mem_append.1 this with h | h
      · exact List.mem_append_left _ h
      · rw [List.mem_singleton.1 h]; exact List.mem_append_right _ hgk
    · rcases List.mem_cons.1 hx with rfl | hx
      · exact .tail _ (.head _)
      · rw [List.mem_singleton.1 hx]; exact .head _
  have hks3 : ∀ x, x ∈ KR (D + 1) D g12 g10 g9 g8 g7 g6 g5 g4 ++ ks → x < w3.heap.size := fun x hx => by
    rcases List.mem_append.1 hx with h | h
    · exact S3.keyLt x (List.mem_append_left [gm] h)
    · exact Nat.lt_of_lt_of_le (hks2 x (List.mem_append_right _ h)) S3.size
  have hfar3 : ∀ x, x < w2.heap.size → (∀ e, e ∈ [(g12, (0 : Nat)), (g10, 0), (g9, 0), (g8, 0), (g7, 0), (g6, 0), (g5, 0), (g4, 0), (gm, 0)] → e.1 < x) → ∀ e : Nat × Obj, e.1 ∈ KR (D + 1) D g12 g10 g9 g8 g7 g6 g5 g4 ++ [gm] → e.1 ≠ x := fun x h1 h2 e he e1 => by
    simp only [KR, List.cons_append, List.nil_append] at he
    rcases List.mem_cons.1 he with h | h
    · omega
    rcases List.mem_cons.1 h with h | h
    · omega
    have := h2 (e.1, 0) (by simpa using h)
    simp only at this
    omega
  have hch := chs_any (B := gm) (l := D + 1) (g := g) (gp := gp) (m := t.m) (c := r.c) (A := r.A) (fun z : World × SV × Bs.Fd × List (Value × Value) => LR (D + 1) D g12 g10 g9 g8 g7 g6 g5 g4 gm (recO fn a.tmps #[44] _ _ D .ready none) o10 o9 (cel 107 [.bool false, .int .i64 0, .slice none 0 0]) z.2.1 z.2.2.1 p i0 sq s g z.2.2.2) (fun z => z.1)
    (RestJ t gm (KR (D + 1) D g12 g10 g9 g8 g7 g6 g5 g4 ++ ks) kvs i0 k s b w) (w3, ⟨none, 0, 0⟩, none, kvs) hm4 (by rw [ho10, ho9]; exact S3.rebase (List.Sublist.refl _)) ⟨K3, hF3, hks3, hkeys, ⟨[], by simp, fun x hx => by cases hx⟩, rfl⟩ ?_ ?_ ?_ ?_ ?_ ?_ ?_
  rotate_left
  · have h := S3.farCell (a := ⟨gp, 0, none⟩) hgpl (fun e he => hfar3 gp hgpl hgpL e (List.mem_map.2 ⟨e, he, rfl⟩))
    exact h.trans hgpc
  · have h : w3.cell? ⟨g, 15, none⟩ = w.cell? ⟨g, 15, none⟩ := by unfold World.cell?; rw [K3.old g ⟨hlg, hgne⟩]
    exact h.trans c15
  · exact Nat.lt_of_lt_of_le hgpl S3.size
  · exact Nat.lt_of_lt_of_le hlg K3.below.size
  · exact fun e he => hfar3 gp hgpl hgpL e (LR_key he)
  · intro e he e1
    rcases hLRw D hD e (LR_key he) with h | h
    · exact hgne (e1.symm.trans (List.mem_singleton.1 h))
    · omega
  · rintro i ⟨zW, zq, zb, zk⟩ gn W hi hJ hgn SW w1 S1
    obtain ⟨j1, j2, j3, j4, ⟨new, j5, j6⟩, j7⟩ := hJ
    simp only at hgn SW S1 j1 j2 j3 j4 j5 j7
    have hon : ListAt boolK W (Btw zW.heap.size W.heap.size) ⟨some ⟨gn, 0, none⟩, t.m, t.m⟩ (chc t.m i) := boolsAt (SW.own _ (.head _)).2 hgn (chc_len _ _) (by omega)
    have hgz : gm ≤ zW.heap.size := Nat.le_trans (Nat.le_of_lt hgm) j1.below.size
    have KW := j1.sys SW fun e he => by
      rcases List.mem_cons.1 he with rfl | he
      · exact .inr (Nat.le_trans j1.below.size hgn)
      · exact hLRw D hD e (LR_key he)
    have FW := (j2.sys SW (fun e he => LR_in hgk hgn he)).hold (x := hList boolK ⟨some ⟨gn, 0, none⟩, t.m, t.m⟩ (chc t.m i)) hon (fun j hj => ⟨Nat.le_trans hgz hj.1, hj.2, fun h => by have := j3 j h; have := hj.1; omega, fun x hx => by cases hx⟩)
    obtain ⟨a1, a2⟩ := rest_round (j := 0) (n := 0) (on := chc t.m i) IH ho hc0 hi0 hk hs hbl (chc_len _ _) hm4 hP0 hT0 hgm hq hb (hKR D (D + 1) hD (by omega)) KW hgk FW (fun x hx => Nat.lt_of_lt_of_le (j3 x hx) SW.size) j4 (pick_bd ho hk hi0 hs j7) rfl rfl hfS S1
    refine ⟨_, _, _, _, a1, a2.mono fun e w' ⟨u, e1, e2, W', q', new', k1, k2, k3, k4, k5, k6⟩ => ⟨u, e1, e2, (W', q', _, zk ++ new'), ⟨k1, k2, k3, k4, ⟨new ++ new', by simp only; rw [j5, List.append_assoc], fun x hx => ?_⟩, ?_⟩, k6⟩⟩
    · rcases List.mem_append.1 hx with h | h
      · exact j6 x h
      · exact k5 x h
    · simp only
      rw [j7]; rfl
  refine hch.mono fun e w4 ⟨v4, e4, z, hJ, S4⟩ => ⟨v4, e4, .inl ?_⟩
  obtain ⟨zW, zq, zb, zk⟩ := z
  obtain ⟨j1, j2, j3, j4, ⟨new, j5, j6⟩, j7⟩ := hJ
  simp only at S4 j1 j2 j3 j4 j5 j7
  refine ⟨_, zW, S4, ?_⟩
  have hzb : zb = t.rest (k + 1) s b := by rw [j7, hi0]; rfl
  subst hzb ho10 ho9
  simp only [staC, tailC, svV, placeC]
  repeat (first | (refine M0 ?_; first | refine SL ?_ | refine SB fun _ _ => ?_) | (refine M1 ?_; refine SC ?_) | (refine M2 ?_; refine SE ?_))
  have hD0 : w.heap.size ≤ D := Nat.le_trans K2.below.size hD
  have hD1 : w.heap.size ≤ D + 1 := by omega
  have c17z : zW.cell? ⟨g, 17, none⟩ = some (.map (some gm)) := by
    have h : zW.cell? ⟨g, 17, none⟩ = w.cell? ⟨g, 17, none⟩ := by unfold World.cell?; rw [j1.old g ⟨hlg, hgne⟩]
    exact h.trans c17
  have hlgz : g < zW.heap.size := Nat.lt_of_lt_of_le hlg j1.below.size
  have hnz : ∀ e, e ∈ zk → e.1 ≠ .agg ⟨placeC i0 s b⟩ := fun e he => by
    rw [j5] at he
    rcases List.mem_append.1 he with h | h
    · exact hnv e h
    · exact j6.ne (Nat.lt_succ_self i0) e h
  refine XC.drawT mixed rfl rfl (by kernel_rfl) ?_
  repeat (first | (refine M0 ?_; first | refine SL ?_ | refine SB fun _ _ => ?_ | refine Y4 (Ev.load_far tok rfl rfl hlgz ZZNE c17z) ?_) | (refine M2 ?_; refine SE ?_) | (refine M3 ?_; first | refine SG ?_ | refine SF ?_ | refine YF (Ev.load_far tok rfl rfl hlgz ZZNE c17z) ?_) | (refine M4 ?_; refine SR ?_) | (refine M5 ?_; first | exact M7 | refine YM ?_ | refine YN ?_ ?_))
  refine XL.updateK 10 (k := .agg ⟨placeC i0 s b⟩) (v := tailV zq (t.rest (k + 1) s b)) zk place_law rfl rfl rfl rfl Tryz.underlying86 j4 hpk hnz rfl ?_
  repeat (first | (refine M0 ?_; first | refine SL ?_ | refine SB fun _ _ => ?_) | (refine M1 ?_; refine SC ?_) | (refine M2 ?_; refine SE ?_))
  refine XE.noGoto_ret ?_
  refine XE.retM (i := 1) tok Tryz.results38 rfl rfl rfl (by simp only [and_self, and_true]) (fun w' S => ?_)
  have hkm : gm ∈ KR (D + 1) D g12 g10 g9 g8 g7 g6 g5 g4 ++ ks := List.mem_append_right _ hgk
  have e9 : kvs ++ (new ++ [(.agg ⟨placeC i0 s b⟩, tailV zq (t.rest (k + 1) s b))]) = zk ++ [(.agg ⟨placeC i0 s b⟩, tailV zq (t.rest (k + 1) s b))] := by rw [j5, List.append_assoc]
  have F9 := j2.sys S (fun e he => by
    left
    have : e.1 ∈ KR (D + 1) D g12 g10 g9 g8 g7 g6 g5 g4 ++ [gm] := List.mem_map.2 ⟨e, he, rfl⟩
    rcases List.mem_append.1 this with h | h
    · exact List.mem_append_left _ h
    · rw [List.mem_singleton.1 h]; exact hkm)
  have hin' : i0 < t.n := hin
  have hp9 := F9.held (hPlan zq (fdP (t.rest (k + 1) s b))) (.tail _ (.head _))
  have F10 := F9.hold (x := hMem t (zk ++ [(.agg ⟨placeC i0 s b⟩, tailV zq (t.rest (t.n - i0) s b))])) (ok := Free w' gm _ []) (hMem_push (F9.held (hMem t zk) (.head _)) hs hbl hin' (by rw [hk1]; exact hp9)) (fun j hj => hj)
  rw [hk1] at F10
  refine ⟨_, rfl, zq, new ++ [(.agg ⟨placeC i0 s b⟩, tailV zq (t.rest (k + 1) s b))], rfl, ?_, ?_, ?_, ?_⟩
  · rw [e9]
    exact j1.end_ S (by repeat (first | exact List.mem_cons_self | apply List.mem_cons_of_mem)) ZZHM (Nat.le_of_lt hgm)
  · rw [e9]
    refine Fam.forget (F10.add (ks' := ks) fun x hx => .inl (List.mem_append_right _ hx)) (fun x hx => ?_)
    rcases List.mem_cons.1 hx with rfl | hx
    · exact .head _
    · rw [List.mem_singleton.1 hx]; exact .tail _ (.tail _ (.head _))
  · rw [e9]
    exact j4.push hpk hnz
  · intro x hx
    rcases List.mem_append.1 hx with h | h
    · obtain ⟨j, s', b', h1, h2⟩ := j6 x h
      exact ⟨j, s', b', h1, by omega⟩
    · rw [List.mem_singleton.1 h]
      exact ⟨i0, s, b, rfl, Nat.le_of_eq hi0.symm⟩
/-- rest, whatever is known. -/
theorem rest_any {t : RTk} {v : RTV} {r : SV} {g gt gm : Nat} (ho : RtOk t) (hc0 : chkE t.b = 0) : ∀ k, k ≤ t.n → RestC t v r g gt gm k := by
  intro k
  induction k with
  | zero => intro _; exact rest_0 ho
  | succ k ih => intro hk; exact rest_s ho hc0 hk (ih (by omega))
end Go.Proofs.YtmckmlmfilmiaaaGreatDoor.X
/-
  The walk of Best (runoff).
-/
namespace Go.Proofs.YtmckmlmfilmiaaaGreatDoor.Bs
open Go.Proofs.YtmckmlmfilmiaaaGreatDoor.X
/-- what Best finds. -/
noncomputable def bst (t : RTk) : Fd := if rtE t = 0 then t.rest t.n t.s t.on else none
noncomputable def bstE (t : RTk) : Int := if rtE t = 0 then (if (t.rest t.n t.s t.on).isSome = true then 0 else 9) else rtE t
end Go.Proofs.YtmckmlmfilmiaaaGreatDoor.Bs
namespace Go.Proofs.YtmckmlmfilmiaaaGreatDoor.X
open Go Go.RowKit Go.Proofs.YtmckmlmfilmiaaaGreatDoor.Bs
set_option linter.unusedVariables false
def BestV (t : RTk) (x : Value) (new : List Held) : Prop := ∃ q : SV, x = .tuple ⟨[svV q, .int .i64 (fdC (bst t)), .int .i64 (bstE t)]⟩ ∧ new = [hPlan q (fdP (bst t))]
section
variable {B b gm : Nat} {w0 w1 w2 : World} {L : Lo} {o : Obj}
/-- behind a call that changed gm alone. -/
theorem Sys.after1 (S : Sys B w0 L w1) (S2 : Sys b w1 [(gm, o)] w2) (hn : ∀ e, e ∈ L → e.1 ≠ gm) : Sys B w2 L w2 :=
  ⟨rfl, rfl, rfl, Nat.le_refl _, Nat.le_trans S.base (Nat.le_trans S.size S2.size), fun _ _ _ => rfl, fun e he => ⟨(S.own e he).1, (S2.old e.1 (S.lt he) fun x hx h => hn e he (by rw [List.mem_singleton.1 hx] at h; exact h.symm)).trans (S.own e he).2⟩, S.nd⟩
theorem below_after1 {w : World} (hB : Below w.heap.size w w1) (S2 : Sys b w1 [(gm, o)] w2) (hg : w.heap.size ≤ gm) : Below w.heap.size w w2 :=
  hB.trans ⟨S2.os, S2.tape, S2.output, S2.size, fun k hk => S2.old k (Nat.lt_of_lt_of_le hk hB.size) fun x hx h => by rw [List.mem_singleton.1 hx] at h; simp only at h; omega⟩
end
/-- a planner that was just begun can plan. -/
theorem rest_first {v : RTV} {t : RTk} {w w1 : World} {g gt gm : Nat} {r : SV} {ok : Nat → Prop} (ht : TskAt w w.heap.size v t) (hB : Below w.heap.size w w1) (hp : Pln0 w1 ok g gt gm v r t) (hok : ∀ k, ok k → w.heap.size ≤ k ∧ k < w1.heap.size) (h0 : rtE t = 0) {ks : List Nat} (hgk : gm ∈ ks) (hks : ∀ k, k ∈ ks → k < w1.heap.size) :
    Calls Tryz.prog 38 #[.pointer (some ⟨g, 0, none⟩), staV v.q t.s, .int .i64 0, svV v.on] w1 fun e w' => ∃ vv, e = .returned vv ∧ RestR t gm t.n ks [] t.s t.on w1 vv w' := by
  have ho := rtOk_of h0
  have hg := hok gm hp.km
  have e0 : ((t.n - t.n : Nat) : Int) = 0 := by rw [Nat.sub_self]; rfl
  have hlt : ∀ k, Lt w.heap.size k → Ng' gm w1 k := fun k hk => ⟨Nat.lt_of_lt_of_le hk hB.size, fun e => by have hk' : k < w.heap.size := hk; omega⟩
  have h := rest_any (v := v) (r := r) (g := g) (gt := gt) (gm := gm) ho (chk_rt h0) t.n (Nat.le_refl _) (w := w1) (ks := ks) (kvs := []) (sq := v.q) (p := v.on) (s := t.s) (b := t.on) (hp.p.mono fun k hk => ⟨(hok k hk.1).2, hk.2⟩) ((ht.below hB).more hg.1) hp.hm
    ((Fam.start (Nat.le_of_lt hg.2)).hold (x := hMem t []) (ok := Free w1 gm ks []) hMem_nil (fun j hj => hj)) hgk hks KeysOk.nil ho.sta ho.on ((ht.fil.keep fun k hk => hB.block k hk).mono hlt) ((ht.on.keep fun k hk => hB.block k hk).mono hlt)
  rw [e0] at h
  exact h
set_option maxHeartbeats 8000000 in
theorem Best_made {v : RTV} {t : RTk} {w : World} (ht : TskAt w w.heap.size v t) (hn : t.slu.length + t.pmp.length ≤ 5000000) :
    Calls Tryz.prog 18 #[tskV v t] w (Made w (BestV t)) := by
  have hbeg := fun (w5 : World) (hB : Below w.heap.size w w5) => begin_made (v := v) (t := t) (w := w5) (ht.sys (Sys.ofBelow hB)) hn
  have hrest := fun (w1 : World) {g gt gm : Nat} {r : SV} {ok : Nat → Prop} (hB : Below w.heap.size w w1) (hp : Pln0 w1 ok g gt gm v r t) (hok : ∀ k, ok k → w.heap.size ≤ k ∧ k < w1.heap.size) (h0 : rtE t = 0) {ks : List Nat} (hgk : gm ∈ ks) (hks : ∀ k, k ∈ ks → k < w1.heap.size) => rest_first ht hB hp hok h0 hgk hks
  simp only [tskV, tskC, svV, staV, staC] at hbeg hrest ⊢
  refine enter Tryz.func18 rfl Tryz.ntmps18 rfl ?_; simp only [frame, Nat.zero_add, Nat.reduceAdd]
  repeat (first | (refine M0 ?_; first | refine SL ?_ | refine SB fun _ _ => ?_) | (refine M1 ?_; refine SC ?_) | (refine M2 ?_; refine SE ?_))
  rename_i g1 hg1
  refine XL.rebase (List.Sublist.refl _) (fun W0 S0 => ?_)
  refine XL.callF (ks := [g1]) (rs := []) (hs := []) (b0 := w.heap.size) (wE := w) (BegV _ t) (ck rfl) rfl rfl (Fam.start S0.size) (fun k hk => S0.keyLt k hk) S0.toBelow (fun w1 S1 _ hB1 => hbeg w1 hB1) (fun w2 x new hR hF2 hB2 hk2 => ?_) ZZHL
  rcases hR with ⟨h0, rfl, rfl⟩ | ⟨h0, g, gt, gm, r, rfl, rfl⟩
  · repeat (first | (refine M0 ?_; first | refine SL ?_ | refine SB fun _ _ => ?_) | (refine M1 ?_; refine SC ?_) | (refine M2 ?_; refine SE ?_))
    refine XC.cond _ rfl (fun h1 => ?_) (fun h1 => ?_)
    · repeat (first | (refine M0 ?_; first | refine SL ?_ | refine SB fun _ _ => ?_) | (refine M1 ?_; refine SC ?_) | (refine M2 ?_; refine SE ?_))
      refine XE.retg tok Tryz.results18 rfl (by simp only [and_self, and_true]) (fun w' S => ?_)
      have e1 : bst t = none := by unfold bst; rw [if_neg h0]
      have e2 : bstE t = rtE t := by unfold bstE; rw [if_neg h0]
      rw [← e2]
      refine ⟨_, _, rfl, ⟨⟨none, 0, 0⟩, by rw [e1]; rfl, rfl⟩, fun x hx => ?_, hB2.trans S.toBelow⟩
      rw [List.mem_singleton.1 hx, e1]
      exact PlanAt.nil
    · exact absurd (by simpa using h1) h0
  repeat (first | (refine M0 ?_; first | refine SL ?_ | refine SB fun _ _ => ?_) | (refine M1 ?_; refine SC ?_) | (refine M2 ?_; refine SE ?_))
  have ho := rtOk_of h0
  refine XL.callr (fst := []) (cap := []) (fun w3 x w4 => g1 ≠ gm ∧ w.heap.size ≤ gm ∧ RestR t gm t.n [gm, g1] [] t.s t.on w3 x w4) (ck rfl) rfl rfl rfl (fun w3 S3 => ?_) (fun w3 x w4 S3 hR => ?_)
  · have F3 := hF2.sys S3 ZZHL
    have hp3 : Pln0 w3 _ g gt gm _ r t := F3.held (hPln g gt gm _ r t) (.head _)
    have hne : g1 ≠ gm := fun e => hp3.km.2.2.1 (by rw [← e]; simp)
    refine (hrest w3 (hB2.trans S3.toBelow) hp3 (fun k hk => ⟨hk.1, hk.2.1⟩) h0 (ks := [gm, g1]) (.head _) (fun k hk => ?_)).mono fun e w' ⟨vv, e1, e2⟩ => ⟨vv, e1, hne, hp3.km.1, e2⟩
    rcases List.mem_cons.1 hk with rfl | hk
    · exact hp3.km.2.1
    · rw [List.mem_singleton.1 hk]; exact S3.lt (e := (g1, _)) (.head _)
  obtain ⟨hne, hgm, q, nw, rfl, S4, F4, _, _⟩ := hR
  refine ⟨_, w4, S3.after1 S4 (fun e he => by rw [List.mem_singleton.1 he]; exact hne), ?_⟩
  have B4 := below_after1 (hB2.trans S3.toBelow) S4 hgm
  have P4 : PlanAt w4 _ q _ := F4.held (hPlan q _) (.tail _ (.head _))
  have hgm4 : gm < w4.heap.size := Nat.lt_of_lt_of_le (S4.lt (.head _)) (Nat.le_refl _)
  clear F4 S4 S3 hF2 S0
  obtain ⟨fd, hfd⟩ : ∃ fd, fd = t.rest t.n t.s t.on := ⟨_, rfl⟩
  rw [← hfd] at P4
  rw [← hfd]
  have e1 : bst t = fd := by unfold bst; rw [if_pos h0, hfd]
  have e2 : bstE t = if fd.isSome = true then 0 else 9 := by unfold bstE; rw [if_pos h0, hfd]
  obtain ⟨ms, hms⟩ : ∃ ms, ms = fd.isSome := ⟨_, rfl⟩
  rw [← hms] at e2
  simp only [tailV, tailC]
  rw [← hms]
  cases ms
  · repeat (first | (refine M0 ?_; first | refine SL ?_ | refine SB fun _ _ => ?_) | (refine M1 ?_; first | refine SC ?_ | refine SD ?_) | (refine M2 ?_; refine SE ?_) | (refine M3 ?_; first | refine SG ?_ | refine SF ?_) | (refine M4 ?_; refine SR ?_) | (refine M5 ?_; first | exact M7 | refine YM ?_ | refine YN ?_ ?_))
    refine XE.retg tok Tryz.results18 rfl (by simp only [and_self, and_true]) (fun w' S => ?_)
    have e3 : fd = none := isSome_f hms.symm
    rw [e3] at e1
    refine ⟨_, _, rfl, ⟨⟨none, 0, 0⟩, by rw [e1, e2]; rfl, rfl⟩, fun x hx => ?_, B4.trans S.toBelow⟩
    rw [List.mem_singleton.1 hx, e1]
    exact PlanAt.nil
  · repeat (first | (refine M0 ?_; first | refine SL ?_ | refine SB fun _ _ => ?_) | (refine M1 ?_; first | refine SC ?_ | refine SD ?_) | (refine M2 ?_; refine SE ?_) | (refine M3 ?_; first | refine SG ?_ | refine SF ?_) | (refine M4 ?_; refine SR ?_) | (refine M5 ?_; first | exact M7 | refine YM ?_ | refine YN ?_ ?_))
    refine XE.retg tok Tryz.results18 rfl (by simp only [and_self, and_true]) (fun w' S => ?_)
    refine ⟨_, _, rfl, ⟨q, by rw [e1, e2]; rfl, rfl⟩, fun x hx => ?_, B4.trans S.toBelow⟩
    rw [List.mem_singleton.1 hx, e1]
    refine PlanAt.mono (P4.keep fun j hj => S.old j hj.2.1 fun e he e1 => ?_) (fun j hj => ⟨Nat.le_trans hgm hj.1, Nat.lt_of_lt_of_le hj.2.1 S.size⟩)
    rcases List.mem_cons.1 he with rfl | he
    · simp only at e1; have := hj.2.1; omega
    · rw [List.mem_singleton.1 he] at e1
      exact hj.2.2.1 (by rw [← e1]; simp)
end Go.Proofs.YtmckmlmfilmiaaaGreatDoor.X
