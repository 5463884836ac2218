/-
  A walk by lemmas (5): a run of simple operations reckoned out at once.
-/
import Derived.Test.YtoiepgcjinccpaaDoorEng4
namespace Go.Proofs.YtoiepgcjinccpaaDoor.X
open Go Go.RowKit
set_option linter.unusedVariables false

/-- a hint: the slot t points into the block that stands at place i of L, counted from L's end. -/
def hintOf (F : Fr) : Operand → Option Nat
  | .tmp t => match lk F (1000000 + t) with
    | some (.slice _ i _) => some i
    | _ => none
  | _ => none
def insF (d : Nat) (v : Value) (h : Option Nat) (F : Fr) : Fr :=
  match h with
  | some i => (1000000 + d, .slice none i 0) :: (d, v) :: F
  | none => match lk F (1000000 + d) with
    | some (.slice _ _ _) => (1000000 + d, .tuple #[]) :: (d, v) :: F
    | _ => (d, v) :: F
/-- the same, forced. -/
def insO (d : Nat) (v : Value) (h : Option Nat) (F : Fr) : Option Fr :=
  match h with
  | some i => some ((1000000 + d, .slice none i 0) :: (d, v) :: F)
  | none => match lk F (1000000 + d) with
    | some (.slice _ _ _) => some ((1000000 + d, .tuple #[]) :: (d, v) :: F)
    | _ => some ((d, v) :: F)
theorem insO_spec {d : Nat} {v : Value} {h : Option Nat} {F G : Fr} (e : insO d v h F = some G) : G = insF d v h F := by
  unfold insO at e
  unfold insF
  split at e
  · exact (Option.some.inj e).symm
  · split at e
    · exact (Option.some.inj e).symm
    · exact (Option.some.inj e).symm
/-- the entry at place i from the end, and its place from the front. -/
def fromEnd (L : Lo) (i : Nat) : Option (Nat × Nat × Obj) :=
  match L[Nat.sub L.length (Nat.succ i)]? with
  | some e => some (Nat.sub L.length (Nat.succ i), e)
  | none => none
def kEq : IntKind → IntKind → Bool
  | .i8, .i8 | .i16, .i16 | .i32, .i32 | .i64, .i64 | .u8, .u8 | .u16, .u16 | .u32, .u32 | .u64, .u64 => true
  | _, _ => false
theorem kEq_eq {k j : IntKind} (h : kEq k j = true) : k = j := by cases k <;> cases j <;> first | rfl | cases h

abbrev Res := Value × Option Nat × Prop
def r2 (F : Fr) (x y : Operand) (f : IntKind → Int → Int → Option Res) : Option Res :=
  match evo F x with
  | some (.int k m) => match evo F y with
    | some (.int j n) => match kEq k j with
      | true => f k m n
      | false => none
    | _ => none
  | _ => none
def bin (op : BinOp) (k : IntKind) (m n : Int) : Option Res :=
  match op with
  | .lss => some (.bool (decide (m < n)), none, True)
  | .leq => some (.bool (decide (m ≤ n)), none, True)
  | .gtr => some (.bool (decide (n < m)), none, True)
  | .geq => some (.bool (decide (n ≤ m)), none, True)
  | .eql => some (.bool (decide (m = n)), none, True)
  | .neq => some (.bool (decide (m ≠ n)), none, True)
  | .add => match k with
    | .i64 => some (.int .i64 (m + n), none, i64in (m + n))
    | _ => none
  | .sub => match k with
    | .i64 => some (.int .i64 (m - n), none, i64in (m - n))
    | _ => none
  | .mul => match k with
    | .i64 => some (.int .i64 (m * n), none, i64in (m * n))
    | _ => none
  | .quo => match k with
    | .i64 => some (.int .i64 (m.tdiv n), none, 1 ≤ n ∧ i64in m)
    | _ => none
  | .rem => some (.int k (m.tmod n), none, n ≠ 0)
  | _ => none
/-- a field's offset (its number of cells is not 0). -/
def offOf (T : TT) (s i : Nat) : Option Nat :=
  match lkG T.fld s with
  | some l => match l[i]? with
    | some (k, Nat.succ _, _) => some k
    | _ => none
  | none => none
def fieldV (T : TT) (s i : Nat) (cs : List Value) : Option Value :=
  match lkG T.fld s with
  | some l => match l[i]? with
    | some (k, _, ft) => match lkG T.one ft with
      | some () => cs[k]?
      | none => match lkG T.agg ft with
        | some m => match sliceN cs k m with
          | some vs => some (.agg ⟨vs⟩)
          | none => none
        | none => none
    | none => none
  | none => none
def loadV (T : TT) (t : Nat) (cs : List Value) (o : Nat) : Option Value :=
  match lkG T.one t with
  | some () => cs[o]?
  | none => match lkG T.agg t with
    | some m => match sliceN cs o m with
      | some vs => some (.agg ⟨vs⟩)
      | none => none
    | none => none

def evalOp (T : TT) (L : Lo) (F : Fr) : Op → Option Res
  | .move x => match evo F x with
    | some v => some (v, hintOf F x, True)
    | none => none
  | .assign x => match evo F x with
    | some v => some (v, hintOf F x, True)
    | none => none
  | .fieldAddr s x i => match offOf T s i with
    | some k => match hintOf F x with
      | some h => match evo F x with
        | some (.pointer (some ⟨g, o, none⟩)) => some (.pointer (some ⟨g, Nat.add o k, none⟩), some h, True)
        | _ => none
      | none => match evo F x with
        | some (.pointer (some a)) => some (.pointer (some (a.add k)), none, True)
        | _ => none
    | none => none
  | .field s x i => match evo F x with
    | some (.agg ⟨cs⟩) => match fieldV T s i cs with
      | some v => some (v, none, True)
      | none => none
    | _ => none
  | .load t x => match hintOf F x with
    | some h => match fromEnd L h with
      | some (_, g', .cells ⟨cs⟩ _ (0, 0)) => match evo F x with
        | some (.pointer (some ⟨g, o, none⟩)) => match loadV T t cs o with
          | some v => some (v, none, g' = g)
          | none => none
        | _ => none
      | _ => none
    | none => none
  | .binOp op _ x y _ => r2 F x y (bin op)
  | .unOp .not _ x => match evo F x with
    | some (.bool b) => some (.bool !b, none, True)
    | _ => none
  | .unOp .neg _ x => match evo F x with
    | some (.int .i64 m) => some (.int .i64 (-m), none, i64in (-m))
    | _ => none
  | .extract x i => match evo F x with
    | some (.tuple ⟨vs⟩) => match vs[i]? with
      | some v => some (v, none, True)
      | none => none
    | _ => none
  | .indexAddr t x i => match lkG T.sl t with
    | some (_, es) => match evo F x with
      | some (.slice (some a) n _) => match evo F i with
        | some (.int _ j) => some (.pointer (some (a.add (j.toNat * es))), none, 0 ≤ j ∧ j < (n : Int))
        | _ => none
      | _ => none
    | none => none
  | .call { callee := .builtin .len, args := ⟨[x]⟩, argTypes := ⟨[t]⟩ } => match lkG T.sl t with
    | some _ => match evo F x with
      | some (.slice _ n _) => some (.int .i64 (n : Int), none, True)
      | _ => none
    | none => none
  | .call { callee := .builtin .min, args := ⟨[x, y]⟩, argTypes := _ } => r2 F x y fun k m n => some (.int k (min m n), none, True)
  | .call { callee := .builtin .max, args := ⟨[x, y]⟩, argTypes := _ } => r2 F x y fun k m n => some (.int k (max m n), none, True)
  | .nilCheck x => match evo F x with
    | some (.pointer (some a)) => some (.pointer (some a), hintOf F x, True)
    | _ => none
  | _ => none

def runOps (T : TT) (N : Nat) (L : Lo) : List Oper → Fr → Prop → Option (List Oper × Fr × Prop)
  | [], F, C => some ([], F, C)
  | o :: rest, F, C =>
    match o with
    | { dst := some d, op := op, type := _, pos := _, after := _, guard := none } => match Nat.blt d N with
      | true => match evalOp T L F op with
        | some (v, h, c) => match insO d v h F with
          | some G => runOps T N L rest G (c ∧ C)
          | none => some (o :: rest, F, C)
        | none => some (o :: rest, F, C)
      | false => some (o :: rest, F, C)
    | _ => some (o :: rest, F, C)
/-- at least one operation. -/
def run1 (T : TT) (N : Nat) (L : Lo) : List Oper → Fr → Option (List Oper × Fr × Prop)
  | [], _ => none
  | o :: rest, F =>
    match o with
    | { dst := some d, op := op, type := _, pos := _, after := _, guard := none } => match Nat.blt d N with
      | true => match evalOp T L F op with
        | some (v, h, c) => match insO d v h F with
          | some G' => runOps T N L rest G' (c ∧ True)
          | none => none
        | none => none
      | false => none
    | _ => none

section
variable {P : Program} {T : TT} {N : Nat} {B : Nat} {w0 : World} {ds : List Deferred} {Q : Exit → Act → World → Prop} {F : Fr} {L : Lo} {pu : Prop} {KK : Fr → Prop}
variable {ty : TypeId} {p : String} {af : Array Edge}

theorem r2_some {x y : Operand} {f : IntKind → Int → Int → Option Res} {r : Res} (h : r2 F x y f = some r) : ∃ k m n, evo F x = some (.int k m) ∧ evo F y = some (.int k n) ∧ f k m n = some r := by
  unfold r2 at h
  split at h
  · rename_i k m hx
    split at h
    · rename_i j n hy
      cases hk : kEq k j with
      | true => rw [hk] at h; have := kEq_eq hk; subst this; exact ⟨k, m, n, hx, hy, h⟩
      | false => rw [hk] at h; cases h
    · cases h
  · cases h
theorem fromEnd_some {i p : Nat} {e : Nat × Obj} (h : fromEnd L i = some (p, e)) : L[p]? = some e := by
  unfold fromEnd at h
  split at h
  · rename_i e' he
    have := Option.some.inj h
    simp only [Prod.mk.injEq] at this
    rw [← this.1, ← this.2]; exact he
  · cases h
theorem offOf_some {s i k : Nat} (h : offOf T s i = some k) : ∃ l n ft, lkG T.fld s = some l ∧ l[i]? = some (k, n + 1, ft) := by
  unfold offOf at h
  split at h
  · rename_i l hl
    split at h
    · rename_i k' n ft he
      have := Option.some.inj h
      subst this
      exact ⟨l, n, ft, hl, he⟩
    · cases h
  · cases h

theorem evalOp_ok (hT : TOK P T) {dst : Option Tmp} {op : Op} {ty : TypeId} {p : String} {af : Array Edge} {gd : Option (Nat × Bool)} {v : Value} {h : Option Nat} {c : Prop}
    (he : evalOp T L F op = some (v, h, c)) (hc : c) : Ev P N B w0 ds pu F L ⟨dst, op, ty, p, af, gd⟩ v := by
  unfold evalOp at he
  split at he
  · split at he
    · rename_i hx; cases he; exact Ev.move hx
    · cases he
  · split at he
    · rename_i hx; cases he; exact Ev.assign hx
    · cases he
  · split at he
    · rename_i ho
      obtain ⟨l, n, ft, h1, h2⟩ := offOf_some ho
      split at he
      · split at he
        · rename_i hx; cases he; exact Ev.fieldAddr_loc hT hx h1 h2
        · cases he
      · split at he
        · rename_i hx; cases he; exact Ev.fieldAddr hT hx h1 h2
        · cases he
    · cases he
  · split at he
    · rename_i cs hx
      split at he
      · rename_i u hv
        cases he
        unfold fieldV at hv
        split at hv
        · rename_i l hl
          split at hv
          · rename_i k n ft hi
            split at hv
            · rename_i h1; exact Ev.field_one hT hx hl hi h1 hv
            · split at hv
              · rename_i h1
                split at hv
                · rename_i hs; cases hv; exact Ev.field_agg hT hx hl hi h1 hs
                · cases hv
              · cases hv
          · cases hv
        · cases hv
      · cases he
    · cases he
  · split at he
    · split at he
      · rename_i hfe
        have hL := fromEnd_some hfe
        split at he
        · rename_i hx
          split at he
          · rename_i hv
            cases he
            subst hc
            unfold loadV at hv
            split at hv
            · rename_i h1; exact Ev.load_loc hT _ hx hL h1 hv
            · split at hv
              · rename_i h1
                split at hv
                · rename_i hs; cases hv; exact Ev.load_loc_agg hT _ hx hL h1 hs
                · cases hv
              · cases hv
          · cases he
        · cases he
      · cases he
    · cases he
  · obtain ⟨k, m, n, hx, hy, hb⟩ := r2_some he
    unfold bin at hb
    split at hb
    · cases hb; exact Ev.lss hx hy
    · cases hb; exact Ev.leq hx hy
    · cases hb; exact Ev.gtr hx hy
    · cases hb; exact Ev.geq hx hy
    · cases hb; exact Ev.eql hx hy
    · cases hb; exact Ev.neq hx hy
    · split at hb
      · cases hb; exact Ev.add hx hy hc
      · cases hb
    · split at hb
      · cases hb; exact Ev.sub hx hy hc
      · cases hb
    · split at hb
      · cases hb; exact Ev.mul hx hy hc
      · cases hb
    · split at hb
      · cases hb; exact Ev.quo hx hy hc.1 hc.2
      · cases hb
    · cases hb; exact Ev.rem hx hy hc
    · cases hb
  · split at he
    · rename_i hx; cases he; exact Ev.not hx
    · cases he
  · split at he
    · rename_i hx; cases he; exact Ev.neg hx hc
    · cases he
  · split at he
    · rename_i hx
      split at he
      · rename_i hv; cases he; exact Ev.extract hx hv
      · cases he
    · cases he
  · split at he
    · rename_i hs
      split at he
      · rename_i hx
        split at he
        · rename_i hi
          cases he
          exact Ev.indexAddr_int hT _ hx hi (Int.toNat_of_nonneg hc.1).symm hs (by have := hc.1; have := hc.2; omega)
        · cases he
      · cases he
    · cases he
  · split at he
    · rename_i hs
      split at he
      · rename_i hx; cases he; exact Ev.len_slice hT hx hs
      · cases he
    · cases he
  · obtain ⟨k, m, n, hx, hy, hb⟩ := r2_some he
    cases hb; exact Ev.min hx hy
  · obtain ⟨k, m, n, hx, hy, hb⟩ := r2_some he
    cases hb; exact Ev.max hx hy
  · split at he
    · rename_i hx; cases he; exact Ev.of_run fun a w hf hw => by simp [execOp, hf.eval hx]
    · cases he
  · cases he

theorem Fits.insF_ {a : Act} {d : Nat} {v : Value} (h : Option Nat) (hf : Fits N ds F a) (hd : Nat.blt d N = true) : Fits N ds (insF d v h F) (a.put (some d) v) := by
  unfold insF
  split
  · exact (hf.put hd).hint d _
  · split
    · exact (hf.put hd).hint d _
    · exact hf.put hd
theorem runOps_C : ∀ (ops : List Oper) (F : Fr) (C : Prop) {r : List Oper} {G : Fr} {C' : Prop}, runOps T N L ops F C = some (r, G, C') → C' → C := by
  intro ops
  induction ops with
  | nil => intro F C r G C' h hc; simp only [runOps, Option.some.injEq, Prod.mk.injEq] at h; rw [h.2.2]; exact hc
  | cons o rest ih =>
    intro F C r G C' h hc
    unfold runOps at h
    split at h
    · split at h
      · split at h
        · split at h
          · exact (ih _ _ h hc).2
          · simp only [Option.some.injEq, Prod.mk.injEq] at h; rw [h.2.2]; exact hc
        · simp only [Option.some.injEq, Prod.mk.injEq] at h; rw [h.2.2]; exact hc
      · simp only [Option.some.injEq, Prod.mk.injEq] at h; rw [h.2.2]; exact hc
    · simp only [Option.some.injEq, Prod.mk.injEq] at h; rw [h.2.2]; exact hc
theorem runOps_XL (hT : TOK P T) {all : Array Oper} : ∀ (ops : List Oper) (F : Fr) (C : Prop) {r : List Oper} {G : Fr} {C' : Prop}, runOps T N L ops F C = some (r, G, C') → C' →
    (∀ a w, Fits N ds G a → Sys B w0 L w → wpList P all Q r a w) → ∀ a w, Fits N ds F a → Sys B w0 L w → wpList P all Q ops a w := by
  intro ops
  induction ops with
  | nil => intro F C r G C' h hc k a w hf hs; simp only [runOps, Option.some.injEq, Prod.mk.injEq] at h; obtain ⟨rfl, rfl, _⟩ := h; exact k a w hf hs
  | cons o rest ih =>
    intro F C r G C' h hc k a w hf hs
    unfold runOps at h
    split at h
    · split at h
      · rename_i hd
        split at h
        · rename_i v hh c he
          split at h
          · rename_i hi
            obtain rfl := insO_spec hi
            have hcc := (runOps_C _ _ _ h hc).1
            refine wpList_plain rfl fun K hK => ((evalOp_ok (pu := True) hT he hcc).run a w hf hs).upon fun w' hb => hK _ _ (ih _ _ h hc k _ _ (Fits.insF_ hh hf hd) (hs.below hb))
          · simp only [Option.some.injEq, Prod.mk.injEq] at h; obtain ⟨rfl, rfl, _⟩ := h; exact k a w hf hs
        · simp only [Option.some.injEq, Prod.mk.injEq] at h; obtain ⟨rfl, rfl, _⟩ := h; exact k a w hf hs
      · simp only [Option.some.injEq, Prod.mk.injEq] at h; obtain ⟨rfl, rfl, _⟩ := h; exact k a w hf hs
    · simp only [Option.some.injEq, Prod.mk.injEq] at h; obtain ⟨rfl, rfl, _⟩ := h; exact k a w hf hs
theorem run1_some {ops r : List Oper} {G : Fr} {C : Prop} (h : run1 T N L ops F = some (r, G, C)) : runOps T N L ops F True = some (r, G, C) := by
  unfold run1 at h
  split at h
  · cases h
  · split at h
    · split at h
      · rename_i hd
        split at h
        · rename_i he
          split at h
          · rename_i hi
            unfold runOps
            simp only [hd, he, hi]
            exact h
          · cases h
        · cases h
      · cases h
    · cases h
theorem XL.run1 (hT : TOK P T) {all : Array Oper} {ops r : List Oper} {G : Fr} {C : Prop} (h : run1 T N L ops F = some (r, G, C)) (hc : C) (k : XL P N B w0 ds Q all r G L) : XL P N B w0 ds Q all ops F L :=
  ⟨runOps_XL hT ops F True (run1_some h) hc k.run⟩
theorem Alike.symm {F G : Fr} (h : Alike F G) : Alike G F := fun t ht => (h t ht).symm
theorem Alike.evo_eq {F G : Fr} (h : Alike F G) (x : Operand) : evo F x = evo G x := by
  cases x with
  | tmp t =>
    simp only [evo]
    cases hb : Nat.blt t 1000000 with
    | true => exact h t (Nat.le_of_ble_eq_true hb)
    | false => rfl
  | _ => rfl
theorem Alike.asked_eq {F G : Fr} (h : Alike F G) (ops : Array Oper) (j : Nat) : asked ops F j = asked ops G j := by
  unfold asked
  split
  · rw [h.evo_eq]
  · rfl
theorem Alike.cons {F G : Fr} (h : Alike F G) (d : Nat) (v : Value) : Alike ((d, v) :: F) ((d, v) :: G) := fun t ht => by
  simp only [lk]
  cases Nat.beq d t with
  | true => rfl
  | false => exact h t ht
theorem Alike.putF_ {F G : Fr} (h : Alike F G) (d : Option Nat) (v : Value) : Alike (putF F d v) (putF G d v) := by
  cases d with
  | none => exact h
  | some d => exact h.cons d v
theorem Alike.insF_ (F : Fr) (d : Nat) (v : Value) (h : Option Nat) : Alike ((d, v) :: F) (insF d v h F) := by
  have key : ∀ (u : Value), Alike ((d, v) :: F) ((1000000 + d, u) :: (d, v) :: F) := fun u t ht => by
    conv => rhs; unfold lk
    rw [show Nat.beq (1000000 + d) t = false from by
      cases hb : Nat.beq (1000000 + d) t with
      | true => have := Nat.eq_of_beq_eq_true hb; omega
      | false => rfl]
  unfold insF
  split
  · exact key _
  · split
    · exact key _
    · exact fun _ _ => rfl
theorem Fw0.alike {all : Array Oper} : ∀ (ops : List Oper) (F G : Fr), Alike F G → Fw0 P N B w0 ds pu all L (fun F' => ∃ G', Alike F' G' ∧ KK G') ops G → Fw0 P N B w0 ds pu all L (fun F' => ∃ G', Alike F' G' ∧ KK G') ops F := by
  intro ops
  induction ops with
  | nil => rintro F G h ⟨G', h1, k⟩; exact ⟨G', fun t ht => (h t ht).trans (h1 t ht), k⟩
  | cons o r ih =>
    rintro F G h ⟨v, ⟨hd, hok⟩, hr⟩
    refine ⟨v, ⟨hd, ?_⟩, ih _ _ (h.putF_ _ _) hr⟩
    have hev : ∀ {o : Oper}, Ev P N B w0 ds pu G L o v → Ev P N B w0 ds pu F L o v := fun e => ⟨fun a w hf hs => e.run a w (h.fits hf) hs⟩
    cases hg : o.guard with
    | none => rw [hg] at hok; exact hev hok
    | some gw =>
      obtain ⟨j, wb⟩ := gw
      rw [hg] at hok
      rcases hok with ⟨c, h1, h2, h3⟩ | ⟨h1, h2⟩
      · exact .inl ⟨c, (h.asked_eq all j).trans h1, fun e => hev (h2 e), h3⟩
      · refine .inr ⟨Eq.trans ?_ h1, h2⟩
        unfold askedU
        split
        · rw [h.evo_eq]
        · rfl
theorem runOps_Fw (hT : TOK P T) {all : Array Oper} : ∀ (ops : List Oper) (F : Fr) (C : Prop) {r : List Oper} {G : Fr} {C' : Prop},
    runOps T N L ops F C = some (r, G, C') → C' → Fw0 P N B w0 ds pu all L (fun F' => ∃ G', Alike F' G' ∧ KK G') r G → Fw0 P N B w0 ds pu all L (fun F' => ∃ G', Alike F' G' ∧ KK G') ops F := by
  intro ops
  induction ops with
  | nil => intro F C r G C' h hc k; simp only [runOps, Option.some.injEq, Prod.mk.injEq] at h; obtain ⟨rfl, rfl, _⟩ := h; exact k
  | cons o rest ih =>
    intro F C r G C' h hc k
    unfold runOps at h
    split at h
    · split at h
      · rename_i hd
        split at h
        · rename_i v hh c he
          split at h
          · rename_i hi
            obtain rfl := insO_spec hi
            have hcc := (runOps_C _ _ _ h hc).1
            have hd' := Nat.le_of_ble_eq_true hd
            refine ⟨v, ⟨fun x hx => by have := Option.some.inj hx; subst this; exact hd', evalOp_ok hT he hcc⟩, ?_⟩
            exact Fw0.alike _ _ _ (Alike.insF_ F _ v hh) (ih _ _ h hc k)
          · simp only [Option.some.injEq, Prod.mk.injEq] at h; obtain ⟨rfl, rfl, _⟩ := h; exact k
        · simp only [Option.some.injEq, Prod.mk.injEq] at h; obtain ⟨rfl, rfl, _⟩ := h; exact k
      · simp only [Option.some.injEq, Prod.mk.injEq] at h; obtain ⟨rfl, rfl, _⟩ := h; exact k
    · simp only [Option.some.injEq, Prod.mk.injEq] at h; obtain ⟨rfl, rfl, _⟩ := h; exact k
theorem Fw.run1 (hT : TOK P T) {all : Array Oper} {ops r : List Oper} {G : Fr} {C : Prop} (h : run1 T N L ops F = some (r, G, C)) (hc : C) (k : Fw P N B w0 ds pu KK all L r G) : Fw P N B w0 ds pu KK all L ops F :=
  ⟨runOps_Fw hT ops F True (run1_some h) hc k.run⟩
/-! ### a store, reckoned -/
def sizeOk (T : TT) (t : Nat) (vs : List Value) : Bool :=
  match lkG T.one t with
  | some _ => match vs with
    | [_] => true
    | _ => false
  | none => match lkG T.agg t with
    | some n => Nat.beq n vs.length
    | none => false
def evalStore (T : TT) (F : Fr) (L : Lo) (t : TypeId) (x y : Operand) : Option (Lo × Prop) :=
  match hintOf F x with
  | some i => match fromEnd L i with
    | some (p, (g', .cells ⟨cs⟩ tg (0, 0))) => match evo F x with
      | some (.pointer (some ⟨g, o, none⟩)) => match evo F y with
        | some v => match cellsO v with
          | some vs => match sizeOk T t vs with
            | true => match vs.all one1 with
              | true => match putN cs o vs with
                | some cs' => match setN L p (g', cel tg cs') with
                  | some L' => some (L', g' = g)
                  | none => none
                | none => none
              | false => none
            | false => none
          | none => none
        | none => none
      | _ => none
    | _ => none
  | none => none
theorem sizeOk_spec {t : Nat} {vs : List Value} (h : sizeOk T t vs = true) : lkG T.one t = some () ∧ vs.length = 1 ∨ lkG T.agg t = some vs.length := by
  unfold sizeOk at h
  split at h
  · rename_i h1
    split at h
    · exact .inl ⟨h1, rfl⟩
    · cases h
  · split at h
    · rename_i n h2
      have := Nat.eq_of_beq_eq_true h
      subst this
      exact .inr h2
    · cases h
theorem XL.store1 (hT : TOK P T) {ops : Array Oper} {rest : List Oper} {t : TypeId} {x y : Operand} {L' : Lo} {C : Prop} (h : evalStore T F L t x y = some (L', C)) (hc : C)
    (k : XL P N B w0 ds Q ops rest F L') : XL P N B w0 ds Q ops ({ dst := none, op := .store t x y, type := ty, pos := p, after := af, guard := none } :: rest) F L := by
  unfold evalStore at h
  split at h
  · split at h
    · rename_i hL
      split at h
      · rename_i hx
        split at h
        · rename_i hy
          split at h
          · rename_i hv
            split at h
            · rename_i hs
              split at h
              · rename_i h1
                split at h
                · rename_i hp
                  split at h
                  · rename_i hl
                    simp only [Option.some.injEq, Prod.mk.injEq] at h
                    obtain ⟨rfl, rfl⟩ := h
                    obtain rfl := hc
                    exact XL.store hT _ hx hy (fromEnd_some hL) hv (sizeOk_spec hs) h1 hp hl k
                  · cases h
                · cases h
              · cases h
            · cases h
          · cases h
        · cases h
      · cases h
    · cases h
  · cases h
/-! ### what kind of goal stands (for the walk's tactic) -/
theorem XL.id {ops : Array Oper} {l : List Oper} (h : XL P N B w0 ds Q ops l F L) : XL P N B w0 ds Q ops l F L := h
theorem XC.id {c : Code} (h : XC P N B w0 ds Q c F L) : XC P N B w0 ds Q c F L := h
theorem XE.id {e : Exit} (h : XE N B w0 ds Q e F L) : XE N B w0 ds Q e F L := h
theorem Fw.id {ops : Array Oper} {l : List Oper} (h : Fw P N B w0 ds pu KK ops L l F) : Fw P N B w0 ds pu KK ops L l F := h
end
end Go.Proofs.YtoiepgcjinccpaaDoor.X
