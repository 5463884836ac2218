/-
  Rows of the call's own that grow, and what else was made in the call: one word for all of it.
-/
import Derived.Test.YtoiepgcjinccpaaDoorPart3
import Derived.Test.YtoiepgcjinccpaaDoorPart1
import Derived.Test.YtoiepgcjinccpaaDoorPart2
import Derived.Laws.StructEq
import Derived.Laws.MakeOwn
import Derived.Deep.Slices
import Derived.WideShapes
import Derived.ChangeArms
import Derived.ChangeOld
set_option linter.unusedVariables false
set_option linter.unusedSimpArgs false
namespace Go.Proofs.YtoiepgcjinccpaaDoor.X
open Go Go.RowKit
set_option linter.unusedVariables false
/-- something in memory, told of some blocks alone. -/
structure Held where
  p : World → (Nat → Prop) → Prop
  keep : ∀ {w w' : World} {ok : Nat → Prop}, p w ok → (∀ k, ok k → w'.heap[k]? = w.heap[k]?) → p w' ok
  mono : ∀ {w : World} {ok ok' : Nat → Prop}, p w ok → (∀ k, ok k → ok' k) → p w ok'
/-- a kind of elements: their type, how many cells they take, which; and what they point to. -/
structure Kind (α : Type) where
  ty : TypeId
  m : Nat
  c : α → List Value
  sl : α → List Held
  len : ∀ a, (c a).length = m
/-- a slice that is read. -/
structure ListAt {α : Type} (K : Kind α) (W : World) (ok : Nat → Prop) (r : SV) (l : List α) : Prop where
  rd : ReadsP W ok K.m r.A r.n (l.flatMap K.c)
  max : r.n ≤ 9223372036854775807
  ins : ∀ a, a ∈ l → ∀ h, h ∈ K.sl a → h.p W ok
section
variable {α : Type} {K : Kind α} {w w' w0 W : World} {ok ok' : Nat → Prop} {B : Nat} {r : SV} {l : List α} {L : Lo}
theorem ListAt.keep (h : ListAt K w ok r l) (hk : ∀ k, ok k → w'.heap[k]? = w.heap[k]?) : ListAt K w' ok r l := ⟨h.rd.keep hk, h.max, fun a ha x hx => x.keep (h.ins a ha x hx) hk⟩
theorem ListAt.mono (h : ListAt K w ok r l) (hk : ∀ k, ok k → ok' k) : ListAt K w ok' r l := ⟨h.rd.mono hk, h.max, fun a ha x hx => x.mono (h.ins a ha x hx) hk⟩
theorem ListAt.sys (h : ListAt K w0 ok r l) (S : Sys B w0 L w) (hk : Keep ok w0 L) : ListAt K w (Lt w.heap.size) r l := (h.keep (hk.sys S)).mono (hk.lt S)
theorem ListAt.arg (h : ListAt K w0 (Lt B) r l) (S : Sys B w0 L w) : ListAt K w (Lt w.heap.size) r l := h.sys S (Keep.arg S)
theorem ListAt.below (h : ListAt K w (Lt B) r l) (hb : Below B w w') : ListAt K w' (Lt B) r l := h.keep fun k hk => hb.block k hk
theorem ListAt.len (h : ListAt K w ok r l) (h0 : 0 < K.m) : r.n = l.length := by
  have := h.rd.len
  rw [flat_len K.c K.m K.len] at this
  exact (Nat.eq_of_mul_eq_mul_right h0 this).symm
theorem ListAt.nil : ListAt K w ok ⟨none, 0, 0⟩ [] := ⟨ReadsP.nil, Nat.zero_le _, fun a ha => by cases ha⟩
/-- an element's cells. -/
theorem ListAt.elem {ad : Addr} {n c : Nat} (h : ListAt K w ok ⟨some ad, n, c⟩ l) {k : Nat} {a : α} (hk : l[k]? = some a) : ∀ j u, (K.c a)[j]? = some u → w.cell? ((ad.add (k * K.m)).add j) = some u := fun j u hj => by
  have hj3 : j < K.m := by have := (List.getElem?_eq_some_iff.1 hj).1; rwa [K.len] at this
  have hn := h.len (by omega)
  have hkl := (List.getElem?_eq_some_iff.1 hk).1
  obtain ⟨ad', e, _, h1⟩ := h.rd.at_ (by simp only at hn ⊢; omega)
  cases e
  have e2 := flat_at K.c K.m K.len l k j a hk hj3
  have := h1 (k * K.m + j) u (e2.trans hj)
  rw [add_add]
  exact this
/-- its block. -/
theorem ListAt.addr {A : Option Addr} {n c : Nat} (h : ListAt K w ok ⟨A, n, c⟩ l) (h0 : 0 < K.m) (hn : 0 < l.length) : ∃ ad, A = some ad ∧ ok ad.block := by
  have := h.len h0
  obtain ⟨ad, e, h1, _⟩ := h.rd.at_ (by simp only at this ⊢; omega)
  exact ⟨ad, e, h1⟩
end
theorem owns_move' {W W' : World} {v : Value} {base e size n : Nat} {xs : List Value} (h : W.ownsRow base e size v n xs) (hk : ∀ k, v.ownBlock = some k → W'.heap[k]? = W.heap[k]?) : W'.ownsRow base e size v n xs := by
  refine ⟨h.1, ?_⟩
  rcases h.2 with h1 | ⟨g, cap, cur, rfl, hb, hg, h1⟩
  · exact .inl h1
  · exact .inr ⟨g, cap, cur, rfl, hb, by rw [hk g rfl]; exact hg, h1⟩
def hList {α : Type} (K : Kind α) (r : SV) (l : List α) : Held := ⟨fun w ok => ListAt K w ok r l, ListAt.keep, ListAt.mono⟩
def hInts (q : SV) (l : List Int) : Held := ⟨fun w ok => IntsAt w ok q l, IntsAt.keep, IntsAt.mono⟩
/-- a row that grows. -/
structure RowX where
  α : Type
  K : Kind α
  v : Value
  l : List α
/-- made in the call, and none of these. -/
def Free (W : World) (b0 : Nat) (ks : List Nat) (rs : List RowX) (j : Nat) : Prop := b0 ≤ j ∧ j < W.heap.size ∧ j ∉ ks ∧ ∀ r, r ∈ rs → r.v.ownBlock ≠ some j
/-- THE ROWS rs AND WHAT ELSE WAS MADE SINCE b0 (hs); ks: blocks that are none of theirs. -/
structure Fam (W : World) (b0 : Nat) (ks : List Nat) (rs : List RowX) (hs : List Held) : Prop where
  base : b0 ≤ W.heap.size
  row : ∀ r, r ∈ rs → W.ownsRow b0 r.K.ty r.K.m r.v r.l.length (r.l.flatMap r.K.c)
  sep : ∀ r, r ∈ rs → ∀ k, r.v.ownBlock = some k → k ∉ ks
  two : rs.Pairwise fun r s => ∀ k, r.v.ownBlock = some k → s.v.ownBlock ≠ some k
  ins : ∀ r, r ∈ rs → ∀ a, a ∈ r.l → ∀ h, h ∈ r.K.sl a → h.p W (Free W b0 ks rs)
  held : ∀ h, h ∈ hs → h.p W (Free W b0 ks rs)
section
variable {W W' w w0 w1 w2 : World} {b0 B : Nat} {ks ks' : List Nat} {rs : List RowX} {hs hs' : List Held} {L : Lo}
theorem Fam.start (h : b0 ≤ W.heap.size) : Fam W b0 ks [] [] := ⟨h, fun _ h => (by cases h), fun _ h => (by cases h), .nil, fun _ h => (by cases h), fun _ h => (by cases h)⟩
theorem Fam.lt (h : Fam W b0 ks rs hs) {r : RowX} (hr : r ∈ rs) {k : Nat} (hk : r.v.ownBlock = some k) : b0 ≤ k ∧ k < W.heap.size := (h.row r hr).lt k hk
theorem Fam.nil {α : Type} (K : Kind α) (h : Fam W b0 ks rs hs) : Fam W b0 ks (⟨α, K, .slice none 0 0, []⟩ :: rs) hs := by
  have hf : ∀ j, Free W b0 ks rs j → Free W b0 ks (⟨α, K, .slice none 0 0, []⟩ :: rs) j := fun j hj => ⟨hj.1, hj.2.1, hj.2.2.1, fun r hr => by
    rcases List.mem_cons.1 hr with rfl | hr
    · simp [Value.ownBlock]
    · exact hj.2.2.2 r hr⟩
  refine ⟨h.base, fun r hr => ?_, fun r hr k hk => ?_, .cons (fun s hs k hk => by cases hk) h.two, fun r hr a ha x hx => ?_, fun x hx => x.mono (h.held x hx) hf⟩
  · rcases List.mem_cons.1 hr with rfl | hr
    · exact World.ownsRow_nil _ _ _ _
    · exact h.row r hr
  · rcases List.mem_cons.1 hr with rfl | hr
    · cases hk
    · exact h.sep r hr k hk
  · rcases List.mem_cons.1 hr with rfl | hr
    · cases ha
    · exact x.mono (h.ins r hr a ha x hx) hf
theorem Fam.hold (h : Fam W b0 ks rs hs) {x : Held} {ok : Nat → Prop} (hx : x.p W ok) (hk : ∀ j, ok j → Free W b0 ks rs j) : Fam W b0 ks rs (x :: hs) :=
  ⟨h.base, h.row, h.sep, h.two, h.ins, fun y hy => by
    rcases List.mem_cons.1 hy with rfl | hy
    · exact y.mono hx hk
    · exact h.held y hy⟩
theorem Fam.forget (h : Fam W b0 ks rs hs) (hh : ∀ x, x ∈ hs' → x ∈ hs) : Fam W b0 ks rs hs' := ⟨h.base, h.row, h.sep, h.two, h.ins, fun y hy => h.held y (hh y hy)⟩
/-- the own blocks may be others. -/
theorem Fam.add (h : Fam W b0 ks rs hs) (hk : ∀ k, k ∈ ks' → k ∈ ks ∨ W.heap.size ≤ k) : Fam W b0 ks' rs hs := by
  have hf : ∀ j, Free W b0 ks rs j → Free W b0 ks' rs j := fun j hj => ⟨hj.1, hj.2.1, fun h1 => by
    rcases hk j h1 with h2 | h2
    · exact hj.2.2.1 h2
    · have := hj.2.1; omega, hj.2.2.2⟩
  exact ⟨h.base, h.row, fun r hr k h1 h2 => by
    rcases hk k h2 with h3 | h3
    · exact h.sep r hr k h1 h3
    · have := (h.lt hr h1).2; omega, h.two, fun r hr a ha x hx => x.mono (h.ins r hr a ha x hx) hf, fun x hx => x.mono (h.held x hx) hf⟩
theorem Fam.move (h : Fam W b0 ks rs hs) (hsz : W.heap.size ≤ W'.heap.size) (ho : ∀ j, j < W.heap.size → j ∉ ks → W'.heap[j]? = W.heap[j]?) : Fam W' b0 ks rs hs := by
  have hf : ∀ j, Free W b0 ks rs j → Free W' b0 ks rs j := fun j hj => ⟨hj.1, by have := hj.2.1; omega, hj.2.2⟩
  have hk : ∀ j, Free W b0 ks rs j → W'.heap[j]? = W.heap[j]? := fun j hj => ho j hj.2.1 hj.2.2.1
  exact ⟨Nat.le_trans h.base hsz, fun r hr => owns_move' (h.row r hr) fun k h1 => ho k (h.lt hr h1).2 (h.sep r hr k h1), h.sep, h.two, fun r hr a ha x hx => x.mono (x.keep (h.ins r hr a ha x hx) hk) hf, fun x hx => x.mono (x.keep (h.held x hx) hk) hf⟩
theorem Fam.sys (h : Fam w0 b0 ks rs hs) (S : Sys B w0 L w) (hL : ∀ e, e ∈ L → e.1 ∈ ks ∨ w0.heap.size ≤ e.1) : Fam w b0 ks rs hs :=
  h.move S.size fun j hj hn => S.old j hj fun e he e1 => by
    rcases hL e he with h2 | h2
    · exact hn (e1 ▸ h2)
    · omega
theorem Fam.below (h : Fam w b0 ks rs hs) (hb : Below w.heap.size w w2) : Fam w2 b0 ks rs hs := h.move hb.size fun j hj _ => hb.block j hj
/-- what a call made. -/
theorem Fam.made (h : Fam w1 b0 ks rs hs) (hb : Below w1.heap.size w1 w2) {x : Held} (hx : x.p w2 (Btw w1.heap.size w2.heap.size)) (hk : ∀ k, k ∈ ks → k < w1.heap.size) : Fam w2 b0 ks rs (x :: hs) :=
  (h.below hb).hold hx fun j hj => ⟨Nat.le_trans h.base hj.1, hj.2, fun h1 => by have := hk j h1; have := hj.1; omega, fun r hr h1 => by have := (h.lt hr h1).2; have := hj.1; omega⟩
theorem Fam.hold2 (h : Fam w2 b0 ks rs hs) {x : Held} (hx : x.p w2 (Btw w1.heap.size w2.heap.size)) (hb : b0 ≤ w1.heap.size) (hk : ∀ k, k ∈ ks → k < w1.heap.size) (hr : ∀ r, r ∈ rs → ∀ k, r.v.ownBlock = some k → k < w1.heap.size) : Fam w2 b0 ks rs (x :: hs) :=
  h.hold hx fun j hj => ⟨Nat.le_trans hb hj.1, hj.2, fun h1 => by have := hk j h1; have := hj.1; omega, fun r h0 h1 => by have := hr r h0 j h1; have := hj.1; omega⟩
/-- a row grows. -/
theorem Fam.push {α : Type} {K : Kind α} {v v' : Value} {l : List α} {a : α} {i : Nat} (h : Fam W b0 ks rs hs) (hi : rs[i]? = some ⟨α, K, v, l⟩) (ha : ∀ x, x ∈ K.sl a → x ∈ hs) (hrow : W'.ownsRow b0 K.ty K.m v' (l.length + 1) (l.flatMap K.c ++ K.c a))
    (hsz : W.heap.size ≤ W'.heap.size) (ho : ∀ j, j < W.heap.size → j ∉ ks → v.ownBlock ≠ some j → W'.heap[j]? = W.heap[j]?) (hfr : ∀ k, v'.ownBlock = some k → v.ownBlock = some k ∨ (W.heap.size ≤ k ∧ k ∉ ks)) :
    Fam W' b0 ks (rs.set i ⟨α, K, v', l ++ [a]⟩) hs := by
  have hm : ∀ r, r ∈ rs.set i ⟨α, K, v', l ++ [a]⟩ → r = ⟨α, K, v', l ++ [a]⟩ ∨ (r ∈ rs ∧ ∀ k, r.v.ownBlock = some k → v.ownBlock ≠ some k) := fun r hr => by
    obtain ⟨j, hj, rfl⟩ := List.mem_iff_getElem.1 hr
    by_cases hij : i = j
    · subst hij; left; simp
    · right
      rw [List.getElem_set_ne hij]
      simp at hj
      refine ⟨List.getElem_mem _, fun k hk h2 => ?_⟩
      obtain ⟨hil, hie⟩ := List.getElem?_eq_some_iff.1 hi
      have hp := List.pairwise_iff_getElem.1 h.two
      rcases Nat.lt_or_gt_of_ne hij with h3 | h3
      · have := hp i j hil hj h3 k (by rw [hie]; exact h2)
        exact this hk
      · have := hp j i hj hil h3 k hk
        rw [hie] at this
        exact this h2
  have hri : (⟨α, K, v, l⟩ : RowX) ∈ rs := List.mem_of_getElem? hi
  have hf : ∀ j, Free W b0 ks rs j → Free W' b0 ks (rs.set i ⟨α, K, v', l ++ [a]⟩) j := fun j hj => ⟨hj.1, by have := hj.2.1; omega, hj.2.2.1, fun r hr h1 => by
    rcases hm r hr with rfl | ⟨h2, _⟩
    · rcases hfr j h1 with h3 | h3
      · exact hj.2.2.2 _ hri h3
      · have := hj.2.1; omega
    · exact hj.2.2.2 r h2 h1⟩
  have hk : ∀ j, Free W b0 ks rs j → W'.heap[j]? = W.heap[j]? := fun j hj => ho j hj.2.1 hj.2.2.1 fun h1 => hj.2.2.2 _ hri h1
  refine ⟨Nat.le_trans h.base hsz, fun r hr => ?_, fun r hr k h1 => ?_, ?_, fun r hr b hb x hx => ?_, fun x hx => x.mono (x.keep (h.held x hx) hk) hf⟩
  · rcases hm r hr with rfl | ⟨h2, h3⟩
    · simpa using hrow
    · exact owns_move' (h.row r h2) fun k h4 => ho k (h.lt h2 h4).2 (h.sep r h2 k h4) (h3 k h4)
  · rcases hm r hr with rfl | ⟨h2, h3⟩
    · rcases hfr k h1 with h4 | h4
      · exact h.sep _ hri k h4
      · exact h4.2
    · exact h.sep r h2 k h1
  · rw [List.pairwise_iff_getElem]
    have hp := List.pairwise_iff_getElem.1 h.two
    obtain ⟨hil, hie⟩ := List.getElem?_eq_some_iff.1 hi
    intro p q hpl hql hpq k hk1 hk2
    simp at hpl hql
    by_cases h1 : i = p
    · subst h1
      have h2 : i ≠ q := by omega
      rw [List.getElem_set_ne h2] at hk2
      simp at hk1
      rcases hfr k hk1 with h4 | h4
      · exact hp i q hpl hql hpq k (by rw [hie]; exact h4) hk2
      · have := (h.lt (List.getElem_mem hql) hk2).2; omega
    · by_cases h2 : i = q
      · subst h2
        rw [List.getElem_set_ne h1] at hk1
        simp at hk2
        rcases hfr k hk2 with h4 | h4
        · have := hp p i hpl hql hpq k hk1
          rw [hie] at this
          exact this h4
        · have := (h.lt (List.getElem_mem hpl) hk1).2; omega
      · rw [List.getElem_set_ne h1] at hk1
        rw [List.getElem_set_ne h2] at hk2
        exact hp p q hpl hql hpq k hk1 hk2
  · rcases hm r hr with rfl | ⟨h2, h3⟩
    · rcases List.mem_append.1 hb with h4 | h4
      · exact x.mono (x.keep (h.ins _ hri b h4 x hx) hk) hf
      · have h5 : b = a := List.mem_singleton.1 h4
        have h6 : x ∈ K.sl b := hx
        rw [h5] at h6
        exact x.mono (x.keep (h.held x (ha x h6)) hk) hf
    · exact x.mono (x.keep (h.ins r h2 b hb x hx) hk) hf
/-- a row is read. -/
theorem Fam.list {α : Type} {K : Kind α} {v : Value} {l : List α} (h : Fam W b0 ks rs hs) (hr : (⟨α, K, v, l⟩ : RowX) ∈ rs) : ∃ r : SV, v = svV r ∧ ListAt K W (Btw b0 W.heap.size) r l := by
  have h1 := h.row _ hr
  obtain ⟨r, rfl, hrn⟩ := owns_sv h1
  obtain ⟨a1, a2, _, a4⟩ := ReadsP.own h1
  refine ⟨r, rfl, by rw [a2]; exact a1, by simp only [maxLen] at a4 hrn; omega, fun a ha x hx => x.mono (h.ins _ hr a ha x hx) fun j hj => ⟨hj.1, hj.2.1⟩⟩
theorem Fam.get {x : Held} (h : Fam W b0 ks rs hs) (hx : x ∈ hs) : x.p W (Btw b0 W.heap.size) := x.mono (h.held x hx) fun j hj => ⟨hj.1, hj.2.1⟩
end
section
variable {P : Program} {T : TT} {N : Nat} {B : Nat} {w0 : World} {ds : List Deferred} {Q : Exit → Act → World → Prop} {F : Fr} {L : Lo} {ops : Array Oper} {rest : List Oper} {ty : TypeId} {p : String} {af : Array Edge}
/-- the next operation is an append to a slice of this type. -/
theorem XL.at_push {N : Nat} {ds : List Deferred} {F : Fr} {d : Nat} (t : TypeId) {args : Array Operand} (k : XL P N B w0 ds Q ops ({ dst := some d, op := .call { callee := .builtin .append, args := args, argTypes := #[t, t] }, type := ty, pos := p, after := af, guard := none } :: rest) F L) :
    XL P N B w0 ds Q ops ({ dst := some d, op := .call { callee := .builtin .append, args := args, argTypes := #[t, t] }, type := ty, pos := p, after := af, guard := none } :: rest) F L := k
/-- append(row, one element). -/
theorem XL.push {α : Type} {K : Kind α} {d : Nat} {t : TypeId} {x y : Operand} {v : Value} {l : List α} {a : α} {c bytes b0 : Nat} {A : Addr} {ks : List Nat} {rs : List RowX} {hs : List Held} {wE : World} (i : Nat) (he : elemOk P t K.ty K.m bytes = true) (h0 : 0 < K.m)
    (hx : evo F x = some v) (hy : evo F y = some (.slice (some A) 1 c)) (hd : Nat.blt d N = true) (hF : Fam w0 b0 ks rs hs) (hi : rs[i]? = some ⟨α, K, v, l⟩) (hks : ∀ k, k ∈ ks → k < w0.heap.size) (hbl : Below B wE w0) (hB : B ≤ b0) (h1 : (K.c a).all Value.oneCell' = true) (h63 : l.length + 1 ≤ 10000000) (hb : bytes ≤ 10000000) (ha : ∀ x, x ∈ K.sl a → x ∈ hs)
    (k : ∀ w' v', Fam w' b0 (L.map (·.1) ++ ks) (rs.set i ⟨α, K, v', l ++ [a]⟩) hs → Below B wE w' → (∀ k, k ∈ L.map (·.1) ++ ks → k < w'.heap.size) → XL P N B w' ds Q ops rest ((d, v') :: F) L)
    (hL : ∀ e, e ∈ L → e.1 ∈ ks ∨ w0.heap.size ≤ e.1 := by (intro e he; repeat (first | (cases he; done) | (rcases List.mem_cons.1 he with rfl | he; · first | (right; assumption) | (left; simp <;> fail)))) <;> fail) (hnews : ∀ w, Sys B w0 L w → ∀ j u, (K.c a)[j]? = some u → w.cell? (A.add j) = some u := by (intro w S j u hj; first | (rw [add_off, Nat.zero_add, S.cell List.mem_cons_self j]; exact hj) | (rw [add_off, Nat.zero_add, S.cell (List.mem_cons_of_mem _ List.mem_cons_self) j]; exact hj) | (rw [add_off, Nat.zero_add, S.cell (List.mem_cons_of_mem _ (List.mem_cons_of_mem _ List.mem_cons_self)) j]; exact hj))) :
    XL P N B w0 ds Q ops ({ dst := some d, op := .call { callee := .builtin .append, args := #[x, y], argTypes := #[t, t] }, type := ty, pos := p, after := af, guard := none } :: rest) F L := by
  have hri : (⟨α, K, v, l⟩ : RowX) ∈ rs := List.mem_of_getElem? hi
  have hk2 : ∀ k, k ∈ L.map (·.1) ++ ks → k ∈ ks ∨ w0.heap.size ≤ k := fun k hk => by
    rcases List.mem_append.1 hk with h | h
    · obtain ⟨e, he, rfl⟩ := List.mem_map.1 h
      exact hL e he
    · exact .inl h
  have hk3 : ∀ w, Sys B w0 L w → ∀ k, k ∈ L.map (·.1) ++ ks → k < w.heap.size := fun w S k hk => by
    rcases List.mem_append.1 hk with h | h
    · obtain ⟨e, he, rfl⟩ := List.mem_map.1 h
      exact S.lt he
    · exact Nat.lt_of_lt_of_le (hks k h) S.size
  refine XL.append2 (v := v) (m := 1) (n := l.length) (size := K.m) (bytes := bytes) (base := b0) (A := A) (xs := l.flatMap K.c) (news := K.c a) (L' := L) he h0 hx hy hd (hF.row _ hri) (fun k hk e he e1 => ?_) (by rw [K.len]; omega) hnews h1 (by unfold maxLen; omega)
    (Nat.le_trans (Nat.mul_le_mul h63 hb) (by decide)) hF.base (List.Sublist.refl _) (fun w v' w' S ho hg _ hfr => ?_)
  · rcases hL e he with h | h
    · exact hF.sep _ hri k hk (e1 ▸ h)
    · have := (hF.lt hri hk).2; omega
  · have hsz := hg.size
    have hS := S.size
    refine k w' v' ?_ (hbl.trans (grown_below S hg fun k hk => Nat.le_trans hB (hF.lt hri hk).1)) fun q hq => Nat.lt_of_lt_of_le (hk3 w S q hq) hsz
    refine (hF.add (ks' := L.map (·.1) ++ ks) hk2).push hi ha ho (Nat.le_trans hS hsz) (fun j hj hn hv => ?_) (fun k hk => ?_)
    · exact grown_old S hg hj (fun e he e1 => hn (List.mem_append_left _ (List.mem_map.2 ⟨e, he, e1⟩))) fun e1 => hv e1.symm
    · rcases hfr k hk with h | h
      · exact .inl h
      · exact .inr ⟨Nat.le_trans hS h, fun h2 => by have := hk3 w S k h2; omega⟩
/-- what a call made: its value, and new things in memory. -/
def Made (w : World) (R : Value → List Held → Prop) (e : Ending) (w' : World) : Prop := ∃ v new, e = .returned v ∧ R v new ∧ (∀ x, x ∈ new → x.p w' (Btw w.heap.size w'.heap.size)) ∧ Below w.heap.size w w'
theorem Fam.call {w0 w1 w2 : World} {b0 : Nat} {ks : List Nat} {rs : List RowX} {hs new : List Held} (hF : Fam w0 b0 ks rs hs) (S : Sys B w0 L w1) (hb : Below w1.heap.size w1 w2) (hL : ∀ e, e ∈ L → e.1 ∈ ks ∨ w0.heap.size ≤ e.1) (hks : ∀ k, k ∈ ks → k < w0.heap.size)
    (hx : ∀ x, x ∈ new → x.p w2 (Btw w1.heap.size w2.heap.size)) : Fam w2 b0 (L.map (·.1) ++ ks) rs (new ++ hs) ∧ ∀ k, k ∈ L.map (·.1) ++ ks → k < w2.heap.size := by
  have hk3 : ∀ k, k ∈ L.map (·.1) ++ ks → k < w1.heap.size := fun k hk => by
    rcases List.mem_append.1 hk with h | h
    · obtain ⟨e, he, rfl⟩ := List.mem_map.1 h
      exact S.lt he
    · exact Nat.lt_of_lt_of_le (hks k h) S.size
  have h1 : Fam w0 b0 (L.map (·.1) ++ ks) rs hs := hF.add fun k hk => by
    rcases List.mem_append.1 hk with h | h
    · obtain ⟨e, he, rfl⟩ := List.mem_map.1 h
      exact hL e he
    · exact .inl h
  have h2 : Fam w1 b0 (L.map (·.1) ++ ks) rs hs := h1.sys S fun e he => .inl (List.mem_append_left _ (List.mem_map.2 ⟨e, he, rfl⟩))
  refine ⟨?_, fun k hk => Nat.lt_of_lt_of_le (hk3 k hk) hb.size⟩
  clear hL hks h1
  induction new with
  | nil => exact h2.below hb
  | cons x new ih =>
    have := ih fun y hy => hx y (List.mem_cons_of_mem _ hy)
    exact this.hold (hx x List.mem_cons_self) fun j hj => ⟨Nat.le_trans h2.base hj.1, hj.2, fun h3 => by have := hk3 j h3; have := hj.1; omega, fun r hr h3 => by have := (h2.lt hr h3).2; have := hj.1; omega⟩
theorem XL.at_call {N : Nat} {ds : List Deferred} {F : Fr} {d : Nat} (f : FuncId) {args : Array Operand} {ats : Array TypeId} (k : XL P N B w0 ds Q ops ({ dst := some d, op := .call { callee := .value (.func f), args := args, argTypes := ats }, type := ty, pos := p, after := af, guard := none } :: rest) F L) :
    XL P N B w0 ds Q ops ({ dst := some d, op := .call { callee := .value (.func f), args := args, argTypes := ats }, type := ty, pos := p, after := af, guard := none } :: rest) F L := k
/-- a call that makes new things; the world behind it is the new base. -/
theorem XL.callF {f : FuncId} {d : Nat} {args : Array Operand} {vs : List Value} {ats : Array TypeId} {b0 : Nat} {ks : List Nat} {rs : List RowX} {hs : List Held} {wE : World} (R : Value → List Held → Prop) (h : callOk P f = true)
    (ha : evos F args.toList = some vs) (hd : Nat.blt d N = true) (hF : Fam w0 b0 ks rs hs) (hks : ∀ k, k ∈ ks → k < w0.heap.size) (hbl : Below B wE w0)
    (hc : ∀ w, Sys B w0 L w → Fam w b0 (L.map (·.1) ++ ks) rs hs → Below B wE w → Calls P f vs.toArray w (Made w R))
    (k : ∀ w' v new, R v new → Fam w' b0 (L.map (·.1) ++ ks) rs (new ++ hs) → Below B wE w' → (∀ k, k ∈ L.map (·.1) ++ ks → k < w'.heap.size) → XL P N B w' ds Q ops rest ((d, v) :: F) L)
    (hL : ∀ e, e ∈ L → e.1 ∈ ks ∨ w0.heap.size ≤ e.1 := by (intro e he; repeat (first | (cases he; done) | (rcases List.mem_cons.1 he with rfl | he; · first | (right; assumption) | (left; simp <;> fail)))) <;> fail) :
    XL P N B w0 ds Q ops ({ dst := some d, op := .call { callee := .value (.func f), args := args, argTypes := ats }, type := ty, pos := p, after := af, guard := none } :: rest) F L := by
  refine XL.call (fst := []) (cap := []) (vs := vs) h rfl ha hd (List.Sublist.refl _) (fun w v w' => ∃ new, R v new ∧ (∀ x, x ∈ new → x.p w' (Btw w.heap.size w'.heap.size)) ∧ Below w.heap.size w w') (fun w S => ?_) (fun w v w' S hR hb S' => ?_)
  · have h1 := hF.call S (Below.refl _ _) hL hks (new := []) fun _ h => by cases h
    simp only [List.nil_append, List.append_nil] at h1 ⊢
    exact (hc w S h1.1 (hbl.trans S.toBelow)).mono fun e w' ⟨v, new, e1, e2, e3, e4⟩ => ⟨v, e1, ⟨new, e2, e3, e4⟩, e4⟩
  · obtain ⟨new, e2, e3, e4⟩ := hR
    have h1 := hF.call S hb hL hks e3
    exact k w' v new e2 h1.1 (hbl.trans S'.toBelow) h1.2
/-- a cut's end; the state may be told by the world. -/
theorem XE.leafW {N : Nat} {ds : List Deferred} {F : Fr} {σ : Type} {G0 : Fr} {G : σ → Fr} {M : σ → Lo} {W : σ → World} {pre : σ → Prop} (h : ∀ w, Sys B w0 L w → ∃ s, pre s ∧ Sub (G s ++ G0) F ∧ Sys B (W s) (M s) w) :
    XE N B w0 ds (cutQ N B ds Q G0 G M W pre) .normal F L := ⟨fun a w hf hs => by
  obtain ⟨s, hp, hG, hS⟩ := h w hs
  exact ⟨s, hp, hG.fits hf, hS⟩⟩
end
theorem Held.lt {x : Held} {w : World} {b0 : Nat} (h : x.p w (Btw b0 w.heap.size)) : x.p w (Lt w.heap.size) := x.mono h fun k hk => hk.2
end Go.Proofs.YtoiepgcjinccpaaDoor.X
/-
  Lists of states and of flows in memory; the walk of Run.
-/
namespace Go.Proofs.YtoiepgcjinccpaaDoor.Bs
/-- what Run answers. -/
noncomputable def runS (b : Bas) (s : Sta) (ts : List Tick) : List Sta := if runE b s ts ≠ 0 then [] else (List.range ts.length).map fun i => staAt b s ts (i + 1)
noncomputable def runF (b : Bas) (s : Sta) (ts : List Tick) : List Flo := if runE b s ts ≠ 0 then [] else (List.range ts.length).map fun i => floAt b s ts i
theorem run_n {b : Bas} {s : Sta} {ts : List Tick} (h : runE b s ts ≠ 0) : runS b s ts = [] ∧ runF b s ts = [] := by simp [runS, runF, h]
theorem run_0 {b : Bas} {s : Sta} {ts : List Tick} (h : runE b s ts = 0) : runS b s ts = (momsAt b s ts ts.length).map (·.1) ∧ runF b s ts = (momsAt b s ts ts.length).map (·.2) := by
  simp [runS, runF, h, momsAt]
end Go.Proofs.YtoiepgcjinccpaaDoor.Bs
namespace Go.Proofs.YtoiepgcjinccpaaDoor.X
open Go Go.RowKit Go.Proofs.YtoiepgcjinccpaaDoor.Bs
set_option linter.unusedVariables false
structure StaI where
  s : Sta
  q : SV
structure FloI where
  f : Flo
  r : SV
def StaI.c (a : StaI) : List Value := staC a.q a.s
def FloI.c (a : FloI) : List Value := floC a.r a.f
def staK : Kind StaI := ⟨28, 2, StaI.c, fun a => [hInts a.q a.s.fil], fun _ => rfl⟩
def floK : Kind FloI := ⟨32, 5, FloI.c, fun a => [hInts a.r a.f.taken], fun _ => rfl⟩
def momK : Kind Mom := ⟨103, 7, Mom.c, fun m => [hInts m.q m.s.fil, hInts m.r m.f.taken], Mom.c_len⟩
theorem sta_el : elemOk Tryd.prog 42 staK.ty staK.m 32 = true := by kernel_rfl
theorem flo_el : elemOk Tryd.prog 43 floK.ty floK.m 56 = true := by kernel_rfl
def Mom.a (m : Mom) : StaI := ⟨m.s, m.q⟩
def Mom.b (m : Mom) : FloI := ⟨m.f, m.r⟩
theorem MomRow.list {w : World} {ok : Nat → Prop} {r : SV} {ms : List Mom} (h : MomRow w ok r ms) : ListAt momK w ok r ms := ⟨h.rd, Nat.le_trans h.max (by decide), fun m hm x hx => by
  have := h.ins m hm
  simp only [momK, List.mem_cons, List.not_mem_nil, or_false] at hx
  rcases hx with rfl | rfl
  · exact this.1
  · exact this.2⟩
/-- what Run leaves. -/
def RunsR (b : Bas) (s : Sta) (ts : List Tick) (w : World) (v : Value) (w' : World) : Prop :=
  ∃ (r1 r2 : SV) (l1 : List StaI) (l2 : List FloI), v = .tuple ⟨[svV r1, svV r2, .int .i64 (runE b s ts)]⟩ ∧ ListAt staK w' (Btw w.heap.size w'.heap.size) r1 l1 ∧ ListAt floK w' (Btw w.heap.size w'.heap.size) r2 l2 ∧
    l1.map (·.s) = runS b s ts ∧ l2.map (·.f) = runF b s ts ∧ Below w.heap.size w w'
theorem take_add {α : Type} {l : List α} {k : Nat} (h : k < l.length) : l.take (k + 1) = l.take k ++ [l[k]] := by simp
set_option maxHeartbeats 8000000 in
theorem Run_any {p : BV} {b : Bas} {q r : SV} {s : Sta} {ts : List Tick} {w : World} (hL : Laid w) (hb : BasAt w w.heap.size p b) (hq : IntsAt w (Lt w.heap.size) q s.fil) (ht : TksAt w (Lt w.heap.size) r ts) :
    Calls Tryd.prog 24 #[basV p b, staV q s, svV r] w fun e w' => ∃ v, e = .returned v ∧ RunsR b s ts w v w' := by
  simp only [basV, basC, staV, staC, svV]
  refine enter Tryd.func24 rfl Tryd.ntmps24 rfl ?_; simp only [frame, Nat.zero_add, Nat.reduceAdd]
  repeat (first | (refine M0 ?_; first | refine O0 ?_ | refine z1 tok rfl ?_ | refine O1 rfl ?_ rfl | refine O2 rfl ?_ | refine O3 rfl ?_ rfl | refine O4 rfl rfl rfl (fun _ _ => ?_) | refine O5 tok rfl rfl rfl (fun _ _ => ?_) | refine U0 _ (U2 rfl) rfl ?_ | refine U0 _ (U3 tok rfl rfl rfl rfl rfl) rfl ?_ | refine z3 tok rfl ?_ | refine U0 _ (U4 rfl rfl) rfl ?_ | refine U0 _ (U5 rfl rfl) rfl ?_) | (refine M1 ?_; first | refine J0 ?_ | refine J1 ?_ | refine J2 mixed rfl (by kernel_rfl) ?_ | refine J3 mixed rfl rfl (by kernel_rfl) ?_ | refine J4 ?_ | refine J5 ?_ | refine J6 ?_ | refine J7 ?_ | refine J8 rfl ?_ | refine J9 rfl ?_) | (refine M2 ?_; first | refine I0 ?_ | refine I1 ?_ | refine I2 ?_ | refine I3 ?_ | refine I4 ?_ | refine I5 ?_ | refine I6 rfl ?_ | refine I7 ?_ | refine I8 ?_ | refine z4 ?_) | (refine M3 ?_; first | refine O6 ?_ | refine z2 tok rfl ?_ | refine O8 rfl ?_ | refine O7 rfl ?_ rfl | refine O9 rfl ?_ rfl | refine U1 _ (U4 rfl rfl) rfl ?_ | refine U1 _ (U5 rfl rfl) rfl ?_ | refine U1 _ (U2 rfl) rfl ?_ | refine U1 _ (U3 tok rfl rfl rfl rfl rfl) rfl ?_) | (refine M4 ?_; first | refine M6 ?_ | refine U6 rfl (by kernel_rfl) ?_ | refine U7 (by kernel_rfl) ?_) | (refine M5 ?_; first | exact M7 | refine U8 rfl ?_ | refine U9 rfl rfl ?_ ?_))
  refine XL.call (fst := []) (cap := []) (ck rfl) rfl rfl rfl (List.nil_sublist _) (fun w1 v w2 => RunR b s ts w1 v w2)
    (fun w1 S1 => (run_any (p := p) (q := q) (r := r) (hL.below S1.toBelow) (hb.sys S1) (hq.arg S1) (ht.arg S1)).mono fun e w' ⟨v, h, h4⟩ => ⟨v, h, h4, h4.2⟩) (fun w1 v w2 S1 hR hB S2 => ?_)
  have hrow : ∃ rm ms, v = .tuple ⟨[svV rm, .int .i64 (runE b s ts)]⟩ ∧ ListAt momK w2 (Btw w1.heap.size w2.heap.size) rm ms ∧ ms.length ≤ 300 ∧ ms.map (·.s) = runS b s ts ∧ ms.map (·.f) = runF b s ts := by
    rcases hR.1 with ⟨h1, rfl⟩ | ⟨h1, hE, h3, h4, rm, ms, rfl, hrow, hms⟩
    · obtain ⟨e1, e2⟩ := run_n h1
      exact ⟨⟨none, 0, 0⟩, [], rfl, ListAt.nil, by simp, e1.symm, e2.symm⟩
    · obtain ⟨e1, e2⟩ := run_0 h1
      have hl := congrArg List.length hms
      simp [momsAt] at hl
      refine ⟨rm, ms, by rw [h1], hrow.list, by omega, ?_, ?_⟩
      · rw [e1, ← hms, List.map_map]; rfl
      · rw [e2, ← hms, List.map_map]; rfl
  obtain ⟨⟨A, n, c⟩, ms, rfl, hrow, hlen, e1, e2⟩ := hrow
  have hn := hrow.len (by decide)
  simp only at hn
  subst hn
  have hF0 : Fam w2 w.heap.size [] [⟨StaI, staK, .slice none 0 0, []⟩, ⟨FloI, floK, .slice none 0 0, []⟩] [hList momK ⟨A, ms.length, c⟩ ms] := ((((Fam.start S1.size).nil floK).nil staK).made hB hrow fun k hk => by cases hk)
  have hB0 : Below w.heap.size w w2 := S2.toBelow
  simp only [svV]
  repeat (first | (refine M0 ?_; first | refine O0 ?_ | refine z1 tok rfl ?_ | refine O1 rfl ?_ rfl | refine O2 rfl ?_ | refine O3 rfl ?_ rfl | refine O4 rfl rfl rfl (fun _ _ => ?_) | refine O5 tok rfl rfl rfl (fun _ _ => ?_) | refine U0 _ (U2 rfl) rfl ?_ | refine U0 _ (U3 tok rfl rfl rfl rfl rfl) rfl ?_ | refine z3 tok rfl ?_ | refine U0 _ (U4 rfl rfl) rfl ?_ | refine U0 _ (U5 rfl rfl) rfl ?_) | (refine M1 ?_; first | refine J0 ?_ | refine J1 ?_ | refine J2 mixed rfl (by kernel_rfl) ?_ | refine J3 mixed rfl rfl (by kernel_rfl) ?_ | refine J4 ?_ | refine J5 ?_ | refine J6 ?_ | refine J7 ?_ | refine J8 rfl ?_ | refine J9 rfl ?_) | (refine M2 ?_; first | refine I0 ?_ | refine I1 ?_ | refine I2 ?_ | refine I3 ?_ | refine I4 ?_ | refine I5 ?_ | refine I6 rfl ?_ | refine I7 ?_ | refine I8 ?_ | refine z4 ?_) | (refine M3 ?_; first | refine O6 ?_ | refine z2 tok rfl ?_ | refine O8 rfl ?_ | refine O7 rfl ?_ rfl | refine O9 rfl ?_ rfl | refine U1 _ (U4 rfl rfl) rfl ?_ | refine U1 _ (U5 rfl rfl) rfl ?_ | refine U1 _ (U2 rfl) rfl ?_ | refine U1 _ (U3 tok rfl rfl rfl rfl rfl) rfl ?_) | (refine M4 ?_; first | refine M6 ?_ | refine U6 rfl (by kernel_rfl) ?_ | refine U7 (by kernel_rfl) ?_) | (refine M5 ?_; first | exact M7 | refine U8 rfl ?_ | refine U9 rfl rfl ?_ ?_))
  refine XC.loopk [8, 19, 20] rfl (fun s' : Nat × World × Value × Value => [(6, s'.2.2.1), (7, s'.2.2.2), (21, .int .i64 (s'.1 : Nat))]) (fun _ => []) (fun s' => s'.2.1)
    (fun s' => s'.1 ≤ ms.length ∧ Fam s'.2.1 w.heap.size [] [⟨StaI, staK, s'.2.2.1, (ms.take s'.1).map Mom.a⟩, ⟨FloI, floK, s'.2.2.2, (ms.take s'.1).map Mom.b⟩] [hList momK ⟨A, ms.length, c⟩ ms] ∧ Below w.heap.size w s'.2.1)
    (fun s' => ms.length - s'.1) (0, w2, .slice none 0 0, .slice none 0 0) ⟨Nat.zero_le _, hF0, hB0⟩ (by repeat (first | exact Sub.nil | refine Sub.cons rfl ?_)) (fun _ h => h) ?_
  rintro ⟨k, W, v1, v2⟩ ⟨hk, hF, hBW⟩
  simp only at hk hF hBW
  dsimp only [List.cons_append, List.nil_append]
  repeat (first | (refine M0 ?_; first | refine O0 ?_ | refine z1 tok rfl ?_ | refine O1 rfl ?_ rfl | refine O2 rfl ?_ | refine O3 rfl ?_ rfl | refine O4 rfl rfl rfl (fun _ _ => ?_) | refine O5 tok rfl rfl rfl (fun _ _ => ?_) | refine U0 _ (U2 rfl) rfl ?_ | refine U0 _ (U3 tok rfl rfl rfl rfl rfl) rfl ?_ | refine z3 tok rfl ?_ | refine U0 _ (U4 rfl rfl) rfl ?_ | refine U0 _ (U5 rfl rfl) rfl ?_) | (refine M1 ?_; first | refine J0 ?_ | refine J1 ?_ | refine J2 mixed rfl (by kernel_rfl) ?_ | refine J3 mixed rfl rfl (by kernel_rfl) ?_ | refine J4 ?_ | refine J5 ?_ | refine J6 ?_ | refine J7 ?_ | refine J8 rfl ?_ | refine J9 rfl ?_) | (refine M2 ?_; first | refine I0 ?_ | refine I1 ?_ | refine I2 ?_ | refine I3 ?_ | refine I4 ?_ | refine I5 ?_ | refine I6 rfl ?_ | refine I7 ?_ | refine I8 ?_ | refine z4 ?_) | (refine M3 ?_; first | refine O6 ?_ | refine z2 tok rfl ?_ | refine O8 rfl ?_ | refine O7 rfl ?_ rfl | refine O9 rfl ?_ rfl | refine U1 _ (U4 rfl rfl) rfl ?_ | refine U1 _ (U5 rfl rfl) rfl ?_ | refine U1 _ (U2 rfl) rfl ?_ | refine U1 _ (U3 tok rfl rfl rfl rfl rfl) rfl ?_) | (refine M4 ?_; first | refine M6 ?_ | refine U6 rfl (by kernel_rfl) ?_ | refine U7 (by kernel_rfl) ?_) | (refine M5 ?_; first | exact M7 | refine U8 rfl ?_ | refine U9 rfl rfl ?_ ?_))
  refine XC.cond _ rfl (fun h1 => ?_) (fun h1 => ?_)
  · have hkn : k < ms.length := by simpa using h1
    have hls : ListAt momK W (Free W w.heap.size [] _) ⟨A, ms.length, c⟩ ms := hF.held (hList momK _ ms) List.mem_cons_self
    obtain ⟨ad, rfl, hfr⟩ := hls.addr (by decide) (by omega)
    have hlt := hfr.2.1
    have hmk : ms[k]? = some ms[k] := List.getElem?_eq_getElem hkn
    have hcell := hls.elem hmk
    have hi1 : IntsAt W (Free W w.heap.size [] _) ms[k].q ms[k].s.fil := hls.ins _ (List.getElem_mem hkn) (hInts _ _) List.mem_cons_self
    have hi2 : IntsAt W (Free W w.heap.size [] _) ms[k].r ms[k].f.taken := hls.ins _ (List.getElem_mem hkn) (hInts _ _) (List.mem_cons_of_mem _ List.mem_cons_self)
    have hF1 := (hF.hold (x := hInts ms[k].q ms[k].s.fil) hi1 fun _ h => h).hold (x := hInts ms[k].r ms[k].f.taken) hi2 fun _ h => h
    have hks : ∀ k, k ∈ ([] : List Nat) → k < W.heap.size := fun k hk => by cases hk
    have e3 : (ms.take (k + 1)).map Mom.a = (ms.take k).map Mom.a ++ [ms[k].a] := by rw [take_add hkn, List.map_append]; rfl
    have e4 : (ms.take (k + 1)).map Mom.b = (ms.take k).map Mom.b ++ [ms[k].b] := by rw [take_add hkn, List.map_append]; rfl
    clear hF
    have hl1 : ((ms.take k).map Mom.a).length + 1 ≤ 10000000 := by simp; omega
    have hl2 : ((ms.take k).map Mom.b).length + 1 ≤ 10000000 := by simp; omega
    have ha1 : ∀ x, x ∈ staK.sl ms[k].a → x ∈ [hInts ms[k].r ms[k].f.taken, hInts ms[k].q ms[k].s.fil, hList momK ⟨some ad, ms.length, c⟩ ms] := fun x hx => by
      rw [List.mem_singleton.1 hx]; exact List.mem_cons_of_mem _ List.mem_cons_self
    have ha2 : ∀ x, x ∈ floK.sl ms[k].b → x ∈ [hInts ms[k].r ms[k].f.taken, hInts ms[k].q ms[k].s.fil, hList momK ⟨some ad, ms.length, c⟩ ms] := fun x hx => by
      rw [List.mem_singleton.1 hx]; exact List.mem_cons_self
    repeat (first | (refine M0 ?_; first | refine O0 ?_ | refine z1 tok rfl ?_ | refine O1 rfl ?_ rfl | refine O2 rfl ?_ | refine O3 rfl ?_ rfl | refine U0 _ (Ev.load_far_agg tok ms[k].c rfl rfl rfl (by rw [add_block]; exact hlt) (fun e he => by cases he) hcell) rfl ?_ | refine O4 rfl rfl rfl (fun _ _ => ?_) | refine O5 tok rfl rfl rfl (fun _ _ => ?_) | refine U0 _ (U2 rfl) rfl ?_ | refine U0 _ (U3 tok rfl rfl rfl rfl rfl) rfl ?_ | refine z3 tok rfl ?_ | refine U0 _ (U4 rfl rfl) rfl ?_ | refine U0 _ (U5 rfl rfl) rfl ?_) | (refine M1 ?_; first | refine J0 ?_ | refine J1 ?_ | refine J2 mixed rfl (by kernel_rfl) ?_ | refine J3 mixed rfl rfl (by kernel_rfl) ?_ | refine J4 ?_ | refine J5 ?_ | refine J6 ?_ | refine J7 ?_ | refine J8 rfl ?_ | refine J9 rfl ?_) | (refine M2 ?_; first | refine I0 ?_ | refine I1 ?_ | refine I2 ?_ | refine I3 ?_ | refine I4 ?_ | refine I5 ?_ | refine I6 rfl ?_ | refine I7 ?_ | refine I8 ?_ | refine z4 ?_) | (refine M3 ?_; first | refine O6 ?_ | refine z2 tok rfl ?_ | refine O8 rfl ?_ | refine O7 rfl ?_ rfl | refine O9 rfl ?_ rfl | refine U1 _ (Ev.load_far_agg tok ms[k].c rfl rfl rfl (by rw [add_block]; exact hlt) (fun e he => by cases he) hcell) rfl ?_ | refine U1 _ (U4 rfl rfl) rfl ?_ | refine U1 _ (U5 rfl rfl) rfl ?_ | refine U1 _ (U2 rfl) rfl ?_ | refine U1 _ (U3 tok rfl rfl rfl rfl rfl) rfl ?_) | (refine M4 ?_; first | refine M6 ?_ | refine U6 rfl (by kernel_rfl) ?_ | refine U7 (by kernel_rfl) ?_) | (refine M5 ?_; first | exact M7 | refine U8 rfl ?_ | refine U9 rfl rfl ?_ ?_))
    rename_i g11 hg11
    refine XC.drawRS _ [(g11, cel 103 [.int .i64 ms[k].s.vol, .slice ms[k].q.A ms[k].q.n ms[k].q.c, .int .i64 ms[k].f.river, .int .i64 ms[k].f.over, .int .i64 ms[k].f.leak, .int .i64 ms[k].f.out, .slice ms[k].r.A ms[k].r.n ms[k].r.c])] [0, 1, 2, 5, 6, 7] [3, 4, 8, 9, 10, 11] mixed (fun _ h => Sys.anchor (by assumption) h (by simp) (by simp)) rfl (by kernel_rfl) ?_
    repeat (any_goals (first | (refine M0 ?_; first | refine O0 ?_ | refine z1 tok rfl ?_ | refine O1 rfl ?_ rfl | refine O2 rfl ?_ | refine O3 rfl ?_ rfl | (refine XL.split _ _ rfl (fun h => ?_) (fun h => ?_) <;> rw [h]) | refine O4 rfl rfl rfl (fun _ _ => ?_) | refine O5 tok rfl rfl rfl (fun _ _ => ?_) | refine U0 _ (U2 rfl) rfl ?_ | refine U0 _ (U3 tok rfl rfl rfl rfl rfl) rfl ?_ | refine z3 tok rfl ?_ | refine U0 _ (U4 rfl rfl) rfl ?_ | refine U0 _ (U5 rfl rfl) rfl ?_ | refine XL.buildSlice tok rfl rfl rfl rfl rfl rfl rfl rfl rfl (fun _ _ => ?_) | (refine XL.at_push 42 ?_; refine XL.push (K := staK) (a := ms[k].a) (wE := w) 0 sta_el (by decide) rfl rfl rfl (by assumption) rfl (by assumption) (by assumption) (Nat.le_refl _) rfl hl1 (by decide) ha1 (fun _ _ _ _ _ => ?_)) | (refine XL.at_push 43 ?_; refine XL.push (K := floK) (a := ms[k].b) (wE := w) 1 flo_el (by decide) rfl rfl rfl (by assumption) rfl (by assumption) (by assumption) (Nat.le_refl _) rfl hl2 (by decide) ha2 (fun _ _ _ _ _ => ?_))) | (refine M1 ?_; first | refine J0 ?_ | refine J1 ?_ | refine J2 mixed rfl (by kernel_rfl) ?_ | refine J3 mixed rfl rfl (by kernel_rfl) ?_ | refine J4 ?_ | refine J5 ?_ | refine J6 ?_ | refine J7 ?_ | refine J8 rfl ?_ | refine J9 rfl ?_ | refine XC.cond _ rfl (fun h => ?_) (fun h => ?_)) | (refine M2 ?_; first | refine I0 ?_ | refine I1 ?_ | refine I2 ?_ | refine I3 ?_ | refine I4 ?_ | refine I5 ?_ | refine I6 rfl ?_ | refine I7 ?_ | refine I8 ?_ | refine z4 ?_) | (refine M3 ?_; first | refine O6 ?_ | refine z2 tok rfl ?_ | refine O8 rfl ?_ | refine O7 rfl ?_ rfl | refine O9 rfl ?_ rfl | (refine Fw.split _ _ rfl (fun h => ?_) (fun h => ?_) <;> rw [h]) | refine U1 _ (U4 rfl rfl) rfl ?_ | refine U1 _ (U5 rfl rfl) rfl ?_ | refine U1 _ (U2 rfl) rfl ?_ | refine U1 _ (U3 tok rfl rfl rfl rfl rfl) rfl ?_) | (refine M4 ?_; first | refine M6 ?_ | refine U6 rfl (by kernel_rfl) ?_ | refine U7 (by kernel_rfl) ?_) | (refine M5 ?_; first | exact M7 | refine U8 rfl ?_ | refine U9 rfl rfl ?_ ?_)))
    all_goals
      refine XE.roundW (s := (k, W, v1, v2)) (fun w6 S6 => ⟨(k + 1, w6, _, _), ⟨hkn, ?_, ?_⟩, by simp only; omega, (by repeat (first | exact Sub.nil | refine Sub.cons rfl ?_)), S6.rebase (List.nil_sublist _)⟩)
      · rw [e3, e4]
        refine Fam.forget (Fam.add (Fam.sys (by assumption) S6 (by intro e he; repeat (first | (cases he; done) | (rcases List.mem_cons.1 he with rfl | he; · first | (right; assumption) | (left; simp <;> fail))))) fun k hk => by cases hk) fun x hx => List.mem_cons_of_mem _ (List.mem_cons_of_mem _ hx)
      · exact Below.trans (by assumption) S6.toBelow
  · have hkn : k = ms.length := by have : ¬ (k < ms.length) := by simpa using h1
                                   omega
    subst hkn
    rw [List.take_length] at hF
    repeat (first | (refine M0 ?_; first | refine O0 ?_ | refine z1 tok rfl ?_ | refine O1 rfl ?_ rfl | refine O2 rfl ?_ | refine O3 rfl ?_ rfl | refine O4 rfl rfl rfl (fun _ _ => ?_) | refine O5 tok rfl rfl rfl (fun _ _ => ?_) | refine U0 _ (U2 rfl) rfl ?_ | refine U0 _ (U3 tok rfl rfl rfl rfl rfl) rfl ?_ | refine z3 tok rfl ?_ | refine U0 _ (U4 rfl rfl) rfl ?_ | refine U0 _ (U5 rfl rfl) rfl ?_) | (refine M1 ?_; first | refine J0 ?_ | refine J1 ?_ | refine J2 mixed rfl (by kernel_rfl) ?_ | refine J3 mixed rfl rfl (by kernel_rfl) ?_ | refine J4 ?_ | refine J5 ?_ | refine J6 ?_ | refine J7 ?_ | refine J8 rfl ?_ | refine J9 rfl ?_) | (refine M2 ?_; first | refine I0 ?_ | refine I1 ?_ | refine I2 ?_ | refine I3 ?_ | refine I4 ?_ | refine I5 ?_ | refine I6 rfl ?_ | refine I7 ?_ | refine I8 ?_ | refine z4 ?_) | (refine M3 ?_; first | refine O6 ?_ | refine z2 tok rfl ?_ | refine O8 rfl ?_ | refine O7 rfl ?_ rfl | refine O9 rfl ?_ rfl | refine U1 _ (U4 rfl rfl) rfl ?_ | refine U1 _ (U5 rfl rfl) rfl ?_ | refine U1 _ (U2 rfl) rfl ?_ | refine U1 _ (U3 tok rfl rfl rfl rfl rfl) rfl ?_) | (refine M4 ?_; first | refine M6 ?_ | refine U6 rfl (by kernel_rfl) ?_ | refine U7 (by kernel_rfl) ?_) | (refine M5 ?_; first | exact M7 | refine U8 rfl ?_ | refine U9 rfl rfl ?_ ?_))
    refine XE.retg tok Tryd.results24 rfl (by simp only [and_self, and_true]) (fun w' S => ?_)
    have hF6 := hF.sys S (fun e he => by cases he)
    obtain ⟨r1, rfl, h1⟩ := hF6.list List.mem_cons_self
    obtain ⟨r2, rfl, h2⟩ := hF6.list (List.mem_cons_of_mem _ List.mem_cons_self)
    exact ⟨_, rfl, r1, r2, _, _, rfl, h1, h2, by rw [← e1, List.map_map]; rfl, by rw [← e2, List.map_map]; rfl, hBW.trans S.toBelow⟩
end Go.Proofs.YtoiepgcjinccpaaDoor.X
/-
  The walk of the document's Run.
-/
namespace Go.Proofs.YtoiepgcjinccpaaDoor.X
open Go Go.RowKit Go.Proofs.YtoiepgcjinccpaaDoor.Bs
set_option linter.unusedVariables false
/-- what a tick gives. -/
def StepV (b : Bas) (s : Sta) (t : Tick) (v : Value) (new : List Held) : Prop := ∃ q r : SV, v = .tuple ⟨[staV q (outS b s t), floV r (outF b s t), .int .i64 (stepE b s t)]⟩ ∧ new = [hInts q (outS b s t).fil, hInts r (outF b s t).taken]
theorem StepR.made {b : Bas} {s : Sta} {t : Tick} {w w' : World} {v : Value} {e : Ending} (he : e = .returned v) (h : StepR b s t w v w') : Made w (StepV b s t) e w' := by
  obtain ⟨q, r, h1, h2, h3, h4⟩ := h
  refine ⟨v, _, he, ⟨q, r, h1, rfl⟩, fun x hx => ?_, h4⟩
  simp only [List.mem_cons, List.not_mem_nil, or_false] at hx
  rcases hx with rfl | rfl
  · exact h2
  · exact h3
def RunV (b : Bas) (s : Sta) (ts : List Tick) (v : Value) (new : List Held) : Prop :=
  ∃ (r1 r2 : SV) (l1 : List StaI) (l2 : List FloI), v = .tuple ⟨[svV r1, svV r2, .int .i64 (runE b s ts)]⟩ ∧ new = [hList staK r1 l1, hList floK r2 l2] ∧ l1.map (·.s) = runS b s ts ∧ l2.map (·.f) = runF b s ts
theorem RunsR.made {b : Bas} {s : Sta} {ts : List Tick} {w w' : World} {v : Value} {e : Ending} (he : e = .returned v) (h : RunsR b s ts w v w') : Made w (RunV b s ts) e w' := by
  obtain ⟨r1, r2, l1, l2, h1, h2, h3, h4, h5, h6⟩ := h
  refine ⟨v, _, he, ⟨r1, r2, l1, l2, h1, rfl, h4, h5⟩, fun x hx => ?_, h6⟩
  simp only [List.mem_cons, List.not_mem_nil, or_false] at hx
  rcases hx with rfl | rfl
  · exact h2
  · exact h3
theorem Run_made {p : BV} {b : Bas} {q r : SV} {s : Sta} {ts : List Tick} {w : World} (hL : Laid w) (hb : BasAt w w.heap.size p b) (hq : IntsAt w (Lt w.heap.size) q s.fil) (ht : TksAt w (Lt w.heap.size) r ts) :
    Calls Tryd.prog 24 #[basV p b, staV q s, svV r] w (Made w (RunV b s ts)) := (Run_any hL hb hq ht).mono fun e w' ⟨v, h1, h2⟩ => RunsR.made h1 h2
theorem range_add {α : Type} {f : Nat → α} {k : Nat} : (List.range (k + 1)).map f = (List.range k).map f ++ [f k] := by simp [List.range_succ]
end Go.Proofs.YtoiepgcjinccpaaDoor.X
/-
  The walk of SameRun on equal runs; the law BasinRuns.
-/
namespace Go.Proofs.YtoiepgcjinccpaaDoor.X
open Go Go.RowKit Go.Proofs.YtoiepgcjinccpaaDoor.Bs
set_option linter.unusedVariables false
end Go.Proofs.YtoiepgcjinccpaaDoor.X
/-
  The walks of the document's stay and Stay; of both Floods.
-/
namespace Go.Proofs.YtoiepgcjinccpaaDoor.Bs
def Flo.t (f : Flo) (i : Nat) : Int := f.taken[i]?.getD 0
/-- the first tick in which polder i takes water, or -1. -/
def firstF (fs : List Flo) (i : Nat) : Int := match fs.findIdx? fun f => decide (0 < f.t i) with
  | some k => ((k : Nat) : Int)
  | none => -1
noncomputable def floods (b : Bas) (s : Sta) (ts : List Tick) : List Int := if runE b s ts ≠ 0 then [] else (List.range b.pols.length).map (firstF (runF b s ts))
end Go.Proofs.YtoiepgcjinccpaaDoor.Bs
namespace Go.Proofs.YtoiepgcjinccpaaDoor.X
open Go Go.RowKit Go.Proofs.YtoiepgcjinccpaaDoor.Bs
set_option linter.unusedVariables false
theorem runE_0 {b : Bas} {s : Sta} {ts : List Tick} (h : runE b s ts = 0) : staErr b s = 0 ∧ ts.length ≤ 300 ∧ ∀ k, k < ts.length → errAt b s ts k = 0 := by
  unfold runE at h
  split at h
  · rename_i h1; exact absurd h h1
  · rename_i h1
    split at h
    · cases h
    · rename_i h2
      split at h
      · rename_i h3; exact ⟨by simpa using h1, by omega, badAt_errs h3⟩
      · rename_i k h3; exact absurd h (badAt_err h3)
theorem runS_len {b : Bas} {s : Sta} {ts : List Tick} (h : runE b s ts = 0) : (runS b s ts).length = ts.length := by simp [runS, h]
end Go.Proofs.YtoiepgcjinccpaaDoor.X
/-
  The walks of both Floods.
-/
namespace Go.Proofs.YtoiepgcjinccpaaDoor.Bs
theorem flo_len {b : Bas} {s : Sta} {ts : List Tick} {f : Flo} (h : f ∈ runF b s ts) : f.taken.length = b.pols.length := by
  unfold runF at h
  split at h
  · cases h
  · rename_i h0
    have h1 := X.runE_0 (by simpa using h0 : runE b s ts = 0)
    obtain ⟨i, hi, rfl⟩ := List.mem_map.1 h
    have h2 : stepE b (staAt b s ts i) (tk ts i) = 0 := h1.2.2 i (List.mem_range.1 hi)
    show (outF b (staAt b s ts i) (tk ts i)).taken.length = _
    rw [outF_0 h2]
    simp [stepF, rg_len]
/-- the first tick from m on in which polder i takes water. -/
def firstG (fs : List Flo) (i m : Nat) : Int := match (fs.drop m).findIdx? fun f => decide (0 < f.t i) with
  | some k => (((m + k : Nat)) : Int)
  | none => -1
end Go.Proofs.YtoiepgcjinccpaaDoor.Bs
namespace Go.Proofs.YtoiepgcjinccpaaDoor.X
open Go Go.RowKit Go.Proofs.YtoiepgcjinccpaaDoor.Bs
set_option linter.unusedVariables false
def intK : Kind Int := ⟨3, 1, fun k => [.int .i64 k], fun _ => [], fun _ => rfl⟩
theorem intK_el : elemOk Tryd.prog 26 intK.ty intK.m 8 = true := by kernel_rfl
theorem ints_flat' (l : List Int) : l.flatMap intK.c = ints l := by
  unfold ints
  induction l with
  | nil => rfl
  | cons a l ih => rw [List.flatMap_cons, ih]; rfl
theorem ListAt.ints {w : World} {ok : Nat → Prop} {r : SV} {l : List Int} (h : ListAt intK w ok r l) : IntsAt w ok r l := ⟨by have := h.rd; rw [ints_flat'] at this; exact this, h.max⟩
/-- what run leaves. -/
def MomV (b : Bas) (s : Sta) (ts : List Tick) (v : Value) (new : List Held) : Prop :=
  ∃ (rm : SV) (ms : List Mom), v = .tuple ⟨[svV rm, .int .i64 (runE b s ts)]⟩ ∧ new = [hList momK rm ms] ∧ ms.length ≤ 300 ∧ ms.map (·.s) = runS b s ts ∧ ms.map (·.f) = runF b s ts
theorem run_made {p : BV} {b : Bas} {q r : SV} {s : Sta} {ts : List Tick} {w : World} (hL : Laid w) (hb : BasAt w w.heap.size p b) (hq : IntsAt w (Lt w.heap.size) q s.fil) (ht : TksAt w (Lt w.heap.size) r ts) :
    Calls Tryd.prog 55 #[basV p b, staV q s, svV r] w (Made w (MomV b s ts)) := by
  refine (run_any hL hb hq ht).mono fun e w' ⟨v, h1, h2, h3⟩ => ?_
  rcases h2 with ⟨h4, rfl⟩ | ⟨h4, hE, h5, h6, rm, ms, rfl, hrow, hms⟩
  · obtain ⟨e1, e2⟩ := run_n h4
    refine ⟨_, _, h1, ⟨⟨none, 0, 0⟩, [], rfl, rfl, by simp, e1.symm, e2.symm⟩, fun x hx => ?_, h3⟩
    rw [List.mem_singleton] at hx
    subst hx
    exact ListAt.nil
  · obtain ⟨e1, e2⟩ := run_0 h4
    have hl := congrArg List.length hms
    simp [momsAt] at hl
    refine ⟨_, _, h1, ⟨rm, ms, by rw [h4], rfl, by omega, ?_, ?_⟩, fun x hx => ?_, h3⟩
    · rw [e1, ← hms, List.map_map]; rfl
    · rw [e2, ← hms, List.map_map]; rfl
    · rw [List.mem_singleton] at hx
      subst hx
      exact hrow.list
/-- what Floods leaves. -/
def FloodV (b : Bas) (s : Sta) (ts : List Tick) (v : Value) (new : List Held) : Prop := ∃ r : SV, v = .tuple ⟨[svV r, .int .i64 (runE b s ts)]⟩ ∧ new = [hInts r (floods b s ts)]
theorem FloodV.made {b : Bas} {s : Sta} {ts : List Tick} {w w' : World} {r : SV} {e : Ending} (he : e = .returned (.tuple ⟨[svV r, .int .i64 (runE b s ts)]⟩)) (h : IntsAt w' (Btw w.heap.size w'.heap.size) r (floods b s ts)) (hB : Below w.heap.size w w') : Made w (FloodV b s ts) e w' :=
  ⟨_, _, he, ⟨r, rfl, rfl⟩, fun x hx => by rw [List.mem_singleton] at hx; subst hx; exact h, hB⟩
theorem floods_n {b : Bas} {s : Sta} {ts : List Tick} (h : runE b s ts ≠ 0) : floods b s ts = [] := by simp [floods, h]
theorem floods_0 {b : Bas} {s : Sta} {ts : List Tick} (h : runE b s ts = 0) : floods b s ts = (List.range b.pols.length).map (firstF (runF b s ts)) := by simp [floods, h]
set_option maxHeartbeats 4000000 in
theorem floods1_any {m : Mom} {gi i : Nat} {w : World} (h1 : w.heap[gi]? = some (cel 3 [.int .i64 (i : Nat)])) (hr : IntsAt w (Lt w.heap.size) m.r m.f.taken) (hi : i < m.f.taken.length) :
    Calls Tryd.prog 61 #[.agg ⟨m.c⟩, .pointer (some ⟨gi, 0, none⟩)] w fun e w' => e = .returned (.bool (decide (0 < m.f.t i))) ∧ Below w.heap.size w w' := by
  obtain ⟨s, f, q, ⟨A, n, c⟩⟩ := m
  simp only at hr hi ⊢
  have hn := hr.len
  have hmax := hr.max
  simp only at hn hmax
  subst hn
  obtain ⟨ad, rfl, hlt, hcells⟩ := hr.at_ (by omega)
  have hcell := hcells i hi
  have hl1 := (Array.getElem?_eq_some_iff.1 h1).1
  have hc1 : w.cell? ⟨gi, 0, none⟩ = some (.int .i64 (i : Nat)) := by simp [World.cell?, h1]
  simp only [Mom.c, momC, staC, floC, List.cons_append, List.nil_append]
  refine enter Tryd.func61 rfl Tryd.ntmps61 rfl ?_; simp only [frame, Nat.zero_add, Nat.reduceAdd]
  repeat (first | (refine M0 ?_; first | refine O0 ?_ | refine z1 tok rfl ?_ | refine O1 rfl ?_ rfl | refine O2 rfl ?_ | refine O3 rfl ?_ rfl | refine U0 _ (Ev.load_old tok rfl rfl hl1 hc1) rfl ?_ | refine U0 _ (Ev.load_old tok rfl rfl (add_lt hlt) hcell) rfl ?_ | refine O4 rfl rfl rfl (fun _ _ => ?_) | refine O5 tok rfl rfl rfl (fun _ _ => ?_) | refine U0 _ (U2 rfl) rfl ?_ | refine U0 _ (U3 tok rfl rfl rfl rfl rfl) rfl ?_ | refine z3 tok rfl ?_ | refine U0 _ (U4 rfl rfl) rfl ?_ | refine U0 _ (U5 rfl rfl) rfl ?_) | (refine M1 ?_; first | refine J0 ?_ | refine J1 ?_ | refine J2 mixed rfl (by kernel_rfl) ?_ | refine J3 mixed rfl rfl (by kernel_rfl) ?_ | refine J4 ?_ | refine J5 ?_ | refine J6 ?_ | refine J7 ?_ | refine J8 rfl ?_ | refine J9 rfl ?_) | (refine M2 ?_; first | refine I0 ?_ | refine I1 ?_ | refine I2 ?_ | refine I3 ?_ | refine I4 ?_ | refine I5 ?_ | refine I6 rfl ?_ | refine I7 ?_ | refine I8 ?_ | refine z4 ?_) | (refine M3 ?_; first | refine O6 ?_ | refine z2 tok rfl ?_ | refine O8 rfl ?_ | refine O7 rfl ?_ rfl | refine O9 rfl ?_ rfl | refine U1 _ (Ev.load_old tok rfl rfl hl1 hc1) rfl ?_ | refine U1 _ (Ev.load_old tok rfl rfl (add_lt hlt) hcell) rfl ?_ | refine U1 _ (U4 rfl rfl) rfl ?_ | refine U1 _ (U5 rfl rfl) rfl ?_ | refine U1 _ (U2 rfl) rfl ?_ | refine U1 _ (U3 tok rfl rfl rfl rfl rfl) rfl ?_) | (refine M4 ?_; first | refine M6 ?_ | refine U6 rfl (by kernel_rfl) ?_ | refine U7 (by kernel_rfl) ?_) | (refine M5 ?_; first | exact M7 | refine U8 rfl ?_ | refine U9 rfl rfl ?_ ?_))
  refine XE.retg tok Tryd.results61 rfl (by simp only [and_self, and_true]) (fun w' S => ?_)
  exact ⟨rfl, S.toBelow⟩
def idxV (ms : List Mom) (P : Mom → Bool) : Int := match ms.findIdx? P with
  | some i => ((i : Nat) : Int)
  | none => -1
theorem idxV_first {b : Bas} {s : Sta} {ts : List Tick} {ms : List Mom} (h : ms.map (·.f) = runF b s ts) (k : Nat) : idxV ms (fun m => decide (0 < m.f.t k)) = firstF (runF b s ts) k := by
  rw [← h]
  unfold idxV firstF
  rw [List.findIdx?_map]
  rfl
set_option maxHeartbeats 4000000 in
theorem index_gen {f : FuncId} {cap : List Value} {P : Mom → Bool} {r : SV} {ms : List Mom} {w : World} (hck : callOk Tryd.prog f = true) (hr : ListAt momK w (Lt w.heap.size) r ms) (hn : ms.length ≤ 1000)
    (hc : ∀ m, m ∈ ms → ∀ w', Below w.heap.size w w' → Calls Tryd.prog f ([] ++ [Value.agg ⟨m.c⟩] ++ cap).toArray w' fun e w'' => e = .returned (.bool (P m)) ∧ Below w'.heap.size w' w'') :
    Calls Tryd.prog 60 #[svV r, .func (.func f) #[] cap.toArray] w fun e w' => e = .returned (.int .i64 (idxV ms P)) ∧ Below w.heap.size w w' := by
  obtain ⟨A, n, c⟩ := r
  have hln := hr.len (by decide)
  simp only at hln
  subst hln
  simp only [svV]
  refine enter Tryd.func60 rfl Tryd.ntmps60 rfl ?_; simp only [frame, Nat.zero_add, Nat.reduceAdd]
  repeat (first | (refine M0 ?_; first | refine O0 ?_ | refine z1 tok rfl ?_ | refine O1 rfl ?_ rfl | refine O2 rfl ?_ | refine O3 rfl ?_ rfl | refine O4 rfl rfl rfl (fun _ _ => ?_) | refine O5 tok rfl rfl rfl (fun _ _ => ?_) | refine U0 _ (U2 rfl) rfl ?_ | refine U0 _ (U3 tok rfl rfl rfl rfl rfl) rfl ?_ | refine z3 tok rfl ?_ | refine U0 _ (U4 rfl rfl) rfl ?_ | refine U0 _ (U5 rfl rfl) rfl ?_) | (refine M1 ?_; first | refine J0 ?_ | refine J1 ?_ | refine J2 mixed rfl (by kernel_rfl) ?_ | refine J3 mixed rfl rfl (by kernel_rfl) ?_ | refine J4 ?_ | refine J5 ?_ | refine J6 ?_ | refine J7 ?_ | refine J8 rfl ?_ | refine J9 rfl ?_) | (refine M2 ?_; first | refine I0 ?_ | refine I1 ?_ | refine I2 ?_ | refine I3 ?_ | refine I4 ?_ | refine I5 ?_ | refine I6 rfl ?_ | refine I7 ?_ | refine I8 ?_ | refine z4 ?_) | (refine M3 ?_; first | refine O6 ?_ | refine z2 tok rfl ?_ | refine O8 rfl ?_ | refine O7 rfl ?_ rfl | refine O9 rfl ?_ rfl | refine U1 _ (U4 rfl rfl) rfl ?_ | refine U1 _ (U5 rfl rfl) rfl ?_ | refine U1 _ (U2 rfl) rfl ?_ | refine U1 _ (U3 tok rfl rfl rfl rfl rfl) rfl ?_) | (refine M4 ?_; first | refine M6 ?_ | refine U6 rfl (by kernel_rfl) ?_ | refine U7 (by kernel_rfl) ?_) | (refine M5 ?_; first | exact M7 | refine U8 rfl ?_ | refine U9 rfl rfl ?_ ?_))
  refine XC.loopk [0, 1, 7] rfl (fun k : Nat => [(8, .int .i64 (k : Nat))]) (fun _ => []) (fun _ => w) (fun k => k ≤ ms.length ∧ ∀ j m, j < k → ms[j]? = some m → P m = false) (fun k => ms.length - k) 0 ⟨Nat.zero_le _, fun j m h => absurd h (by omega)⟩ (by repeat (first | exact Sub.nil | refine Sub.cons rfl ?_)) (fun _ h => h) ?_
  rintro k ⟨hk, h0⟩
  dsimp only [List.cons_append, List.nil_append]
  repeat (first | (refine M0 ?_; first | refine O0 ?_ | refine z1 tok rfl ?_ | refine O1 rfl ?_ rfl | refine O2 rfl ?_ | refine O3 rfl ?_ rfl | refine O4 rfl rfl rfl (fun _ _ => ?_) | refine O5 tok rfl rfl rfl (fun _ _ => ?_) | refine U0 _ (U2 rfl) rfl ?_ | refine U0 _ (U3 tok rfl rfl rfl rfl rfl) rfl ?_ | refine z3 tok rfl ?_ | refine U0 _ (U4 rfl rfl) rfl ?_ | refine U0 _ (U5 rfl rfl) rfl ?_) | (refine M1 ?_; first | refine J0 ?_ | refine J1 ?_ | refine J2 mixed rfl (by kernel_rfl) ?_ | refine J3 mixed rfl rfl (by kernel_rfl) ?_ | refine J4 ?_ | refine J5 ?_ | refine J6 ?_ | refine J7 ?_ | refine J8 rfl ?_ | refine J9 rfl ?_) | (refine M2 ?_; first | refine I0 ?_ | refine I1 ?_ | refine I2 ?_ | refine I3 ?_ | refine I4 ?_ | refine I5 ?_ | refine I6 rfl ?_ | refine I7 ?_ | refine I8 ?_ | refine z4 ?_) | (refine M3 ?_; first | refine O6 ?_ | refine z2 tok rfl ?_ | refine O8 rfl ?_ | refine O7 rfl ?_ rfl | refine O9 rfl ?_ rfl | refine U1 _ (U4 rfl rfl) rfl ?_ | refine U1 _ (U5 rfl rfl) rfl ?_ | refine U1 _ (U2 rfl) rfl ?_ | refine U1 _ (U3 tok rfl rfl rfl rfl rfl) rfl ?_) | (refine M4 ?_; first | refine M6 ?_ | refine U6 rfl (by kernel_rfl) ?_ | refine U7 (by kernel_rfl) ?_) | (refine M5 ?_; first | exact M7 | refine U8 rfl ?_ | refine U9 rfl rfl ?_ ?_))
  refine XC.cond _ rfl (fun h3 => ?_) (fun h3 => ?_)
  · have hkn : k < ms.length := by simpa using h3
    obtain ⟨ad, rfl, hlt⟩ := hr.addr (by decide) (by omega)
    have hmk : ms[k]? = some ms[k] := List.getElem?_eq_getElem hkn
    have hcell : ∀ j u, ms[k].c[j]? = some u → w.cell? ((ad.add (k * 7)).add j) = some u := hr.elem hmk
    repeat (first | (refine M0 ?_; first | refine O0 ?_ | refine z1 tok rfl ?_ | refine O1 rfl ?_ rfl | refine O2 rfl ?_ | refine O3 rfl ?_ rfl | refine U0 _ (Ev.load_old_agg tok ms[k].c rfl rfl rfl (add_lt hlt) hcell) rfl ?_ | refine U0 _ (Ev.callv (f := f) (fst := []) (cap := cap) hck rfl rfl (fun w S => hc _ (List.getElem_mem hkn) w S.toBelow)) rfl ?_ | refine O4 rfl rfl rfl (fun _ _ => ?_) | refine O5 tok rfl rfl rfl (fun _ _ => ?_) | refine U0 _ (U2 rfl) rfl ?_ | refine U0 _ (U3 tok rfl rfl rfl rfl rfl) rfl ?_ | refine z3 tok rfl ?_ | refine U0 _ (U4 rfl rfl) rfl ?_ | refine U0 _ (U5 rfl rfl) rfl ?_) | (refine M1 ?_; first | refine J0 ?_ | refine J1 ?_ | refine J2 mixed rfl (by kernel_rfl) ?_ | refine J3 mixed rfl rfl (by kernel_rfl) ?_ | refine J4 ?_ | refine J5 ?_ | refine J6 ?_ | refine J7 ?_ | refine J8 rfl ?_ | refine J9 rfl ?_) | (refine M2 ?_; first | refine I0 ?_ | refine I1 ?_ | refine I2 ?_ | refine I3 ?_ | refine I4 ?_ | refine I5 ?_ | refine I6 rfl ?_ | refine I7 ?_ | refine I8 ?_ | refine z4 ?_) | (refine M3 ?_; first | refine O6 ?_ | refine z2 tok rfl ?_ | refine O8 rfl ?_ | refine O7 rfl ?_ rfl | refine O9 rfl ?_ rfl | refine U1 _ (Ev.load_old_agg tok ms[k].c rfl rfl rfl (add_lt hlt) hcell) rfl ?_ | refine U1 _ (Ev.callv (f := f) (fst := []) (cap := cap) hck rfl rfl (fun w S => hc _ (List.getElem_mem hkn) w S.toBelow)) rfl ?_ | refine U1 _ (U4 rfl rfl) rfl ?_ | refine U1 _ (U5 rfl rfl) rfl ?_ | refine U1 _ (U2 rfl) rfl ?_ | refine U1 _ (U3 tok rfl rfl rfl rfl rfl) rfl ?_) | (refine M4 ?_; first | refine M6 ?_ | refine U6 rfl (by kernel_rfl) ?_ | refine U7 (by kernel_rfl) ?_) | (refine M5 ?_; first | exact M7 | refine U8 rfl ?_ | refine U9 rfl rfl ?_ ?_))
    refine XC.cond _ rfl (fun h4 => ?_) (fun h4 => ?_)
    · repeat (first | (refine M0 ?_; first | refine O0 ?_ | refine z1 tok rfl ?_ | refine O1 rfl ?_ rfl | refine O2 rfl ?_ | refine O3 rfl ?_ rfl | refine O4 rfl rfl rfl (fun _ _ => ?_) | refine O5 tok rfl rfl rfl (fun _ _ => ?_) | refine U0 _ (U2 rfl) rfl ?_ | refine U0 _ (U3 tok rfl rfl rfl rfl rfl) rfl ?_ | refine z3 tok rfl ?_ | refine U0 _ (U4 rfl rfl) rfl ?_ | refine U0 _ (U5 rfl rfl) rfl ?_) | (refine M1 ?_; first | refine J0 ?_ | refine J1 ?_ | refine J2 mixed rfl (by kernel_rfl) ?_ | refine J3 mixed rfl rfl (by kernel_rfl) ?_ | refine J4 ?_ | refine J5 ?_ | refine J6 ?_ | refine J7 ?_ | refine J8 rfl ?_ | refine J9 rfl ?_) | (refine M2 ?_; first | refine I0 ?_ | refine I1 ?_ | refine I2 ?_ | refine I3 ?_ | refine I4 ?_ | refine I5 ?_ | refine I6 rfl ?_ | refine I7 ?_ | refine I8 ?_ | refine z4 ?_) | (refine M3 ?_; first | refine O6 ?_ | refine z2 tok rfl ?_ | refine O8 rfl ?_ | refine O7 rfl ?_ rfl | refine O9 rfl ?_ rfl | refine U1 _ (U4 rfl rfl) rfl ?_ | refine U1 _ (U5 rfl rfl) rfl ?_ | refine U1 _ (U2 rfl) rfl ?_ | refine U1 _ (U3 tok rfl rfl rfl rfl rfl) rfl ?_) | (refine M4 ?_; first | refine M6 ?_ | refine U6 rfl (by kernel_rfl) ?_ | refine U7 (by kernel_rfl) ?_) | (refine M5 ?_; first | exact M7 | refine U8 rfl ?_ | refine U9 rfl rfl ?_ ?_))
      refine XE.retg tok Tryd.results60 rfl (by simp only [and_self, and_true]) (fun w' S => ?_)
      have : ms.findIdx? P = some k := by
        rw [List.findIdx?_eq_some_iff_getElem]
        exact ⟨hkn, h4, fun j hj => by simpa using h0 j _ hj (List.getElem?_eq_getElem (by omega))⟩
      unfold idxV
      rw [this]
      exact ⟨rfl, S.toBelow⟩
    · repeat (first | (refine M0 ?_; first | refine O0 ?_ | refine z1 tok rfl ?_ | refine O1 rfl ?_ rfl | refine O2 rfl ?_ | refine O3 rfl ?_ rfl | refine O4 rfl rfl rfl (fun _ _ => ?_) | refine O5 tok rfl rfl rfl (fun _ _ => ?_) | refine U0 _ (U2 rfl) rfl ?_ | refine U0 _ (U3 tok rfl rfl rfl rfl rfl) rfl ?_ | refine z3 tok rfl ?_ | refine U0 _ (U4 rfl rfl) rfl ?_ | refine U0 _ (U5 rfl rfl) rfl ?_) | (refine M1 ?_; first | refine J0 ?_ | refine J1 ?_ | refine J2 mixed rfl (by kernel_rfl) ?_ | refine J3 mixed rfl rfl (by kernel_rfl) ?_ | refine J4 ?_ | refine J5 ?_ | refine J6 ?_ | refine J7 ?_ | refine J8 rfl ?_ | refine J9 rfl ?_) | (refine M2 ?_; first | refine I0 ?_ | refine I1 ?_ | refine I2 ?_ | refine I3 ?_ | refine I4 ?_ | refine I5 ?_ | refine I6 rfl ?_ | refine I7 ?_ | refine I8 ?_ | refine z4 ?_) | (refine M3 ?_; first | refine O6 ?_ | refine z2 tok rfl ?_ | refine O8 rfl ?_ | refine O7 rfl ?_ rfl | refine O9 rfl ?_ rfl | refine U1 _ (U4 rfl rfl) rfl ?_ | refine U1 _ (U5 rfl rfl) rfl ?_ | refine U1 _ (U2 rfl) rfl ?_ | refine U1 _ (U3 tok rfl rfl rfl rfl rfl) rfl ?_) | (refine M4 ?_; first | refine M6 ?_ | refine U6 rfl (by kernel_rfl) ?_ | refine U7 (by kernel_rfl) ?_) | (refine M5 ?_; first | exact M7 | refine U8 rfl ?_ | refine U9 rfl rfl ?_ ?_))
      refine XE.round (k + 1) ⟨hkn, fun j m hj hm => ?_⟩ (by omega) (by repeat (first | exact Sub.nil | refine Sub.cons rfl ?_)) (fun _ h => h)
      rcases Nat.lt_or_ge j k with h5 | h5
      · exact h0 j m h5 hm
      · have : j = k := by omega
        subst this
        rw [hmk] at hm
        cases hm
        exact h4
  · have hkn : ¬ k < ms.length := by simpa using h3
    repeat (first | (refine M0 ?_; first | refine O0 ?_ | refine z1 tok rfl ?_ | refine O1 rfl ?_ rfl | refine O2 rfl ?_ | refine O3 rfl ?_ rfl | refine O4 rfl rfl rfl (fun _ _ => ?_) | refine O5 tok rfl rfl rfl (fun _ _ => ?_) | refine U0 _ (U2 rfl) rfl ?_ | refine U0 _ (U3 tok rfl rfl rfl rfl rfl) rfl ?_ | refine z3 tok rfl ?_ | refine U0 _ (U4 rfl rfl) rfl ?_ | refine U0 _ (U5 rfl rfl) rfl ?_) | (refine M1 ?_; first | refine J0 ?_ | refine J1 ?_ | refine J2 mixed rfl (by kernel_rfl) ?_ | refine J3 mixed rfl rfl (by kernel_rfl) ?_ | refine J4 ?_ | refine J5 ?_ | refine J6 ?_ | refine J7 ?_ | refine J8 rfl ?_ | refine J9 rfl ?_) | (refine M2 ?_; first | refine I0 ?_ | refine I1 ?_ | refine I2 ?_ | refine I3 ?_ | refine I4 ?_ | refine I5 ?_ | refine I6 rfl ?_ | refine I7 ?_ | refine I8 ?_ | refine z4 ?_) | (refine M3 ?_; first | refine O6 ?_ | refine z2 tok rfl ?_ | refine O8 rfl ?_ | refine O7 rfl ?_ rfl | refine O9 rfl ?_ rfl | refine U1 _ (U4 rfl rfl) rfl ?_ | refine U1 _ (U5 rfl rfl) rfl ?_ | refine U1 _ (U2 rfl) rfl ?_ | refine U1 _ (U3 tok rfl rfl rfl rfl rfl) rfl ?_) | (refine M4 ?_; first | refine M6 ?_ | refine U6 rfl (by kernel_rfl) ?_ | refine U7 (by kernel_rfl) ?_) | (refine M5 ?_; first | exact M7 | refine U8 rfl ?_ | refine U9 rfl rfl ?_ ?_))
    refine XE.retg tok Tryd.results60 rfl (by simp only [and_self, and_true]) (fun w' S => ?_)
    have : ms.findIdx? P = none := by
      rw [List.findIdx?_eq_none_iff]
      intro m hm
      obtain ⟨j, hj, e⟩ := List.mem_iff_getElem.1 hm
      exact h0 j m (by omega) (by rw [List.getElem?_eq_getElem hj, e])
    unfold idxV
    rw [this]
    exact ⟨rfl, S.toBelow⟩
set_option maxHeartbeats 8000000 in
theorem Floods_any {p : BV} {b : Bas} {q r : SV} {s : Sta} {ts : List Tick} {w : World} (hL : Laid w) (hb : BasAt w w.heap.size p b) (hq : IntsAt w (Lt w.heap.size) q s.fil) (ht : TksAt w (Lt w.heap.size) r ts) :
    Calls Tryd.prog 29 #[basV p b, staV q s, svV r] w (Made w (FloodV b s ts)) := by
  obtain ⟨A, n, c, A2, n2, c2⟩ := p
  have hn2 := hb.n2_eq
  simp only at hn2
  subst hn2
  simp only [basV, basC, staV, staC, svV]
  refine enter Tryd.func29 rfl Tryd.ntmps29 rfl ?_; simp only [frame, Nat.zero_add, Nat.reduceAdd]
  repeat (first | (refine M0 ?_; first | refine O0 ?_ | refine z1 tok rfl ?_ | refine O1 rfl ?_ rfl | refine O2 rfl ?_ | refine O3 rfl ?_ rfl | refine O4 rfl rfl rfl (fun _ _ => ?_) | refine O5 tok rfl rfl rfl (fun _ _ => ?_) | refine U0 _ (U2 rfl) rfl ?_ | refine U0 _ (U3 tok rfl rfl rfl rfl rfl) rfl ?_ | refine z3 tok rfl ?_ | refine U0 _ (U4 rfl rfl) rfl ?_ | refine U0 _ (U5 rfl rfl) rfl ?_) | (refine M1 ?_; first | refine J0 ?_ | refine J1 ?_ | refine J2 mixed rfl (by kernel_rfl) ?_ | refine J3 mixed rfl rfl (by kernel_rfl) ?_ | refine J4 ?_ | refine J5 ?_ | refine J6 ?_ | refine J7 ?_ | refine J8 rfl ?_ | refine J9 rfl ?_) | (refine M2 ?_; first | refine I0 ?_ | refine I1 ?_ | refine I2 ?_ | refine I3 ?_ | refine I4 ?_ | refine I5 ?_ | refine I6 rfl ?_ | refine I7 ?_ | refine I8 ?_ | refine z4 ?_) | (refine M3 ?_; first | refine O6 ?_ | refine z2 tok rfl ?_ | refine O8 rfl ?_ | refine O7 rfl ?_ rfl | refine O9 rfl ?_ rfl | refine U1 _ (U4 rfl rfl) rfl ?_ | refine U1 _ (U5 rfl rfl) rfl ?_ | refine U1 _ (U2 rfl) rfl ?_ | refine U1 _ (U3 tok rfl rfl rfl rfl rfl) rfl ?_) | (refine M4 ?_; first | refine M6 ?_ | refine U6 rfl (by kernel_rfl) ?_ | refine U7 (by kernel_rfl) ?_) | (refine M5 ?_; first | exact M7 | refine U8 rfl ?_ | refine U9 rfl rfl ?_ ?_))
  rename_i g3 hg3 g4 hg4
  refine XL.callF (MomV b s ts) (ck rfl) rfl rfl (Fam.start (ks := []) (Nat.le_refl w.heap.size)) (fun _ h => by cases h) (Below.refl w.heap.size w) (fun w1 S1 _ _ => run_made (p := ⟨A, n, c, A2, b.pols.length, c2⟩) (q := q) (r := r) (hL.below S1.toBelow) (hb.sys S1) (hq.arg S1) (ht.arg S1)) (fun w2 v new hR hF2 hB2 hk2 => ?_)
  obtain ⟨rm, ms, rfl, rfl, hlen, e1, e2⟩ := hR
  simp only [svV]
  repeat (first | (refine M0 ?_; first | refine O0 ?_ | refine z1 tok rfl ?_ | refine O1 rfl ?_ rfl | refine O2 rfl ?_ | refine O3 rfl ?_ rfl | refine O4 rfl rfl rfl (fun _ _ => ?_) | refine O5 tok rfl rfl rfl (fun _ _ => ?_) | refine U0 _ (U2 rfl) rfl ?_ | refine U0 _ (U3 tok rfl rfl rfl rfl rfl) rfl ?_ | refine z3 tok rfl ?_ | refine U0 _ (U4 rfl rfl) rfl ?_ | refine U0 _ (U5 rfl rfl) rfl ?_) | (refine M1 ?_; first | refine J0 ?_ | refine J1 ?_ | refine J2 mixed rfl (by kernel_rfl) ?_ | refine J3 mixed rfl rfl (by kernel_rfl) ?_ | refine J4 ?_ | refine J5 ?_ | refine J6 ?_ | refine J7 ?_ | refine J8 rfl ?_ | refine J9 rfl ?_) | (refine M2 ?_; first | refine I0 ?_ | refine I1 ?_ | refine I2 ?_ | refine I3 ?_ | refine I4 ?_ | refine I5 ?_ | refine I6 rfl ?_ | refine I7 ?_ | refine I8 ?_ | refine z4 ?_) | (refine M3 ?_; first | refine O6 ?_ | refine z2 tok rfl ?_ | refine O8 rfl ?_ | refine O7 rfl ?_ rfl | refine O9 rfl ?_ rfl | refine U1 _ (U4 rfl rfl) rfl ?_ | refine U1 _ (U5 rfl rfl) rfl ?_ | refine U1 _ (U2 rfl) rfl ?_ | refine U1 _ (U3 tok rfl rfl rfl rfl rfl) rfl ?_) | (refine M4 ?_; first | refine M6 ?_ | refine U6 rfl (by kernel_rfl) ?_ | refine U7 (by kernel_rfl) ?_) | (refine M5 ?_; first | exact M7 | refine U8 rfl ?_ | refine U9 rfl rfl ?_ ?_))
  refine XC.cond _ rfl (fun h0 => ?_) (fun h0 => ?_)
  · have hE : runE b s ts ≠ 0 := by simpa using h0
    repeat (first | (refine M0 ?_; first | refine O0 ?_ | refine z1 tok rfl ?_ | refine O1 rfl ?_ rfl | refine O2 rfl ?_ | refine O3 rfl ?_ rfl | refine O4 rfl rfl rfl (fun _ _ => ?_) | refine O5 tok rfl rfl rfl (fun _ _ => ?_) | refine U0 _ (U2 rfl) rfl ?_ | refine U0 _ (U3 tok rfl rfl rfl rfl rfl) rfl ?_ | refine z3 tok rfl ?_ | refine U0 _ (U4 rfl rfl) rfl ?_ | refine U0 _ (U5 rfl rfl) rfl ?_) | (refine M1 ?_; first | refine J0 ?_ | refine J1 ?_ | refine J2 mixed rfl (by kernel_rfl) ?_ | refine J3 mixed rfl rfl (by kernel_rfl) ?_ | refine J4 ?_ | refine J5 ?_ | refine J6 ?_ | refine J7 ?_ | refine J8 rfl ?_ | refine J9 rfl ?_) | (refine M2 ?_; first | refine I0 ?_ | refine I1 ?_ | refine I2 ?_ | refine I3 ?_ | refine I4 ?_ | refine I5 ?_ | refine I6 rfl ?_ | refine I7 ?_ | refine I8 ?_ | refine z4 ?_) | (refine M3 ?_; first | refine O6 ?_ | refine z2 tok rfl ?_ | refine O8 rfl ?_ | refine O7 rfl ?_ rfl | refine O9 rfl ?_ rfl | refine U1 _ (U4 rfl rfl) rfl ?_ | refine U1 _ (U5 rfl rfl) rfl ?_ | refine U1 _ (U2 rfl) rfl ?_ | refine U1 _ (U3 tok rfl rfl rfl rfl rfl) rfl ?_) | (refine M4 ?_; first | refine M6 ?_ | refine U6 rfl (by kernel_rfl) ?_ | refine U7 (by kernel_rfl) ?_) | (refine M5 ?_; first | exact M7 | refine U8 rfl ?_ | refine U9 rfl rfl ?_ ?_))
    refine XE.retg tok Tryd.results29 rfl (by simp only [and_self, and_true]) (fun w' S => ?_)
    exact FloodV.made (r := ⟨none, 0, 0⟩) rfl (by rw [floods_n hE]; exact IntsAt.nil) (hB2.trans S.toBelow)
  have hE : runE b s ts = 0 := by simpa using h0
  obtain ⟨hs0, h300, herr⟩ := runE_0 hE
  have ho := (staOk_of hs0).1
  have hm6 := ho.m6
  repeat (first | (refine M0 ?_; first | refine O0 ?_ | refine z1 tok rfl ?_ | refine O1 rfl ?_ rfl | refine O2 rfl ?_ | refine O3 rfl ?_ rfl | refine O4 rfl rfl rfl (fun _ _ => ?_) | refine O5 tok rfl rfl rfl (fun _ _ => ?_) | refine U0 _ (U2 rfl) rfl ?_ | refine U0 _ (U3 tok rfl rfl rfl rfl rfl) rfl ?_ | refine z3 tok rfl ?_ | refine U0 _ (U4 rfl rfl) rfl ?_ | refine U0 _ (U5 rfl rfl) rfl ?_) | (refine M1 ?_; first | refine J0 ?_ | refine J1 ?_ | refine J2 mixed rfl (by kernel_rfl) ?_ | refine J3 mixed rfl rfl (by kernel_rfl) ?_ | refine J4 ?_ | refine J5 ?_ | refine J6 ?_ | refine J7 ?_ | refine J8 rfl ?_ | refine J9 rfl ?_) | (refine M2 ?_; first | refine I0 ?_ | refine I1 ?_ | refine I2 ?_ | refine I3 ?_ | refine I4 ?_ | refine I5 ?_ | refine I6 rfl ?_ | refine I7 ?_ | refine I8 ?_ | refine z4 ?_) | (refine M3 ?_; first | refine O6 ?_ | refine z2 tok rfl ?_ | refine O8 rfl ?_ | refine O7 rfl ?_ rfl | refine O9 rfl ?_ rfl | refine U1 _ (U4 rfl rfl) rfl ?_ | refine U1 _ (U5 rfl rfl) rfl ?_ | refine U1 _ (U2 rfl) rfl ?_ | refine U1 _ (U3 tok rfl rfl rfl rfl rfl) rfl ?_) | (refine M4 ?_; first | refine M6 ?_ | refine U6 rfl (by kernel_rfl) ?_ | refine U7 (by kernel_rfl) ?_) | (refine M5 ?_; first | exact M7 | refine U8 rfl ?_ | refine U9 rfl rfl ?_ ?_))
  refine XC.rebase (List.nil_sublist _) (fun W0 S0 => ?_)
  refine XC.loopk [8, 24] rfl (fun s' : Nat × World × Value => [(10, s'.2.2), (25, .int .i64 (s'.1 : Nat))]) (fun _ => []) (fun s' => s'.2.1)
    (fun s' => s'.1 ≤ b.pols.length ∧ Fam s'.2.1 w.heap.size [] [⟨Int, intK, s'.2.2, (List.range s'.1).map (firstF (runF b s ts))⟩] [hList momK rm ms] ∧ Below w.heap.size w s'.2.1)
    (fun s' => b.pols.length - s'.1) (0, W0, .slice none 0 0) ⟨Nat.zero_le _, ((hF2.sys S0 (by intro e he; repeat (first | (cases he; done) | (rcases List.mem_cons.1 he with rfl | he; · first | (right; assumption) | (left; simp <;> fail))))).add (ks' := []) fun k hk => by cases hk).nil intK, hB2.trans S0.toBelow⟩ (by repeat (first | exact Sub.nil | refine Sub.cons rfl ?_)) (fun _ h => h) ?_
  rintro ⟨k, W, v⟩ ⟨hk, hF, hBW⟩
  simp only at hk hF hBW
  dsimp only [List.cons_append, List.nil_append]
  repeat (first | (refine M0 ?_; first | refine O0 ?_ | refine z1 tok rfl ?_ | refine O1 rfl ?_ rfl | refine O2 rfl ?_ | refine O3 rfl ?_ rfl | refine O4 rfl rfl rfl (fun _ _ => ?_) | refine O5 tok rfl rfl rfl (fun _ _ => ?_) | refine U0 _ (U2 rfl) rfl ?_ | refine U0 _ (U3 tok rfl rfl rfl rfl rfl) rfl ?_ | refine z3 tok rfl ?_ | refine U0 _ (U4 rfl rfl) rfl ?_ | refine U0 _ (U5 rfl rfl) rfl ?_) | (refine M1 ?_; first | refine J0 ?_ | refine J1 ?_ | refine J2 mixed rfl (by kernel_rfl) ?_ | refine J3 mixed rfl rfl (by kernel_rfl) ?_ | refine J4 ?_ | refine J5 ?_ | refine J6 ?_ | refine J7 ?_ | refine J8 rfl ?_ | refine J9 rfl ?_) | (refine M2 ?_; first | refine I0 ?_ | refine I1 ?_ | refine I2 ?_ | refine I3 ?_ | refine I4 ?_ | refine I5 ?_ | refine I6 rfl ?_ | refine I7 ?_ | refine I8 ?_ | refine z4 ?_) | (refine M3 ?_; first | refine O6 ?_ | refine z2 tok rfl ?_ | refine O8 rfl ?_ | refine O7 rfl ?_ rfl | refine O9 rfl ?_ rfl | refine U1 _ (U4 rfl rfl) rfl ?_ | refine U1 _ (U5 rfl rfl) rfl ?_ | refine U1 _ (U2 rfl) rfl ?_ | refine U1 _ (U3 tok rfl rfl rfl rfl rfl) rfl ?_) | (refine M4 ?_; first | refine M6 ?_ | refine U6 rfl (by kernel_rfl) ?_ | refine U7 (by kernel_rfl) ?_) | (refine M5 ?_; first | exact M7 | refine U8 rfl ?_ | refine U9 rfl rfl ?_ ?_))
  refine XC.cond _ rfl (fun h1 => ?_) (fun h1 => ?_)
  · have hkn : k < b.pols.length := by simpa using h1
    have hks : ∀ k, k ∈ ([] : List Nat) → k < W.heap.size := fun k hk => by cases hk
    have hl1 : ((List.range k).map (firstF (runF b s ts))).length + 1 ≤ 10000000 := by simp; omega
    have ha1 : ∀ x, x ∈ intK.sl (firstF (runF b s ts) k) → x ∈ [hList momK rm ms] := fun x hx => by cases hx
    repeat (first | (refine M0 ?_; first | refine O0 ?_ | refine z1 tok rfl ?_ | refine O1 rfl ?_ rfl | refine O2 rfl ?_ | refine O3 rfl ?_ rfl | refine O4 rfl rfl rfl (fun _ _ => ?_) | refine O5 tok rfl rfl rfl (fun _ _ => ?_) | refine U0 _ (U2 rfl) rfl ?_ | refine U0 _ (U3 tok rfl rfl rfl rfl rfl) rfl ?_ | refine z3 tok rfl ?_ | refine U0 _ (U4 rfl rfl) rfl ?_ | refine U0 _ (U5 rfl rfl) rfl ?_) | (refine M1 ?_; first | refine J0 ?_ | refine J1 ?_ | refine J2 mixed rfl (by kernel_rfl) ?_ | refine J3 mixed rfl rfl (by kernel_rfl) ?_ | refine J4 ?_ | refine J5 ?_ | refine J6 ?_ | refine J7 ?_ | refine J8 rfl ?_ | refine J9 rfl ?_) | (refine M2 ?_; first | refine I0 ?_ | refine I1 ?_ | refine I2 ?_ | refine I3 ?_ | refine I4 ?_ | refine I5 ?_ | refine I6 rfl ?_ | refine I7 ?_ | refine I8 ?_ | refine z4 ?_) | (refine M3 ?_; first | refine O6 ?_ | refine z2 tok rfl ?_ | refine O8 rfl ?_ | refine O7 rfl ?_ rfl | refine O9 rfl ?_ rfl | refine U1 _ (U4 rfl rfl) rfl ?_ | refine U1 _ (U5 rfl rfl) rfl ?_ | refine U1 _ (U2 rfl) rfl ?_ | refine U1 _ (U3 tok rfl rfl rfl rfl rfl) rfl ?_) | (refine M4 ?_; first | refine M6 ?_ | refine U6 rfl (by kernel_rfl) ?_ | refine U7 (by kernel_rfl) ?_) | (refine M5 ?_; first | exact M7 | refine U8 rfl ?_ | refine U9 rfl rfl ?_ ?_))
    rename_i g11 hg11
    repeat (first | (refine M0 ?_; first | refine O0 ?_ | refine z1 tok rfl ?_ | refine O1 rfl ?_ rfl | refine O2 rfl ?_ | refine O3 rfl ?_ rfl | refine U0 _ (Ev.makeFunc rfl rfl) rfl ?_ | refine O4 rfl rfl rfl (fun _ _ => ?_) | refine O5 tok rfl rfl rfl (fun _ _ => ?_) | refine U0 _ (U2 rfl) rfl ?_ | refine U0 _ (U3 tok rfl rfl rfl rfl rfl) rfl ?_ | refine z3 tok rfl ?_ | refine U0 _ (U4 rfl rfl) rfl ?_ | refine U0 _ (U5 rfl rfl) rfl ?_) | (refine M1 ?_; first | refine J0 ?_ | refine J1 ?_ | refine J2 mixed rfl (by kernel_rfl) ?_ | refine J3 mixed rfl rfl (by kernel_rfl) ?_ | refine J4 ?_ | refine J5 ?_ | refine J6 ?_ | refine J7 ?_ | refine J8 rfl ?_ | refine J9 rfl ?_) | (refine M2 ?_; first | refine I0 ?_ | refine I1 ?_ | refine I2 ?_ | refine I3 ?_ | refine I4 ?_ | refine I5 ?_ | refine I6 rfl ?_ | refine I7 ?_ | refine I8 ?_ | refine z4 ?_) | (refine M3 ?_; first | refine O6 ?_ | refine z2 tok rfl ?_ | refine O8 rfl ?_ | refine O7 rfl ?_ rfl | refine O9 rfl ?_ rfl | refine U1 _ (Ev.makeFunc rfl rfl) rfl ?_ | refine U1 _ (U4 rfl rfl) rfl ?_ | refine U1 _ (U5 rfl rfl) rfl ?_ | refine U1 _ (U2 rfl) rfl ?_ | refine U1 _ (U3 tok rfl rfl rfl rfl rfl) rfl ?_) | (refine M4 ?_; first | refine M6 ?_ | refine U6 rfl (by kernel_rfl) ?_ | refine U7 (by kernel_rfl) ?_) | (refine M5 ?_; first | exact M7 | refine U8 rfl ?_ | refine U9 rfl rfl ?_ ?_))
    refine XL.step _ (Ev.call (f := 60) (ck rfl) rfl (fun w5 S5 => (index_gen (f := 61) (cap := [.pointer (some ⟨g11, 0, none⟩)]) (P := fun m => decide (0 < m.f.t k)) (r := rm) (ms := ms) (ck rfl) (Held.lt (x := hList momK rm ms) ((hF.sys S5 (by intro e he; repeat (first | (cases he; done) | (rcases List.mem_cons.1 he with rfl | he; · first | (right; assumption) | (left; simp <;> fail))))).get (.head _))) (by omega) (fun m hm w6 hb6 => by
      have h5 : ListAt momK w5 (Lt w5.heap.size) rm ms := Held.lt (x := hList momK rm ms) ((hF.sys S5 (by intro e he; repeat (first | (cases he; done) | (rcases List.mem_cons.1 he with rfl | he; · first | (right; assumption) | (left; simp <;> fail))))).get (.head _))
      have h6 : IntsAt w5 (Lt w5.heap.size) m.r m.f.taken := h5.ins m hm (hInts _ _) (.tail _ (.head _))
      have h7 := S5.own (g11, _) (.head _)
      refine floods1_any (m := m) (gi := g11) (i := k) ((hb6.block g11 (S5.lt (.head _))).trans h7.2) ((h6.below hb6).mono fun j hj => Nat.lt_of_lt_of_le hj hb6.size) ?_
      rw [flo_len (b := b) (s := s) (ts := ts) (by rw [← e2]; exact List.mem_map.2 ⟨m, hm, rfl⟩)]
      exact hkn) :))) rfl ?_
    rw [idxV_first e2 k]
    repeat (first | (refine M0 ?_; first | refine O0 ?_ | refine z1 tok rfl ?_ | refine O1 rfl ?_ rfl | refine O2 rfl ?_ | refine O3 rfl ?_ rfl | refine O4 rfl rfl rfl (fun _ _ => ?_) | refine O5 tok rfl rfl rfl (fun _ _ => ?_) | refine U0 _ (U2 rfl) rfl ?_ | refine U0 _ (U3 tok rfl rfl rfl rfl rfl) rfl ?_ | refine z3 tok rfl ?_ | refine U0 _ (U4 rfl rfl) rfl ?_ | refine U0 _ (U5 rfl rfl) rfl ?_ | refine XL.buildSlice tok rfl rfl rfl rfl rfl rfl rfl rfl rfl (fun _ _ => ?_) | (refine XL.at_push 26 ?_; refine XL.push (K := intK) (a := firstF (runF b s ts) k) (wE := w) 0 intK_el (by decide) rfl rfl rfl (by assumption) rfl (by assumption) (by assumption) (Nat.le_refl _) rfl hl1 (by decide) ha1 (fun _ _ _ _ _ => ?_))) | (refine M1 ?_; first | refine J0 ?_ | refine J1 ?_ | refine J2 mixed rfl (by kernel_rfl) ?_ | refine J3 mixed rfl rfl (by kernel_rfl) ?_ | refine J4 ?_ | refine J5 ?_ | refine J6 ?_ | refine J7 ?_ | refine J8 rfl ?_ | refine J9 rfl ?_) | (refine M2 ?_; first | refine I0 ?_ | refine I1 ?_ | refine I2 ?_ | refine I3 ?_ | refine I4 ?_ | refine I5 ?_ | refine I6 rfl ?_ | refine I7 ?_ | refine I8 ?_ | refine z4 ?_) | (refine M3 ?_; first | refine O6 ?_ | refine z2 tok rfl ?_ | refine O8 rfl ?_ | refine O7 rfl ?_ rfl | refine O9 rfl ?_ rfl | refine U1 _ (U4 rfl rfl) rfl ?_ | refine U1 _ (U5 rfl rfl) rfl ?_ | refine U1 _ (U2 rfl) rfl ?_ | refine U1 _ (U3 tok rfl rfl rfl rfl rfl) rfl ?_) | (refine M4 ?_; first | refine M6 ?_ | refine U6 rfl (by kernel_rfl) ?_ | refine U7 (by kernel_rfl) ?_) | (refine M5 ?_; first | exact M7 | refine U8 rfl ?_ | refine U9 rfl rfl ?_ ?_))
    refine XE.roundW (s := (k, W, v)) (fun w6 S6 => ⟨(k + 1, w6, _), ⟨hkn, ?_, ?_⟩, by simp only; omega, (by repeat (first | exact Sub.nil | refine Sub.cons rfl ?_)), S6.rebase (List.nil_sublist _)⟩)
    · rw [range_add]
      exact Fam.add (Fam.sys (by assumption) S6 (by intro e he; repeat (first | (cases he; done) | (rcases List.mem_cons.1 he with rfl | he; · first | (right; assumption) | (left; simp <;> fail))))) fun k hk => by cases hk
    · exact Below.trans (by assumption) S6.toBelow
  · have hkn : k = b.pols.length := by have : ¬ (k < b.pols.length) := by simpa using h1
                                       omega
    subst hkn
    repeat (first | (refine M0 ?_; first | refine O0 ?_ | refine z1 tok rfl ?_ | refine O1 rfl ?_ rfl | refine O2 rfl ?_ | refine O3 rfl ?_ rfl | refine O4 rfl rfl rfl (fun _ _ => ?_) | refine O5 tok rfl rfl rfl (fun _ _ => ?_) | refine U0 _ (U2 rfl) rfl ?_ | refine U0 _ (U3 tok rfl rfl rfl rfl rfl) rfl ?_ | refine z3 tok rfl ?_ | refine U0 _ (U4 rfl rfl) rfl ?_ | refine U0 _ (U5 rfl rfl) rfl ?_) | (refine M1 ?_; first | refine J0 ?_ | refine J1 ?_ | refine J2 mixed rfl (by kernel_rfl) ?_ | refine J3 mixed rfl rfl (by kernel_rfl) ?_ | refine J4 ?_ | refine J5 ?_ | refine J6 ?_ | refine J7 ?_ | refine J8 rfl ?_ | refine J9 rfl ?_) | (refine M2 ?_; first | refine I0 ?_ | refine I1 ?_ | refine I2 ?_ | refine I3 ?_ | refine I4 ?_ | refine I5 ?_ | refine I6 rfl ?_ | refine I7 ?_ | refine I8 ?_ | refine z4 ?_) | (refine M3 ?_; first | refine O6 ?_ | refine z2 tok rfl ?_ | refine O8 rfl ?_ | refine O7 rfl ?_ rfl | refine O9 rfl ?_ rfl | refine U1 _ (U4 rfl rfl) rfl ?_ | refine U1 _ (U5 rfl rfl) rfl ?_ | refine U1 _ (U2 rfl) rfl ?_ | refine U1 _ (U3 tok rfl rfl rfl rfl rfl) rfl ?_) | (refine M4 ?_; first | refine M6 ?_ | refine U6 rfl (by kernel_rfl) ?_ | refine U7 (by kernel_rfl) ?_) | (refine M5 ?_; first | exact M7 | refine U8 rfl ?_ | refine U9 rfl rfl ?_ ?_))
    refine XE.retg tok Tryd.results29 rfl (by simp only [and_self, and_true]) (fun w' S => ?_)
    have hF6 := hF.sys S (fun e he => by cases he)
    obtain ⟨r1, rfl, h5⟩ := hF6.list (.head _)
    exact FloodV.made (r := r1) (by rw [hE]; rfl) (by rw [floods_0 hE]; exact h5.ints) (hBW.trans S.toBelow)
end Go.Proofs.YtoiepgcjinccpaaDoor.X
/-
  The walk of the document's Floods; the law BasinStays.
-/
namespace Go.Proofs.YtoiepgcjinccpaaDoor.X
open Go Go.RowKit Go.Proofs.YtoiepgcjinccpaaDoor.Bs
set_option linter.unusedVariables false
theorem Free.ne {W : World} {b0 : Nat} {ks : List Nat} {rs : List RowX} {k : Nat} {L : Lo} (h : Free W b0 ks rs k) (hL : ∀ e, e ∈ L → e.1 ∈ ks) : ∀ e, e ∈ L → e.1 ≠ k := fun e he e1 => h.2.2.1 (e1 ▸ hL e he)
/-- a case. -/
structure CV where
  q : SV
  r : SV
structure Cas where
  s : Sta
  ts : List Tick
  lim : Int
def caseC (x : CV) (c : Cas) : List Value := [.int .i64 c.s.vol, .slice x.q.A x.q.n x.q.c, .slice x.r.A x.r.n x.r.c, .int .i64 c.lim]
def caseV (x : CV) (c : Cas) : Value := .agg ⟨caseC x c⟩
structure CaseAt (w : World) (ok : Nat → Prop) (x : CV) (c : Cas) : Prop where
  fil : IntsAt w ok x.q c.s.fil
  tks : TksAt w ok x.r c.ts
end Go.Proofs.YtoiepgcjinccpaaDoor.X
/-
  The plain words of layer 4: levels of volumes and volumes of levels, and that both are in order.
-/
namespace Go.Proofs.YtoiepgcjinccpaaDoor.Bs
set_option linter.unusedVariables false
/-- the piece in which a level lies. -/
def lsegTo (b : Bas) (l : Int) : Nat → Nat
  | 0 => 0
  | k + 1 => if (b.row (k + 1)).level ≤ l then k + 1 else lsegTo b l k
def lseg (b : Bas) (l : Int) : Nat := lsegTo b l (b.rows.length - 2)
/-- the greatest volume whose level is at most l, as the program reckons it. -/
def volAt (b : Bas) (l : Int) : Int := (b.row (lseg b l)).vol + (l - (b.row (lseg b l)).level) * ((b.row (lseg b l + 1)).vol - (b.row (lseg b l)).vol) / ((b.row (lseg b l + 1)).level - (b.row (lseg b l)).level)
def volOf (b : Bas) (l : Int) : Int := min 1000000000 (volAt b l)
def levLo (b : Bas) (v : Int) : Int := num b v / den b v
def levHi (b : Bas) (v : Int) : Int := -((-(num b v)) / den b v)
section
variable {b : Bas} (h : RowsOk b)
include h
theorem seg_spec {v : Int} (hv : (b.row 0).vol ≤ v) : seg b v + 1 < b.rows.length ∧ (b.row (seg b v)).vol ≤ v ∧ ∀ j, seg b v < j → j + 1 < b.rows.length → v < (b.row j).vol :=
  ⟨seg_lt h v, seg_vol hv, fun j h4 h5 => (segTo_spec (b := b) (v := v) (b.rows.length - 2)).2.2 j h4 (by omega)⟩
theorem rows_le {i j : Nat} (hij : i ≤ j) (hj : j < b.rows.length) : (b.row i).vol ≤ (b.row j).vol ∧ (b.row i).level ≤ (b.row j).level := by
  rcases Nat.eq_or_lt_of_le hij with rfl | h1
  · exact ⟨Int.le_refl _, Int.le_refl _⟩
  · have := h.lt h1 hj; omega
/-- THE EXACT LEVEL IS IN ORDER. -/
theorem exact_mono {v v' : Int} (hv : (b.row 0).vol ≤ v) (hvv : v ≤ v') : num b v * den b v' ≤ num b v' * den b v := by
  obtain ⟨s1, s2, s3⟩ := seg_spec h hv
  obtain ⟨t1, t2, t3⟩ := seg_spec h (v := v') (by omega)
  have p1 := den_pos h v
  have p2 := den_pos h v'
  have hst : seg b v ≤ seg b v' := by
    rcases Nat.lt_or_ge (seg b v') (seg b v) with c | c
    · have := t3 (seg b v) c s1; omega
    · exact c
  obtain ⟨s, hs⟩ : ∃ s, s = seg b v := ⟨_, rfl⟩
  obtain ⟨t, ht⟩ : ∃ s, s = seg b v' := ⟨_, rfl⟩
  have n1 : num b v = (b.row s).level * den b v + (v - (b.row s).vol) * ((b.row (s + 1)).level - (b.row s).level) := by rw [hs]; rfl
  have n2 : num b v' = (b.row t).level * den b v' + (v' - (b.row t).vol) * ((b.row (t + 1)).level - (b.row t).level) := by rw [ht]; rfl
  have q1 : den b v = (b.row (s + 1)).vol - (b.row s).vol := by rw [hs]; rfl
  rw [← hs] at s1 s2 s3 hst
  rw [← ht] at t1 t2 t3 hst
  have uD := h.levelUp s s1
  have uD' := h.levelUp t t1
  obtain ⟨d, hd⟩ : ∃ d, d = den b v := ⟨_, rfl⟩
  obtain ⟨d', hd'⟩ : ∃ d, d = den b v' := ⟨_, rfl⟩
  rw [← hd] at n1 q1 p1 ⊢
  rw [← hd'] at n2 p2 ⊢
  rcases Nat.eq_or_lt_of_le hst with c | c
  · have : d = d' := by rw [hd, hd']; unfold den; rw [← hs, ← ht, c]
    subst this
    rw [n1, n2, ← c]
    refine Int.mul_le_mul_of_nonneg_right ?_ (by omega)
    have : (v - (b.row s).vol) * ((b.row (s + 1)).level - (b.row s).level) ≤ (v' - (b.row s).vol) * ((b.row (s + 1)).level - (b.row s).level) := Int.mul_le_mul_of_nonneg_right (by omega) (by omega)
    omega
  · have e1 := rows_le h (show s + 1 ≤ t by omega) (by omega)
    have e2 := s3 (s + 1) (by omega) (by omega)
    have a1 : num b v ≤ (b.row (s + 1)).level * d := by
      have e4 : (v - (b.row s).vol) * ((b.row (s + 1)).level - (b.row s).level) ≤ d * ((b.row (s + 1)).level - (b.row s).level) := Int.mul_le_mul_of_nonneg_right (by omega) (by omega)
      have e6 : d * ((b.row (s + 1)).level - (b.row s).level) = (b.row (s + 1)).level * d - (b.row s).level * d := by rw [Int.mul_comm, Int.sub_mul]
      omega
    have a2 : (b.row t).level * d' ≤ num b v' := by
      have : 0 ≤ (v' - (b.row t).vol) * ((b.row (t + 1)).level - (b.row t).level) := Int.mul_nonneg (by omega) (by omega)
      omega
    have a3 : num b v * d' ≤ (b.row (s + 1)).level * d * d' := Int.mul_le_mul_of_nonneg_right a1 (by omega)
    have a4 : (b.row t).level * d' * d ≤ num b v' * d := Int.mul_le_mul_of_nonneg_right a2 (by omega)
    have a5 : (b.row (s + 1)).level * d * d' ≤ (b.row t).level * d' * d := by
      rw [Int.mul_assoc, Int.mul_assoc, Int.mul_comm d' d]
      exact Int.mul_le_mul_of_nonneg_right e1.2 (Int.mul_nonneg (by omega) (by omega))
    omega
end
end Go.Proofs.YtoiepgcjinccpaaDoor.Bs
/-
  The walks of Level and of Volume (both texts); the law BasinChecks.
-/
namespace Go.Proofs.YtoiepgcjinccpaaDoor.Bs
/-- what Level answers: the fault, and the least and greatest whole level. -/
noncomputable def lvlE (b : Bas) (v : Int) : Int := if chkE b ≠ 0 then chkE b else if outB v (b.row 0).vol 1000000000 = true then 7 else 0
noncomputable def lvlLo (b : Bas) (v : Int) : Int := if lvlE b v ≠ 0 then 0 else levLo b v
noncomputable def lvlHi (b : Bas) (v : Int) : Int := if lvlE b v ≠ 0 then 0 else levHi b v
/-- what Volume answers. -/
noncomputable def volE (b : Bas) (l : Int) : Int := if chkE b ≠ 0 then chkE b else if outB l (b.row 0).level 20000 = true then 7 else 0
noncomputable def volN (b : Bas) (l : Int) : Int := if volE b l ≠ 0 then 0 else volOf b l
end Go.Proofs.YtoiepgcjinccpaaDoor.Bs
namespace Go.Proofs.YtoiepgcjinccpaaDoor.X
open Go Go.RowKit Go.Proofs.YtoiepgcjinccpaaDoor.Bs
set_option linter.unusedVariables false
section
variable {N : Nat} {B : Nat} {w0 : World} {ds : List Deferred} {F : Fr} {L : Lo} {pu : Prop} {dst : Option Tmp} {ty : TypeId} {p : String} {af : Array Edge} {gd : Option (Nat × Bool)}
end
end Go.Proofs.YtoiepgcjinccpaaDoor.X
/-
  The law BasinLasts.
-/
namespace Go.Proofs.YtoiepgcjinccpaaDoor.Bs
end Go.Proofs.YtoiepgcjinccpaaDoor.Bs
namespace Go.Proofs.YtoiepgcjinccpaaDoor.X
open Go Go.RowKit Go.Proofs.YtoiepgcjinccpaaDoor.Bs
set_option linter.unusedVariables false
section
variable {P : Program} {N : Nat} {B : Nat} {w0 : World} {ds : List Deferred} {F : Fr} {L : Lo} {pu : Prop} {dst : Option Tmp} {ty : TypeId} {p : String} {af : Array Edge} {gd : Option (Nat × Bool)}
end
end Go.Proofs.YtoiepgcjinccpaaDoor.X
/-
  The law BasinRests.
-/
namespace Go.Proofs.YtoiepgcjinccpaaDoor.Bs
/-- a basin without leak and waves. -/
def calm (b : Bas) : Bas := ⟨b.rows, 0, b.crest, 0, b.pols⟩
def restT (o : Int) : Tick := ⟨o.tmod 20001, 0, 0⟩
section
variable {b : Bas} (ho : Ok (calm b)) {s : Sta} (hs : StaOk (calm b) s) (hsill : ∀ j, j < b.pols.length → levHi (calm b) s.vol ≤ (b.pol j).sill)
include ho hs hsill
omit hs in
end
end Go.Proofs.YtoiepgcjinccpaaDoor.Bs
namespace Go.Proofs.YtoiepgcjinccpaaDoor.X
open Go Go.RowKit Go.Proofs.YtoiepgcjinccpaaDoor.Bs
set_option linter.unusedVariables false
def tickK : Kind Tick := ⟨30, 3, tickC, fun _ => [], tickC_len⟩
theorem tick_el : elemOk Tryd.prog 41 tickK.ty tickK.m 24 = true := by kernel_rfl
theorem ListAt.tks {w : World} {ok : Nat → Prop} {r : SV} {l : List Tick} (h : ListAt tickK w ok r l) : TksAt w ok r l := ⟨h.rd, h.max⟩
def i16K : Kind Int := ⟨77, 1, fun k => [.int .i16 k], fun _ => [], fun _ => rfl⟩
end Go.Proofs.YtoiepgcjinccpaaDoor.X
/-
  Rows that take whole lists; rows that are built or made; a slice from a place on.
-/
namespace Go.Proofs.YtoiepgcjinccpaaDoor.X
open Go Go.RowKit
set_option linter.unusedVariables false
section
variable {W W' w w0 w1 w2 : World} {b0 B : Nat} {ks ks' : List Nat} {rs : List RowX} {hs hs' : List Held} {L : Lo}
/-- a row takes a list. -/
theorem Fam.pushL {α : Type} {K : Kind α} {v v' : Value} {l l2 : List α} {i : Nat} (h : Fam W b0 ks rs hs) (hi : rs[i]? = some ⟨α, K, v, l⟩) (ha : ∀ a, a ∈ l2 → ∀ x, x ∈ K.sl a → x.p W (Free W b0 ks rs)) (hrow : W'.ownsRow b0 K.ty K.m v' (l.length + l2.length) (l.flatMap K.c ++ l2.flatMap K.c))
    (hsz : W.heap.size ≤ W'.heap.size) (ho : ∀ j, j < W.heap.size → j ∉ ks → v.ownBlock ≠ some j → W'.heap[j]? = W.heap[j]?) (hfr : ∀ k, v'.ownBlock = some k → v.ownBlock = some k ∨ (W.heap.size ≤ k ∧ k ∉ ks)) :
    Fam W' b0 ks (rs.set i ⟨α, K, v', l ++ l2⟩) hs := by
  have hm : ∀ r, r ∈ rs.set i ⟨α, K, v', l ++ l2⟩ → r = ⟨α, K, v', l ++ l2⟩ ∨ (r ∈ rs ∧ ∀ k, r.v.ownBlock = some k → v.ownBlock ≠ some k) := fun r hr => by
    obtain ⟨j, hj, rfl⟩ := List.mem_iff_getElem.1 hr
    by_cases hij : i = j
    · subst hij; left; simp
    · right
      rw [List.getElem_set_ne hij]
      simp at hj
      refine ⟨List.getElem_mem _, fun k hk h2 => ?_⟩
      obtain ⟨hil, hie⟩ := List.getElem?_eq_some_iff.1 hi
      have hp := List.pairwise_iff_getElem.1 h.two
      rcases Nat.lt_or_gt_of_ne hij with h3 | h3
      · have := hp i j hil hj h3 k (by rw [hie]; exact h2)
        exact this hk
      · have := hp j i hj hil h3 k hk
        rw [hie] at this
        exact this h2
  have hri : (⟨α, K, v, l⟩ : RowX) ∈ rs := List.mem_of_getElem? hi
  have hf : ∀ j, Free W b0 ks rs j → Free W' b0 ks (rs.set i ⟨α, K, v', l ++ l2⟩) j := fun j hj => ⟨hj.1, by have := hj.2.1; omega, hj.2.2.1, fun r hr h1 => by
    rcases hm r hr with rfl | ⟨h2, _⟩
    · rcases hfr j h1 with h3 | h3
      · exact hj.2.2.2 _ hri h3
      · have := hj.2.1; omega
    · exact hj.2.2.2 r h2 h1⟩
  have hk : ∀ j, Free W b0 ks rs j → W'.heap[j]? = W.heap[j]? := fun j hj => ho j hj.2.1 hj.2.2.1 fun h1 => hj.2.2.2 _ hri h1
  refine ⟨Nat.le_trans h.base hsz, fun r hr => ?_, fun r hr k h1 => ?_, ?_, fun r hr b hb x hx => ?_, fun x hx => x.mono (x.keep (h.held x hx) hk) hf⟩
  · rcases hm r hr with rfl | ⟨h2, h3⟩
    · simpa using hrow
    · exact owns_move' (h.row r h2) fun k h4 => ho k (h.lt h2 h4).2 (h.sep r h2 k h4) (h3 k h4)
  · rcases hm r hr with rfl | ⟨h2, h3⟩
    · rcases hfr k h1 with h4 | h4
      · exact h.sep _ hri k h4
      · exact h4.2
    · exact h.sep r h2 k h1
  · rw [List.pairwise_iff_getElem]
    have hp := List.pairwise_iff_getElem.1 h.two
    obtain ⟨hil, hie⟩ := List.getElem?_eq_some_iff.1 hi
    intro p q hpl hql hpq k hk1 hk2
    simp at hpl hql
    by_cases h1 : i = p
    · subst h1
      have h2 : i ≠ q := by omega
      rw [List.getElem_set_ne h2] at hk2
      simp at hk1
      rcases hfr k hk1 with h4 | h4
      · exact hp i q hpl hql hpq k (by rw [hie]; exact h4) hk2
      · have := (h.lt (List.getElem_mem hql) hk2).2; omega
    · by_cases h2 : i = q
      · subst h2
        rw [List.getElem_set_ne h1] at hk1
        simp at hk2
        rcases hfr k hk2 with h4 | h4
        · have := hp p i hpl hql hpq k hk1
          rw [hie] at this
          exact this h4
        · have := (h.lt (List.getElem_mem hpl) hk1).2; omega
      · rw [List.getElem_set_ne h1] at hk1
        rw [List.getElem_set_ne h2] at hk2
        exact hp p q hpl hql hpq k hk1 hk2
  · rcases hm r hr with rfl | ⟨h2, h3⟩
    · rcases List.mem_append.1 hb with h4 | h4
      · exact x.mono (x.keep (h.ins _ hri b h4 x hx) hk) hf
      · exact x.mono (x.keep (ha b h4 x hx) hk) hf
    · exact x.mono (x.keep (h.ins r h2 b hb x hx) hk) hf
theorem svV_inj {r q : SV} (h : svV r = svV q) : r = q := by
  obtain ⟨a, b, c⟩ := r
  obtain ⟨a', b', c'⟩ := q
  simp only [svV, Value.slice.injEq] at h
  obtain ⟨rfl, rfl, rfl⟩ := h
  rfl
theorem Fam.listOf {α : Type} {K : Kind α} {r : SV} {l : List α} (h : Fam W b0 ks rs hs) (hr : (⟨α, K, svV r, l⟩ : RowX) ∈ rs) : ListAt K W (Btw b0 W.heap.size) r l := by
  obtain ⟨q, e, h1⟩ := h.list hr
  rw [svV_inj e]
  exact h1
/-- a new row. -/
theorem Fam.fresh {α : Type} {K : Kind α} {v : Value} {l : List α} (h : Fam W b0 ks rs hs) (hsz : W.heap.size ≤ W'.heap.size) (ho : ∀ j, j < W.heap.size → j ∉ ks → W'.heap[j]? = W.heap[j]?) (hrow : W'.ownsRow b0 K.ty K.m v l.length (l.flatMap K.c))
    (hv : ∀ k, v.ownBlock = some k → W.heap.size ≤ k ∧ k ∉ ks) (ha : ∀ a, a ∈ l → ∀ x, x ∈ K.sl a → x.p W (Free W b0 ks rs)) : Fam W' b0 ks (⟨α, K, v, l⟩ :: rs) hs := by
  have h1 := h.move hsz ho
  have hf : ∀ j, Free W b0 ks rs j → Free W' b0 ks (⟨α, K, v, l⟩ :: rs) j := fun j hj => ⟨hj.1, by have := hj.2.1; omega, hj.2.2.1, fun r hr h2 => by
    rcases List.mem_cons.1 hr with rfl | hr
    · have := (hv j h2).1; have := hj.2.1; omega
    · exact hj.2.2.2 r hr h2⟩
  have hk : ∀ j, Free W b0 ks rs j → W'.heap[j]? = W.heap[j]? := fun j hj => ho j hj.2.1 hj.2.2.1
  refine ⟨h1.base, fun r hr => ?_, fun r hr k h2 => ?_, .cons (fun r hr k h2 h3 => ?_) h.two, fun r hr a hb x hx => ?_, fun x hx => x.mono (x.keep (h.held x hx) hk) hf⟩
  · rcases List.mem_cons.1 hr with rfl | hr
    · exact hrow
    · exact h1.row r hr
  · rcases List.mem_cons.1 hr with rfl | hr
    · exact (hv k h2).2
    · exact h.sep r hr k h2
  · have := (hv k h2).1; have := (h.lt hr h3).2; omega
  · rcases List.mem_cons.1 hr with rfl | hr
    · exact x.mono (x.keep (ha a hb x hx) hk) hf
    · exact x.mono (x.keep (h.ins r hr a hb x hx) hk) hf
end
section
variable {P : Program} {T : TT} {N : Nat} {B : Nat} {w0 : World} {ds : List Deferred} {Q : Exit → Act → World → Prop} {F : Fr} {L : Lo} {pu : Prop} {ops : Array Oper} {rest : List Oper} {ty : TypeId} {p : String} {af : Array Edge}
variable {dst : Option Tmp} {gd : Option (Nat × Bool)}
theorem append_none_run {w : World} {base t e size bytes n c : Nat} {v : Value} {xs : List Value} (he : elemOk P t e size bytes = true) (hown : w.ownsRow base e size v n xs) : (Builtin.append_ #[t, t] ty #[v, .slice none 0 c]).run P w = .ok v w := by
  obtain ⟨hu, i, z, hi, hz, e1, e2, e3⟩ := elemOk_spec he
  rcases hown.2 with ⟨rfl, rfl⟩ | ⟨g, cap, cur, rfl, hb, hg, hc, hm, h⟩
  · simp [Builtin.append_, run_underlying hu, sizeOf_run hi, Builtin.lenOf, Builtin.firstCells]
  · have : ¬ cap < n := by omega
    simp [Builtin.append_, run_underlying hu, sizeOf_run hi, Builtin.lenOf, Builtin.firstCells, storeCells, hc, this]
/-- append(row, a whole list). -/
theorem XL.pushL {α : Type} {K : Kind α} {d : Nat} {t : TypeId} {x y : Operand} {v : Value} {l l2 : List α} {r2 : SV} {bytes b0 : Nat} {ks : List Nat} {rs : List RowX} {hs : List Held} {wE : World} (i : Nat) (he : elemOk P t K.ty K.m bytes = true) (h0 : 0 < K.m)
    (hx : evo F x = some v) (hy : evo F y = some (.slice r2.A r2.n r2.c)) (hd : Nat.blt d N = true) (hF : Fam w0 b0 ks rs hs) (hi : rs[i]? = some ⟨α, K, v, l⟩) (hks : ∀ k, k ∈ ks → k < w0.heap.size) (hbl : Below B wE w0) (hB : B ≤ b0)
    (hr : ∀ w, Sys B w0 L w → ListAt K w (Lt w.heap.size) r2 l2) (ha : ∀ a, a ∈ l2 → ∀ x, x ∈ K.sl a → x.p w0 (Free w0 b0 ks rs)) (h1 : ∀ a : α, (K.c a).all Value.oneCell' = true) (h63 : l.length + l2.length ≤ 10000000) (hb : bytes ≤ 10000000)
    (k : ∀ w' v', Fam w' b0 (L.map (·.1) ++ ks) (rs.set i ⟨α, K, v', l ++ l2⟩) hs → Below B wE w' → (∀ k, k ∈ L.map (·.1) ++ ks → k < w'.heap.size) → XL P N B w' ds Q ops rest ((d, v') :: F) L)
    (hL : ∀ e, e ∈ L → e.1 ∈ ks ∨ w0.heap.size ≤ e.1 := by (intro e he; repeat (first | (cases he; done) | (rcases List.mem_cons.1 he with rfl | he; · first | (right; assumption) | (left; simp <;> fail)))) <;> fail) :
    XL P N B w0 ds Q ops ({ dst := some d, op := .call { callee := .builtin .append, args := #[x, y], argTypes := #[t, t] }, type := ty, pos := p, after := af, guard := none } :: rest) F L := by
  obtain ⟨A, m, c⟩ := r2
  have hri : (⟨α, K, v, l⟩ : RowX) ∈ rs := List.mem_of_getElem? hi
  have hk2 : ∀ k, k ∈ L.map (·.1) ++ ks → k ∈ ks ∨ w0.heap.size ≤ k := fun k hk => by
    rcases List.mem_append.1 hk with h | h
    · obtain ⟨e, he, rfl⟩ := List.mem_map.1 h
      exact hL e he
    · exact .inl h
  have hk3 : ∀ w, Sys B w0 L w → ∀ k, k ∈ L.map (·.1) ++ ks → k < w.heap.size := fun w S k hk => by
    rcases List.mem_append.1 hk with h | h
    · obtain ⟨e, he, rfl⟩ := List.mem_map.1 h
      exact S.lt he
    · exact Nat.lt_of_lt_of_le (hks k h) S.size
  have hsepL : ∀ k, v.ownBlock = some k → ∀ e, e ∈ L → e.1 ≠ k := fun k hk e he e1 => by
    rcases hL e he with h | h
    · exact hF.sep _ hri k hk (e1 ▸ h)
    · have := (hF.lt hri hk).2; omega
  cases A with
  | none =>
    refine ⟨fun a w hf S => ?_⟩
    refine wpList_plain rfl fun Kk hK => ?_
    unfold Oper.wp
    have hl := hr w S
    have hm := hl.len h0
    simp only at hm
    have hm0 : m = 0 := by
      rcases Nat.eq_zero_or_pos m with h | h
      · exact h
      · obtain ⟨ad, e, _⟩ := hl.rd.at_ (by simpa using h)
        cases e
    subst hm0
    have hl2 : l2 = [] := List.length_eq_zero_iff.1 hm.symm
    subst hl2
    have hrun := append_none_run (ty := ty) (c := c) he (owns_sys (hF.row _ hri) S hsepL)
    have : (execOp a.eval { dst := some d, op := .call { callee := .builtin .append, args := #[x, y], argTypes := #[t, t] }, type := ty, pos := p, after := af, guard := none }).run P w = .ok (.value v) w := by
      have hm : (#[x, y] : Array Operand).map a.eval = #[v, .slice none 0 c] := by simp [hf.eval hx, hf.eval hy]
      simp only [execOp, resolve, Sem.run_bind, Sem.run_pure, Result.andThen_ok, invoke, builtin, hm, hrun]
    rw [this]
    refine hK _ _ ((k w v ?_ (hbl.trans S.toBelow) (hk3 w S)).run _ _ (hf.put hd) (S.rebase (List.Sublist.refl _)))
    have h2 := (hF.add (ks' := L.map (·.1) ++ ks) hk2).sys S fun e he => .inl (List.mem_append_left _ (List.mem_map.2 ⟨e, he, rfl⟩))
    obtain ⟨hil, hie⟩ := List.getElem?_eq_some_iff.1 hi
    have h3 : rs.set i ⟨α, K, v, l ++ []⟩ = rs := by
      rw [List.append_nil, ← hie]
      exact List.set_getElem_self hil
    rw [h3]
    exact h2
  | some A =>
    by_cases hex : ∃ w, Sys B w0 L w
    · obtain ⟨wx, Sx⟩ := hex
      have hm := (hr wx Sx).len h0
      simp only at hm
      subst hm
      refine XL.append2 (v := v) (m := l2.length) (n := l.length) (size := K.m) (bytes := bytes) (base := b0) (A := A) (xs := l.flatMap K.c) (news := l2.flatMap K.c) (L' := L) he h0 hx hy hd (hF.row _ hri) hsepL (by rw [flat_len K.c K.m K.len])
        (fun w S j u hj => ?_) ?_ (by unfold maxLen; omega) (Nat.le_trans (Nat.mul_le_mul h63 hb) (by decide)) hF.base (List.Sublist.refl _) (fun w v' w' S ho hg _ hfr => ?_)
      · have h2 := hr w S
        have hjl := (List.getElem?_eq_some_iff.1 hj).1
        rw [flat_len K.c K.m K.len] at hjl
        have hpos : 0 < l2.length := by
          rcases Nat.eq_zero_or_pos l2.length with h | h
          · rw [h] at hjl; omega
          · exact h
        obtain ⟨ad, e, _, h3⟩ := h2.rd.at_ hpos
        cases e
        exact h3 j u hj
      · rw [List.all_eq_true]
        intro u hu
        obtain ⟨a, ha', hu'⟩ := List.mem_flatMap.1 hu
        exact List.all_eq_true.1 (h1 a) u hu'
      · have hsz := hg.size
        have hS := S.size
        refine k w' v' ?_ (hbl.trans (grown_below S hg fun k hk => Nat.le_trans hB (hF.lt hri hk).1)) fun q hq => Nat.lt_of_lt_of_le (hk3 w S q hq) hsz
        have hfa : ∀ j, Free w0 b0 ks rs j → Free w0 b0 (L.map (·.1) ++ ks) rs j := fun j hj => ⟨hj.1, hj.2.1, fun h => by
          rcases hk2 j h with h4 | h4
          · exact hj.2.2.1 h4
          · have := hj.2.1; omega, hj.2.2.2⟩
        refine (hF.add (ks' := L.map (·.1) ++ ks) hk2).pushL hi (fun a h4 x hx => x.mono (ha a h4 x hx) hfa) ho (Nat.le_trans hS hsz) (fun j hj hn hv => ?_) (fun k hk => ?_)
        · exact grown_old S hg hj (fun e he e1 => hn (List.mem_append_left _ (List.mem_map.2 ⟨e, he, e1⟩))) fun e1 => hv e1.symm
        · rcases hfr k hk with h | h
          · exact .inl h
          · exact .inr ⟨Nat.le_trans hS h, fun h2 => by have := hk3 w S k h2; omega⟩
    · exact ⟨fun a w hf S => absurd ⟨w, S⟩ hex⟩
theorem XL.weak1 {t : Nat} {u : Value} (h : XL P N B w0 ds Q ops rest F L) : XL P N B w0 ds Q ops rest ((1000000 + t, u) :: F) L :=
  ⟨fun a w hf hs => h.run a w ⟨hf.size, hf.defers, fun t' v ht hv => hf.get t' v ht (by
    unfold lk
    have : Nat.beq (1000000 + t) t' = false := by
      cases hb : Nat.beq (1000000 + t) t' with
      | false => rfl
      | true => have := Nat.eq_of_beq_eq_true hb; omega
    rw [this]
    exact hv)⟩ hs⟩
/-- a slice literal is a new row. -/
theorem XL.newRow (hT : TOK P T) {α : Type} {K : Kind α} {l : List α} {d : Nat} {t e : TypeId} {n size b0 : Nat} {ps : List (Nat × Operand)} {z : Value} {zs cs : List Value} {ks : List Nat} {rs : List RowX} {hs : List Held} {wE : World}
    (hs' : lkG T.sl t = some (e, size)) (hz : lkG T.zero e = some z) (hzs : cellsO z = some zs) (hsz : Nat.beq zs.length size = true) (h0 : Nat.blt 0 size = true) (hbig : Nat.ble (n * size) 16777216 = true) {zl : List Value} (hzl : zerosO zs n = some zl) (hc : fillS F size zl ps = some cs) (hd : Nat.blt d N = true)
    (hK : K.ty = e ∧ K.m = size) (hcs : cs = l.flatMap K.c) (hn : l.length = n) (hF : Fam w0 b0 ks rs hs) (hks : ∀ k, k ∈ ks → k < w0.heap.size) (hbl : Below B wE w0) (hb0 : b0 ≤ w0.heap.size) (ha : ∀ a, a ∈ l → ∀ x, x ∈ K.sl a → x.p w0 (Free w0 b0 ks rs))
    (k : ∀ w' g, Fam w' b0 (L.map (·.1) ++ ks) (⟨α, K, .slice (some ⟨g, 0, none⟩) n n, l⟩ :: rs) hs → Below B wE w' → (∀ k, k ∈ L.map (·.1) ++ ks → k < w'.heap.size) → XL P N B w' ds Q ops rest ((d, .slice (some ⟨g, 0, none⟩) n n) :: F) L)
    (hL : ∀ e, e ∈ L → e.1 ∈ ks ∨ w0.heap.size ≤ e.1 := by (intro e he; repeat (first | (cases he; done) | (rcases List.mem_cons.1 he with rfl | he; · first | (right; assumption) | (left; simp <;> fail)))) <;> fail) :
    XL P N B w0 ds Q ops ({ dst := some d, op := .buildSlice t n ps.toArray, type := ty, pos := p, after := af, guard := none } :: rest) F L := by
  refine XL.buildSlice hT hs' hz hzs hsz h0 hbig hzl hc hd fun g hg => ?_
  refine XL.rebase (List.sublist_cons_self _ _) fun w1 S => ?_
  have hk2 : ∀ k, k ∈ L.map (·.1) ++ ks → k ∈ ks ∨ w0.heap.size ≤ k := fun k hk => by
    rcases List.mem_append.1 hk with h | h
    · obtain ⟨e, he, rfl⟩ := List.mem_map.1 h
      exact hL e he
    · exact .inl h
  have hk3 : ∀ k, k ∈ L.map (·.1) ++ ks → k < w1.heap.size := fun k hk => by
    rcases List.mem_append.1 hk with h | h
    · obtain ⟨e, he, rfl⟩ := List.mem_map.1 h
      exact S.lt (List.mem_cons_of_mem _ he)
    · exact Nat.lt_of_lt_of_le (hks k h) S.size
  have hgL : g ∉ L.map (·.1) := by have := S.nd; simp only [List.map_cons, List.nodup_cons] at this; exact this.1
  have hfa : ∀ j, Free w0 b0 ks rs j → Free w0 b0 (L.map (·.1) ++ ks) rs j := fun j hj => ⟨hj.1, hj.2.1, fun h => by
    rcases hk2 j h with h4 | h4
    · exact hj.2.2.1 h4
    · have := hj.2.1; omega, hj.2.2.2⟩
  obtain ⟨hK1, hK2⟩ := hK
  have hrow : w1.ownsRow b0 K.ty K.m (.slice (some ⟨g, 0, none⟩) n n) l.length (l.flatMap K.c) := by
    have h5 := (S.own (g, _) List.mem_cons_self).2
    have h6 : (l.flatMap K.c).length = n * K.m := by rw [flat_len K.c K.m K.len, hn]
    have hsz' : 0 < K.m := by rw [hK2]; exact Nat.le_of_ble_eq_true h0
    have hbig' : n * K.m ≤ 16777216 := by rw [hK2]; exact Nat.le_of_ble_eq_true hbig
    have hnm : n ≤ n * K.m := Nat.le_mul_of_pos_right n hsz'
    refine ⟨by rw [h6, hn], .inr ⟨g, n, ⟨l.flatMap K.c⟩, by rw [hn], Nat.le_trans hb0 hg, ?_, by omega, by unfold maxLen; omega, by simpa using h6, ?_⟩⟩
    · rw [hK1, ← hcs]; exact h5
    · rw [hn, ← h6]
      simp only [List.take_length]
  refine XL.weak1 (k w1 g ((hF.add (ks' := L.map (·.1) ++ ks) hk2).fresh S.size (fun j hj hn' => ?_) hrow (fun q hq => ?_) fun a h4 x hx => x.mono (ha a h4 x hx) hfa) (hbl.trans S.toBelow) hk3)
  · exact S.old j hj fun e he e1 => by
      rcases List.mem_cons.1 he with rfl | he
      · simp only at e1; omega
      · exact hn' (List.mem_append_left _ (List.mem_map.2 ⟨e, he, e1⟩))
  · simp only [Value.ownBlock, Option.some.injEq] at hq
    subst hq
    refine ⟨hg, fun h7 => ?_⟩
    rcases List.mem_append.1 h7 with h8 | h8
    · exact hgL h8
    · have := hks _ h8; omega
/-- make([]int, n). -/
theorem XL.makeInts {d : Nat} {t e : TypeId} {x y : Operand} {n : Nat} (he : elemOk P t e 1 8 = true) (hz : (P.info? e).bind (·.zero) = some (.int .i64 0)) (hx : evo F x = some (.int .i64 (n : Nat))) (hy : evo F y = some (.int .i64 (n : Nat))) (hd : Nat.blt d N = true) (hn : n ≤ 1000000)
    (k : ∀ g, w0.heap.size ≤ g → XL P N B w0 ds Q ops rest ((1000000 + d, .slice none L.length 0) :: (d, .slice (some ⟨g, 0, none⟩) n n) :: F) ((g, cel e (ints (List.replicate n 0))) :: L)) :
    XL P N B w0 ds Q ops ({ dst := some d, op := .makeSlice t x y, type := ty, pos := p, after := af, guard := none } :: rest) F L := by
  refine ⟨fun a w hf hw => ?_⟩
  refine wpList_plain rfl fun Kk hK => ?_
  unfold Oper.wp
  obtain ⟨hu, i, z, hi, hz', e1, e2, e3⟩ := elemOk_spec he
  rw [hi] at hz
  simp only [Option.bind_some] at hz
  have hz2 : z = .int .i64 0 := by rw [hz'] at hz; exact Option.some.inj hz
  subst hz2
  have hrun := run_makeSlice (P := P) w t e i (.int .i64 0) hu hi hz' .i64 .i64 (n : Int) (n : Int) (by omega) (Int.le_refl _) (by rw [e1]; simp; omega) (by rw [e2]; omega) (by omega)
  have hmc : madeCells (Value.int .i64 0).cells ((n : Int).toNat * i.size) = ⟨ints (List.replicate n 0)⟩ := by
    rw [e1]
    apply Array.ext
    · simp [madeCells, ints]
    · intro j h1 h2
      simp [madeCells, ints, Value.cells]
      rw [show j % 1 = 0 from by omega]
      rfl
  rw [hmc] at hrun
  simp only [Int.toNat_natCast] at hrun
  have : (execOp a.eval { dst := some d, op := .makeSlice t x y, type := ty, pos := p, after := af, guard := none }).run P w = .ok (.value (.slice (some ⟨w.heap.size, 0, none⟩) n n)) (w.alloc (cel e (ints (List.replicate n 0)))) := by
    simp [execOp, hf.eval hx, hf.eval hy, hrun]
  rw [this]
  exact hK _ _ ((k w.heap.size hw.size).run _ _ ((hf.put hd).hint d _) (hw.box _))
/-- x[j:], whatever room there is. -/
theorem Ev.slice_from (hT : TOK P T) {t e es : Nat} {x lo : Operand} {A : Option Addr} {n c : Nat} {k : IntKind} {q : Int} (j : Nat) (hx : evo F x = some (.slice A n c)) (hlo : evo F lo = some (.int k q)) (hq : q = (j : Int))
    (hs : lkG T.sl t = some (e, es)) (h1 : j ≤ n) : Ev P N B w0 ds pu F L ⟨dst, .slice t x (some lo) none none, ty, p, af, gd⟩ (.slice (if c = j then A else A.map (·.add (j * es))) (n - j) (c - j)) :=
  .of_run fun a w hf hw => by
    have h := tab_ok hT.sl hs
    unfold slOf at h
    cases hu : P.underlying t with
    | none => rw [hu] at h; cases h
    | some d =>
      rw [hu] at h
      cases d <;> simp at h
      obtain ⟨i, hi, rfl, rfl⟩ := h
      subst hq
      have hz := sizeOf_run hi w
      simp [execOp, hf.eval hx, hf.eval hlo, Instr.sliceAt, Instr.slice, run_underlying hu, Instr.sliceBounds, Instr.sliceBound, asIntOf, hz, h1]
end
end Go.Proofs.YtoiepgcjinccpaaDoor.X
/-
  The plain words of layer 4: more water at first, and in each tick, is not less water later.
-/
namespace Go.Proofs.YtoiepgcjinccpaaDoor.Bs
set_option linter.unusedVariables false
/-- two floors that differ by no more than k. -/
theorem floor_shift {x d x' d' k : Int} (hd : 0 < d) (hd' : 0 < d') (h : x * d' ≤ x' * d + k * (d * d')) : x / d ≤ x' / d' + k := by
  have h1 : x / d * d ≤ x := Int.ediv_mul_le _ (by omega)
  have h2 : x / d * d * d' ≤ x * d' := Int.mul_le_mul_of_nonneg_right h1 (by omega)
  have h3 : (x / d - k) * d' ≤ x' := by
    refine Int.le_of_mul_le_mul_right (a := d) ?_ hd
    have e1 : (x / d - k) * d' * d = x / d * d * d' - k * (d * d') := by grind
    omega
  have h4 : x / d - k ≤ x' / d' := (Int.le_ediv_iff_mul_le hd').2 h3
  omega
section
variable {b : Bas} (h : Ok b)
include h
/-- between rows. -/
theorem wide_between {i : Nat} : ∀ {j : Nat}, i ≤ j → j < b.rows.length → great b b.pols.length * ((b.row j).level - (b.row i).level) ≤ (b.row j).vol - (b.row i).vol := by
  intro j
  induction j with
  | zero => intro h1 _; have : i = 0 := by omega
            subst this; simp
  | succ j ih =>
    intro h1 hj
    by_cases e : i = j + 1
    · subst e; simp
    · have h2 := ih (by omega) (by omega)
      have h3 := h.wide j hj
      unfold wideAt at h3
      have e : great b b.pols.length * ((b.row (j + 1)).level - (b.row i).level) = great b b.pols.length * ((b.row j).level - (b.row i).level) + great b b.pols.length * ((b.row (j + 1)).level - (b.row j).level) := by rw [← Int.mul_add]; congr 1; omega
      omega
/-- so much more water raises the level by no more than the width allows. -/
theorem wide_two {v v' : Int} (hv : (b.row 0).vol ≤ v) (hvv : v ≤ v') : great b b.pols.length * (num b v' * den b v - num b v * den b v') ≤ (v' - v) * (den b v * den b v') := by
  have ho := h.rowsOk
  obtain ⟨s1, s2, s3⟩ := seg_spec ho hv
  obtain ⟨t1, t2, t3⟩ := seg_spec ho (v := v') (by omega)
  have p1 := den_pos ho v
  have p2 := den_pos ho v'
  have hst : seg b v ≤ seg b v' := by
    rcases Nat.lt_or_ge (seg b v') (seg b v) with c | c
    · have := t3 (seg b v) c s1; omega
    · exact c
  have hG := (great_bd h).1
  have w1 := h.wide _ s1
  have w2 := h.wide _ t1
  unfold wideAt at w1 w2
  obtain ⟨s, hs⟩ : ∃ s, s = seg b v := ⟨_, rfl⟩
  obtain ⟨t, ht⟩ : ∃ s, s = seg b v' := ⟨_, rfl⟩
  have n1 : num b v = (b.row s).level * den b v + (v - (b.row s).vol) * ((b.row (s + 1)).level - (b.row s).level) := by rw [hs]; rfl
  have n2 : num b v' = (b.row t).level * den b v' + (v' - (b.row t).vol) * ((b.row (t + 1)).level - (b.row t).level) := by rw [ht]; rfl
  have q1 : den b v = (b.row (s + 1)).vol - (b.row s).vol := by rw [hs]; rfl
  have q2 : den b v' = (b.row (t + 1)).vol - (b.row t).vol := by rw [ht]; rfl
  rw [← hs] at s1 s2 s3 hst w1
  rw [← ht] at t1 t2 t3 hst w2
  obtain ⟨G, hGd⟩ : ∃ G, G = great b b.pols.length := ⟨_, rfl⟩
  rw [← hGd] at hG w1 w2 ⊢
  obtain ⟨d, hd⟩ : ∃ d, d = den b v := ⟨_, rfl⟩
  obtain ⟨d', hd'⟩ : ∃ d, d = den b v' := ⟨_, rfl⟩
  rw [← hd] at n1 q1 p1 ⊢
  rw [← hd'] at n2 q2 p2 ⊢
  obtain ⟨D, hD⟩ : ∃ D, D = (b.row (s + 1)).level - (b.row s).level := ⟨_, rfl⟩
  obtain ⟨D', hD'⟩ : ∃ D, D = (b.row (t + 1)).level - (b.row t).level := ⟨_, rfl⟩
  rw [← hD] at n1 w1
  rw [← hD'] at n2 w2
  rw [← q1] at w1
  rw [← q2] at w2
  rcases Nat.eq_or_lt_of_le hst with c | c
  · have e1 : d = d' := by rw [q1, q2, c]
    have e2 : D = D' := by rw [hD, hD', c]
    subst e1 e2
    rw [n1, n2, c]
    have e3 : G * (((b.row t).level * d + (v' - (b.row t).vol) * D) * d - ((b.row t).level * d + (v - (b.row t).vol) * D) * d) = (v' - v) * d * (G * D) := by grind
    rw [e3]
    have e4 : (v' - v) * d * (G * D) ≤ (v' - v) * d * d := Int.mul_le_mul_of_nonneg_left w1 (Int.mul_nonneg (by omega) (by omega))
    have e5 : (v' - v) * d * d = (v' - v) * (d * d) := Int.mul_assoc _ _ _
    omega
  · have e2 := s3 (s + 1) (by omega) (by omega)
    have wb := wide_between h (i := s + 1) (j := t) (by omega) (by omega)
    rw [← hGd] at wb
    have a1 : (v' - (b.row t).vol) * d * (G * D') ≤ (v' - (b.row t).vol) * d * d' := Int.mul_le_mul_of_nonneg_left w2 (Int.mul_nonneg (by omega) (by omega))
    have a2 : ((b.row (s + 1)).vol - v) * d' * (G * D) ≤ ((b.row (s + 1)).vol - v) * d' * d := Int.mul_le_mul_of_nonneg_left w1 (Int.mul_nonneg (by omega) (by omega))
    have a3 : G * ((b.row t).level - (b.row (s + 1)).level) * (d * d') ≤ ((b.row t).vol - (b.row (s + 1)).vol) * (d * d') := Int.mul_le_mul_of_nonneg_right wb (Int.mul_nonneg (by omega) (by omega))
    have l1 : (b.row (s + 1)).level = (b.row s).level + D := by omega
    have l2 : (b.row (s + 1)).vol = (b.row s).vol + d := by omega
    have e3 : G * (num b v' * d - num b v * d') = G * ((b.row t).level - (b.row (s + 1)).level) * (d * d') + (v' - (b.row t).vol) * d * (G * D') + ((b.row (s + 1)).vol - v) * d' * (G * D) := by
      rw [n1, n2, l1, l2]; grind
    have e4 : (v' - v) * (d * d') = ((b.row t).vol - (b.row (s + 1)).vol) * (d * d') + (v' - (b.row t).vol) * d * d' + ((b.row (s + 1)).vol - v) * d' * d := by grind
    omega
/-- the same for a rate that is not greater. -/
theorem rate_two {r v v' : Int} (hr : 0 ≤ r ∧ r ≤ great b b.pols.length) (hv : (b.row 0).vol ≤ v) (hvv : v ≤ v') : 0 ≤ r * (num b v' * den b v - num b v * den b v') ∧ r * (num b v' * den b v - num b v * den b v') ≤ (v' - v) * (den b v * den b v') := by
  have h1 := wide_two h hv hvv
  have h2 := exact_mono h.rowsOk hv hvv
  have h3 : 0 ≤ num b v' * den b v - num b v * den b v' := by omega
  have h4 : r * (num b v' * den b v - num b v * den b v') ≤ great b b.pols.length * (num b v' * den b v - num b v * den b v') := Int.mul_le_mul_of_nonneg_right hr.2 h3
  exact ⟨Int.mul_nonneg hr.1 h3, by omega⟩
theorem leakQ_mono {o o' v v' : Int} (ho : o ≤ o') (hv : (b.row 0).vol ≤ v) (hvv : v ≤ v') : leakQ b o v ≤ leakQ b o' v' + (v' - v) := by
  have p1 := den_pos h.rowsOk v
  have p2 := den_pos h.rowsOk v'
  have h1 := (rate_two h (r := b.leak) ⟨h.leak.1, great_leak b _⟩ hv hvv).2
  unfold leakQ
  refine floor_shift (by omega) (by omega) ?_
  have h2 : b.leak * (den b v * den b v') * o ≤ b.leak * (den b v * den b v') * o' := Int.mul_le_mul_of_nonneg_left ho (Int.mul_nonneg h.leak.1 (Int.mul_nonneg (by omega) (by omega)))
  have e1 : b.leak * (-num b v - -o * den b v) * den b v' = b.leak * (den b v * den b v') * o - b.leak * (num b v * den b v') := by grind
  have e2 : b.leak * (-num b v' - -o' * den b v') * den b v = b.leak * (den b v * den b v') * o' - b.leak * (num b v' * den b v) := by grind
  have e3 : b.leak * (num b v' * den b v - num b v * den b v') = b.leak * (num b v' * den b v) - b.leak * (num b v * den b v') := Int.mul_sub _ _ _
  omega
/-- what a polder would take if it had room. -/
def takeQ (b : Bas) (i : Nat) (v : Int) : Int := (b.pol i).take * (num b v - (b.pol i).sill * den b v) / den b v
theorem takeQ_mono {i : Nat} (hi : i < b.pols.length) {v v' : Int} (hv : (b.row 0).vol ≤ v) (hvv : v ≤ v') : takeQ b i v ≤ takeQ b i v' ∧ takeQ b i v' ≤ takeQ b i v + (v' - v) := by
  have p1 := den_pos h.rowsOk v
  have p2 := den_pos h.rowsOk v'
  obtain ⟨h0, h1⟩ := rate_two h (r := (b.pol i).take) ⟨(h.take i hi).1, great_le b _ i hi⟩ hv hvv
  have e1 : (b.pol i).take * (num b v - (b.pol i).sill * den b v) * den b v' = (b.pol i).take * (num b v * den b v') - (b.pol i).take * (b.pol i).sill * (den b v * den b v') := by grind
  have e2 : (b.pol i).take * (num b v' - (b.pol i).sill * den b v') * den b v = (b.pol i).take * (num b v' * den b v) - (b.pol i).take * (b.pol i).sill * (den b v * den b v') := by grind
  have e3 : (b.pol i).take * (num b v' * den b v - num b v * den b v') = (b.pol i).take * (num b v' * den b v) - (b.pol i).take * (num b v * den b v') := Int.mul_sub _ _ _
  have e4 : (v' - v) * (den b v' * den b v) = (v' - v) * (den b v * den b v') := by rw [Int.mul_comm (den b v')]
  unfold takeQ
  refine ⟨?_, floor_shift (by omega) (by omega) (by omega)⟩
  have := floor_shift (x := (b.pol i).take * (num b v - (b.pol i).sill * den b v)) (d := den b v) (x' := (b.pol i).take * (num b v' - (b.pol i).sill * den b v')) (d' := den b v') (k := 0) (by omega) (by omega) (by omega)
  omega
theorem takeOf_eq {i : Nat} (hi : i < b.pols.length) {v fil : Int} (hf : fil ≤ (b.pol i).room) : takeOf b i v fil = max 0 (min (takeQ b i v) ((b.pol i).room - fil)) := by
  have p1 := den_pos h.rowsOk v
  have ht := (h.take i hi).1
  unfold takeOf
  by_cases hc : (b.pol i).sill * den b v < num b v
  · rw [if_pos hc]
    have h2 : 0 ≤ takeQ b i v := Int.ediv_nonneg (Int.mul_nonneg ht (by omega)) (by omega)
    unfold takeQ at h2 ⊢
    omega
  · rw [if_neg hc]
    have h1 : (b.pol i).take * (num b v - (b.pol i).sill * den b v) ≤ 0 := Int.mul_nonpos_of_nonneg_of_nonpos ht (by omega)
    have h2 : takeQ b i v ≤ 0 := by
      unfold takeQ
      have : (b.pol i).take * (num b v - (b.pol i).sill * den b v) / den b v ≤ 0 / den b v := Int.ediv_le_ediv (by omega) h1
      rw [Int.zero_ediv] at this
      exact this
    omega
theorem takeOf_mono {i : Nat} (hi : i < b.pols.length) {v v' fil fil' : Int} (hv : (b.row 0).vol ≤ v) (hvv : v ≤ v') (hf : fil ≤ fil') (hf' : fil' ≤ (b.pol i).room) :
    v - takeOf b i v fil ≤ v' - takeOf b i v' fil' ∧ fil + takeOf b i v fil ≤ fil' + takeOf b i v' fil' := by
  obtain ⟨h1, h2⟩ := takeQ_mono h hi hv hvv
  rw [takeOf_eq h hi (by omega), takeOf_eq h hi hf']
  omega
/-- a state that is not less. -/
structure StaLe (b : Bas) (s s' : Sta) : Prop where
  vol : s.vol ≤ s'.vol
  fil : ∀ i, i < b.pols.length → s.f i ≤ s'.f i
theorem polV_mono {s s' : Sta} (hs : StaOk b s) (hs' : StaOk b s') (hle : ∀ i, i < b.pols.length → s.f i ≤ s'.f i) {v v' : Int} (hv : b.v0 ≤ v ∧ v ≤ 1000000000) (hv' : b.v0 ≤ v' ∧ v' ≤ 1000000000) (hvv : v ≤ v') :
    ∀ k, k ≤ b.pols.length → polV b s v k ≤ polV b s' v' k ∧ (k < b.pols.length → s.f k + polT b s v k ≤ s'.f k + polT b s' v' k) := by
  have key : ∀ k, k < b.pols.length → polV b s v k ≤ polV b s' v' k → polV b s v k - takeOf b k (polV b s v k) (s.f k) ≤ polV b s' v' k - takeOf b k (polV b s' v' k) (s'.f k) ∧ s.f k + takeOf b k (polV b s v k) (s.f k) ≤ s'.f k + takeOf b k (polV b s' v' k) (s'.f k) := fun k hk hle2 =>
    takeOf_mono h hk (polV_bd h hs hv k (by omega)).1 hle2 (hle k hk) (hs'.fil k hk).2
  intro k
  induction k with
  | zero => intro _; exact ⟨hvv, fun hk => (key 0 hk hvv).2⟩
  | succ k ih =>
    intro hk
    have h1 := (ih (by omega)).1
    have h2 : polV b s v (k + 1) ≤ polV b s' v' (k + 1) := (key k (by omega) h1).1
    exact ⟨h2, fun hk2 => (key (k + 1) hk2 h2).2⟩
/-- a tick that brings no less. -/
structure TickLe (t t' : Tick) : Prop where
  outer : t.outer ≤ t'.outer
  river : t.river ≤ t'.river
  out : t'.out ≤ t.out
theorem vols_mono {s s' : Sta} {t t' : Tick} (hs : StaOk b s) (hs' : StaOk b s') (hle : StaLe b s s') (ht : TickLe t t') (hr : 0 ≤ t.river) (hx : -20000 ≤ t.outer ∧ t.outer ≤ 20000) :
    vol1 s t ≤ vol1 s' t' ∧ vol2 b s t ≤ vol2 b s' t' ∧ vol3 b s t ≤ vol3 b s' t' ∧ vol4 b s t ≤ vol4 b s' t' := by
  have hv := hs.vol
  have h1 : vol1 s t ≤ vol1 s' t' := by have := hle.vol; have := ht.river; unfold vol1; omega
  have hov : overOf b t ≤ overOf b t' := by
    unfold overOf
    exact Int.mul_le_mul_of_nonneg_left (by have := ht.outer; omega) h.over.1
  have ho0 := (over_bd h t hx).1
  have h2 : vol2 b s t ≤ vol2 b s' t' := by unfold vol2; omega
  have hv2 : (b.row 0).vol ≤ vol2 b s t := by unfold vol2 vol1; omega
  have h3 : vol3 b s t ≤ vol3 b s' t' := by
    have := leakQ_mono h ht.outer hv2 h2
    unfold vol3 leakOf; omega
  refine ⟨h1, h2, h3, ?_⟩
  have := ht.out
  unfold vol4 outOf; omega
theorem step_mono {s s' : Sta} {t t' : Tick} (hs : StaOk b s) (hs' : StaOk b s') (hle : StaLe b s s') (ht : TickLe t t') (he : stepE b s t = 0) (he' : stepE b s' t' = 0) : StaLe b (outS b s t) (outS b s' t') := by
  have k1 := stepOk_of h hs he
  have k2 := stepOk_of h hs' he'
  obtain ⟨_, _, _, h4⟩ := vols_mono h hs hs' hle ht k1.river.1 k1.outer
  have h5 := polV_mono h hs hs' hle.fil k1.v4 k2.v4 h4
  rw [outS_0 he, outS_0 he']
  refine ⟨(h5 _ (Nat.le_refl _)).1, fun i hi => ?_⟩
  have e1 : (stepS b s t).f i = s.f i + polT b s (vol4 b s t) i := by simp only [stepS, Sta.f]; exact rg_at hi
  have e2 : (stepS b s' t').f i = s'.f i + polT b s' (vol4 b s' t') i := by simp only [stepS, Sta.f]; exact rg_at hi
  rw [e1, e2]
  exact (h5 i (by omega)).2 hi
/-- where the worse tick has no fault, the other has none but its own numbers. -/
theorem step_fine {s s' : Sta} {t t' : Tick} (hs : StaOk b s) (hs' : StaOk b s') (hle : StaLe b s s') (ht : TickLe t t') (hb : tickBad t = false) (he' : stepE b s' t' = 0) : stepE b s t = 0 := by
  have k2 := stepOk_of h hs' he'
  have hb' := hb
  simp only [tickBad, Bool.or_eq_false_iff] at hb'
  have o1 := outB_f.1 hb'.1
  have o2 := outB_f.1 hb'.2.1
  obtain ⟨h1, h2, h3, _⟩ := vols_mono h hs hs' hle ht o2.1 o1
  have := k2.v1; have := k2.v2; have := k2.v3
  exact stepE_0 hb (by omega) (by omega) (by omega)
end
end Go.Proofs.YtoiepgcjinccpaaDoor.Bs
/-
  The plain words of layer 4: a worse case through all its ticks.
-/
namespace Go.Proofs.YtoiepgcjinccpaaDoor.Bs
set_option linter.unusedVariables false
theorem step_tick {b : Bas} {s : Sta} {t : Tick} {e : Int} (he : stepE b s t = e) (h7 : e ≠ 7) : tickBad t = false := by
  cases hb : tickBad t with
  | false => rfl
  | true => unfold stepE at he; rw [hb] at he; exact absurd he.symm h7
/-- a case that is worse, where the numbers of the other one are fine. -/
structure CaseLe (b : Bas) (s s' : Sta) (ts ts' : List Tick) : Prop where
  len : ts'.length = ts.length
  sta : StaOk b s → StaLe b s s'
  tick : ∀ k, k < ts.length → tickBad (tk ts k) = false → TickLe (tk ts k) (tk ts' k)
section
variable {b : Bas} {s s' : Sta} {ts ts' : List Tick}
theorem run_mono (h : Ok b) (hs : StaOk b s) (hs' : StaOk b s') (hc : CaseLe b s s' ts ts') : ∀ k, k ≤ ts.length → (∀ j, j < k → errAt b s ts j = 0) → (∀ j, j < k → errAt b s' ts' j = 0) → StaLe b (staAt b s ts k) (staAt b s' ts' k) := by
  intro k
  induction k with
  | zero => intro _ _ _; exact hc.sta hs
  | succ k ih =>
    intro hk h1 h2
    have h3 := ih (by omega) (fun j hj => h1 j (by omega)) (fun j hj => h2 j (by omega))
    have e1 : stepE b (staAt b s ts k) (tk ts k) = 0 := h1 k (by omega)
    have e2 : stepE b (staAt b s' ts' k) (tk ts' k) = 0 := h2 k (by omega)
    exact step_mono h (staAt_ok h hs k fun j hj => h1 j (by omega)) (staAt_ok h hs' k fun j hj => h2 j (by omega)) h3 (hc.tick k (by omega) (step_tick e1 (by decide))) e1 e2
/-- too much water in the one is too much in the worse one. -/
theorem long_no (hc : CaseLe b s s' ts ts') (h3 : runE b s ts = 3) (h0 : runE b s' ts' = 0) : False := by
  obtain ⟨hs0', h300', herr'⟩ := X.runE_0 h0
  obtain ⟨ho, hs'⟩ := staOk_of hs0'
  have hchk : chkE b = 0 := by
    by_cases hh : chkE b = 0
    · exact hh
    · rw [staErr_c hh] at hs0'; exact absurd hs0' hh
  unfold runE at h3
  split at h3
  · unfold staErr at h3
    rw [if_neg (by simp [hchk])] at h3
    split at h3
    · cases h3
    · split at h3 <;> cases h3
  · rename_i hs0
    have hs0 : staErr b s = 0 := by simpa using hs0
    have hs := (staOk_of hs0).2
    split at h3
    · rename_i h4; have := hc.len; omega
    · split at h3
      · cases h3
      · rename_i k hk
        have hk2 := hk
        unfold badAt at hk2
        rw [List.find?_range_eq_some] at hk2
        obtain ⟨_, hkl, hlow⟩ := hk2
        have hkl : k < ts.length := by simpa using hkl
        have h1 : ∀ j, j < k → errAt b s ts j = 0 := fun j hj => by simpa using hlow j hj
        have h2 : ∀ j, j < k → errAt b s' ts' j = 0 := fun j hj => herr' j (by have := hc.len; omega)
        have h5 := run_mono ho hs hs' hc k (by omega) h1 h2
        have hb := step_tick (show stepE b (staAt b s ts k) (tk ts k) = 3 from h3) (by decide)
        have h6 := step_fine ho (staAt_ok ho hs k h1) (staAt_ok ho hs' k h2) h5 (hc.tick k hkl hb) hb (herr' k (by have := hc.len; omega))
        have h7 : stepE b (staAt b s ts k) (tk ts k) = 3 := h3
        rw [h6] at h7; cases h7
theorem over_mono (h : RowsOk b) {lim v v' : Int} (hv : (b.row 0).vol ≤ v) (hvv : v ≤ v') (ho : X.overB b lim v = true) : X.overB b lim v' = true := by
  simp only [X.overB, decide_eq_true_eq] at ho ⊢
  have p1 := den_pos h v
  have p2 := den_pos h v'
  have h1 := exact_mono h hv hvv
  have h2 : lim * den b v * den b v' < num b v * den b v' := Int.mul_lt_mul_of_pos_right ho (by omega)
  refine Int.lt_of_mul_lt_mul_right (a := den b v) ?_ (by omega)
  have : lim * den b v' * den b v = lim * den b v * den b v' := by grind
  omega
theorem find_mono {α β : Type} {p : α → Bool} {q : β → Bool} : ∀ {l : List α} {m : List β}, l.length = m.length → (∀ i, (h1 : i < l.length) → (h2 : i < m.length) → p l[i] = true → q m[i] = true) → m.findIdx q ≤ l.findIdx p := by
  intro l
  induction l with
  | nil => intro m h _; have : m = [] := List.length_eq_zero_iff.1 (by simpa using h.symm)
           subst this; simp
  | cons a l ih =>
    intro m h hp
    cases m with
    | nil => simp at h
    | cons c m =>
      have h0 := hp 0 (by simp) (by simp)
      simp only [List.getElem_cons_zero] at h0
      have h1 := ih (m := m) (by simpa using h) fun i h1 h2 h3 => by
        have := hp (i + 1) (by simpa using h1) (by simpa using h2)
        simp only [List.getElem_cons_succ] at this
        exact this h3
      rw [List.findIdx_cons, List.findIdx_cons]
      cases ha : p a with
      | true => rw [h0 ha]; simp
      | false =>
        cases hc : q c with
        | true => simp
        | false => simpa using h1
/-- Stay is not greater. -/
theorem stay_mono (hc : CaseLe b s s' ts ts') (h0 : runE b s ts = 0) (h0' : runE b s' ts' = 0) (lim : Int) : X.stayE b s ts lim = X.stayE b s' ts' lim ∧ X.stayN b s' ts' lim ≤ X.stayN b s ts lim := by
  obtain ⟨hs0, h300, herr⟩ := X.runE_0 h0
  obtain ⟨hs0', h300', herr'⟩ := X.runE_0 h0'
  obtain ⟨ho, hs⟩ := staOk_of hs0
  have hs' := (staOk_of hs0').2
  cases h1 : outB lim (b.row 0).level 20000 with
  | true =>
    obtain ⟨a1, a2⟩ := X.stay_out h0 h1
    obtain ⟨b1, b2⟩ := X.stay_out h0' h1
    rw [a1, a2, b1, b2]
    exact ⟨rfl, Int.le_refl _⟩
  | false =>
    obtain ⟨a1, a2⟩ := X.stay_in h0 h1
    obtain ⟨b1, b2⟩ := X.stay_in h0' h1
    rw [a1, a2, b1, b2]
    refine ⟨rfl, ?_⟩
    have : (momsAt b s' ts' ts'.length).findIdx (fun x => X.overB b lim x.1.vol) ≤ (momsAt b s ts ts.length).findIdx (fun x => X.overB b lim x.1.vol) := by
      refine find_mono (by simp [momsAt, hc.len]) fun i h2 h3 h4 => ?_
      have hi : i < ts.length := by simpa [momsAt] using h2
      simp only [momsAt, List.getElem_map, List.getElem_range] at h4 ⊢
      have h5 := run_mono ho hs hs' hc (i + 1) (by omega) (fun j hj => herr j (by omega)) (fun j hj => herr' j (by have := hc.len; omega))
      exact over_mono ho.rowsOk (staAt_ok ho hs (ts := ts) (i + 1) fun j hj => herr j (by omega)).vol.1 h5.vol h4
    omega
/-- what a polder has after a tick. -/
theorem fil_next (h : Ok b) (hs : StaOk b s) {i k : Nat} (hi : i < b.pols.length) (herr : ∀ j, j ≤ k → errAt b s ts j = 0) : (staAt b s ts (k + 1)).f i = (staAt b s ts k).f i + (floAt b s ts k).t i ∧ 0 ≤ (floAt b s ts k).t i := by
  have hk := staAt_ok h hs (ts := ts) k fun j hj => herr j (by omega)
  have he : stepE b (staAt b s ts k) (tk ts k) = 0 := herr k (Nat.le_refl _)
  have k1 := stepOk_of h hk he
  have e1 : (staAt b s ts (k + 1)) = stepS b (staAt b s ts k) (tk ts k) := outS_0 he
  have e2 : floAt b s ts k = stepF b (staAt b s ts k) (tk ts k) := outF_0 he
  have h3 : (stepF b (staAt b s ts k) (tk ts k)).t i = polT b (staAt b s ts k) (vol4 b (staAt b s ts k) (tk ts k)) i := by
    simp only [stepF, Flo.t]; exact rg_at hi
  have h4 : (stepS b (staAt b s ts k) (tk ts k)).f i = (staAt b s ts k).f i + polT b (staAt b s ts k) (vol4 b (staAt b s ts k) (tk ts k)) i := by
    simp only [stepS, Sta.f]; exact rg_at hi
  rw [e1, e2, h3, h4]
  have h5 := polV_bd h hk k1.v4 i (by omega)
  have h6 := takeOf_bd h (v := polV b (staAt b s ts k) (vol4 b (staAt b s ts k) (tk ts k)) i) (by have := k1.v4; omega) hi (hk.fil i hi)
  exact ⟨rfl, h6.1⟩
theorem fil_ge (h : Ok b) (hs : StaOk b s) {i : Nat} (hi : i < b.pols.length) : ∀ k, (∀ j, j < k → errAt b s ts j = 0) → s.f i ≤ (staAt b s ts k).f i := by
  intro k
  induction k with
  | zero => intro _; exact Int.le_refl _
  | succ k ih =>
    intro herr
    have h1 := ih fun j hj => herr j (by omega)
    have h2 := fil_next h hs hi (k := k) fun j hj => herr j (by omega)
    omega
theorem fil_same (h : Ok b) (hs : StaOk b s) {i : Nat} (hi : i < b.pols.length) : ∀ k, (∀ j, j < k → errAt b s ts j = 0) → (∀ j, j < k → ¬ 0 < (floAt b s ts j).t i) → (staAt b s ts k).f i = s.f i := by
  intro k
  induction k with
  | zero => intro _ _; rfl
  | succ k ih =>
    intro herr h0
    have h1 := ih (fun j hj => herr j (by omega)) fun j hj => h0 j (by omega)
    have h2 := fil_next h hs hi (k := k) fun j hj => herr j (by omega)
    have := h0 k (by omega)
    omega
theorem firstF_spec {fs : List Flo} {i : Nat} (h : 0 ≤ firstF fs i) : ∃ k, firstF fs i = (k : Nat) ∧ ∃ hk : k < fs.length, 0 < fs[k].t i := by
  unfold firstF at h ⊢
  cases hf : fs.findIdx? fun f => decide (0 < f.t i) with
  | none => rw [hf] at h; simp at h
  | some k =>
    obtain ⟨hk, h1, _⟩ := List.findIdx?_eq_some_iff_getElem.1 hf
    exact ⟨k, rfl, hk, by simpa using h1⟩
theorem firstF_le {fs : List Flo} {i k : Nat} (hk : k < fs.length) (h : 0 < fs[k].t i) : 0 ≤ firstF fs i ∧ firstF fs i ≤ (k : Nat) := by
  unfold firstF
  cases hf : fs.findIdx? fun f => decide (0 < f.t i) with
  | none =>
    rw [List.findIdx?_eq_none_iff] at hf
    have := hf _ (List.getElem_mem hk)
    simp [h] at this
  | some j =>
    obtain ⟨hj, h1, h2⟩ := List.findIdx?_eq_some_iff_getElem.1 hf
    refine ⟨by simp, ?_⟩
    rcases Nat.lt_or_ge k j with h3 | h3
    · have := h2 k h3; simp [h] at this
    · simp only; omega
/-- a polder that had as much is flooded no later. -/
theorem flood_mono (hc : CaseLe b s s' ts ts') (h0 : runE b s ts = 0) (h0' : runE b s' ts' = 0) {i : Nat} (hi : i < b.pols.length) (ha : 0 ≤ firstF (runF b s ts) i) (hfull : ¬ s.f i < s'.f i) : 0 ≤ firstF (runF b s' ts') i ∧ firstF (runF b s' ts') i ≤ firstF (runF b s ts) i := by
  obtain ⟨hs0, h300, herr⟩ := X.runE_0 h0
  obtain ⟨hs0', h300', herr'⟩ := X.runE_0 h0'
  obtain ⟨ho, hs⟩ := staOk_of hs0
  have hs' := (staOk_of hs0').2
  have eF : runF b s ts = (List.range ts.length).map fun i => floAt b s ts i := by unfold runF; rw [if_neg (by simp [h0])]
  have eF' : runF b s' ts' = (List.range ts'.length).map fun i => floAt b s' ts' i := by unfold runF; rw [if_neg (by simp [h0'])]
  obtain ⟨k, ek, hk, hpos⟩ := firstF_spec ha
  rw [ek]
  have hkl : k < ts.length := by rw [eF] at hk; simpa using hk
  have hpos' : 0 < (floAt b s ts k).t i := by simpa [eF] using hpos
  by_cases hex : ∃ j, j < k + 1 ∧ 0 < (floAt b s' ts' j).t i
  · obtain ⟨j, hj, hp⟩ := hex
    have hjl : j < (runF b s' ts').length := by rw [eF']; simp; have := hc.len; omega
    have h1 := firstF_le (i := i) hjl (by simpa [eF'] using hp)
    omega
  · exfalso
    have hlen := hc.len
    have e1 := fil_same ho hs' hi (k + 1) (fun j hj => herr' j (by omega)) fun j hj hp => hex ⟨j, hj, hp⟩
    have e2 := fil_next ho hs hi (k := k) fun j hj => herr j (by omega)
    have e3 := fil_ge ho hs hi k (ts := ts) fun j hj => herr j (by omega)
    have e4 := (run_mono ho hs hs' hc (k + 1) (by omega) (fun j hj => herr j (by omega)) (fun j hj => herr' j (by omega))).fil i hi
    omega
end
end Go.Proofs.YtoiepgcjinccpaaDoor.Bs
/-
  A walk by lemmas (J): in a region that draws its order, reckonings too may be taken first, not only copies and addresses.
-/
namespace Go.Proofs.YtoiepgcjinccpaaDoor.X
open Go Go.RowKit
set_option linter.unusedVariables false
section
variable {P : Program} {N : Nat} {B : Nat} {wS w0 : World} {ds : List Deferred} {Q : Exit → Act → World → Prop} {F : Fr} {L Ls : Lo} {ops : Array Oper} {rem rem' : List (Nat × Oper)}
/-- operations of slots alone, reckonings among them. -/
def reckOp (o : Oper) : Bool := match o.guard with
  | some _ => false
  | none => match o.op with
    | .move _ | .assign _ | .extract .. | .makeInterface .. | .build .. | .fieldAddr .. | .indexAddr .. | .binOp .. | .convert .. => true
    | .call c => match c.callee with
      | .builtin .min => true
      | .builtin .max => true
      | _ => false
    | _ => false
/-- the first of these that may come up. -/
def firstR (rem : List (Nat × Oper)) : List (Nat × Oper) → Option (Nat × Oper × List (Nat × Oper))
  | [] => none
  | (i, o) :: r => match reckOp o with
    | true => match readyB rem o with
      | true => match dropO rem i with
        | some rem' => some (i, o, rem')
        | none => none
      | false => firstR rem r
    | false => firstR rem r
theorem firstR_spec : ∀ {l : List (Nat × Oper)} {i : Nat} {o : Oper}, firstR rem l = some (i, o, rem') → (i, o) ∈ l ∧ readyB rem o = true ∧ dropO rem i = some rem' := by
  intro l
  induction l with
  | nil => intro i o h; cases h
  | cons e r ih =>
    intro i o h
    obtain ⟨j, p⟩ := e
    simp only [firstR] at h
    split at h
    · split at h
      · rename_i hr
        split at h
        · rename_i r2 hd
          simp only [Option.some.injEq, Prod.mk.injEq] at h
          obtain ⟨rfl, rfl, rfl⟩ := h
          exact ⟨List.mem_cons_self, hr, hd⟩
        · cases h
      · obtain ⟨h1, h2⟩ := ih h; exact ⟨List.mem_cons_of_mem _ h1, h2⟩
    · obtain ⟨h1, h2⟩ := ih h; exact ⟨List.mem_cons_of_mem _ h1, h2⟩
theorem XR.take2 {i : Nat} {o : Oper} (h1 : firstR rem rem = some (i, o, rem')) (hl : loneB ops rem i o = true) (h : Fw P N B wS ds False (fun F' => XR P N B wS w0 ds Q Ls ops rem' F' L) ops Ls [o] F) :
    XR P N B wS w0 ds Q Ls ops rem F L := by
  obtain ⟨hm, hr, hd⟩ := firstR_spec h1
  unfold loneB at hl
  simp only [Bool.and_eq_true] at hl
  obtain ⟨⟨hsel, hein⟩, hap⟩ := hl
  obtain ⟨v, hok, F', hal, hk⟩ := h.run
  refine ⟨fun D fuel a w hD hlen hf hs hS => ?_⟩
  have hrd : i ∈ Region.ready .any ops D := hD.mem_ready hm hr fun e he hb => by
    unfold edgesIn at hein
    have := List.all_eq_true.1 hein _ hm
    have := List.all_eq_true.1 this e (by simpa using he)
    simp only [hb, Bool.not_true, Bool.false_or] at this
    exact Nat.le_of_ble_eq_true this
  obtain ⟨n, rfl, hn⟩ := ready_count hrd hlen
  have hD' := hD.set hm hd
  refine wpAnyH_first (hD.at_ _ hm) (Region.noSelect_spec hsel) (fun c a w q => q.elim) n D a w (fun j oj hj hne hun hno => ?_) hrd (hok.yieldsIf hf) hS ?_
  · have hjs : j < ops.size := (Array.getElem?_eq_some_iff.1 hj).1
    have hon : on D j = false := by
      unfold on
      have hlt' : j < D.size := by rw [hD.size]; exact hjs
      rw [Array.getD_eq_getD_getElem?, Array.getElem?_eq_getElem hlt'] at hun ⊢
      exact hun
    obtain ⟨o', ho'⟩ := inRem_iff.1 ((hD.left j hjs).1 hon)
    have := hD.at_ _ ho'
    rw [hj] at this
    obtain rfl := Option.some.inj this
    have h2 := List.all_eq_true.1 hap _ ho'
    simp only [Bool.or_eq_true] at h2
    rcases h2 with (h2 | h2) | h2
    · exact absurd (Nat.eq_of_beq_eq_true h2) hne
    · obtain ⟨e, he, hb⟩ := Array.any_eq_true'.1 h2
      simp only [Bool.and_eq_true, beq_iff_eq] at hb
      exact absurd hb.2 (hno e he hb.1)
    · exact h2
  · exact hk.run _ n _ w hD' hn (hal.fits (hf.putF hok.1)) hs hS
end
end Go.Proofs.YtoiepgcjinccpaaDoor.X
/-
  The walk of worse.
-/
namespace Go.Proofs.YtoiepgcjinccpaaDoor.Bs
structure Tri where
  a : Int
  b : Int
  c : Int
structure Wor where
  vol : Int
  fil : List Int
  tks : List Tri
def w64 (n : Int) : Int := Go.IntKind.i64.wrap n
def worF (b : Bas) (s : Sta) (wo : Wor) (i : Nat) : Int := if i < wo.fil.length ∧ i < b.pols.length then max (s.f i) (min (b.pol i).room (w64 (s.f i + wo.fil[i]?.getD 0))) else s.f i
def worS (b : Bas) (s : Sta) (wo : Wor) : Sta := ⟨min 1000000000 (max s.vol wo.vol), rg s.fil.length (worF b s wo)⟩
def Wor.t (wo : Wor) (i : Nat) : Tri := wo.tks[i % wo.tks.length]?.getD ⟨0, 0, 0⟩
def worT (ts : List Tick) (wo : Wor) (i : Nat) : Tick := if 0 < wo.tks.length then ⟨min 20000 (w64 ((tk ts i).outer + (wo.t i).a)), min 10000000 (w64 ((tk ts i).river + (wo.t i).b)), max 0 (w64 ((tk ts i).out - (wo.t i).c))⟩ else tk ts i
def worTs (ts : List Tick) (wo : Wor) : List Tick := (List.range ts.length).map (worT ts wo)
/-- the bytes' ranges. -/
structure WorOk (wo : Wor) : Prop where
  fil : ∀ x, x ∈ wo.fil → 0 ≤ x ∧ x ≤ 65535
  tks : ∀ t, t ∈ wo.tks → (0 ≤ t.a ∧ t.a ≤ 65535) ∧ (0 ≤ t.b ∧ t.b ≤ 65535) ∧ (0 ≤ t.c ∧ t.c ≤ 65535)
end Go.Proofs.YtoiepgcjinccpaaDoor.Bs
namespace Go.Proofs.YtoiepgcjinccpaaDoor.X
open Go Go.RowKit Go.Proofs.YtoiepgcjinccpaaDoor.Bs
set_option linter.unusedVariables false
def u16K : Kind Int := ⟨50, 1, fun k => [.int .u16 k], fun _ => [], fun _ => rfl⟩
def triC (t : Tri) : List Value := [.int .u16 t.a, .int .u16 t.b, .int .u16 t.c]
def triK : Kind Tri := ⟨122, 3, triC, fun _ => [], fun _ => rfl⟩
structure WV where
  q : SV
  r : SV
def worC (y : WV) (wo : Wor) : List Value := [.int .i64 wo.vol, .slice y.q.A y.q.n y.q.c, .slice y.r.A y.r.n y.r.c]
def worV (y : WV) (wo : Wor) : Value := .agg ⟨worC y wo⟩
structure WorAt (w : World) (ok : Nat → Prop) (y : WV) (wo : Wor) : Prop where
  fil : ListAt u16K w ok y.q wo.fil
  tks : ListAt triK w ok y.r wo.tks
  ok : WorOk wo
theorem WorAt.arg {w w0 : World} {B : Nat} {L : Lo} {y : WV} {wo : Wor} (h : WorAt w0 (Lt B) y wo) (S : Sys B w0 L w) : WorAt w (Lt w.heap.size) y wo := ⟨h.fil.arg S, h.tks.arg S, h.ok⟩
def WorV (b : Bas) (c : Cas) (wo : Wor) (v : Value) (new : List Held) : Prop := ∃ y : CV, v = caseV y ⟨worS b c.s wo, worTs c.ts wo, c.lim⟩ ∧ new = [hInts y.q (worS b c.s wo).fil, hList tickK y.r (worTs c.ts wo)]
section
variable {P : Program} {T : TT} {N : Nat} {B : Nat} {w0 : World} {ds : List Deferred} {F : Fr} {L : Lo} {pu : Prop} {dst : Option Tmp} {ty : TypeId} {p : String} {af : Array Edge} {gd : Option (Nat × Bool)}
/-- an element's place in an array that a pointer leads to. -/
theorem Ev.indexPtr {t e n : Nat} {x i : Operand} {g o j : Nat} {k : IntKind} (hu : P.underlying t = some (.array n e)) (he : (P.info? e).map (·.size) = some 1) (hx : evo F x = some (.pointer (some ⟨g, o, none⟩))) (hi : evo F i = some (.int k (j : Int))) (hj : j < n) :
    Ev P N B w0 ds pu F L ⟨dst, .indexAddr t x i, ty, p, af, gd⟩ (.pointer (some ⟨g, o + j, none⟩)) := .of_run fun a w hf hw => by
  cases h : P.info? e with
  | none => rw [h] at he; cases he
  | some ii =>
    rw [h] at he
    simp only [Option.map_some, Option.some.injEq] at he
    have hz := sizeOf_run h w
    rw [he] at hz
    have hj' : (j : Int) < n := by omega
    simp [execOp, hf.eval hx, hf.eval hi, Instr.indexAt, Instr.sureAddr, asIntOf, run_underlying hu, hz, hj', hj, show ¬ n ≤ j from by omega, add_off]
end
theorem u16_1 : (Tryd.prog.info? 50).map (·.size) = some 1 := by kernel_rfl
set_option maxHeartbeats 16000000 in
theorem worse_any {p : BV} {b : Bas} {x : CV} {c : Cas} {y : WV} {wo : Wor} {w : World} (hb : BasAt w w.heap.size p b) (hc : CaseAt w (Lt w.heap.size) x c) (hw : WorAt w (Lt w.heap.size) y wo) (hn1 : c.s.fil.length ≤ 2000000) (hn2 : c.ts.length ≤ 2000000) :
    Calls Tryd.prog 38 #[basV p b, caseV x c, worV y wo] w (Made w (WorV b c wo)) := by
  obtain ⟨⟨Aq, nq, cq⟩, ⟨At, nt, ct⟩⟩ := x
  obtain ⟨s, ts, lim⟩ := c
  obtain ⟨⟨Au, nu, cu⟩, ⟨Av, nv, cv⟩⟩ := y
  obtain ⟨A, n, c, A2, n2, c2⟩ := p
  obtain ⟨hq, ht⟩ := hc
  obtain ⟨hu, hv, hwo⟩ := hw
  simp only at hq ht hu hv hn1 hn2
  have l1 := hq.len
  have l2 := ht.len
  have l3 := hu.len (by decide)
  have l4 := hv.len (by decide)
  have l5 := hb.n2_eq
  have m3 := hu.max
  have m4 := hv.max
  have m5 := hb.len2
  simp only at l1 l2 l3 l4 l5 m3 m4 m5
  subst l1 l2 l3 l4 l5
  simp only [basV, basC, caseV, caseC, worV, worC]
  refine enter Tryd.func38 rfl Tryd.ntmps38 rfl ?_; simp only [frame, Nat.zero_add, Nat.reduceAdd]
  repeat (first | (refine M0 ?_; first | refine O0 ?_ | refine z1 tok rfl ?_ | refine O1 rfl ?_ rfl | refine O2 rfl ?_ | refine O3 rfl ?_ rfl | refine O4 rfl rfl rfl (fun _ _ => ?_) | refine O5 tok rfl rfl rfl (fun _ _ => ?_) | refine U0 _ (U2 rfl) rfl ?_ | refine U0 _ (U3 tok rfl rfl rfl rfl rfl) rfl ?_ | refine z3 tok rfl ?_ | refine U0 _ (U4 rfl rfl) rfl ?_ | refine U0 _ (U5 rfl rfl) rfl ?_) | (refine M1 ?_; first | refine J0 ?_ | refine J1 ?_ | refine J2 mixed rfl (by kernel_rfl) ?_ | refine J3 mixed rfl rfl (by kernel_rfl) ?_ | refine J4 ?_ | refine J5 ?_ | refine J6 ?_ | refine J7 ?_ | refine J8 rfl ?_ | refine J9 rfl ?_) | (refine M2 ?_; first | refine I0 ?_ | refine I1 ?_ | refine I2 ?_ | refine I3 ?_ | refine I4 ?_ | refine I5 ?_ | refine I6 rfl ?_ | refine I7 ?_ | refine I8 ?_ | refine z4 ?_) | (refine M3 ?_; first | refine O6 ?_ | refine z2 tok rfl ?_ | refine O8 rfl ?_ | refine O7 rfl ?_ rfl | refine O9 rfl ?_ rfl | refine U1 _ (U4 rfl rfl) rfl ?_ | refine U1 _ (U5 rfl rfl) rfl ?_ | refine U1 _ (U2 rfl) rfl ?_ | refine U1 _ (U3 tok rfl rfl rfl rfl rfl) rfl ?_) | (refine M4 ?_; first | refine M6 ?_ | refine U6 rfl (by kernel_rfl) ?_ | refine XR.take2 rfl (by kernel_rfl) ?_ | refine U7 (by kernel_rfl) ?_) | (refine M5 ?_; first | exact M7 | refine U8 rfl ?_ | refine U9 rfl rfl ?_ ?_))
  rename_i g3 hg3 g4 hg4 g5 hg5 g6 hg6 g7 hg7
  refine XC.rebase (List.Sublist.refl _) (fun W0 S0 => ?_)
  refine XC.loopk [3, 4, 5, 6, 7] rfl (fun s' : Nat × World × SV => [(8, .int .i64 (s'.1 : Nat))])
    (fun s' => [(g7, cel 49 [.int .i64 (min 1000000000 (max s.vol wo.vol)), .slice s'.2.2.A s'.2.2.n s'.2.2.c, .slice none 0 0, .int .i64 lim]), (g6, cel 49 [.int .i64 0, .slice none 0 0, .slice none 0 0, .int .i64 0]), (g5, cel 71 [.int .i64 wo.vol, .slice Au wo.fil.length cu, .slice Av wo.tks.length cv]), (g4, cel 49 [.int .i64 s.vol, .slice Aq s.fil.length cq, .slice At ts.length ct, .int .i64 lim]), (g3, cel 25 [.slice A n c, .int .i64 b.leak, .int .i64 b.crest, .int .i64 b.over, .slice A2 b.pols.length c2])]) (fun s' => s'.2.1)
    (fun s' => s'.1 ≤ s.fil.length ∧ Below w.heap.size w s'.2.1 ∧ (∀ x, x ∈ [g7, g6, g5, g4, g3] → x < s'.2.1.heap.size) ∧ Fam s'.2.1 w.heap.size [g7, g6, g5, g4, g3] [⟨Int, intK, .slice s'.2.2.A s'.2.2.n s'.2.2.c, (List.range s'.1).map (worF b s wo)⟩] [])
    (fun s' => s.fil.length - s'.1) (0, W0, ⟨none, 0, 0⟩) ⟨Nat.zero_le _, S0.toBelow, fun x hx => S0.keyLt x hx, (Fam.start S0.size).nil intK⟩ (by repeat (first | exact Sub.nil | refine Sub.cons rfl ?_)) (fun _ h => h) ?_
  rintro ⟨k, W, r1⟩ ⟨hk, hBW, hks, hF⟩
  simp only at hk hBW hks hF
  dsimp only [List.cons_append, List.nil_append]
  repeat (first | (refine M0 ?_; first | refine O0 ?_ | refine z1 tok rfl ?_ | refine O1 rfl ?_ rfl | refine O2 rfl ?_ | refine O3 rfl ?_ rfl | refine O4 rfl rfl rfl (fun _ _ => ?_) | refine O5 tok rfl rfl rfl (fun _ _ => ?_) | refine U0 _ (U2 rfl) rfl ?_ | refine U0 _ (U3 tok rfl rfl rfl rfl rfl) rfl ?_ | refine z3 tok rfl ?_ | refine U0 _ (U4 rfl rfl) rfl ?_ | refine U0 _ (U5 rfl rfl) rfl ?_) | (refine M1 ?_; first | refine J0 ?_ | refine J1 ?_ | refine J2 mixed rfl (by kernel_rfl) ?_ | refine J3 mixed rfl rfl (by kernel_rfl) ?_ | refine J4 ?_ | refine J5 ?_ | refine J6 ?_ | refine J7 ?_ | refine J8 rfl ?_ | refine J9 rfl ?_) | (refine M2 ?_; first | refine I0 ?_ | refine I1 ?_ | refine I2 ?_ | refine I3 ?_ | refine I4 ?_ | refine I5 ?_ | refine I6 rfl ?_ | refine I7 ?_ | refine I8 ?_ | refine z4 ?_) | (refine M3 ?_; first | refine O6 ?_ | refine z2 tok rfl ?_ | refine O8 rfl ?_ | refine O7 rfl ?_ rfl | refine O9 rfl ?_ rfl | refine U1 _ (U4 rfl rfl) rfl ?_ | refine U1 _ (U5 rfl rfl) rfl ?_ | refine U1 _ (U2 rfl) rfl ?_ | refine U1 _ (U3 tok rfl rfl rfl rfl rfl) rfl ?_) | (refine M4 ?_; first | refine M6 ?_ | refine U6 rfl (by kernel_rfl) ?_ | refine XR.take2 rfl (by kernel_rfl) ?_ | refine U7 (by kernel_rfl) ?_) | (refine M5 ?_; first | exact M7 | refine U8 rfl ?_ | refine U9 rfl rfl ?_ ?_))
  refine XC.cond _ rfl (fun h1 => ?_) (fun h1 => ?_)
  · have hkn : k < s.fil.length := by simpa using h1
    obtain ⟨aq, rfl, hlq, hcq⟩ := hq.at_ (by omega)
    have hcell : W.cell? (aq.add (k * 1)) = some (.int .i64 (s.f k)) := (hBW.cell (by rw [add_block]; exact hlq)).trans (hcq k hkn)
    repeat (first | (refine M0 ?_; first | refine O0 ?_ | refine z1 tok rfl ?_ | refine O1 rfl ?_ rfl | refine O2 rfl ?_ | refine O3 rfl ?_ rfl | refine U0 _ (Ev.load_old tok rfl rfl (add_lt hlq) hcell) rfl ?_ | refine O4 rfl rfl rfl (fun _ _ => ?_) | refine O5 tok rfl rfl rfl (fun _ _ => ?_) | refine U0 _ (U2 rfl) rfl ?_ | refine U0 _ (U3 tok rfl rfl rfl rfl rfl) rfl ?_ | refine z3 tok rfl ?_ | refine U0 _ (U4 rfl rfl) rfl ?_ | refine U0 _ (U5 rfl rfl) rfl ?_) | (refine M1 ?_; first | refine J0 ?_ | refine J1 ?_ | refine J2 mixed rfl (by kernel_rfl) ?_ | refine J3 mixed rfl rfl (by kernel_rfl) ?_ | refine J4 ?_ | refine J5 ?_ | refine J6 ?_ | refine J7 ?_ | refine J8 rfl ?_ | refine J9 rfl ?_) | (refine M2 ?_; first | refine I0 ?_ | refine I1 ?_ | refine I2 ?_ | refine I3 ?_ | refine I4 ?_ | refine I5 ?_ | refine I6 rfl ?_ | refine I7 ?_ | refine I8 ?_ | refine z4 ?_) | (refine M3 ?_; first | refine O6 ?_ | refine z2 tok rfl ?_ | refine O8 rfl ?_ | refine O7 rfl ?_ rfl | refine O9 rfl ?_ rfl | refine U1 _ (Ev.load_old tok rfl rfl (add_lt hlq) hcell) rfl ?_ | refine U1 _ (U4 rfl rfl) rfl ?_ | refine U1 _ (U5 rfl rfl) rfl ?_ | refine U1 _ (U2 rfl) rfl ?_ | refine U1 _ (U3 tok rfl rfl rfl rfl rfl) rfl ?_) | (refine M4 ?_; first | refine M6 ?_ | refine U6 rfl (by kernel_rfl) ?_ | refine XR.take2 rfl (by kernel_rfl) ?_ | refine U7 (by kernel_rfl) ?_) | (refine M5 ?_; first | exact M7 | refine U8 rfl ?_ | refine U9 rfl rfl ?_ ?_))
    have hl1 : ((List.range k).map (worF b s wo)).length + 1 ≤ 10000000 := by simp; omega
    have ha1 : ∀ x, x ∈ intK.sl (worF b s wo k) → x ∈ ([] : List Held) := fun x hx => by cases hx
    refine XL.split _ _ rfl (fun h2 => ?_) (fun h2 => ?_) <;> rw [h2]
    · have hk2 : k < wo.fil.length := by simpa using h2
      repeat (first | (refine M0 ?_; first | refine O0 ?_ | refine z1 tok rfl ?_ | refine O1 rfl ?_ rfl | refine O2 rfl ?_ | refine O3 rfl ?_ rfl | refine O4 rfl rfl rfl (fun _ _ => ?_) | refine O5 tok rfl rfl rfl (fun _ _ => ?_) | refine U0 _ (U2 rfl) rfl ?_ | refine U0 _ (U3 tok rfl rfl rfl rfl rfl) rfl ?_ | refine z3 tok rfl ?_ | refine U0 _ (U4 rfl rfl) rfl ?_ | refine U0 _ (U5 rfl rfl) rfl ?_) | (refine M1 ?_; first | refine J0 ?_ | refine J1 ?_ | refine J2 mixed rfl (by kernel_rfl) ?_ | refine J3 mixed rfl rfl (by kernel_rfl) ?_ | refine J4 ?_ | refine J5 ?_ | refine J6 ?_ | refine J7 ?_ | refine J8 rfl ?_ | refine J9 rfl ?_) | (refine M2 ?_; first | refine I0 ?_ | refine I1 ?_ | refine I2 ?_ | refine I3 ?_ | refine I4 ?_ | refine I5 ?_ | refine I6 rfl ?_ | refine I7 ?_ | refine I8 ?_ | refine z4 ?_) | (refine M3 ?_; first | refine O6 ?_ | refine z2 tok rfl ?_ | refine O8 rfl ?_ | refine O7 rfl ?_ rfl | refine O9 rfl ?_ rfl | refine U1 _ (U4 rfl rfl) rfl ?_ | refine U1 _ (U5 rfl rfl) rfl ?_ | refine U1 _ (U2 rfl) rfl ?_ | refine U1 _ (U3 tok rfl rfl rfl rfl rfl) rfl ?_) | (refine M4 ?_; first | refine M6 ?_ | refine U6 rfl (by kernel_rfl) ?_ | refine XR.take2 rfl (by kernel_rfl) ?_ | refine U7 (by kernel_rfl) ?_) | (refine M5 ?_; first | exact M7 | refine U8 rfl ?_ | refine U9 rfl rfl ?_ ?_))
      refine XC.cond _ rfl (fun h3 => ?_) (fun h3 => ?_)
      · have hk3 : k < b.pols.length := by simpa using h3
        obtain ⟨ap, rfl, hlp⟩ := hb.pols.addr (by simp only; omega)
        obtain ⟨au, rfl, hlu⟩ := hu.addr (by decide) (by omega)
        have hcp := (hb.below hBW).pol hk3 3 (.int .i64 (b.pol k).room) rfl
        have hcu : W.cell? (au.add (k * 1)) = some (.int .u16 wo.fil[k]) := (hu.below hBW).elem (List.getElem?_eq_getElem hk2) 0 (.int .u16 wo.fil[k]) rfl
        have hur := hwo.fil _ (List.getElem_mem hk2)
        have hwr : IntKind.i64.wrap wo.fil[k] = wo.fil[k] := wrap_in (by unfold i64in; omega)
        have e9 : max (s.f k) (min (b.pol k).room (IntKind.i64.wrap (s.f k + wo.fil[k]))) = worF b s wo k := by
          unfold worF
          rw [if_pos ⟨hk2, hk3⟩, List.getElem?_eq_getElem hk2]
          rfl
        repeat (first | (refine M0 ?_; first | refine O0 ?_ | refine z1 tok rfl ?_ | refine O1 rfl ?_ rfl | refine O2 rfl ?_ | refine O3 rfl ?_ rfl | refine U0 _ (Ev.load_old tok rfl rfl (add_lt2 hlp) hcp) rfl ?_ | refine U0 _ (Ev.load_old tok rfl rfl (add_lt hlu) hcu) rfl ?_ | refine U0 _ (Ev.conv Tryd.underlying50 Tryd.underlying3 rfl hwr) rfl ?_ | refine U0 _ (Ev.add_w rfl rfl) rfl ?_ | refine O4 rfl rfl rfl (fun _ _ => ?_) | refine O5 tok rfl rfl rfl (fun _ _ => ?_) | refine U0 _ (U2 rfl) rfl ?_ | refine U0 _ (U3 tok rfl rfl rfl rfl rfl) rfl ?_ | refine z3 tok rfl ?_ | refine U0 _ (U4 rfl rfl) rfl ?_ | refine U0 _ (U5 rfl rfl) rfl ?_) | (refine M1 ?_; first | refine J0 ?_ | refine J1 ?_ | refine J2 mixed rfl (by kernel_rfl) ?_ | refine J3 mixed rfl rfl (by kernel_rfl) ?_ | refine J4 ?_ | refine J5 ?_ | refine J6 ?_ | refine J7 ?_ | refine J8 rfl ?_ | refine J9 rfl ?_) | (refine M2 ?_; first | refine I0 ?_ | refine I1 ?_ | refine I2 ?_ | refine I3 ?_ | refine I4 ?_ | refine I5 ?_ | refine I6 rfl ?_ | refine I7 ?_ | refine I8 ?_ | refine z4 ?_) | (refine M3 ?_; first | refine O6 ?_ | refine z2 tok rfl ?_ | refine O8 rfl ?_ | refine O7 rfl ?_ rfl | refine O9 rfl ?_ rfl | refine U1 _ (Ev.load_old tok rfl rfl (add_lt2 hlp) hcp) rfl ?_ | refine U1 _ (Ev.load_old tok rfl rfl (add_lt hlu) hcu) rfl ?_ | refine U1 _ (Ev.conv Tryd.underlying50 Tryd.underlying3 rfl hwr) rfl ?_ | refine U1 _ (Ev.add_w rfl rfl) rfl ?_ | refine U1 _ (U4 rfl rfl) rfl ?_ | refine U1 _ (U5 rfl rfl) rfl ?_ | refine U1 _ (U2 rfl) rfl ?_ | refine U1 _ (U3 tok rfl rfl rfl rfl rfl) rfl ?_) | (refine M4 ?_; first | refine M6 ?_ | refine U6 rfl (by kernel_rfl) ?_ | refine XR.take2 rfl (by kernel_rfl) ?_ | refine U7 (by kernel_rfl) ?_) | (refine M5 ?_; first | exact M7 | refine U8 rfl ?_ | refine U9 rfl rfl ?_ ?_))
        rw [e9]
        repeat (first | (refine M0 ?_; first | refine O0 ?_ | refine z1 tok rfl ?_ | refine O1 rfl ?_ rfl | refine O2 rfl ?_ | refine O3 rfl ?_ rfl | refine O4 rfl rfl rfl (fun _ _ => ?_) | refine O5 tok rfl rfl rfl (fun _ _ => ?_) | refine U0 _ (U2 rfl) rfl ?_ | refine U0 _ (U3 tok rfl rfl rfl rfl rfl) rfl ?_ | refine z3 tok rfl ?_ | refine U0 _ (U4 rfl rfl) rfl ?_ | refine U0 _ (U5 rfl rfl) rfl ?_ | refine XL.buildSlice tok rfl rfl rfl rfl rfl rfl rfl rfl rfl (fun _ _ => ?_)) | (refine M1 ?_; first | refine J0 ?_ | refine J1 ?_ | refine J2 mixed rfl (by kernel_rfl) ?_ | refine J3 mixed rfl rfl (by kernel_rfl) ?_ | refine J4 ?_ | refine J5 ?_ | refine J6 ?_ | refine J7 ?_ | refine J8 rfl ?_ | refine J9 rfl ?_) | (refine M2 ?_; first | refine I0 ?_ | refine I1 ?_ | refine I2 ?_ | refine I3 ?_ | refine I4 ?_ | refine I5 ?_ | refine I6 rfl ?_ | refine I7 ?_ | refine I8 ?_ | refine z4 ?_) | (refine M3 ?_; first | refine O6 ?_ | refine z2 tok rfl ?_ | refine O8 rfl ?_ | refine O7 rfl ?_ rfl | refine O9 rfl ?_ rfl | refine U1 _ (U4 rfl rfl) rfl ?_ | refine U1 _ (U5 rfl rfl) rfl ?_ | refine U1 _ (U2 rfl) rfl ?_ | refine U1 _ (U3 tok rfl rfl rfl rfl rfl) rfl ?_) | (refine M4 ?_; first | refine M6 ?_ | refine U6 rfl (by kernel_rfl) ?_ | refine XR.take2 rfl (by kernel_rfl) ?_ | refine U7 (by kernel_rfl) ?_) | (refine M5 ?_; first | exact M7 | refine U8 rfl ?_ | refine U9 rfl rfl ?_ ?_))
        refine XL.push (K := intK) (a := worF b s wo k) (wE := w) 0 intK_el (by decide) rfl rfl rfl hF rfl hks hBW (Nat.le_refl _) rfl hl1 (by decide) ha1 (fun w2 v2 hF2 hB2 hk2 => ?_)
        obtain ⟨r2, rfl, _⟩ := hF2.list (.head _)
        simp only [svV]
        repeat (first | (refine M0 ?_; first | refine O0 ?_ | refine z1 tok rfl ?_ | refine O1 rfl ?_ rfl | refine O2 rfl ?_ | refine O3 rfl ?_ rfl | refine O4 rfl rfl rfl (fun _ _ => ?_) | refine O5 tok rfl rfl rfl (fun _ _ => ?_) | refine U0 _ (U2 rfl) rfl ?_ | refine U0 _ (U3 tok rfl rfl rfl rfl rfl) rfl ?_ | refine z3 tok rfl ?_ | refine U0 _ (U4 rfl rfl) rfl ?_ | refine U0 _ (U5 rfl rfl) rfl ?_) | (refine M1 ?_; first | refine J0 ?_ | refine J1 ?_ | refine J2 mixed rfl (by kernel_rfl) ?_ | refine J3 mixed rfl rfl (by kernel_rfl) ?_ | refine J4 ?_ | refine J5 ?_ | refine J6 ?_ | refine J7 ?_ | refine J8 rfl ?_ | refine J9 rfl ?_) | (refine M2 ?_; first | refine I0 ?_ | refine I1 ?_ | refine I2 ?_ | refine I3 ?_ | refine I4 ?_ | refine I5 ?_ | refine I6 rfl ?_ | refine I7 ?_ | refine I8 ?_ | refine z4 ?_) | (refine M3 ?_; first | refine O6 ?_ | refine z2 tok rfl ?_ | refine O8 rfl ?_ | refine O7 rfl ?_ rfl | refine O9 rfl ?_ rfl | refine U1 _ (U4 rfl rfl) rfl ?_ | refine U1 _ (U5 rfl rfl) rfl ?_ | refine U1 _ (U2 rfl) rfl ?_ | refine U1 _ (U3 tok rfl rfl rfl rfl rfl) rfl ?_) | (refine M4 ?_; first | refine M6 ?_ | refine U6 rfl (by kernel_rfl) ?_ | refine XR.take2 rfl (by kernel_rfl) ?_ | refine U7 (by kernel_rfl) ?_) | (refine M5 ?_; first | exact M7 | refine U8 rfl ?_ | refine U9 rfl rfl ?_ ?_))
        refine XE.roundW (s := (k, W, r1)) (fun w6 S6 => ⟨(k + 1, w6, r2), ⟨hkn, hB2.trans S6.toBelow, fun x hx => S6.keyLt x (by simp only [List.map_cons, List.map_nil, List.mem_cons, List.not_mem_nil, or_false] at hx ⊢; omega), ?_⟩, by simp only; omega, (by repeat (first | exact Sub.nil | refine Sub.cons rfl ?_)), S6.rebase (by repeat (first | exact List.Sublist.refl _ | exact List.nil_sublist _ | refine List.Sublist.cons _ ?_))⟩)
        rw [range_add]
        exact Fam.add (Fam.sys hF2 S6 (by intro e he; repeat (first | (cases he; done) | (rcases List.mem_cons.1 he with rfl | he; · first | (right; assumption) | (left; simp <;> fail))))) (by intro k hk; repeat (first | (cases hk; done) | (rcases List.mem_cons.1 hk with rfl | hk; · first | (right; assumption) | (left; simp <;> fail))))
      · have e9 : s.f k = worF b s wo k := by
          unfold worF
          rw [if_neg fun h => by have : ¬ (k < b.pols.length) := by simpa using h3
                                 exact this h.2]
        repeat (first | (refine M0 ?_; first | refine O0 ?_ | refine z1 tok rfl ?_ | refine O1 rfl ?_ rfl | refine O2 rfl ?_ | refine O3 rfl ?_ rfl | refine O4 rfl rfl rfl (fun _ _ => ?_) | refine O5 tok rfl rfl rfl (fun _ _ => ?_) | refine U0 _ (U2 rfl) rfl ?_ | refine U0 _ (U3 tok rfl rfl rfl rfl rfl) rfl ?_ | refine z3 tok rfl ?_ | refine U0 _ (U4 rfl rfl) rfl ?_ | refine U0 _ (U5 rfl rfl) rfl ?_) | (refine M1 ?_; first | refine J0 ?_ | refine J1 ?_ | refine J2 mixed rfl (by kernel_rfl) ?_ | refine J3 mixed rfl rfl (by kernel_rfl) ?_ | refine J4 ?_ | refine J5 ?_ | refine J6 ?_ | refine J7 ?_ | refine J8 rfl ?_ | refine J9 rfl ?_) | (refine M2 ?_; first | refine I0 ?_ | refine I1 ?_ | refine I2 ?_ | refine I3 ?_ | refine I4 ?_ | refine I5 ?_ | refine I6 rfl ?_ | refine I7 ?_ | refine I8 ?_ | refine z4 ?_) | (refine M3 ?_; first | refine O6 ?_ | refine z2 tok rfl ?_ | refine O8 rfl ?_ | refine O7 rfl ?_ rfl | refine O9 rfl ?_ rfl | refine U1 _ (U4 rfl rfl) rfl ?_ | refine U1 _ (U5 rfl rfl) rfl ?_ | refine U1 _ (U2 rfl) rfl ?_ | refine U1 _ (U3 tok rfl rfl rfl rfl rfl) rfl ?_) | (refine M4 ?_; first | refine M6 ?_ | refine U6 rfl (by kernel_rfl) ?_ | refine XR.take2 rfl (by kernel_rfl) ?_ | refine U7 (by kernel_rfl) ?_) | (refine M5 ?_; first | exact M7 | refine U8 rfl ?_ | refine U9 rfl rfl ?_ ?_))
        rw [e9]
        repeat (first | (refine M0 ?_; first | refine O0 ?_ | refine z1 tok rfl ?_ | refine O1 rfl ?_ rfl | refine O2 rfl ?_ | refine O3 rfl ?_ rfl | refine O4 rfl rfl rfl (fun _ _ => ?_) | refine O5 tok rfl rfl rfl (fun _ _ => ?_) | refine U0 _ (U2 rfl) rfl ?_ | refine U0 _ (U3 tok rfl rfl rfl rfl rfl) rfl ?_ | refine z3 tok rfl ?_ | refine U0 _ (U4 rfl rfl) rfl ?_ | refine U0 _ (U5 rfl rfl) rfl ?_ | refine XL.buildSlice tok rfl rfl rfl rfl rfl rfl rfl rfl rfl (fun _ _ => ?_)) | (refine M1 ?_; first | refine J0 ?_ | refine J1 ?_ | refine J2 mixed rfl (by kernel_rfl) ?_ | refine J3 mixed rfl rfl (by kernel_rfl) ?_ | refine J4 ?_ | refine J5 ?_ | refine J6 ?_ | refine J7 ?_ | refine J8 rfl ?_ | refine J9 rfl ?_) | (refine M2 ?_; first | refine I0 ?_ | refine I1 ?_ | refine I2 ?_ | refine I3 ?_ | refine I4 ?_ | refine I5 ?_ | refine I6 rfl ?_ | refine I7 ?_ | refine I8 ?_ | refine z4 ?_) | (refine M3 ?_; first | refine O6 ?_ | refine z2 tok rfl ?_ | refine O8 rfl ?_ | refine O7 rfl ?_ rfl | refine O9 rfl ?_ rfl | refine U1 _ (U4 rfl rfl) rfl ?_ | refine U1 _ (U5 rfl rfl) rfl ?_ | refine U1 _ (U2 rfl) rfl ?_ | refine U1 _ (U3 tok rfl rfl rfl rfl rfl) rfl ?_) | (refine M4 ?_; first | refine M6 ?_ | refine U6 rfl (by kernel_rfl) ?_ | refine XR.take2 rfl (by kernel_rfl) ?_ | refine U7 (by kernel_rfl) ?_) | (refine M5 ?_; first | exact M7 | refine U8 rfl ?_ | refine U9 rfl rfl ?_ ?_))
        refine XL.push (K := intK) (a := worF b s wo k) (wE := w) 0 intK_el (by decide) rfl rfl rfl hF rfl hks hBW (Nat.le_refl _) rfl hl1 (by decide) ha1 (fun w2 v2 hF2 hB2 hk2 => ?_)
        obtain ⟨r2, rfl, _⟩ := hF2.list (.head _)
        simp only [svV]
        repeat (first | (refine M0 ?_; first | refine O0 ?_ | refine z1 tok rfl ?_ | refine O1 rfl ?_ rfl | refine O2 rfl ?_ | refine O3 rfl ?_ rfl | refine O4 rfl rfl rfl (fun _ _ => ?_) | refine O5 tok rfl rfl rfl (fun _ _ => ?_) | refine U0 _ (U2 rfl) rfl ?_ | refine U0 _ (U3 tok rfl rfl rfl rfl rfl) rfl ?_ | refine z3 tok rfl ?_ | refine U0 _ (U4 rfl rfl) rfl ?_ | refine U0 _ (U5 rfl rfl) rfl ?_) | (refine M1 ?_; first | refine J0 ?_ | refine J1 ?_ | refine J2 mixed rfl (by kernel_rfl) ?_ | refine J3 mixed rfl rfl (by kernel_rfl) ?_ | refine J4 ?_ | refine J5 ?_ | refine J6 ?_ | refine J7 ?_ | refine J8 rfl ?_ | refine J9 rfl ?_) | (refine M2 ?_; first | refine I0 ?_ | refine I1 ?_ | refine I2 ?_ | refine I3 ?_ | refine I4 ?_ | refine I5 ?_ | refine I6 rfl ?_ | refine I7 ?_ | refine I8 ?_ | refine z4 ?_) | (refine M3 ?_; first | refine O6 ?_ | refine z2 tok rfl ?_ | refine O8 rfl ?_ | refine O7 rfl ?_ rfl | refine O9 rfl ?_ rfl | refine U1 _ (U4 rfl rfl) rfl ?_ | refine U1 _ (U5 rfl rfl) rfl ?_ | refine U1 _ (U2 rfl) rfl ?_ | refine U1 _ (U3 tok rfl rfl rfl rfl rfl) rfl ?_) | (refine M4 ?_; first | refine M6 ?_ | refine U6 rfl (by kernel_rfl) ?_ | refine XR.take2 rfl (by kernel_rfl) ?_ | refine U7 (by kernel_rfl) ?_) | (refine M5 ?_; first | exact M7 | refine U8 rfl ?_ | refine U9 rfl rfl ?_ ?_))
        refine XE.roundW (s := (k, W, r1)) (fun w6 S6 => ⟨(k + 1, w6, r2), ⟨hkn, hB2.trans S6.toBelow, fun x hx => S6.keyLt x (by simp only [List.map_cons, List.map_nil, List.mem_cons, List.not_mem_nil, or_false] at hx ⊢; omega), ?_⟩, by simp only; omega, (by repeat (first | exact Sub.nil | refine Sub.cons rfl ?_)), S6.rebase (by repeat (first | exact List.Sublist.refl _ | exact List.nil_sublist _ | refine List.Sublist.cons _ ?_))⟩)
        rw [range_add]
        exact Fam.add (Fam.sys hF2 S6 (by intro e he; repeat (first | (cases he; done) | (rcases List.mem_cons.1 he with rfl | he; · first | (right; assumption) | (left; simp <;> fail))))) (by intro k hk; repeat (first | (cases hk; done) | (rcases List.mem_cons.1 hk with rfl | hk; · first | (right; assumption) | (left; simp <;> fail))))
    · have e9 : s.f k = worF b s wo k := by
        unfold worF
        rw [if_neg fun h => by have : ¬ (k < wo.fil.length) := by simpa using h2
                               exact this h.1]
      repeat (first | (refine M0 ?_; first | refine O0 ?_ | refine z1 tok rfl ?_ | refine O1 rfl ?_ rfl | refine O2 rfl ?_ | refine O3 rfl ?_ rfl | refine O4 rfl rfl rfl (fun _ _ => ?_) | refine O5 tok rfl rfl rfl (fun _ _ => ?_) | refine U0 _ (U2 rfl) rfl ?_ | refine U0 _ (U3 tok rfl rfl rfl rfl rfl) rfl ?_ | refine z3 tok rfl ?_ | refine U0 _ (U4 rfl rfl) rfl ?_ | refine U0 _ (U5 rfl rfl) rfl ?_) | (refine M1 ?_; first | refine J0 ?_ | refine J1 ?_ | refine J2 mixed rfl (by kernel_rfl) ?_ | refine J3 mixed rfl rfl (by kernel_rfl) ?_ | refine J4 ?_ | refine J5 ?_ | refine J6 ?_ | refine J7 ?_ | refine J8 rfl ?_ | refine J9 rfl ?_) | (refine M2 ?_; first | refine I0 ?_ | refine I1 ?_ | refine I2 ?_ | refine I3 ?_ | refine I4 ?_ | refine I5 ?_ | refine I6 rfl ?_ | refine I7 ?_ | refine I8 ?_ | refine z4 ?_) | (refine M3 ?_; first | refine O6 ?_ | refine z2 tok rfl ?_ | refine O8 rfl ?_ | refine O7 rfl ?_ rfl | refine O9 rfl ?_ rfl | refine U1 _ (U4 rfl rfl) rfl ?_ | refine U1 _ (U5 rfl rfl) rfl ?_ | refine U1 _ (U2 rfl) rfl ?_ | refine U1 _ (U3 tok rfl rfl rfl rfl rfl) rfl ?_) | (refine M4 ?_; first | refine M6 ?_ | refine U6 rfl (by kernel_rfl) ?_ | refine XR.take2 rfl (by kernel_rfl) ?_ | refine U7 (by kernel_rfl) ?_) | (refine M5 ?_; first | exact M7 | refine U8 rfl ?_ | refine U9 rfl rfl ?_ ?_))
      rw [e9]
      repeat (first | (refine M0 ?_; first | refine O0 ?_ | refine z1 tok rfl ?_ | refine O1 rfl ?_ rfl | refine O2 rfl ?_ | refine O3 rfl ?_ rfl | refine O4 rfl rfl rfl (fun _ _ => ?_) | refine O5 tok rfl rfl rfl (fun _ _ => ?_) | refine U0 _ (U2 rfl) rfl ?_ | refine U0 _ (U3 tok rfl rfl rfl rfl rfl) rfl ?_ | refine z3 tok rfl ?_ | refine U0 _ (U4 rfl rfl) rfl ?_ | refine U0 _ (U5 rfl rfl) rfl ?_ | refine XL.buildSlice tok rfl rfl rfl rfl rfl rfl rfl rfl rfl (fun _ _ => ?_)) | (refine M1 ?_; first | refine J0 ?_ | refine J1 ?_ | refine J2 mixed rfl (by kernel_rfl) ?_ | refine J3 mixed rfl rfl (by kernel_rfl) ?_ | refine J4 ?_ | refine J5 ?_ | refine J6 ?_ | refine J7 ?_ | refine J8 rfl ?_ | refine J9 rfl ?_) | (refine M2 ?_; first | refine I0 ?_ | refine I1 ?_ | refine I2 ?_ | refine I3 ?_ | refine I4 ?_ | refine I5 ?_ | refine I6 rfl ?_ | refine I7 ?_ | refine I8 ?_ | refine z4 ?_) | (refine M3 ?_; first | refine O6 ?_ | refine z2 tok rfl ?_ | refine O8 rfl ?_ | refine O7 rfl ?_ rfl | refine O9 rfl ?_ rfl | refine U1 _ (U4 rfl rfl) rfl ?_ | refine U1 _ (U5 rfl rfl) rfl ?_ | refine U1 _ (U2 rfl) rfl ?_ | refine U1 _ (U3 tok rfl rfl rfl rfl rfl) rfl ?_) | (refine M4 ?_; first | refine M6 ?_ | refine U6 rfl (by kernel_rfl) ?_ | refine XR.take2 rfl (by kernel_rfl) ?_ | refine U7 (by kernel_rfl) ?_) | (refine M5 ?_; first | exact M7 | refine U8 rfl ?_ | refine U9 rfl rfl ?_ ?_))
      refine XL.push (K := intK) (a := worF b s wo k) (wE := w) 0 intK_el (by decide) rfl rfl rfl hF rfl hks hBW (Nat.le_refl _) rfl hl1 (by decide) ha1 (fun w2 v2 hF2 hB2 hk2 => ?_)
      obtain ⟨r2, rfl, _⟩ := hF2.list (.head _)
      simp only [svV]
      repeat (first | (refine M0 ?_; first | refine O0 ?_ | refine z1 tok rfl ?_ | refine O1 rfl ?_ rfl | refine O2 rfl ?_ | refine O3 rfl ?_ rfl | refine O4 rfl rfl rfl (fun _ _ => ?_) | refine O5 tok rfl rfl rfl (fun _ _ => ?_) | refine U0 _ (U2 rfl) rfl ?_ | refine U0 _ (U3 tok rfl rfl rfl rfl rfl) rfl ?_ | refine z3 tok rfl ?_ | refine U0 _ (U4 rfl rfl) rfl ?_ | refine U0 _ (U5 rfl rfl) rfl ?_) | (refine M1 ?_; first | refine J0 ?_ | refine J1 ?_ | refine J2 mixed rfl (by kernel_rfl) ?_ | refine J3 mixed rfl rfl (by kernel_rfl) ?_ | refine J4 ?_ | refine J5 ?_ | refine J6 ?_ | refine J7 ?_ | refine J8 rfl ?_ | refine J9 rfl ?_) | (refine M2 ?_; first | refine I0 ?_ | refine I1 ?_ | refine I2 ?_ | refine I3 ?_ | refine I4 ?_ | refine I5 ?_ | refine I6 rfl ?_ | refine I7 ?_ | refine I8 ?_ | refine z4 ?_) | (refine M3 ?_; first | refine O6 ?_ | refine z2 tok rfl ?_ | refine O8 rfl ?_ | refine O7 rfl ?_ rfl | refine O9 rfl ?_ rfl | refine U1 _ (U4 rfl rfl) rfl ?_ | refine U1 _ (U5 rfl rfl) rfl ?_ | refine U1 _ (U2 rfl) rfl ?_ | refine U1 _ (U3 tok rfl rfl rfl rfl rfl) rfl ?_) | (refine M4 ?_; first | refine M6 ?_ | refine U6 rfl (by kernel_rfl) ?_ | refine XR.take2 rfl (by kernel_rfl) ?_ | refine U7 (by kernel_rfl) ?_) | (refine M5 ?_; first | exact M7 | refine U8 rfl ?_ | refine U9 rfl rfl ?_ ?_))
      refine XE.roundW (s := (k, W, r1)) (fun w6 S6 => ⟨(k + 1, w6, r2), ⟨hkn, hB2.trans S6.toBelow, fun x hx => S6.keyLt x (by simp only [List.map_cons, List.map_nil, List.mem_cons, List.not_mem_nil, or_false] at hx ⊢; omega), ?_⟩, by simp only; omega, (by repeat (first | exact Sub.nil | refine Sub.cons rfl ?_)), S6.rebase (by repeat (first | exact List.Sublist.refl _ | exact List.nil_sublist _ | refine List.Sublist.cons _ ?_))⟩)
      rw [range_add]
      exact Fam.add (Fam.sys hF2 S6 (by intro e he; repeat (first | (cases he; done) | (rcases List.mem_cons.1 he with rfl | he; · first | (right; assumption) | (left; simp <;> fail))))) (by intro k hk; repeat (first | (cases hk; done) | (rcases List.mem_cons.1 hk with rfl | hk; · first | (right; assumption) | (left; simp <;> fail))))
  have hkn : k = s.fil.length := by have : ¬ (k < s.fil.length) := by simpa using h1
                                    omega
  subst hkn
  repeat (first | (refine M0 ?_; first | refine O0 ?_ | refine z1 tok rfl ?_ | refine O1 rfl ?_ rfl | refine O2 rfl ?_ | refine O3 rfl ?_ rfl | refine O4 rfl rfl rfl (fun _ _ => ?_) | refine O5 tok rfl rfl rfl (fun _ _ => ?_) | refine U0 _ (U2 rfl) rfl ?_ | refine U0 _ (U3 tok rfl rfl rfl rfl rfl) rfl ?_ | refine z3 tok rfl ?_ | refine U0 _ (U4 rfl rfl) rfl ?_ | refine U0 _ (U5 rfl rfl) rfl ?_) | (refine M1 ?_; first | refine J0 ?_ | refine J1 ?_ | refine J2 mixed rfl (by kernel_rfl) ?_ | refine J3 mixed rfl rfl (by kernel_rfl) ?_ | refine J4 ?_ | refine J5 ?_ | refine J6 ?_ | refine J7 ?_ | refine J8 rfl ?_ | refine J9 rfl ?_) | (refine M2 ?_; first | refine I0 ?_ | refine I1 ?_ | refine I2 ?_ | refine I3 ?_ | refine I4 ?_ | refine I5 ?_ | refine I6 rfl ?_ | refine I7 ?_ | refine I8 ?_ | refine z4 ?_) | (refine M3 ?_; first | refine O6 ?_ | refine z2 tok rfl ?_ | refine O8 rfl ?_ | refine O7 rfl ?_ rfl | refine O9 rfl ?_ rfl | refine U1 _ (U4 rfl rfl) rfl ?_ | refine U1 _ (U5 rfl rfl) rfl ?_ | refine U1 _ (U2 rfl) rfl ?_ | refine U1 _ (U3 tok rfl rfl rfl rfl rfl) rfl ?_) | (refine M4 ?_; first | refine M6 ?_ | refine U6 rfl (by kernel_rfl) ?_ | refine XR.take2 rfl (by kernel_rfl) ?_ | refine U7 (by kernel_rfl) ?_) | (refine M5 ?_; first | exact M7 | refine U8 rfl ?_ | refine U9 rfl rfl ?_ ?_))
  refine XC.loopk [4, 5, 6, 7] rfl (fun s' : Nat × World × SV => [(10, .int .i64 (s'.1 : Nat))])
    (fun s' => [(g7, cel 49 [.int .i64 (min 1000000000 (max s.vol wo.vol)), .slice r1.A r1.n r1.c, .slice s'.2.2.A s'.2.2.n s'.2.2.c, .int .i64 lim]), (g6, cel 49 [.int .i64 0, .slice none 0 0, .slice none 0 0, .int .i64 0]), (g5, cel 71 [.int .i64 wo.vol, .slice Au wo.fil.length cu, .slice Av wo.tks.length cv]), (g4, cel 49 [.int .i64 s.vol, .slice Aq s.fil.length cq, .slice At ts.length ct, .int .i64 lim]), (g3, cel 25 [.slice A n c, .int .i64 b.leak, .int .i64 b.crest, .int .i64 b.over, .slice A2 b.pols.length c2])]) (fun s' => s'.2.1)
    (fun s' => s'.1 ≤ ts.length ∧ Below w.heap.size w s'.2.1 ∧ (∀ x, x ∈ [g7, g6, g5, g4, g3] → x < s'.2.1.heap.size) ∧ Fam s'.2.1 w.heap.size [g7, g6, g5, g4, g3] [⟨Tick, tickK, .slice s'.2.2.A s'.2.2.n s'.2.2.c, (List.range s'.1).map (worT ts wo)⟩, ⟨Int, intK, .slice r1.A r1.n r1.c, (List.range s.fil.length).map (worF b s wo)⟩] [])
    (fun s' => ts.length - s'.1) (0, W, ⟨none, 0, 0⟩) ⟨Nat.zero_le _, hBW, hks, hF.nil tickK⟩ (by repeat (first | exact Sub.nil | refine Sub.cons rfl ?_)) (fun _ h => h) ?_
  clear hF hBW hks h1 hk
  rintro ⟨k, W2, r2⟩ ⟨hk, hBW, hks, hF⟩
  simp only at hk hBW hks hF
  dsimp only [List.cons_append, List.nil_append]
  repeat (first | (refine M0 ?_; first | refine O0 ?_ | refine z1 tok rfl ?_ | refine O1 rfl ?_ rfl | refine O2 rfl ?_ | refine O3 rfl ?_ rfl | refine O4 rfl rfl rfl (fun _ _ => ?_) | refine O5 tok rfl rfl rfl (fun _ _ => ?_) | refine U0 _ (U2 rfl) rfl ?_ | refine U0 _ (U3 tok rfl rfl rfl rfl rfl) rfl ?_ | refine z3 tok rfl ?_ | refine U0 _ (U4 rfl rfl) rfl ?_ | refine U0 _ (U5 rfl rfl) rfl ?_) | (refine M1 ?_; first | refine J0 ?_ | refine J1 ?_ | refine J2 mixed rfl (by kernel_rfl) ?_ | refine J3 mixed rfl rfl (by kernel_rfl) ?_ | refine J4 ?_ | refine J5 ?_ | refine J6 ?_ | refine J7 ?_ | refine J8 rfl ?_ | refine J9 rfl ?_) | (refine M2 ?_; first | refine I0 ?_ | refine I1 ?_ | refine I2 ?_ | refine I3 ?_ | refine I4 ?_ | refine I5 ?_ | refine I6 rfl ?_ | refine I7 ?_ | refine I8 ?_ | refine z4 ?_) | (refine M3 ?_; first | refine O6 ?_ | refine z2 tok rfl ?_ | refine O8 rfl ?_ | refine O7 rfl ?_ rfl | refine O9 rfl ?_ rfl | refine U1 _ (U4 rfl rfl) rfl ?_ | refine U1 _ (U5 rfl rfl) rfl ?_ | refine U1 _ (U2 rfl) rfl ?_ | refine U1 _ (U3 tok rfl rfl rfl rfl rfl) rfl ?_) | (refine M4 ?_; first | refine M6 ?_ | refine U6 rfl (by kernel_rfl) ?_ | refine XR.take2 rfl (by kernel_rfl) ?_ | refine U7 (by kernel_rfl) ?_) | (refine M5 ?_; first | exact M7 | refine U8 rfl ?_ | refine U9 rfl rfl ?_ ?_))
  refine XC.cond _ rfl (fun h1 => ?_) (fun h1 => ?_)
  · have hkn : k < ts.length := by simpa using h1
    obtain ⟨ad, rfl, hlt, _⟩ := ht.rd.at_ (by simp only; omega)
    have hcell := (ht.below hBW).tick hkn
    have hl1 : ((List.range k).map (worT ts wo)).length + 1 ≤ 10000000 := by simp; omega
    have ha1 : ∀ x, x ∈ tickK.sl (worT ts wo k) → x ∈ ([] : List Held) := fun x hx => by cases hx
    repeat (first | (refine M0 ?_; first | refine O0 ?_ | refine z1 tok rfl ?_ | refine O1 rfl ?_ rfl | refine O2 rfl ?_ | refine O3 rfl ?_ rfl | refine U0 _ (Ev.load_old_agg tok (tickC (tk ts k)) rfl rfl rfl (add_lt hlt) hcell) rfl ?_ | refine O4 rfl rfl rfl (fun _ _ => ?_) | refine O5 tok rfl rfl rfl (fun _ _ => ?_) | refine U0 _ (U2 rfl) rfl ?_ | refine U0 _ (U3 tok rfl rfl rfl rfl rfl) rfl ?_ | refine z3 tok rfl ?_ | refine U0 _ (U4 rfl rfl) rfl ?_ | refine U0 _ (U5 rfl rfl) rfl ?_) | (refine M1 ?_; first | refine J0 ?_ | refine J1 ?_ | refine J2 mixed rfl (by kernel_rfl) ?_ | refine J3 mixed rfl rfl (by kernel_rfl) ?_ | refine J4 ?_ | refine J5 ?_ | refine J6 ?_ | refine J7 ?_ | refine J8 rfl ?_ | refine J9 rfl ?_) | (refine M2 ?_; first | refine I0 ?_ | refine I1 ?_ | refine I2 ?_ | refine I3 ?_ | refine I4 ?_ | refine I5 ?_ | refine I6 rfl ?_ | refine I7 ?_ | refine I8 ?_ | refine z4 ?_) | (refine M3 ?_; first | refine O6 ?_ | refine z2 tok rfl ?_ | refine O8 rfl ?_ | refine O7 rfl ?_ rfl | refine O9 rfl ?_ rfl | refine U1 _ (Ev.load_old_agg tok (tickC (tk ts k)) rfl rfl rfl (add_lt hlt) hcell) rfl ?_ | refine U1 _ (U4 rfl rfl) rfl ?_ | refine U1 _ (U5 rfl rfl) rfl ?_ | refine U1 _ (U2 rfl) rfl ?_ | refine U1 _ (U3 tok rfl rfl rfl rfl rfl) rfl ?_) | (refine M4 ?_; first | refine M6 ?_ | refine U6 rfl (by kernel_rfl) ?_ | refine XR.take2 rfl (by kernel_rfl) ?_ | refine U7 (by kernel_rfl) ?_) | (refine M5 ?_; first | exact M7 | refine U8 rfl ?_ | refine U9 rfl rfl ?_ ?_))
    rename_i g11 hg11
    refine XC.cutn [4, 5, 6, 7, 10, 11] rfl (fun _ : Unit => []) (fun _ => [(g11, cel 30 (tickC (worT ts wo k))), (g7, cel 49 [.int .i64 (min 1000000000 (max s.vol wo.vol)), .slice r1.A r1.n r1.c, .slice r2.A r2.n r2.c, .int .i64 lim]), (g6, cel 49 [.int .i64 0, .slice none 0 0, .slice none 0 0, .int .i64 0]), (g5, cel 71 [.int .i64 wo.vol, .slice Au wo.fil.length cu, .slice Av wo.tks.length cv]), (g4, cel 49 [.int .i64 s.vol, .slice Aq s.fil.length cq, .slice (some ad) ts.length ct, .int .i64 lim]), (g3, cel 25 [.slice A n c, .int .i64 b.leak, .int .i64 b.crest, .int .i64 b.over, .slice A2 b.pols.length c2])]) (fun _ => W2) (fun _ => True) ?_ (fun _ _ => ?_)
    · refine XC.cond _ rfl (fun h2 => ?_) (fun h2 => ?_)
      · have hk2 : 0 < wo.tks.length := by have : (0 : Int) < wo.tks.length := by simpa using h2
                                           omega
        obtain ⟨av, rfl, hlv⟩ := hv.addr (by decide) (by omega)
        have hml := Nat.mod_lt k hk2
        have htm : (k : Int).tmod (wo.tks.length : Int) = ((k % wo.tks.length : Nat) : Int) := (Int.ofNat_tmod k wo.tks.length).symm
        have hwt : wo.t k = wo.tks[k % wo.tks.length] := by unfold Wor.t; rw [List.getElem?_eq_getElem hml]; rfl
        have hcv : ∀ j u, (triC (wo.t k))[j]? = some u → w.cell? ((av.add (((k : Int).tmod (wo.tks.length : Int)).toNat * 3)).add j) = some u := by
          rw [htm, hwt, Int.toNat_natCast]
          exact hv.elem (List.getElem?_eq_getElem hml)
        obtain ⟨hta, htb, htc⟩ := hwo.tks _ (List.getElem_mem hml)
        rw [← hwt] at hta htb htc
        have hwa : IntKind.i64.wrap (wo.t k).a = (wo.t k).a := wrap_in (by unfold i64in; omega)
        have hwb : IntKind.i64.wrap (wo.t k).b = (wo.t k).b := wrap_in (by unfold i64in; omega)
        have hwc : IntKind.i64.wrap (wo.t k).c = (wo.t k).c := wrap_in (by unfold i64in; omega)
        have e9 : worT ts wo k = ⟨min 20000 (IntKind.i64.wrap ((tk ts k).outer + (wo.t k).a)), min 10000000 (IntKind.i64.wrap ((tk ts k).river + (wo.t k).b)), max 0 (IntKind.i64.wrap ((tk ts k).out - (wo.t k).c))⟩ := by
          unfold worT
          rw [if_pos hk2]
          rfl
        repeat (first | (refine M0 ?_; first | refine O0 ?_ | refine z1 tok rfl ?_ | refine O1 rfl ?_ rfl | refine O2 rfl ?_ | refine O3 rfl ?_ rfl | refine O4 rfl rfl rfl (fun _ _ => ?_) | refine O5 tok rfl rfl rfl (fun _ _ => ?_) | refine U0 _ (U2 rfl) rfl ?_ | refine U0 _ (U3 tok rfl rfl rfl rfl rfl) rfl ?_ | refine z3 tok rfl ?_ | refine U0 _ (U4 rfl rfl) rfl ?_ | refine U0 _ (U5 rfl rfl) rfl ?_) | (refine M1 ?_; first | refine J0 ?_ | refine J1 ?_ | refine J4 ?_ | refine J5 ?_ | refine J6 ?_ | refine J7 ?_ | refine J8 rfl ?_ | refine J9 rfl ?_) | (refine M2 ?_; first | refine I0 ?_ | refine I1 ?_ | refine I2 ?_ | refine I3 ?_ | refine I4 ?_ | refine I5 ?_ | refine I6 rfl ?_ | refine I7 ?_ | refine I8 ?_ | refine z4 ?_) | (refine M3 ?_; first | refine O6 ?_ | refine z2 tok rfl ?_ | refine O8 rfl ?_ | refine O7 rfl ?_ rfl | refine O9 rfl ?_ rfl | refine U1 _ (U4 rfl rfl) rfl ?_ | refine U1 _ (U5 rfl rfl) rfl ?_ | refine U1 _ (U2 rfl) rfl ?_ | refine U1 _ (U3 tok rfl rfl rfl rfl rfl) rfl ?_) | (refine M4 ?_; first | refine M6 ?_ | refine U6 rfl (by kernel_rfl) ?_ | refine XR.take2 rfl (by kernel_rfl) ?_ | refine U7 (by kernel_rfl) ?_) | (refine M5 ?_; first | exact M7 | refine U8 rfl ?_ | refine U9 rfl rfl ?_ ?_))
        refine XC.drawRS _ [(g5, cel 71 [.int .i64 wo.vol, .slice Au wo.fil.length cu, .slice (some av) wo.tks.length cv])] [0, 1, 2, 3, 4, 5, 6, 7, 8] [9, 10] mixed (fun _ h => Sys.anchor2 (by assumption) h (by repeat (first | exact List.Sublist.refl _ | exact List.nil_sublist _ | refine List.Sublist.cons_cons _ ?_ | refine List.Sublist.cons _ ?_))) rfl (by kernel_rfl) ?_
        repeat (first | (refine M0 ?_; first | refine O0 ?_ | refine z1 tok rfl ?_ | refine O1 rfl ?_ rfl | refine O2 rfl ?_ | refine O3 rfl ?_ rfl | refine U0 _ (Ev.load_old_agg tok (triC (wo.t k)) rfl rfl rfl (add_lt hlv) hcv) rfl ?_ | refine O4 rfl rfl rfl (fun _ _ => ?_) | refine O5 tok rfl rfl rfl (fun _ _ => ?_) | refine U0 _ (U2 rfl) rfl ?_ | refine U0 _ (U3 tok rfl rfl rfl rfl rfl) rfl ?_ | refine z3 tok rfl ?_ | refine U0 _ (U4 rfl rfl) rfl ?_ | refine U0 _ (U5 rfl rfl) rfl ?_) | (refine M1 ?_; first | refine J0 ?_ | refine J1 ?_ | refine J4 ?_ | refine J5 ?_ | refine J6 ?_ | refine J7 ?_ | refine J8 rfl ?_ | refine J9 rfl ?_) | (refine M2 ?_; first | refine I0 ?_ | refine I1 ?_ | refine I2 ?_ | refine I3 ?_ | refine I4 ?_ | refine I5 ?_ | refine I6 rfl ?_ | refine I7 ?_ | refine I8 ?_ | refine z4 ?_) | (refine M3 ?_; first | refine O6 ?_ | refine z2 tok rfl ?_ | refine O8 rfl ?_ | refine O7 rfl ?_ rfl | refine O9 rfl ?_ rfl | refine U1 _ (Ev.load_old_agg tok (triC (wo.t k)) rfl rfl rfl (add_lt hlv) hcv) rfl ?_ | refine U1 _ (U4 rfl rfl) rfl ?_ | refine U1 _ (U5 rfl rfl) rfl ?_ | refine U1 _ (U2 rfl) rfl ?_ | refine U1 _ (U3 tok rfl rfl rfl rfl rfl) rfl ?_) | (refine M4 ?_; first | refine M6 ?_ | refine U6 rfl (by kernel_rfl) ?_ | refine XR.take2 rfl (by kernel_rfl) ?_ | refine U7 (by kernel_rfl) ?_) | (refine M5 ?_; first | exact M7 | refine U8 rfl ?_ | refine U9 rfl rfl ?_ ?_))
        any_goals (repeat (first | exact AnyR.nil | refine AnyR.skip rfl ?_))
        rename_i g12 hg12
        refine XC.drawRS _ [(g12, cel 122 [.int .u16 (wo.t k).a, .int .u16 (wo.t k).b, .int .u16 (wo.t k).c])] [2, 3, 4, 9, 10, 11, 16, 17, 18] [0, 1, 5, 6, 7, 8, 12, 13, 14, 15, 19, 20, 21, 22, 23, 24, 25, 26] mixed (fun _ h => Sys.anchor2 (by assumption) h (by repeat (first | exact List.Sublist.refl _ | exact List.nil_sublist _ | refine List.Sublist.cons_cons _ ?_ | refine List.Sublist.cons _ ?_))) rfl (by kernel_rfl) ?_
        repeat (any_goals (first | (refine M0 ?_; first | refine O0 ?_ | refine z1 tok rfl ?_ | refine O1 rfl ?_ rfl | refine O2 rfl ?_ | refine O3 rfl ?_ rfl | refine U0 _ (Ev.indexPtr (j := 0) Tryd.underlying122 u16_1 rfl rfl (by decide)) rfl ?_ | refine U0 _ (Ev.indexPtr (j := 1) Tryd.underlying122 u16_1 rfl rfl (by decide)) rfl ?_ | refine U0 _ (Ev.indexPtr (j := 2) Tryd.underlying122 u16_1 rfl rfl (by decide)) rfl ?_ | refine U0 _ (Ev.load_loc tok 0 rfl rfl rfl rfl) rfl ?_ | refine U0 _ (Ev.conv Tryd.underlying50 Tryd.underlying3 rfl hwa) rfl ?_ | refine U0 _ (Ev.conv Tryd.underlying50 Tryd.underlying3 rfl hwb) rfl ?_ | refine U0 _ (Ev.conv Tryd.underlying50 Tryd.underlying3 rfl hwc) rfl ?_ | refine U0 _ (Ev.add_w rfl rfl) rfl ?_ | refine U0 _ (Ev.sub_w rfl rfl) rfl ?_ | refine O4 rfl rfl rfl (fun _ _ => ?_) | refine O5 tok rfl rfl rfl (fun _ _ => ?_) | refine U0 _ (U2 rfl) rfl ?_ | refine U0 _ (U3 tok rfl rfl rfl rfl rfl) rfl ?_ | refine z3 tok rfl ?_ | refine U0 _ (U4 rfl rfl) rfl ?_ | refine U0 _ (U5 rfl rfl) rfl ?_) | (refine M1 ?_; first | refine J0 ?_ | refine J1 ?_ | refine J4 ?_ | refine J5 ?_ | refine J6 ?_ | refine J7 ?_ | refine J8 rfl ?_ | refine J9 rfl ?_) | (refine M2 ?_; first | refine I0 ?_ | refine I1 ?_ | refine I2 ?_ | refine I3 ?_ | refine I4 ?_ | refine I5 ?_ | refine I6 rfl ?_ | refine I7 ?_ | refine I8 ?_ | refine z4 ?_) | (refine M3 ?_; first | refine O6 ?_ | refine z2 tok rfl ?_ | refine O8 rfl ?_ | refine O7 rfl ?_ rfl | refine O9 rfl ?_ rfl | refine U1 _ (Ev.indexPtr (j := 0) Tryd.underlying122 u16_1 rfl rfl (by decide)) rfl ?_ | refine U1 _ (Ev.indexPtr (j := 1) Tryd.underlying122 u16_1 rfl rfl (by decide)) rfl ?_ | refine U1 _ (Ev.indexPtr (j := 2) Tryd.underlying122 u16_1 rfl rfl (by decide)) rfl ?_ | refine U1 _ (Ev.load_loc tok 0 rfl rfl rfl rfl) rfl ?_ | refine U1 _ (Ev.conv Tryd.underlying50 Tryd.underlying3 rfl hwa) rfl ?_ | refine U1 _ (Ev.conv Tryd.underlying50 Tryd.underlying3 rfl hwb) rfl ?_ | refine U1 _ (Ev.conv Tryd.underlying50 Tryd.underlying3 rfl hwc) rfl ?_ | refine U1 _ (Ev.add_w rfl rfl) rfl ?_ | refine U1 _ (Ev.sub_w rfl rfl) rfl ?_ | refine U1 _ (U4 rfl rfl) rfl ?_ | refine U1 _ (U5 rfl rfl) rfl ?_ | refine U1 _ (U2 rfl) rfl ?_ | refine U1 _ (U3 tok rfl rfl rfl rfl rfl) rfl ?_) | (refine M4 ?_; first | refine M6 ?_ | refine U6 rfl (by kernel_rfl) ?_ | refine XR.take2 rfl (by kernel_rfl) ?_ | refine U7 (by kernel_rfl) ?_) | (refine M5 ?_; first | exact M7 | refine U8 rfl ?_ | refine U9 rfl rfl ?_ ?_)))
        all_goals
          rw [e9]
          refine XE.leaf () (by repeat (first | exact Sub.nil | refine Sub.cons rfl ?_)) (fun _ S' => S'.pop hg12) trivial
      · have e9 : worT ts wo k = tk ts k := by
          unfold worT
          rw [if_neg fun h => by have : ¬ ((0 : Int) < wo.tks.length) := by simpa using h2
                                 omega]
        repeat (first | (refine M0 ?_; first | refine O0 ?_ | refine z1 tok rfl ?_ | refine O1 rfl ?_ rfl | refine O2 rfl ?_ | refine O3 rfl ?_ rfl | refine O4 rfl rfl rfl (fun _ _ => ?_) | refine O5 tok rfl rfl rfl (fun _ _ => ?_) | refine U0 _ (U2 rfl) rfl ?_ | refine U0 _ (U3 tok rfl rfl rfl rfl rfl) rfl ?_ | refine z3 tok rfl ?_ | refine U0 _ (U4 rfl rfl) rfl ?_ | refine U0 _ (U5 rfl rfl) rfl ?_) | (refine M1 ?_; first | refine J0 ?_ | refine J1 ?_ | refine J2 mixed rfl (by kernel_rfl) ?_ | refine J3 mixed rfl rfl (by kernel_rfl) ?_ | refine J4 ?_ | refine J5 ?_ | refine J6 ?_ | refine J7 ?_ | refine J8 rfl ?_ | refine J9 rfl ?_) | (refine M2 ?_; first | refine I0 ?_ | refine I1 ?_ | refine I2 ?_ | refine I3 ?_ | refine I4 ?_ | refine I5 ?_ | refine I6 rfl ?_ | refine I7 ?_ | refine I8 ?_ | refine z4 ?_) | (refine M3 ?_; first | refine O6 ?_ | refine z2 tok rfl ?_ | refine O8 rfl ?_ | refine O7 rfl ?_ rfl | refine O9 rfl ?_ rfl | refine U1 _ (U4 rfl rfl) rfl ?_ | refine U1 _ (U5 rfl rfl) rfl ?_ | refine U1 _ (U2 rfl) rfl ?_ | refine U1 _ (U3 tok rfl rfl rfl rfl rfl) rfl ?_) | (refine M4 ?_; first | refine M6 ?_ | refine U6 rfl (by kernel_rfl) ?_ | refine XR.take2 rfl (by kernel_rfl) ?_ | refine U7 (by kernel_rfl) ?_) | (refine M5 ?_; first | exact M7 | refine U8 rfl ?_ | refine U9 rfl rfl ?_ ?_))
        rw [e9]
        refine XE.leaf () (by repeat (first | exact Sub.nil | refine Sub.cons rfl ?_)) (fun _ S' => by first | exact S' | exact S'.perm (by repeat (first | exact List.Perm.refl _ | refine perm1 ?_ | refine List.Perm.cons _ ?_ | refine perm2 ?_)) | exact (S'.pop (by assumption)) | exact (S'.pop2 (by assumption))) ?_
        trivial
    simp only [tickC]
    dsimp only [List.cons_append, List.nil_append]
    refine XC.hint 11 5 ?_
    repeat (first | (refine M0 ?_; first | refine O0 ?_ | refine z1 tok rfl ?_ | refine O1 rfl ?_ rfl | refine O2 rfl ?_ | refine O3 rfl ?_ rfl | refine O4 rfl rfl rfl (fun _ _ => ?_) | refine O5 tok rfl rfl rfl (fun _ _ => ?_) | refine U0 _ (U2 rfl) rfl ?_ | refine U0 _ (U3 tok rfl rfl rfl rfl rfl) rfl ?_ | refine z3 tok rfl ?_ | refine U0 _ (U4 rfl rfl) rfl ?_ | refine U0 _ (U5 rfl rfl) rfl ?_ | refine XL.buildSlice tok rfl rfl rfl rfl rfl rfl rfl rfl rfl (fun _ _ => ?_)) | (refine M1 ?_; first | refine J0 ?_ | refine J1 ?_ | refine J2 mixed rfl (by kernel_rfl) ?_ | refine J3 mixed rfl rfl (by kernel_rfl) ?_ | refine J4 ?_ | refine J5 ?_ | refine J6 ?_ | refine J7 ?_ | refine J8 rfl ?_ | refine J9 rfl ?_) | (refine M2 ?_; first | refine I0 ?_ | refine I1 ?_ | refine I2 ?_ | refine I3 ?_ | refine I4 ?_ | refine I5 ?_ | refine I6 rfl ?_ | refine I7 ?_ | refine I8 ?_ | refine z4 ?_) | (refine M3 ?_; first | refine O6 ?_ | refine z2 tok rfl ?_ | refine O8 rfl ?_ | refine O7 rfl ?_ rfl | refine O9 rfl ?_ rfl | refine U1 _ (U4 rfl rfl) rfl ?_ | refine U1 _ (U5 rfl rfl) rfl ?_ | refine U1 _ (U2 rfl) rfl ?_ | refine U1 _ (U3 tok rfl rfl rfl rfl rfl) rfl ?_) | (refine M4 ?_; first | refine M6 ?_ | refine U6 rfl (by kernel_rfl) ?_ | refine XR.take2 rfl (by kernel_rfl) ?_ | refine U7 (by kernel_rfl) ?_) | (refine M5 ?_; first | exact M7 | refine U8 rfl ?_ | refine U9 rfl rfl ?_ ?_))
    refine XL.push (K := tickK) (a := worT ts wo k) (wE := w) 0 tick_el (by decide) rfl rfl rfl hF rfl hks hBW (Nat.le_refl _) rfl hl1 (by decide) ha1 (fun w3 v3 hF3 hB3 hk3 => ?_)
    obtain ⟨r3, rfl, _⟩ := hF3.list (.head _)
    simp only [svV]
    repeat (first | (refine M0 ?_; first | refine O0 ?_ | refine z1 tok rfl ?_ | refine O1 rfl ?_ rfl | refine O2 rfl ?_ | refine O3 rfl ?_ rfl | refine O4 rfl rfl rfl (fun _ _ => ?_) | refine O5 tok rfl rfl rfl (fun _ _ => ?_) | refine U0 _ (U2 rfl) rfl ?_ | refine U0 _ (U3 tok rfl rfl rfl rfl rfl) rfl ?_ | refine z3 tok rfl ?_ | refine U0 _ (U4 rfl rfl) rfl ?_ | refine U0 _ (U5 rfl rfl) rfl ?_) | (refine M1 ?_; first | refine J0 ?_ | refine J1 ?_ | refine J2 mixed rfl (by kernel_rfl) ?_ | refine J3 mixed rfl rfl (by kernel_rfl) ?_ | refine J4 ?_ | refine J5 ?_ | refine J6 ?_ | refine J7 ?_ | refine J8 rfl ?_ | refine J9 rfl ?_) | (refine M2 ?_; first | refine I0 ?_ | refine I1 ?_ | refine I2 ?_ | refine I3 ?_ | refine I4 ?_ | refine I5 ?_ | refine I6 rfl ?_ | refine I7 ?_ | refine I8 ?_ | refine z4 ?_) | (refine M3 ?_; first | refine O6 ?_ | refine z2 tok rfl ?_ | refine O8 rfl ?_ | refine O7 rfl ?_ rfl | refine O9 rfl ?_ rfl | refine U1 _ (U4 rfl rfl) rfl ?_ | refine U1 _ (U5 rfl rfl) rfl ?_ | refine U1 _ (U2 rfl) rfl ?_ | refine U1 _ (U3 tok rfl rfl rfl rfl rfl) rfl ?_) | (refine M4 ?_; first | refine M6 ?_ | refine U6 rfl (by kernel_rfl) ?_ | refine XR.take2 rfl (by kernel_rfl) ?_ | refine U7 (by kernel_rfl) ?_) | (refine M5 ?_; first | exact M7 | refine U8 rfl ?_ | refine U9 rfl rfl ?_ ?_))
    refine XE.roundW (s := (k, W2, r2)) (fun w6 S6 => ⟨(k + 1, w6, r3), ⟨hkn, hB3.trans S6.toBelow, fun x hx => S6.keyLt x (by simp only [List.map_cons, List.map_nil, List.mem_cons, List.not_mem_nil, or_false] at hx ⊢; omega), ?_⟩, by simp only; omega, (by repeat (first | exact Sub.nil | refine Sub.cons rfl ?_)), S6.rebase (by repeat (first | exact List.Sublist.refl _ | exact List.nil_sublist _ | refine List.Sublist.cons _ ?_))⟩)
    rw [range_add]
    exact Fam.add (Fam.sys hF3 S6 (by intro e he; repeat (first | (cases he; done) | (rcases List.mem_cons.1 he with rfl | he; · first | (right; assumption) | (left; simp <;> fail))))) (by intro k hk; repeat (first | (cases hk; done) | (rcases List.mem_cons.1 hk with rfl | hk; · first | (right; assumption) | (left; simp <;> fail))))
  have hkn : k = ts.length := by have : ¬ (k < ts.length) := by simpa using h1
                                 omega
  subst hkn
  repeat (first | (refine M0 ?_; first | refine O0 ?_ | refine z1 tok rfl ?_ | refine O1 rfl ?_ rfl | refine O2 rfl ?_ | refine O3 rfl ?_ rfl | refine O4 rfl rfl rfl (fun _ _ => ?_) | refine O5 tok rfl rfl rfl (fun _ _ => ?_) | refine U0 _ (U2 rfl) rfl ?_ | refine U0 _ (U3 tok rfl rfl rfl rfl rfl) rfl ?_ | refine z3 tok rfl ?_ | refine U0 _ (U4 rfl rfl) rfl ?_ | refine U0 _ (U5 rfl rfl) rfl ?_) | (refine M1 ?_; first | refine J0 ?_ | refine J1 ?_ | refine J2 mixed rfl (by kernel_rfl) ?_ | refine J3 mixed rfl rfl (by kernel_rfl) ?_ | refine J4 ?_ | refine J5 ?_ | refine J6 ?_ | refine J7 ?_ | refine J8 rfl ?_ | refine J9 rfl ?_) | (refine M2 ?_; first | refine I0 ?_ | refine I1 ?_ | refine I2 ?_ | refine I3 ?_ | refine I4 ?_ | refine I5 ?_ | refine I6 rfl ?_ | refine I7 ?_ | refine I8 ?_ | refine z4 ?_) | (refine M3 ?_; first | refine O6 ?_ | refine z2 tok rfl ?_ | refine O8 rfl ?_ | refine O7 rfl ?_ rfl | refine O9 rfl ?_ rfl | refine U1 _ (U4 rfl rfl) rfl ?_ | refine U1 _ (U5 rfl rfl) rfl ?_ | refine U1 _ (U2 rfl) rfl ?_ | refine U1 _ (U3 tok rfl rfl rfl rfl rfl) rfl ?_) | (refine M4 ?_; first | refine M6 ?_ | refine U6 rfl (by kernel_rfl) ?_ | refine XR.take2 rfl (by kernel_rfl) ?_ | refine U7 (by kernel_rfl) ?_) | (refine M5 ?_; first | exact M7 | refine U8 rfl ?_ | refine U9 rfl rfl ?_ ?_))
  refine XE.retc (i := 1) tok Tryd.results38 rfl rfl rfl rfl (fun w' S => ?_)
  have hF6 := hF.sys S (by intro e he; repeat (first | (cases he; done) | (rcases List.mem_cons.1 he with rfl | he; · first | (right; assumption) | (left; simp <;> fail))))
  refine ⟨_, _, rfl, ⟨⟨r1, r2⟩, rfl, rfl⟩, fun x hx => ?_, hBW.trans S.toBelow⟩
  simp only [List.mem_cons, List.not_mem_nil, or_false] at hx
  rcases hx with rfl | rfl
  · exact (hF6.listOf (r := r1) (.tail _ (.head _))).ints
  · exact hF6.listOf (r := r2) (.head _)
end Go.Proofs.YtoiepgcjinccpaaDoor.X
/-
  worse makes a case that is nowhere lower.
-/
namespace Go.Proofs.YtoiepgcjinccpaaDoor.Bs
open Go.Proofs.YtoiepgcjinccpaaDoor.X
theorem worTs_len (ts : List Tick) (wo : Wor) : (worTs ts wo).length = ts.length := by simp [worTs]
theorem worTs_at {ts : List Tick} {wo : Wor} {k : Nat} (h : k < ts.length) : tk (worTs ts wo) k = worT ts wo k := by
  simp [tk, worTs, h]
theorem worS_f {b : Bas} {s : Sta} {wo : Wor} {i : Nat} (h : i < s.fil.length) : (worS b s wo).f i = worF b s wo i := by
  unfold worS Sta.f
  exact rg_at h
theorem worF_ge (b : Bas) (s : Sta) (wo : Wor) (i : Nat) : s.f i ≤ worF b s wo i := by
  unfold worF
  split <;> omega
theorem Wor.t_in {wo : Wor} (h : WorOk wo) (i : Nat) : (0 ≤ (wo.t i).a ∧ (wo.t i).a ≤ 65535) ∧ (0 ≤ (wo.t i).b ∧ (wo.t i).b ≤ 65535) ∧ (0 ≤ (wo.t i).c ∧ (wo.t i).c ≤ 65535) := by
  unfold Wor.t
  cases e : wo.tks[i % wo.tks.length]? with
  | none => simp
  | some t => exact h.tks t (List.mem_of_getElem? e)
theorem worse_le {b : Bas} {s : Sta} {ts : List Tick} {wo : Wor} (h : WorOk wo) : CaseLe b s (worS b s wo) ts (worTs ts wo) := by
  refine ⟨worTs_len ts wo, fun hs => ⟨?_, fun i hi => ?_⟩, fun k hk hb => ?_⟩
  · have := hs.vol
    unfold worS
    simp only
    omega
  · rw [worS_f (by rw [hs.len]; exact hi)]
    exact worF_ge b s wo i
  · rw [worTs_at hk]
    simp only [tickBad, highB, outB, Bool.or_eq_false_iff, decide_eq_false_iff_not] at hb
    have hw := Wor.t_in h k
    unfold worT
    split
    · have e1 : w64 ((tk ts k).outer + (wo.t k).a) = (tk ts k).outer + (wo.t k).a := wrap_in (by unfold i64in; omega)
      have e2 : w64 ((tk ts k).river + (wo.t k).b) = (tk ts k).river + (wo.t k).b := wrap_in (by unfold i64in; omega)
      have e3 : w64 ((tk ts k).out - (wo.t k).c) = (tk ts k).out - (wo.t k).c := wrap_in (by unfold i64in; omega)
      rw [e1, e2, e3]
      refine ⟨?_, ?_, ?_⟩ <;> simp only <;> omega
    · exact ⟨Int.le_refl _, Int.le_refl _, Int.le_refl _⟩
end Go.Proofs.YtoiepgcjinccpaaDoor.Bs
/-
  The law BasinMonotone.
-/
namespace Go.Proofs.YtoiepgcjinccpaaDoor.X
open Go Go.RowKit Go.Proofs.YtoiepgcjinccpaaDoor.Bs
set_option linter.unusedVariables false
set_option maxHeartbeats 16000000 in
theorem BasinMonotone_any {p : BV} {b : Bas} {x : CV} {c : Cas} {y : WV} {wo : Wor} {w : World} (hL : Laid w) (hb : BasAt w w.heap.size p b) (hc : CaseAt w (Lt w.heap.size) x c) (hw : WorAt w (Lt w.heap.size) y wo) (hn1 : c.s.fil.length ≤ 2000000) (hn2 : c.ts.length ≤ 2000000) :
    Calls Tryd.prog 9 #[basV p b, caseV x c, worV y wo] w fun e w' => e = .returned (.bool true) ∧ Below w.heap.size w w' := by
  obtain ⟨⟨Aq, nq, cq⟩, ⟨A7, n7, c7⟩⟩ := x
  obtain ⟨s, ts, lim⟩ := c
  have hc0 := hc
  obtain ⟨hq, ht⟩ := hc
  simp only at hq ht hn1 hn2
  have hn7 := ht.len
  simp only at hn7
  subst hn7
  have hcl : CaseLe b s (worS b s wo) ts (worTs ts wo) := worse_le hw.ok
  simp only [basV, basC, caseV, caseC, worV, worC]
  refine enter Tryd.func9 rfl Tryd.ntmps9 rfl ?_; simp only [frame, Nat.zero_add, Nat.reduceAdd]
  repeat (first | (refine M0 ?_; first | refine O0 ?_ | refine z1 tok rfl ?_ | refine O1 rfl ?_ rfl | refine O2 rfl ?_ | refine O3 rfl ?_ rfl | refine O4 rfl rfl rfl (fun _ _ => ?_) | refine O5 tok rfl rfl rfl (fun _ _ => ?_) | refine U0 _ (U2 rfl) rfl ?_ | refine U0 _ (U3 tok rfl rfl rfl rfl rfl) rfl ?_ | refine z3 tok rfl ?_ | refine U0 _ (U4 rfl rfl) rfl ?_ | refine U0 _ (U5 rfl rfl) rfl ?_) | (refine M1 ?_; first | refine J0 ?_ | refine J1 ?_ | refine J2 mixed rfl (by kernel_rfl) ?_ | refine J3 mixed rfl rfl (by kernel_rfl) ?_ | refine J4 ?_ | refine J5 ?_ | refine J6 ?_ | refine J7 ?_ | refine J8 rfl ?_ | refine J9 rfl ?_) | (refine M2 ?_; first | refine I0 ?_ | refine I1 ?_ | refine I2 ?_ | refine I3 ?_ | refine I4 ?_ | refine I5 ?_ | refine I6 rfl ?_ | refine I7 ?_ | refine I8 ?_ | refine z4 ?_) | (refine M3 ?_; first | refine O6 ?_ | refine z2 tok rfl ?_ | refine O8 rfl ?_ | refine O7 rfl ?_ rfl | refine O9 rfl ?_ rfl | refine U1 _ (U4 rfl rfl) rfl ?_ | refine U1 _ (U5 rfl rfl) rfl ?_ | refine U1 _ (U2 rfl) rfl ?_ | refine U1 _ (U3 tok rfl rfl rfl rfl rfl) rfl ?_) | (refine M4 ?_; first | refine M6 ?_ | refine U6 rfl (by kernel_rfl) ?_ | refine U7 (by kernel_rfl) ?_) | (refine M5 ?_; first | exact M7 | refine U8 rfl ?_ | refine U9 rfl rfl ?_ ?_))
  rename_i g3 hg3 g4 hg4 g5 hg5
  refine XL.callF (WorV b ⟨s, ts, lim⟩ wo) (ck rfl) rfl rfl (Fam.start (ks := []) (Nat.le_refl w.heap.size)) (fun _ h => by cases h) (Below.refl w.heap.size w) (fun w1 S1 _ _ => worse_any (p := p) (x := ⟨⟨Aq, nq, cq⟩, ⟨A7, ts.length, c7⟩⟩) (y := y) (hb.sys S1) ⟨hq.arg S1, ht.arg S1⟩ (hw.arg S1) hn1 hn2) (fun w2 v new hR hF2 hB2 hk2 => ?_)
  obtain ⟨⟨⟨Aq2, nq2, cq2⟩, ⟨A8, n8, c8⟩⟩, rfl, rfl⟩ := hR
  obtain ⟨s2, hs2⟩ : ∃ s2, s2 = worS b s wo := ⟨_, rfl⟩
  obtain ⟨ts2, hts2⟩ : ∃ ts2, ts2 = worTs ts wo := ⟨_, rfl⟩
  rw [← hs2, ← hts2] at hcl
  simp only [← hs2, ← hts2] at hF2 ⊢
  simp only [caseV, caseC]
  repeat (first | (refine M0 ?_; first | refine O0 ?_ | refine z1 tok rfl ?_ | refine O1 rfl ?_ rfl | refine O2 rfl ?_ | refine O3 rfl ?_ rfl | refine O4 rfl rfl rfl (fun _ _ => ?_) | refine O5 tok rfl rfl rfl (fun _ _ => ?_) | refine U0 _ (U2 rfl) rfl ?_ | refine U0 _ (U3 tok rfl rfl rfl rfl rfl) rfl ?_ | refine z3 tok rfl ?_ | refine U0 _ (U4 rfl rfl) rfl ?_ | refine U0 _ (U5 rfl rfl) rfl ?_) | (refine M1 ?_; first | refine J0 ?_ | refine J1 ?_ | refine J2 mixed rfl (by kernel_rfl) ?_ | refine J3 mixed rfl rfl (by kernel_rfl) ?_ | refine J4 ?_ | refine J5 ?_ | refine J6 ?_ | refine J7 ?_ | refine J8 rfl ?_ | refine J9 rfl ?_) | (refine M2 ?_; first | refine I0 ?_ | refine I1 ?_ | refine I2 ?_ | refine I3 ?_ | refine I4 ?_ | refine I5 ?_ | refine I6 rfl ?_ | refine I7 ?_ | refine I8 ?_ | refine z4 ?_) | (refine M3 ?_; first | refine O6 ?_ | refine z2 tok rfl ?_ | refine O8 rfl ?_ | refine O7 rfl ?_ rfl | refine O9 rfl ?_ rfl | refine U1 _ (U4 rfl rfl) rfl ?_ | refine U1 _ (U5 rfl rfl) rfl ?_ | refine U1 _ (U2 rfl) rfl ?_ | refine U1 _ (U3 tok rfl rfl rfl rfl rfl) rfl ?_) | (refine M4 ?_; first | refine M6 ?_ | refine U6 rfl (by kernel_rfl) ?_ | refine U7 (by kernel_rfl) ?_) | (refine M5 ?_; first | exact M7 | refine U8 rfl ?_ | refine U9 rfl rfl ?_ ?_))
  rename_i g7 hg7
  refine XL.callF (RunV b s ts) (ck rfl) rfl rfl hF2 hk2 hB2 (fun w1 S1 _ hB1 => Run_made (p := p) (q := ⟨Aq, nq, cq⟩) (r := ⟨A7, ts.length, c7⟩) (hL.below hB1) ((hb.below hB2).sys S1) ((hq.below hB2).arg S1) ((ht.below hB2).arg S1)) (fun w4 v new hR hF4 hB4 hk4 => ?_)
  obtain ⟨⟨A1, n1, c1⟩, r2, l1, l2, rfl, rfl, e1, e2⟩ := hR
  simp only [svV]
  repeat (first | (refine M0 ?_; first | refine O0 ?_ | refine z1 tok rfl ?_ | refine O1 rfl ?_ rfl | refine O2 rfl ?_ | refine O3 rfl ?_ rfl | refine O4 rfl rfl rfl (fun _ _ => ?_) | refine O5 tok rfl rfl rfl (fun _ _ => ?_) | refine U0 _ (U2 rfl) rfl ?_ | refine U0 _ (U3 tok rfl rfl rfl rfl rfl) rfl ?_ | refine z3 tok rfl ?_ | refine U0 _ (U4 rfl rfl) rfl ?_ | refine U0 _ (U5 rfl rfl) rfl ?_) | (refine M1 ?_; first | refine J0 ?_ | refine J1 ?_ | refine J2 mixed rfl (by kernel_rfl) ?_ | refine J3 mixed rfl rfl (by kernel_rfl) ?_ | refine J4 ?_ | refine J5 ?_ | refine J6 ?_ | refine J7 ?_ | refine J8 rfl ?_ | refine J9 rfl ?_) | (refine M2 ?_; first | refine I0 ?_ | refine I1 ?_ | refine I2 ?_ | refine I3 ?_ | refine I4 ?_ | refine I5 ?_ | refine I6 rfl ?_ | refine I7 ?_ | refine I8 ?_ | refine z4 ?_) | (refine M3 ?_; first | refine O6 ?_ | refine z2 tok rfl ?_ | refine O8 rfl ?_ | refine O7 rfl ?_ rfl | refine O9 rfl ?_ rfl | refine U1 _ (U4 rfl rfl) rfl ?_ | refine U1 _ (U5 rfl rfl) rfl ?_ | refine U1 _ (U2 rfl) rfl ?_ | refine U1 _ (U3 tok rfl rfl rfl rfl rfl) rfl ?_) | (refine M4 ?_; first | refine M6 ?_ | refine U6 rfl (by kernel_rfl) ?_ | refine U7 (by kernel_rfl) ?_) | (refine M5 ?_; first | exact M7 | refine U8 rfl ?_ | refine U9 rfl rfl ?_ ?_))
  refine XL.callF (RunV b s2 ts2) (ck rfl) rfl rfl hF4 hk4 hB4 (fun w1 S1 hF1 hB1 => Run_made (p := p) (q := ⟨Aq2, nq2, cq2⟩) (r := ⟨A8, n8, c8⟩) (hL.below hB1) ((hb.below hB4).sys S1) (Held.lt (x := hInts ⟨Aq2, nq2, cq2⟩ s2.fil) (hF1.get (.tail _ (.tail _ (.head _))))) (ListAt.tks (Held.lt (x := hList tickK ⟨A8, n8, c8⟩ ts2) (hF1.get (.tail _ (.tail _ (.tail _ (.head _)))))))) (fun w6 v new hR hF6 hB6 hk6 => ?_)
  obtain ⟨⟨A3, n3, c3⟩, r4, l3, l4, rfl, rfl, e3, e4⟩ := hR
  simp only [svV]
  repeat (first | (refine M0 ?_; first | refine O0 ?_ | refine z1 tok rfl ?_ | refine O1 rfl ?_ rfl | refine O2 rfl ?_ | refine O3 rfl ?_ rfl | refine O4 rfl rfl rfl (fun _ _ => ?_) | refine O5 tok rfl rfl rfl (fun _ _ => ?_) | refine U0 _ (U2 rfl) rfl ?_ | refine U0 _ (U3 tok rfl rfl rfl rfl rfl) rfl ?_ | refine z3 tok rfl ?_ | refine U0 _ (U4 rfl rfl) rfl ?_ | refine U0 _ (U5 rfl rfl) rfl ?_) | (refine M1 ?_; first | refine J0 ?_ | refine J1 ?_ | refine J2 mixed rfl (by kernel_rfl) ?_ | refine J3 mixed rfl rfl (by kernel_rfl) ?_ | refine J4 ?_ | refine J5 ?_ | refine J6 ?_ | refine J7 ?_ | refine J8 rfl ?_ | refine J9 rfl ?_) | (refine M2 ?_; first | refine I0 ?_ | refine I1 ?_ | refine I2 ?_ | refine I3 ?_ | refine I4 ?_ | refine I5 ?_ | refine I6 rfl ?_ | refine I7 ?_ | refine I8 ?_ | refine z4 ?_) | (refine M3 ?_; first | refine O6 ?_ | refine z2 tok rfl ?_ | refine O8 rfl ?_ | refine O7 rfl ?_ rfl | refine O9 rfl ?_ rfl | refine U1 _ (U4 rfl rfl) rfl ?_ | refine U1 _ (U5 rfl rfl) rfl ?_ | refine U1 _ (U2 rfl) rfl ?_ | refine U1 _ (U3 tok rfl rfl rfl rfl rfl) rfl ?_) | (refine M4 ?_; first | refine M6 ?_ | refine U6 rfl (by kernel_rfl) ?_ | refine U7 (by kernel_rfl) ?_) | (refine M5 ?_; first | exact M7 | refine U8 rfl ?_ | refine U9 rfl rfl ?_ ?_))
  refine XL.split _ _ rfl (fun h0 => ?_) (fun h0 => ?_) <;> rw [h0]
  · repeat (first | (refine M0 ?_; first | refine O0 ?_ | refine z1 tok rfl ?_ | refine O1 rfl ?_ rfl | refine O2 rfl ?_ | refine O3 rfl ?_ rfl | refine O4 rfl rfl rfl (fun _ _ => ?_) | refine O5 tok rfl rfl rfl (fun _ _ => ?_) | refine U0 _ (U2 rfl) rfl ?_ | refine U0 _ (U3 tok rfl rfl rfl rfl rfl) rfl ?_ | refine z3 tok rfl ?_ | refine U0 _ (U4 rfl rfl) rfl ?_ | refine U0 _ (U5 rfl rfl) rfl ?_) | (refine M1 ?_; first | refine J0 ?_ | refine J1 ?_ | refine J2 mixed rfl (by kernel_rfl) ?_ | refine J3 mixed rfl rfl (by kernel_rfl) ?_ | refine J4 ?_ | refine J5 ?_ | refine J6 ?_ | refine J7 ?_ | refine J8 rfl ?_ | refine J9 rfl ?_) | (refine M2 ?_; first | refine I0 ?_ | refine I1 ?_ | refine I2 ?_ | refine I3 ?_ | refine I4 ?_ | refine I5 ?_ | refine I6 rfl ?_ | refine I7 ?_ | refine I8 ?_ | refine z4 ?_) | (refine M3 ?_; first | refine O6 ?_ | refine z2 tok rfl ?_ | refine O8 rfl ?_ | refine O7 rfl ?_ rfl | refine O9 rfl ?_ rfl | refine U1 _ (U4 rfl rfl) rfl ?_ | refine U1 _ (U5 rfl rfl) rfl ?_ | refine U1 _ (U2 rfl) rfl ?_ | refine U1 _ (U3 tok rfl rfl rfl rfl rfl) rfl ?_) | (refine M4 ?_; first | refine M6 ?_ | refine U6 rfl (by kernel_rfl) ?_ | refine U7 (by kernel_rfl) ?_) | (refine M5 ?_; first | exact M7 | refine U8 rfl ?_ | refine U9 rfl rfl ?_ ?_))
    refine XL.split _ _ rfl (fun h3 => ?_) (fun h3 => ?_) <;> rw [h3]
    · repeat (first | (refine M0 ?_; first | refine O0 ?_ | refine z1 tok rfl ?_ | refine O1 rfl ?_ rfl | refine O2 rfl ?_ | refine O3 rfl ?_ rfl | refine U0 _ (Ev.call (f := 23) (ck rfl) rfl (fun w S => (Awake_any (hL.below (hB6.trans S.toBelow)) :))) rfl ?_ | refine O4 rfl rfl rfl (fun _ _ => ?_) | refine O5 tok rfl rfl rfl (fun _ _ => ?_) | refine U0 _ (U2 rfl) rfl ?_ | refine U0 _ (U3 tok rfl rfl rfl rfl rfl) rfl ?_ | refine z3 tok rfl ?_ | refine U0 _ (U4 rfl rfl) rfl ?_ | refine U0 _ (U5 rfl rfl) rfl ?_) | (refine M1 ?_; first | refine J0 ?_ | refine J1 ?_ | refine J2 mixed rfl (by kernel_rfl) ?_ | refine J3 mixed rfl rfl (by kernel_rfl) ?_ | refine J4 ?_ | refine J5 ?_ | refine J6 ?_ | refine J7 ?_ | refine J8 rfl ?_ | refine J9 rfl ?_) | (refine M2 ?_; first | refine I0 ?_ | refine I1 ?_ | refine I2 ?_ | refine I3 ?_ | refine I4 ?_ | refine I5 ?_ | refine I6 rfl ?_ | refine I7 ?_ | refine I8 ?_ | refine z4 ?_) | (refine M3 ?_; first | refine O6 ?_ | refine z2 tok rfl ?_ | refine O8 rfl ?_ | refine O7 rfl ?_ rfl | refine O9 rfl ?_ rfl | refine U1 _ (Ev.call (f := 23) (ck rfl) rfl (fun w S => (Awake_any (hL.below (hB6.trans S.toBelow)) :))) rfl ?_ | refine U1 _ (U4 rfl rfl) rfl ?_ | refine U1 _ (U5 rfl rfl) rfl ?_ | refine U1 _ (U2 rfl) rfl ?_ | refine U1 _ (U3 tok rfl rfl rfl rfl rfl) rfl ?_) | (refine M4 ?_; first | refine M6 ?_ | refine U6 rfl (by kernel_rfl) ?_ | refine U7 (by kernel_rfl) ?_) | (refine M5 ?_; first | exact M7 | refine U8 rfl ?_ | refine U9 rfl rfl ?_ ?_))
      refine XE.retg tok Tryd.results9 rfl (by simp only [and_self, and_true]) (fun w' S => ?_)
      exact ⟨rfl, hB6.trans S.toBelow⟩
    · have e5 : runE b s ts = 3 := by simpa using h3
      repeat (first | (refine M0 ?_; first | refine O0 ?_ | refine z1 tok rfl ?_ | refine O1 rfl ?_ rfl | refine O2 rfl ?_ | refine O3 rfl ?_ rfl | refine O4 rfl rfl rfl (fun _ _ => ?_) | refine O5 tok rfl rfl rfl (fun _ _ => ?_) | refine U0 _ (U2 rfl) rfl ?_ | refine U0 _ (U3 tok rfl rfl rfl rfl rfl) rfl ?_ | refine z3 tok rfl ?_ | refine U0 _ (U4 rfl rfl) rfl ?_ | refine U0 _ (U5 rfl rfl) rfl ?_) | (refine M1 ?_; first | refine J0 ?_ | refine J1 ?_ | refine J2 mixed rfl (by kernel_rfl) ?_ | refine J3 mixed rfl rfl (by kernel_rfl) ?_ | refine J4 ?_ | refine J5 ?_ | refine J6 ?_ | refine J7 ?_ | refine J8 rfl ?_ | refine J9 rfl ?_) | (refine M2 ?_; first | refine I0 ?_ | refine I1 ?_ | refine I2 ?_ | refine I3 ?_ | refine I4 ?_ | refine I5 ?_ | refine I6 rfl ?_ | refine I7 ?_ | refine I8 ?_ | refine z4 ?_) | (refine M3 ?_; first | refine O6 ?_ | refine z2 tok rfl ?_ | refine O8 rfl ?_ | refine O7 rfl ?_ rfl | refine O9 rfl ?_ rfl | refine U1 _ (U4 rfl rfl) rfl ?_ | refine U1 _ (U5 rfl rfl) rfl ?_ | refine U1 _ (U2 rfl) rfl ?_ | refine U1 _ (U3 tok rfl rfl rfl rfl rfl) rfl ?_) | (refine M4 ?_; first | refine M6 ?_ | refine U6 rfl (by kernel_rfl) ?_ | refine U7 (by kernel_rfl) ?_) | (refine M5 ?_; first | exact M7 | refine U8 rfl ?_ | refine U9 rfl rfl ?_ ?_))
      refine XL.split _ _ rfl (fun h4 => ?_) (fun h4 => (long_no hcl e5 (by simpa using h4)).elim)
      rw [h4]
      repeat (first | (refine M0 ?_; first | refine O0 ?_ | refine z1 tok rfl ?_ | refine O1 rfl ?_ rfl | refine O2 rfl ?_ | refine O3 rfl ?_ rfl | refine U0 _ (Ev.call (f := 23) (ck rfl) rfl (fun w S => (Awake_any (hL.below (hB6.trans S.toBelow)) :))) rfl ?_ | refine O4 rfl rfl rfl (fun _ _ => ?_) | refine O5 tok rfl rfl rfl (fun _ _ => ?_) | refine U0 _ (U2 rfl) rfl ?_ | refine U0 _ (U3 tok rfl rfl rfl rfl rfl) rfl ?_ | refine z3 tok rfl ?_ | refine U0 _ (U4 rfl rfl) rfl ?_ | refine U0 _ (U5 rfl rfl) rfl ?_) | (refine M1 ?_; first | refine J0 ?_ | refine J1 ?_ | refine J2 mixed rfl (by kernel_rfl) ?_ | refine J3 mixed rfl rfl (by kernel_rfl) ?_ | refine J4 ?_ | refine J5 ?_ | refine J6 ?_ | refine J7 ?_ | refine J8 rfl ?_ | refine J9 rfl ?_) | (refine M2 ?_; first | refine I0 ?_ | refine I1 ?_ | refine I2 ?_ | refine I3 ?_ | refine I4 ?_ | refine I5 ?_ | refine I6 rfl ?_ | refine I7 ?_ | refine I8 ?_ | refine z4 ?_) | (refine M3 ?_; first | refine O6 ?_ | refine z2 tok rfl ?_ | refine O8 rfl ?_ | refine O7 rfl ?_ rfl | refine O9 rfl ?_ rfl | refine U1 _ (Ev.call (f := 23) (ck rfl) rfl (fun w S => (Awake_any (hL.below (hB6.trans S.toBelow)) :))) rfl ?_ | refine U1 _ (U4 rfl rfl) rfl ?_ | refine U1 _ (U5 rfl rfl) rfl ?_ | refine U1 _ (U2 rfl) rfl ?_ | refine U1 _ (U3 tok rfl rfl rfl rfl rfl) rfl ?_) | (refine M4 ?_; first | refine M6 ?_ | refine U6 rfl (by kernel_rfl) ?_ | refine U7 (by kernel_rfl) ?_) | (refine M5 ?_; first | exact M7 | refine U8 rfl ?_ | refine U9 rfl rfl ?_ ?_))
      refine XE.retg tok Tryd.results9 rfl (by simp only [and_self, and_true]) (fun w' S => ?_)
      exact ⟨rfl, hB6.trans S.toBelow⟩
  have hE : runE b s ts = 0 := by simpa using h0
  repeat (first | (refine M0 ?_; first | refine O0 ?_ | refine z1 tok rfl ?_ | refine O1 rfl ?_ rfl | refine O2 rfl ?_ | refine O3 rfl ?_ rfl | refine O4 rfl rfl rfl (fun _ _ => ?_) | refine O5 tok rfl rfl rfl (fun _ _ => ?_) | refine U0 _ (U2 rfl) rfl ?_ | refine U0 _ (U3 tok rfl rfl rfl rfl rfl) rfl ?_ | refine z3 tok rfl ?_ | refine U0 _ (U4 rfl rfl) rfl ?_ | refine U0 _ (U5 rfl rfl) rfl ?_) | (refine M1 ?_; first | refine J0 ?_ | refine J1 ?_ | refine J2 mixed rfl (by kernel_rfl) ?_ | refine J3 mixed rfl rfl (by kernel_rfl) ?_ | refine J4 ?_ | refine J5 ?_ | refine J6 ?_ | refine J7 ?_ | refine J8 rfl ?_ | refine J9 rfl ?_) | (refine M2 ?_; first | refine I0 ?_ | refine I1 ?_ | refine I2 ?_ | refine I3 ?_ | refine I4 ?_ | refine I5 ?_ | refine I6 rfl ?_ | refine I7 ?_ | refine I8 ?_ | refine z4 ?_) | (refine M3 ?_; first | refine O6 ?_ | refine z2 tok rfl ?_ | refine O8 rfl ?_ | refine O7 rfl ?_ rfl | refine O9 rfl ?_ rfl | refine U1 _ (U4 rfl rfl) rfl ?_ | refine U1 _ (U5 rfl rfl) rfl ?_ | refine U1 _ (U2 rfl) rfl ?_ | refine U1 _ (U3 tok rfl rfl rfl rfl rfl) rfl ?_) | (refine M4 ?_; first | refine M6 ?_ | refine U6 rfl (by kernel_rfl) ?_ | refine U7 (by kernel_rfl) ?_) | (refine M5 ?_; first | exact M7 | refine U8 rfl ?_ | refine U9 rfl rfl ?_ ?_))
  refine XC.cond _ rfl (fun h4 => ?_) (fun h4 => ?_)
  · rw [hE]
    repeat (first | (refine M0 ?_; first | refine O0 ?_ | refine z1 tok rfl ?_ | refine O1 rfl ?_ rfl | refine O2 rfl ?_ | refine O3 rfl ?_ rfl | refine U0 _ (Ev.call (f := 23) (ck rfl) rfl (fun w S => (Awake_any (hL.below (hB6.trans S.toBelow)) :))) rfl ?_ | refine O4 rfl rfl rfl (fun _ _ => ?_) | refine O5 tok rfl rfl rfl (fun _ _ => ?_) | refine U0 _ (U2 rfl) rfl ?_ | refine U0 _ (U3 tok rfl rfl rfl rfl rfl) rfl ?_ | refine z3 tok rfl ?_ | refine U0 _ (U4 rfl rfl) rfl ?_ | refine U0 _ (U5 rfl rfl) rfl ?_) | (refine M1 ?_; first | refine J0 ?_ | refine J1 ?_ | refine J2 mixed rfl (by kernel_rfl) ?_ | refine J3 mixed rfl rfl (by kernel_rfl) ?_ | refine J4 ?_ | refine J5 ?_ | refine J6 ?_ | refine J7 ?_ | refine J8 rfl ?_ | refine J9 rfl ?_) | (refine M2 ?_; first | refine I0 ?_ | refine I1 ?_ | refine I2 ?_ | refine I3 ?_ | refine I4 ?_ | refine I5 ?_ | refine I6 rfl ?_ | refine I7 ?_ | refine I8 ?_ | refine z4 ?_) | (refine M3 ?_; first | refine O6 ?_ | refine z2 tok rfl ?_ | refine O8 rfl ?_ | refine O7 rfl ?_ rfl | refine O9 rfl ?_ rfl | refine U1 _ (Ev.call (f := 23) (ck rfl) rfl (fun w S => (Awake_any (hL.below (hB6.trans S.toBelow)) :))) rfl ?_ | refine U1 _ (U4 rfl rfl) rfl ?_ | refine U1 _ (U5 rfl rfl) rfl ?_ | refine U1 _ (U2 rfl) rfl ?_ | refine U1 _ (U3 tok rfl rfl rfl rfl rfl) rfl ?_) | (refine M4 ?_; first | refine M6 ?_ | refine U6 rfl (by kernel_rfl) ?_ | refine U7 (by kernel_rfl) ?_) | (refine M5 ?_; first | exact M7 | refine U8 rfl ?_ | refine U9 rfl rfl ?_ ?_))
    refine XE.retg tok Tryd.results9 rfl (by simp only [and_self, and_true]) (fun w' S => ?_)
    exact ⟨rfl, hB6.trans S.toBelow⟩
  have hE2 : runE b s2 ts2 = 0 := by simpa using h4
  have hl1 : l1.length = ts.length := by
    have := congrArg List.length e1
    rw [runS_len hE] at this
    simpa using this
  have hl3 : l3.length = ts2.length := by
    have := congrArg List.length e3
    rw [runS_len hE2] at this
    simpa using this
  have hn1' : n1 = l1.length := (hF6.get (x := hList staK ⟨A1, n1, c1⟩ l1) (.tail _ (.tail _ (.head _)))).len (by decide)
  have hn3' : n3 = l3.length := (hF6.get (x := hList staK ⟨A3, n3, c3⟩ l3) (.head _)).len (by decide)
  have hlt := hcl.len
  have hnn : n1 = n3 := by omega
  repeat (first | (refine M0 ?_; first | refine O0 ?_ | refine z1 tok rfl ?_ | refine O1 rfl ?_ rfl | refine O2 rfl ?_ | refine O3 rfl ?_ rfl | refine O4 rfl rfl rfl (fun _ _ => ?_) | refine O5 tok rfl rfl rfl (fun _ _ => ?_) | refine U0 _ (U2 rfl) rfl ?_ | refine U0 _ (U3 tok rfl rfl rfl rfl rfl) rfl ?_ | refine z3 tok rfl ?_ | refine U0 _ (U4 rfl rfl) rfl ?_ | refine U0 _ (U5 rfl rfl) rfl ?_) | (refine M1 ?_; first | refine J0 ?_ | refine J1 ?_ | refine J2 mixed rfl (by kernel_rfl) ?_ | refine J3 mixed rfl rfl (by kernel_rfl) ?_ | refine J4 ?_ | refine J5 ?_ | refine J6 ?_ | refine J7 ?_ | refine J8 rfl ?_ | refine J9 rfl ?_) | (refine M2 ?_; first | refine I0 ?_ | refine I1 ?_ | refine I2 ?_ | refine I3 ?_ | refine I4 ?_ | refine I5 ?_ | refine I6 rfl ?_ | refine I7 ?_ | refine I8 ?_ | refine z4 ?_) | (refine M3 ?_; first | refine O6 ?_ | refine z2 tok rfl ?_ | refine O8 rfl ?_ | refine O7 rfl ?_ rfl | refine O9 rfl ?_ rfl | refine U1 _ (U4 rfl rfl) rfl ?_ | refine U1 _ (U5 rfl rfl) rfl ?_ | refine U1 _ (U2 rfl) rfl ?_ | refine U1 _ (U3 tok rfl rfl rfl rfl rfl) rfl ?_) | (refine M4 ?_; first | refine M6 ?_ | refine U6 rfl (by kernel_rfl) ?_ | refine U7 (by kernel_rfl) ?_) | (refine M5 ?_; first | exact M7 | refine U8 rfl ?_ | refine U9 rfl rfl ?_ ?_))
  refine XC.cond _ rfl (fun h5 => absurd (of_decide_eq_true h5) (by omega)) (fun h5 => ?_)
  repeat (first | (refine M0 ?_; first | refine O0 ?_ | refine z1 tok rfl ?_ | refine O1 rfl ?_ rfl | refine O2 rfl ?_ | refine O3 rfl ?_ rfl | refine O4 rfl rfl rfl (fun _ _ => ?_) | refine O5 tok rfl rfl rfl (fun _ _ => ?_) | refine U0 _ (U2 rfl) rfl ?_ | refine U0 _ (U3 tok rfl rfl rfl rfl rfl) rfl ?_ | refine z3 tok rfl ?_ | refine U0 _ (U4 rfl rfl) rfl ?_ | refine U0 _ (U5 rfl rfl) rfl ?_) | (refine M1 ?_; first | refine J0 ?_ | refine J1 ?_ | refine J2 mixed rfl (by kernel_rfl) ?_ | refine J3 mixed rfl rfl (by kernel_rfl) ?_ | refine J4 ?_ | refine J5 ?_ | refine J6 ?_ | refine J7 ?_ | refine J8 rfl ?_ | refine J9 rfl ?_) | (refine M2 ?_; first | refine I0 ?_ | refine I1 ?_ | refine I2 ?_ | refine I3 ?_ | refine I4 ?_ | refine I5 ?_ | refine I6 rfl ?_ | refine I7 ?_ | refine I8 ?_ | refine z4 ?_) | (refine M3 ?_; first | refine O6 ?_ | refine z2 tok rfl ?_ | refine O8 rfl ?_ | refine O7 rfl ?_ rfl | refine O9 rfl ?_ rfl | refine U1 _ (U4 rfl rfl) rfl ?_ | refine U1 _ (U5 rfl rfl) rfl ?_ | refine U1 _ (U2 rfl) rfl ?_ | refine U1 _ (U3 tok rfl rfl rfl rfl rfl) rfl ?_) | (refine M4 ?_; first | refine M6 ?_ | refine U6 rfl (by kernel_rfl) ?_ | refine U7 (by kernel_rfl) ?_) | (refine M5 ?_; first | exact M7 | refine U8 rfl ?_ | refine U9 rfl rfl ?_ ?_))
  obtain ⟨hs0, h300, herr⟩ := runE_0 hE
  obtain ⟨hs0', h300', herr'⟩ := runE_0 hE2
  obtain ⟨ho, hs⟩ := staOk_of hs0
  have hs' := (staOk_of hs0').2
  have hle : ∀ k, (h1 : k < l1.length) → (h3 : k < l3.length) → StaLe b l1[k].s l3[k].s ∧ l1[k].s.fil.length = b.pols.length ∧ l3[k].s.fil.length = b.pols.length := fun k h1 h3 => by
    have a1 : l1[k].s = staAt b s ts (k + 1) := by
      have h6 : (l1.map (·.s))[k]? = (runS b s ts)[k]? := by rw [e1]
      unfold runS at h6
      rw [if_neg (by simp [hE])] at h6
      simpa [h1, show k < ts.length by omega] using h6
    have a3 : l3[k].s = staAt b s2 ts2 (k + 1) := by
      have h6 : (l3.map (·.s))[k]? = (runS b s2 ts2)[k]? := by rw [e3]
      unfold runS at h6
      rw [if_neg (by simp [hE2])] at h6
      simpa [h3, show k < ts2.length by omega] using h6
    rw [a1, a3]
    exact ⟨run_mono ho hs hs' hcl (k + 1) (by omega) (fun j hj => herr j (by omega)) (fun j hj => herr' j (by omega)), (staAt_ok ho hs (k + 1) fun j hj => herr j (by omega)).len, (staAt_ok ho hs' (k + 1) fun j hj => herr' j (by omega)).len⟩
  subst hn1' hn3'
  refine XC.loopk [3, 4, 7, 8, 11] rfl (fun k : Nat => [(14, .int .i64 (k : Nat))]) (fun _ => [(g7, cel 49 [.int .i64 s2.vol, .slice Aq2 nq2 cq2, .slice A8 n8 c8, .int .i64 lim]), (g5, cel 71 [.int .i64 wo.vol, .slice y.q.A y.q.n y.q.c, .slice y.r.A y.r.n y.r.c]), (g4, cel 49 [.int .i64 s.vol, .slice Aq nq cq, .slice A7 ts.length c7, .int .i64 lim]), (g3, cel 25 [.slice p.A p.n p.c, .int .i64 b.leak, .int .i64 b.crest, .int .i64 b.over, .slice p.A2 p.n2 p.c2])]) (fun _ => w6)
    (fun k => k ≤ l1.length) (fun k => l1.length - k) 0 (Nat.zero_le _) (by repeat (first | exact Sub.nil | refine Sub.cons rfl ?_)) (fun _ h => h) ?_
  rintro k hk
  dsimp only [List.cons_append, List.nil_append]
  repeat (first | (refine M0 ?_; first | refine O0 ?_ | refine z1 tok rfl ?_ | refine O1 rfl ?_ rfl | refine O2 rfl ?_ | refine O3 rfl ?_ rfl | refine O4 rfl rfl rfl (fun _ _ => ?_) | refine O5 tok rfl rfl rfl (fun _ _ => ?_) | refine U0 _ (U2 rfl) rfl ?_ | refine U0 _ (U3 tok rfl rfl rfl rfl rfl) rfl ?_ | refine z3 tok rfl ?_ | refine U0 _ (U4 rfl rfl) rfl ?_ | refine U0 _ (U5 rfl rfl) rfl ?_) | (refine M1 ?_; first | refine J0 ?_ | refine J1 ?_ | refine J2 mixed rfl (by kernel_rfl) ?_ | refine J3 mixed rfl rfl (by kernel_rfl) ?_ | refine J4 ?_ | refine J5 ?_ | refine J6 ?_ | refine J7 ?_ | refine J8 rfl ?_ | refine J9 rfl ?_) | (refine M2 ?_; first | refine I0 ?_ | refine I1 ?_ | refine I2 ?_ | refine I3 ?_ | refine I4 ?_ | refine I5 ?_ | refine I6 rfl ?_ | refine I7 ?_ | refine I8 ?_ | refine z4 ?_) | (refine M3 ?_; first | refine O6 ?_ | refine z2 tok rfl ?_ | refine O8 rfl ?_ | refine O7 rfl ?_ rfl | refine O9 rfl ?_ rfl | refine U1 _ (U4 rfl rfl) rfl ?_ | refine U1 _ (U5 rfl rfl) rfl ?_ | refine U1 _ (U2 rfl) rfl ?_ | refine U1 _ (U3 tok rfl rfl rfl rfl rfl) rfl ?_) | (refine M4 ?_; first | refine M6 ?_ | refine U6 rfl (by kernel_rfl) ?_ | refine U7 (by kernel_rfl) ?_) | (refine M5 ?_; first | exact M7 | refine U8 rfl ?_ | refine U9 rfl rfl ?_ ?_))
  refine XC.cond _ rfl (fun h1 => ?_) (fun h1 => ?_)
  rotate_left
  · repeat (first | (refine M0 ?_; first | refine O0 ?_ | refine z1 tok rfl ?_ | refine O1 rfl ?_ rfl | refine O2 rfl ?_ | refine O3 rfl ?_ rfl | refine O4 rfl rfl rfl (fun _ _ => ?_) | refine O5 tok rfl rfl rfl (fun _ _ => ?_) | refine U0 _ (U2 rfl) rfl ?_ | refine U0 _ (U3 tok rfl rfl rfl rfl rfl) rfl ?_ | refine z3 tok rfl ?_ | refine U0 _ (U4 rfl rfl) rfl ?_ | refine U0 _ (U5 rfl rfl) rfl ?_) | (refine M1 ?_; first | refine J0 ?_ | refine J1 ?_ | refine J4 ?_ | refine J5 ?_ | refine J6 ?_ | refine J7 ?_ | refine J8 rfl ?_ | refine J9 rfl ?_) | (refine M2 ?_; first | refine I0 ?_ | refine I1 ?_ | refine I2 ?_ | refine I3 ?_ | refine I4 ?_ | refine I5 ?_ | refine I6 rfl ?_ | refine I7 ?_ | refine I8 ?_ | refine z4 ?_) | (refine M3 ?_; first | refine O6 ?_ | refine z2 tok rfl ?_ | refine O8 rfl ?_ | refine O7 rfl ?_ rfl | refine O9 rfl ?_ rfl | refine U1 _ (U4 rfl rfl) rfl ?_ | refine U1 _ (U5 rfl rfl) rfl ?_ | refine U1 _ (U2 rfl) rfl ?_ | refine U1 _ (U3 tok rfl rfl rfl rfl rfl) rfl ?_) | (refine M4 ?_; first | refine M6 ?_ | refine U6 rfl (by kernel_rfl) ?_ | refine U7 (by kernel_rfl) ?_) | (refine M5 ?_; first | exact M7 | refine U8 rfl ?_ | refine U9 rfl rfl ?_ ?_))
    refine XL.step _ (Ev.call (f := 27) (ck rfl) rfl (fun w S => (Stay_any (p := p) (q := ⟨Aq, nq, cq⟩) (r := ⟨A7, ts.length, c7⟩) (s := s) (ts := ts) (lim := lim) (hL.below (hB6.trans S.toBelow)) ((hb.below hB6).sys S) ((hq.below hB6).arg S) ((ht.below hB6).arg S)))) rfl ?_
    repeat (first | (refine M0 ?_; first | refine O0 ?_ | refine z1 tok rfl ?_ | refine O1 rfl ?_ rfl | refine O2 rfl ?_ | refine O3 rfl ?_ rfl | refine O4 rfl rfl rfl (fun _ _ => ?_) | refine O5 tok rfl rfl rfl (fun _ _ => ?_) | refine U0 _ (U2 rfl) rfl ?_ | refine U0 _ (U3 tok rfl rfl rfl rfl rfl) rfl ?_ | refine z3 tok rfl ?_ | refine U0 _ (U4 rfl rfl) rfl ?_ | refine U0 _ (U5 rfl rfl) rfl ?_) | (refine M1 ?_; first | refine J0 ?_ | refine J1 ?_ | refine J4 ?_ | refine J5 ?_ | refine J6 ?_ | refine J7 ?_ | refine J8 rfl ?_ | refine J9 rfl ?_) | (refine M2 ?_; first | refine I0 ?_ | refine I1 ?_ | refine I2 ?_ | refine I3 ?_ | refine I4 ?_ | refine I5 ?_ | refine I6 rfl ?_ | refine I7 ?_ | refine I8 ?_ | refine z4 ?_) | (refine M3 ?_; first | refine O6 ?_ | refine z2 tok rfl ?_ | refine O8 rfl ?_ | refine O7 rfl ?_ rfl | refine O9 rfl ?_ rfl | refine U1 _ (U4 rfl rfl) rfl ?_ | refine U1 _ (U5 rfl rfl) rfl ?_ | refine U1 _ (U2 rfl) rfl ?_ | refine U1 _ (U3 tok rfl rfl rfl rfl rfl) rfl ?_) | (refine M4 ?_; first | refine M6 ?_ | refine U6 rfl (by kernel_rfl) ?_ | refine U7 (by kernel_rfl) ?_) | (refine M5 ?_; first | exact M7 | refine U8 rfl ?_ | refine U9 rfl rfl ?_ ?_))
    refine XL.step _ (Ev.call (f := 27) (ck rfl) rfl (fun w S => (Stay_any (p := p) (q := ⟨Aq2, nq2, cq2⟩) (r := ⟨A8, n8, c8⟩) (s := s2) (ts := ts2) (lim := lim) (hL.below (hB6.trans S.toBelow)) ((hb.below hB6).sys S) (Held.lt (x := hInts ⟨Aq2, nq2, cq2⟩ s2.fil) ((hF6.sys S (by intro e he; repeat (first | (cases he; done) | (rcases List.mem_cons.1 he with rfl | he; · first | (right; assumption) | (left; simp <;> fail))))).get (.tail _ (.tail _ (.tail _ (.tail _ (.head _))))))) (ListAt.tks (Held.lt (x := hList tickK ⟨A8, n8, c8⟩ ts2) ((hF6.sys S (by intro e he; repeat (first | (cases he; done) | (rcases List.mem_cons.1 he with rfl | he; · first | (right; assumption) | (left; simp <;> fail))))).get (.tail _ (.tail _ (.tail _ (.tail _ (.tail _ (.head _)))))))))))) rfl ?_
    obtain ⟨t1, t2⟩ := stay_mono hcl hE hE2 lim
    repeat (first | (refine M0 ?_; first | refine O0 ?_ | refine z1 tok rfl ?_ | refine O1 rfl ?_ rfl | refine O2 rfl ?_ | refine O3 rfl ?_ rfl | refine O4 rfl rfl rfl (fun _ _ => ?_) | refine O5 tok rfl rfl rfl (fun _ _ => ?_) | refine U0 _ (U2 rfl) rfl ?_ | refine U0 _ (U3 tok rfl rfl rfl rfl rfl) rfl ?_ | refine z3 tok rfl ?_ | refine U0 _ (U4 rfl rfl) rfl ?_ | refine U0 _ (U5 rfl rfl) rfl ?_) | (refine M1 ?_; first | refine J0 ?_ | refine J1 ?_ | refine J4 ?_ | refine J5 ?_ | refine J6 ?_ | refine J7 ?_ | refine J8 rfl ?_ | refine J9 rfl ?_) | (refine M2 ?_; first | refine I0 ?_ | refine I1 ?_ | refine I2 ?_ | refine I3 ?_ | refine I4 ?_ | refine I5 ?_ | refine I6 rfl ?_ | refine I7 ?_ | refine I8 ?_ | refine z4 ?_) | (refine M3 ?_; first | refine O6 ?_ | refine z2 tok rfl ?_ | refine O8 rfl ?_ | refine O7 rfl ?_ rfl | refine O9 rfl ?_ rfl | refine U1 _ (U4 rfl rfl) rfl ?_ | refine U1 _ (U5 rfl rfl) rfl ?_ | refine U1 _ (U2 rfl) rfl ?_ | refine U1 _ (U3 tok rfl rfl rfl rfl rfl) rfl ?_) | (refine M4 ?_; first | refine M6 ?_ | refine U6 rfl (by kernel_rfl) ?_ | refine U7 (by kernel_rfl) ?_) | (refine M5 ?_; first | exact M7 | refine U8 rfl ?_ | refine U9 rfl rfl ?_ ?_))
    refine XL.split _ _ rfl (fun h => absurd t1 (of_decide_eq_true h)) (fun h => ?_)
    rw [h]
    repeat (first | (refine M0 ?_; first | refine O0 ?_ | refine z1 tok rfl ?_ | refine O1 rfl ?_ rfl | refine O2 rfl ?_ | refine O3 rfl ?_ rfl | refine O4 rfl rfl rfl (fun _ _ => ?_) | refine O5 tok rfl rfl rfl (fun _ _ => ?_) | refine U0 _ (U2 rfl) rfl ?_ | refine U0 _ (U3 tok rfl rfl rfl rfl rfl) rfl ?_ | refine z3 tok rfl ?_ | refine U0 _ (U4 rfl rfl) rfl ?_ | refine U0 _ (U5 rfl rfl) rfl ?_) | (refine M1 ?_; first | refine J0 ?_ | refine J1 ?_ | refine J4 ?_ | refine J5 ?_ | refine J6 ?_ | refine J7 ?_ | refine J8 rfl ?_ | refine J9 rfl ?_) | (refine M2 ?_; first | refine I0 ?_ | refine I1 ?_ | refine I2 ?_ | refine I3 ?_ | refine I4 ?_ | refine I5 ?_ | refine I6 rfl ?_ | refine I7 ?_ | refine I8 ?_ | refine z4 ?_) | (refine M3 ?_; first | refine O6 ?_ | refine z2 tok rfl ?_ | refine O8 rfl ?_ | refine O7 rfl ?_ rfl | refine O9 rfl ?_ rfl | refine U1 _ (U4 rfl rfl) rfl ?_ | refine U1 _ (U5 rfl rfl) rfl ?_ | refine U1 _ (U2 rfl) rfl ?_ | refine U1 _ (U3 tok rfl rfl rfl rfl rfl) rfl ?_) | (refine M4 ?_; first | refine M6 ?_ | refine U6 rfl (by kernel_rfl) ?_ | refine U7 (by kernel_rfl) ?_) | (refine M5 ?_; first | exact M7 | refine U8 rfl ?_ | refine U9 rfl rfl ?_ ?_))
    refine XC.cond _ rfl (fun h => absurd (of_decide_eq_true h) (Int.not_lt.2 t2)) (fun h => ?_)
    repeat (first | (refine M0 ?_; first | refine O0 ?_ | refine z1 tok rfl ?_ | refine O1 rfl ?_ rfl | refine O2 rfl ?_ | refine O3 rfl ?_ rfl | refine O4 rfl rfl rfl (fun _ _ => ?_) | refine O5 tok rfl rfl rfl (fun _ _ => ?_) | refine U0 _ (U2 rfl) rfl ?_ | refine U0 _ (U3 tok rfl rfl rfl rfl rfl) rfl ?_ | refine z3 tok rfl ?_ | refine U0 _ (U4 rfl rfl) rfl ?_ | refine U0 _ (U5 rfl rfl) rfl ?_) | (refine M1 ?_; first | refine J0 ?_ | refine J1 ?_ | refine J4 ?_ | refine J5 ?_ | refine J6 ?_ | refine J7 ?_ | refine J8 rfl ?_ | refine J9 rfl ?_) | (refine M2 ?_; first | refine I0 ?_ | refine I1 ?_ | refine I2 ?_ | refine I3 ?_ | refine I4 ?_ | refine I5 ?_ | refine I6 rfl ?_ | refine I7 ?_ | refine I8 ?_ | refine z4 ?_) | (refine M3 ?_; first | refine O6 ?_ | refine z2 tok rfl ?_ | refine O8 rfl ?_ | refine O7 rfl ?_ rfl | refine O9 rfl ?_ rfl | refine U1 _ (U4 rfl rfl) rfl ?_ | refine U1 _ (U5 rfl rfl) rfl ?_ | refine U1 _ (U2 rfl) rfl ?_ | refine U1 _ (U3 tok rfl rfl rfl rfl rfl) rfl ?_) | (refine M4 ?_; first | refine M6 ?_ | refine U6 rfl (by kernel_rfl) ?_ | refine U7 (by kernel_rfl) ?_) | (refine M5 ?_; first | exact M7 | refine U8 rfl ?_ | refine U9 rfl rfl ?_ ?_))
    refine XL.callF (FloodV b s ts) (ck rfl) rfl rfl hF6 hk6 hB6 (fun w1 S1 _ hB1 => Floods_any (p := p) (q := ⟨Aq, nq, cq⟩) (r := ⟨A7, ts.length, c7⟩) (hL.below hB1) ((hb.below hB6).sys S1) ((hq.below hB6).arg S1) ((ht.below hB6).arg S1)) (fun w8 v new hR hF8 hB8 hk8 => ?_)
    obtain ⟨⟨Aa, na, ca⟩, rfl, rfl⟩ := hR
    simp only [svV]
    repeat (first | (refine M0 ?_; first | refine O0 ?_ | refine z1 tok rfl ?_ | refine O1 rfl ?_ rfl | refine O2 rfl ?_ | refine O3 rfl ?_ rfl | refine O4 rfl rfl rfl (fun _ _ => ?_) | refine O5 tok rfl rfl rfl (fun _ _ => ?_) | refine U0 _ (U2 rfl) rfl ?_ | refine U0 _ (U3 tok rfl rfl rfl rfl rfl) rfl ?_ | refine z3 tok rfl ?_ | refine U0 _ (U4 rfl rfl) rfl ?_ | refine U0 _ (U5 rfl rfl) rfl ?_) | (refine M1 ?_; first | refine J0 ?_ | refine J1 ?_ | refine J4 ?_ | refine J5 ?_ | refine J6 ?_ | refine J7 ?_ | refine J8 rfl ?_ | refine J9 rfl ?_) | (refine M2 ?_; first | refine I0 ?_ | refine I1 ?_ | refine I2 ?_ | refine I3 ?_ | refine I4 ?_ | refine I5 ?_ | refine I6 rfl ?_ | refine I7 ?_ | refine I8 ?_ | refine z4 ?_) | (refine M3 ?_; first | refine O6 ?_ | refine z2 tok rfl ?_ | refine O8 rfl ?_ | refine O7 rfl ?_ rfl | refine O9 rfl ?_ rfl | refine U1 _ (U4 rfl rfl) rfl ?_ | refine U1 _ (U5 rfl rfl) rfl ?_ | refine U1 _ (U2 rfl) rfl ?_ | refine U1 _ (U3 tok rfl rfl rfl rfl rfl) rfl ?_) | (refine M4 ?_; first | refine M6 ?_ | refine U6 rfl (by kernel_rfl) ?_ | refine U7 (by kernel_rfl) ?_) | (refine M5 ?_; first | exact M7 | refine U8 rfl ?_ | refine U9 rfl rfl ?_ ?_))
    refine XL.callF (FloodV b s2 ts2) (ck rfl) rfl rfl hF8 hk8 hB8 (fun w1 S1 hF1 hB1 => Floods_any (p := p) (q := ⟨Aq2, nq2, cq2⟩) (r := ⟨A8, n8, c8⟩) (hL.below hB1) ((hb.below hB8).sys S1) (Held.lt (x := hInts ⟨Aq2, nq2, cq2⟩ s2.fil) (hF1.get (.tail _ (.tail _ (.tail _ (.tail _ (.tail _ (.head _)))))))) (ListAt.tks (Held.lt (x := hList tickK ⟨A8, n8, c8⟩ ts2) (hF1.get (.tail _ (.tail _ (.tail _ (.tail _ (.tail _ (.tail _ (.head _))))))))))) (fun w10 v new hR hF10 hB10 hk10 => ?_)
    obtain ⟨⟨Ab, nb, cb⟩, rfl, rfl⟩ := hR
    have hra : na = b.pols.length := by
      have h6 := (hF10.get (x := hInts ⟨Aa, na, ca⟩ (floods b s ts)) (.tail _ (.head _))).len
      rw [floods_0 hE] at h6
      simpa using h6
    have hrb : nb = b.pols.length := by
      have h6 := (hF10.get (x := hInts ⟨Ab, nb, cb⟩ (floods b s2 ts2)) (.head _)).len
      rw [floods_0 hE2] at h6
      simpa using h6
    simp only [svV]
    repeat (first | (refine M0 ?_; first | refine O0 ?_ | refine z1 tok rfl ?_ | refine O1 rfl ?_ rfl | refine O2 rfl ?_ | refine O3 rfl ?_ rfl | refine O4 rfl rfl rfl (fun _ _ => ?_) | refine O5 tok rfl rfl rfl (fun _ _ => ?_) | refine U0 _ (U2 rfl) rfl ?_ | refine U0 _ (U3 tok rfl rfl rfl rfl rfl) rfl ?_ | refine z3 tok rfl ?_ | refine U0 _ (U4 rfl rfl) rfl ?_ | refine U0 _ (U5 rfl rfl) rfl ?_) | (refine M1 ?_; first | refine J0 ?_ | refine J1 ?_ | refine J4 ?_ | refine J5 ?_ | refine J6 ?_ | refine J7 ?_ | refine J8 rfl ?_ | refine J9 rfl ?_) | (refine M2 ?_; first | refine I0 ?_ | refine I1 ?_ | refine I2 ?_ | refine I3 ?_ | refine I4 ?_ | refine I5 ?_ | refine I6 rfl ?_ | refine I7 ?_ | refine I8 ?_ | refine z4 ?_) | (refine M3 ?_; first | refine O6 ?_ | refine z2 tok rfl ?_ | refine O8 rfl ?_ | refine O7 rfl ?_ rfl | refine O9 rfl ?_ rfl | refine U1 _ (U4 rfl rfl) rfl ?_ | refine U1 _ (U5 rfl rfl) rfl ?_ | refine U1 _ (U2 rfl) rfl ?_ | refine U1 _ (U3 tok rfl rfl rfl rfl rfl) rfl ?_) | (refine M4 ?_; first | refine M6 ?_ | refine U6 rfl (by kernel_rfl) ?_ | refine U7 (by kernel_rfl) ?_) | (refine M5 ?_; first | exact M7 | refine U8 rfl ?_ | refine U9 rfl rfl ?_ ?_))
    refine XL.split _ _ rfl (fun h => absurd hE (of_decide_eq_true h)) (fun h => ?_)
    rw [h]
    repeat (first | (refine M0 ?_; first | refine O0 ?_ | refine z1 tok rfl ?_ | refine O1 rfl ?_ rfl | refine O2 rfl ?_ | refine O3 rfl ?_ rfl | refine O4 rfl rfl rfl (fun _ _ => ?_) | refine O5 tok rfl rfl rfl (fun _ _ => ?_) | refine U0 _ (U2 rfl) rfl ?_ | refine U0 _ (U3 tok rfl rfl rfl rfl rfl) rfl ?_ | refine z3 tok rfl ?_ | refine U0 _ (U4 rfl rfl) rfl ?_ | refine U0 _ (U5 rfl rfl) rfl ?_) | (refine M1 ?_; first | refine J0 ?_ | refine J1 ?_ | refine J4 ?_ | refine J5 ?_ | refine J6 ?_ | refine J7 ?_ | refine J8 rfl ?_ | refine J9 rfl ?_) | (refine M2 ?_; first | refine I0 ?_ | refine I1 ?_ | refine I2 ?_ | refine I3 ?_ | refine I4 ?_ | refine I5 ?_ | refine I6 rfl ?_ | refine I7 ?_ | refine I8 ?_ | refine z4 ?_) | (refine M3 ?_; first | refine O6 ?_ | refine z2 tok rfl ?_ | refine O8 rfl ?_ | refine O7 rfl ?_ rfl | refine O9 rfl ?_ rfl | refine U1 _ (U4 rfl rfl) rfl ?_ | refine U1 _ (U5 rfl rfl) rfl ?_ | refine U1 _ (U2 rfl) rfl ?_ | refine U1 _ (U3 tok rfl rfl rfl rfl rfl) rfl ?_) | (refine M4 ?_; first | refine M6 ?_ | refine U6 rfl (by kernel_rfl) ?_ | refine U7 (by kernel_rfl) ?_) | (refine M5 ?_; first | exact M7 | refine U8 rfl ?_ | refine U9 rfl rfl ?_ ?_))
    refine XL.split _ _ rfl (fun h => absurd hE2 (of_decide_eq_true h)) (fun h => ?_)
    rw [h]
    repeat (first | (refine M0 ?_; first | refine O0 ?_ | refine z1 tok rfl ?_ | refine O1 rfl ?_ rfl | refine O2 rfl ?_ | refine O3 rfl ?_ rfl | refine O4 rfl rfl rfl (fun _ _ => ?_) | refine O5 tok rfl rfl rfl (fun _ _ => ?_) | refine U0 _ (U2 rfl) rfl ?_ | refine U0 _ (U3 tok rfl rfl rfl rfl rfl) rfl ?_ | refine z3 tok rfl ?_ | refine U0 _ (U4 rfl rfl) rfl ?_ | refine U0 _ (U5 rfl rfl) rfl ?_) | (refine M1 ?_; first | refine J0 ?_ | refine J1 ?_ | refine J4 ?_ | refine J5 ?_ | refine J6 ?_ | refine J7 ?_ | refine J8 rfl ?_ | refine J9 rfl ?_) | (refine M2 ?_; first | refine I0 ?_ | refine I1 ?_ | refine I2 ?_ | refine I3 ?_ | refine I4 ?_ | refine I5 ?_ | refine I6 rfl ?_ | refine I7 ?_ | refine I8 ?_ | refine z4 ?_) | (refine M3 ?_; first | refine O6 ?_ | refine z2 tok rfl ?_ | refine O8 rfl ?_ | refine O7 rfl ?_ rfl | refine O9 rfl ?_ rfl | refine U1 _ (U4 rfl rfl) rfl ?_ | refine U1 _ (U5 rfl rfl) rfl ?_ | refine U1 _ (U2 rfl) rfl ?_ | refine U1 _ (U3 tok rfl rfl rfl rfl rfl) rfl ?_) | (refine M4 ?_; first | refine M6 ?_ | refine U6 rfl (by kernel_rfl) ?_ | refine U7 (by kernel_rfl) ?_) | (refine M5 ?_; first | exact M7 | refine U8 rfl ?_ | refine U9 rfl rfl ?_ ?_))
    refine XC.cond _ rfl (fun h => absurd (of_decide_eq_true h) (by omega)) (fun h => ?_)
    repeat (first | (refine M0 ?_; first | refine O0 ?_ | refine z1 tok rfl ?_ | refine O1 rfl ?_ rfl | refine O2 rfl ?_ | refine O3 rfl ?_ rfl | refine O4 rfl rfl rfl (fun _ _ => ?_) | refine O5 tok rfl rfl rfl (fun _ _ => ?_) | refine U0 _ (U2 rfl) rfl ?_ | refine U0 _ (U3 tok rfl rfl rfl rfl rfl) rfl ?_ | refine z3 tok rfl ?_ | refine U0 _ (U4 rfl rfl) rfl ?_ | refine U0 _ (U5 rfl rfl) rfl ?_) | (refine M1 ?_; first | refine J0 ?_ | refine J1 ?_ | refine J4 ?_ | refine J5 ?_ | refine J6 ?_ | refine J7 ?_ | refine J8 rfl ?_ | refine J9 rfl ?_) | (refine M2 ?_; first | refine I0 ?_ | refine I1 ?_ | refine I2 ?_ | refine I3 ?_ | refine I4 ?_ | refine I5 ?_ | refine I6 rfl ?_ | refine I7 ?_ | refine I8 ?_ | refine z4 ?_) | (refine M3 ?_; first | refine O6 ?_ | refine z2 tok rfl ?_ | refine O8 rfl ?_ | refine O7 rfl ?_ rfl | refine O9 rfl ?_ rfl | refine U1 _ (U4 rfl rfl) rfl ?_ | refine U1 _ (U5 rfl rfl) rfl ?_ | refine U1 _ (U2 rfl) rfl ?_ | refine U1 _ (U3 tok rfl rfl rfl rfl rfl) rfl ?_) | (refine M4 ?_; first | refine M6 ?_ | refine U6 rfl (by kernel_rfl) ?_ | refine U7 (by kernel_rfl) ?_) | (refine M5 ?_; first | exact M7 | refine U8 rfl ?_ | refine U9 rfl rfl ?_ ?_))
    have hm6 := ho.m6
    have hpn := hb.n2_eq
    have hsl := hs.len
    have hsl' := hs'.len
    have hqn := hq.len
    have hq2 : IntsAt w10 _ ⟨Aq2, nq2, cq2⟩ s2.fil := hF10.held (hInts ⟨Aq2, nq2, cq2⟩ s2.fil) (.tail _ (.tail _ (.tail _ (.tail _ (.tail _ (.tail _ (.head _)))))))
    have hqn2 := hq2.len
    have hIa : IntsAt w10 _ ⟨Aa, na, ca⟩ (floods b s ts) := hF10.held (hInts ⟨Aa, na, ca⟩ (floods b s ts)) (.tail _ (.head _))
    have hIb : IntsAt w10 _ ⟨Ab, nb, cb⟩ (floods b s2 ts2) := hF10.held (hInts ⟨Ab, nb, cb⟩ (floods b s2 ts2)) (.head _)
    refine XC.loopk [3, 4, 7, 18, 19] rfl (fun k : Nat => [(20, .int .i64 (k : Nat))]) (fun _ => [(g7, cel 49 [.int .i64 s2.vol, .slice Aq2 nq2 cq2, .slice A8 n8 c8, .int .i64 lim]), (g5, cel 71 [.int .i64 wo.vol, .slice y.q.A y.q.n y.q.c, .slice y.r.A y.r.n y.r.c]), (g4, cel 49 [.int .i64 s.vol, .slice Aq nq cq, .slice A7 ts.length c7, .int .i64 lim]), (g3, cel 25 [.slice p.A p.n p.c, .int .i64 b.leak, .int .i64 b.crest, .int .i64 b.over, .slice p.A2 p.n2 p.c2])]) (fun _ => w10)
      (fun k => k ≤ na) (fun k => na - k) 0 (Nat.zero_le _) (by repeat (first | exact Sub.nil | refine Sub.cons rfl ?_)) (fun _ h => h) ?_
    rintro k hk
    dsimp only [List.cons_append, List.nil_append]
    repeat (first | (refine M0 ?_; first | refine O0 ?_ | refine z1 tok rfl ?_ | refine O1 rfl ?_ rfl | refine O2 rfl ?_ | refine O3 rfl ?_ rfl | refine O4 rfl rfl rfl (fun _ _ => ?_) | refine O5 tok rfl rfl rfl (fun _ _ => ?_) | refine U0 _ (U2 rfl) rfl ?_ | refine U0 _ (U3 tok rfl rfl rfl rfl rfl) rfl ?_ | refine z3 tok rfl ?_ | refine U0 _ (U4 rfl rfl) rfl ?_ | refine U0 _ (U5 rfl rfl) rfl ?_) | (refine M1 ?_; first | refine J0 ?_ | refine J1 ?_ | refine J4 ?_ | refine J5 ?_ | refine J6 ?_ | refine J7 ?_ | refine J8 rfl ?_ | refine J9 rfl ?_) | (refine M2 ?_; first | refine I0 ?_ | refine I1 ?_ | refine I2 ?_ | refine I3 ?_ | refine I4 ?_ | refine I5 ?_ | refine I6 rfl ?_ | refine I7 ?_ | refine I8 ?_ | refine z4 ?_) | (refine M3 ?_; first | refine O6 ?_ | refine z2 tok rfl ?_ | refine O8 rfl ?_ | refine O7 rfl ?_ rfl | refine O9 rfl ?_ rfl | refine U1 _ (U4 rfl rfl) rfl ?_ | refine U1 _ (U5 rfl rfl) rfl ?_ | refine U1 _ (U2 rfl) rfl ?_ | refine U1 _ (U3 tok rfl rfl rfl rfl rfl) rfl ?_) | (refine M4 ?_; first | refine M6 ?_ | refine U6 rfl (by kernel_rfl) ?_ | refine U7 (by kernel_rfl) ?_) | (refine M5 ?_; first | exact M7 | refine U8 rfl ?_ | refine U9 rfl rfl ?_ ?_))
    refine XC.cond _ rfl (fun h1 => ?_) (fun h1 => ?_)
    rotate_left
    · repeat (first | (refine M0 ?_; first | refine O0 ?_ | refine z1 tok rfl ?_ | refine O1 rfl ?_ rfl | refine O2 rfl ?_ | refine O3 rfl ?_ rfl | refine O4 rfl rfl rfl (fun _ _ => ?_) | refine O5 tok rfl rfl rfl (fun _ _ => ?_) | refine U0 _ (U2 rfl) rfl ?_ | refine U0 _ (U3 tok rfl rfl rfl rfl rfl) rfl ?_ | refine z3 tok rfl ?_ | refine U0 _ (U4 rfl rfl) rfl ?_ | refine U0 _ (U5 rfl rfl) rfl ?_) | (refine M1 ?_; first | refine J0 ?_ | refine J1 ?_ | refine J4 ?_ | refine J5 ?_ | refine J6 ?_ | refine J7 ?_ | refine J8 rfl ?_ | refine J9 rfl ?_) | (refine M2 ?_; first | refine I0 ?_ | refine I1 ?_ | refine I2 ?_ | refine I3 ?_ | refine I4 ?_ | refine I5 ?_ | refine I6 rfl ?_ | refine I7 ?_ | refine I8 ?_ | refine z4 ?_) | (refine M3 ?_; first | refine O6 ?_ | refine z2 tok rfl ?_ | refine O8 rfl ?_ | refine O7 rfl ?_ rfl | refine O9 rfl ?_ rfl | refine U1 _ (U4 rfl rfl) rfl ?_ | refine U1 _ (U5 rfl rfl) rfl ?_ | refine U1 _ (U2 rfl) rfl ?_ | refine U1 _ (U3 tok rfl rfl rfl rfl rfl) rfl ?_) | (refine M4 ?_; first | refine M6 ?_ | refine U6 rfl (by kernel_rfl) ?_ | refine U7 (by kernel_rfl) ?_) | (refine M5 ?_; first | exact M7 | refine U8 rfl ?_ | refine U9 rfl rfl ?_ ?_))
      refine XL.step _ (Ev.call (f := 23) (ck rfl) rfl (fun w S => (Awake_any (hL.below (hB10.trans S.toBelow))))) rfl ?_
      repeat (first | (refine M0 ?_; first | refine O0 ?_ | refine z1 tok rfl ?_ | refine O1 rfl ?_ rfl | refine O2 rfl ?_ | refine O3 rfl ?_ rfl | refine O4 rfl rfl rfl (fun _ _ => ?_) | refine O5 tok rfl rfl rfl (fun _ _ => ?_) | refine U0 _ (U2 rfl) rfl ?_ | refine U0 _ (U3 tok rfl rfl rfl rfl rfl) rfl ?_ | refine z3 tok rfl ?_ | refine U0 _ (U4 rfl rfl) rfl ?_ | refine U0 _ (U5 rfl rfl) rfl ?_) | (refine M1 ?_; first | refine J0 ?_ | refine J1 ?_ | refine J4 ?_ | refine J5 ?_ | refine J6 ?_ | refine J7 ?_ | refine J8 rfl ?_ | refine J9 rfl ?_) | (refine M2 ?_; first | refine I0 ?_ | refine I1 ?_ | refine I2 ?_ | refine I3 ?_ | refine I4 ?_ | refine I5 ?_ | refine I6 rfl ?_ | refine I7 ?_ | refine I8 ?_ | refine z4 ?_) | (refine M3 ?_; first | refine O6 ?_ | refine z2 tok rfl ?_ | refine O8 rfl ?_ | refine O7 rfl ?_ rfl | refine O9 rfl ?_ rfl | refine U1 _ (U4 rfl rfl) rfl ?_ | refine U1 _ (U5 rfl rfl) rfl ?_ | refine U1 _ (U2 rfl) rfl ?_ | refine U1 _ (U3 tok rfl rfl rfl rfl rfl) rfl ?_) | (refine M4 ?_; first | refine M6 ?_ | refine U6 rfl (by kernel_rfl) ?_ | refine U7 (by kernel_rfl) ?_) | (refine M5 ?_; first | exact M7 | refine U8 rfl ?_ | refine U9 rfl rfl ?_ ?_))
      refine XE.retg tok Tryd.results9 rfl (by simp only [and_self, and_true]) (fun w' S => ?_)
      exact ⟨rfl, hB10.trans S.toBelow⟩
    have hkn : k < na := by simpa using h1
    have hkp : k < b.pols.length := by omega
    have hva : at0 (floods b s ts) k = firstF (runF b s ts) k := by rw [floods_0 hE]; simp [at0, hkp]
    have hvb : at0 (floods b s2 ts2) k = firstF (runF b s2 ts2) k := by rw [floods_0 hE2]; simp [at0, hkp]
    have hfm := fun h1 h2 => flood_mono hcl hE hE2 hkp h1 h2
    have hla := hIa.len
    have hlb := hIb.len
    simp only at hqn hqn2 hra hrb hkn hla hlb
    obtain ⟨aq, rfl, hgq, hdq⟩ := hq.at_ (by omega)
    obtain ⟨aq2, rfl, hgq2, hdq2⟩ := hq2.at_ (by omega)
    obtain ⟨aa, rfl, hga, hda⟩ := hIa.at_ (by omega)
    obtain ⟨ab, rfl, hgb, hdb⟩ := hIb.at_ (by omega)
    have hx := (hB10.cell (add_lt hgq)).trans (hdq k (by omega))
    have hx2 := hdq2 k (by omega)
    have hxa := hda k (by omega)
    have hxb := hdb k (by omega)
    rw [hva] at hxa
    rw [hvb] at hxb
    repeat (first | (refine M0 ?_; first | refine O0 ?_ | refine z1 tok rfl ?_ | refine O1 rfl ?_ rfl | refine O2 rfl ?_ | refine O3 rfl ?_ rfl | refine O4 rfl rfl rfl (fun _ _ => ?_) | refine O5 tok rfl rfl rfl (fun _ _ => ?_) | refine U0 _ (U2 rfl) rfl ?_ | refine U0 _ (U3 tok rfl rfl rfl rfl rfl) rfl ?_ | refine z3 tok rfl ?_ | refine U0 _ (U4 rfl rfl) rfl ?_ | refine U0 _ (U5 rfl rfl) rfl ?_) | (refine M1 ?_; first | refine J0 ?_ | refine J1 ?_ | refine J4 ?_ | refine J5 ?_ | refine J6 ?_ | refine J7 ?_ | refine J8 rfl ?_ | refine J9 rfl ?_) | (refine M2 ?_; first | refine I0 ?_ | refine I1 ?_ | refine I2 ?_ | refine I3 ?_ | refine I4 ?_ | refine I5 ?_ | refine I6 rfl ?_ | refine I7 ?_ | refine I8 ?_ | refine z4 ?_) | (refine M3 ?_; first | refine O6 ?_ | refine z2 tok rfl ?_ | refine O8 rfl ?_ | refine O7 rfl ?_ rfl | refine O9 rfl ?_ rfl | refine U1 _ (U4 rfl rfl) rfl ?_ | refine U1 _ (U5 rfl rfl) rfl ?_ | refine U1 _ (U2 rfl) rfl ?_ | refine U1 _ (U3 tok rfl rfl rfl rfl rfl) rfl ?_) | (refine M4 ?_; first | refine M6 ?_ | refine U6 rfl (by kernel_rfl) ?_ | refine U7 (by kernel_rfl) ?_) | (refine M5 ?_; first | exact M7 | refine U8 rfl ?_ | refine U9 rfl rfl ?_ ?_))
    repeat (first | (refine M0 ?_; first | refine O0 ?_ | refine z1 tok rfl ?_ | refine O1 rfl ?_ rfl | refine O2 rfl ?_ | refine O3 rfl ?_ rfl | refine O4 rfl rfl rfl (fun _ _ => ?_) | refine O5 tok rfl rfl rfl (fun _ _ => ?_) | refine U0 _ (U2 rfl) rfl ?_ | refine U0 _ (U3 tok rfl rfl rfl rfl rfl) rfl ?_ | refine z3 tok rfl ?_ | refine U0 _ (U4 rfl rfl) rfl ?_ | refine U0 _ (U5 rfl rfl) rfl ?_) | (refine M1 ?_; first | refine J0 ?_ | refine J1 ?_ | refine J2 mixed rfl (by kernel_rfl) ?_ | refine J3 mixed rfl rfl (by kernel_rfl) ?_ | refine J4 ?_ | refine J5 ?_ | refine J6 ?_ | refine J7 ?_ | refine J8 rfl ?_ | refine J9 rfl ?_) | (refine M2 ?_; first | refine I0 ?_ | refine I1 ?_ | refine I2 ?_ | refine I3 ?_ | refine I4 ?_ | refine I5 ?_ | refine I6 rfl ?_ | refine I7 ?_ | refine I8 ?_ | refine z4 ?_) | (refine M3 ?_; first | refine O6 ?_ | refine z2 tok rfl ?_ | refine O8 rfl ?_ | refine O7 rfl ?_ rfl | refine O9 rfl ?_ rfl | refine U1 _ (U4 rfl rfl) rfl ?_ | refine U1 _ (U5 rfl rfl) rfl ?_ | refine U1 _ (U2 rfl) rfl ?_ | refine U1 _ (U3 tok rfl rfl rfl rfl rfl) rfl ?_) | (refine M4 ?_; first | refine M6 ?_ | refine U6 rfl (by kernel_rfl) ?_ | refine U7 (by kernel_rfl) ?_) | (refine M5 ?_; first | exact M7 | refine U8 rfl ?_ | refine U9 rfl rfl ?_ ?_))
    refine Fw.split _ _ rfl (fun h => ?_) (fun h => absurd (of_decide_eq_false h) (by omega))
    rw [h]
    repeat (first | (refine M0 ?_; first | refine O0 ?_ | refine z1 tok rfl ?_ | refine O1 rfl ?_ rfl | refine O2 rfl ?_ | refine O3 rfl ?_ rfl | refine O4 rfl rfl rfl (fun _ _ => ?_) | refine O5 tok rfl rfl rfl (fun _ _ => ?_) | refine U0 _ (U2 rfl) rfl ?_ | refine U0 _ (U3 tok rfl rfl rfl rfl rfl) rfl ?_ | refine z3 tok rfl ?_ | refine U0 _ (U4 rfl rfl) rfl ?_ | refine U0 _ (U5 rfl rfl) rfl ?_) | (refine M1 ?_; first | refine J0 ?_ | refine J1 ?_ | refine J2 mixed rfl (by kernel_rfl) ?_ | refine J3 mixed rfl rfl (by kernel_rfl) ?_ | refine J4 ?_ | refine J5 ?_ | refine J6 ?_ | refine J7 ?_ | refine J8 rfl ?_ | refine J9 rfl ?_) | (refine M2 ?_; first | refine I0 ?_ | refine I1 ?_ | refine I2 ?_ | refine I3 ?_ | refine I4 ?_ | refine I5 ?_ | refine I6 rfl ?_ | refine I7 ?_ | refine I8 ?_ | refine z4 ?_) | (refine M3 ?_; first | refine O6 ?_ | refine z2 tok rfl ?_ | refine O8 rfl ?_ | refine O7 rfl ?_ rfl | refine O9 rfl ?_ rfl | refine U1 _ (U4 rfl rfl) rfl ?_ | refine U1 _ (U5 rfl rfl) rfl ?_ | refine U1 _ (U2 rfl) rfl ?_ | refine U1 _ (U3 tok rfl rfl rfl rfl rfl) rfl ?_) | (refine M4 ?_; first | refine M6 ?_ | refine U6 rfl (by kernel_rfl) ?_ | refine U7 (by kernel_rfl) ?_) | (refine M5 ?_; first | exact M7 | refine U8 rfl ?_ | refine U9 rfl rfl ?_ ?_))
    refine Fw.split _ _ rfl (fun h => ?_) (fun h => absurd (of_decide_eq_false h) (by omega))
    rw [h]
    repeat (first | (refine M0 ?_; first | refine O0 ?_ | refine z1 tok rfl ?_ | refine O1 rfl ?_ rfl | refine O2 rfl ?_ | refine O3 rfl ?_ rfl | refine U0 _ (Ev.load_old tok rfl rfl (add_lt hgq) hx) rfl ?_ | refine U0 _ (Ev.load_far tok rfl rfl (add_lt hgq2.2.1) (fun e he => by rw [add_block]; exact hgq2.ne (fun e he => by simp only [List.mem_cons, List.not_mem_nil, or_false] at he; rcases he with rfl | rfl | rfl | rfl <;> simp) e he) hx2) rfl ?_ | refine U0 _ (Ev.load_far tok rfl rfl (add_lt hga.2.1) (fun e he => by rw [add_block]; exact hga.ne (fun e he => by simp only [List.mem_cons, List.not_mem_nil, or_false] at he; rcases he with rfl | rfl | rfl | rfl <;> simp) e he) hxa) rfl ?_ | refine U0 _ (Ev.load_far tok rfl rfl (add_lt hgb.2.1) (fun e he => by rw [add_block]; exact hgb.ne (fun e he => by simp only [List.mem_cons, List.not_mem_nil, or_false] at he; rcases he with rfl | rfl | rfl | rfl <;> simp) e he) hxb) rfl ?_ | refine O4 rfl rfl rfl (fun _ _ => ?_) | refine O5 tok rfl rfl rfl (fun _ _ => ?_) | refine U0 _ (U2 rfl) rfl ?_ | refine U0 _ (U3 tok rfl rfl rfl rfl rfl) rfl ?_ | refine z3 tok rfl ?_ | refine U0 _ (U4 rfl rfl) rfl ?_ | refine U0 _ (U5 rfl rfl) rfl ?_) | (refine M1 ?_; first | refine J0 ?_ | refine J1 ?_ | refine J2 mixed rfl (by kernel_rfl) ?_ | refine J3 mixed rfl rfl (by kernel_rfl) ?_ | refine J4 ?_ | refine J5 ?_ | refine J6 ?_ | refine J7 ?_ | refine J8 rfl ?_ | refine J9 rfl ?_) | (refine M2 ?_; first | refine I0 ?_ | refine I1 ?_ | refine I2 ?_ | refine I3 ?_ | refine I4 ?_ | refine I5 ?_ | refine I6 rfl ?_ | refine I7 ?_ | refine I8 ?_ | refine z4 ?_) | (refine M3 ?_; first | refine O6 ?_ | refine z2 tok rfl ?_ | refine O8 rfl ?_ | refine O7 rfl ?_ rfl | refine O9 rfl ?_ rfl | refine U1 _ (Ev.load_old tok rfl rfl (add_lt hgq) hx) rfl ?_ | refine U1 _ (Ev.load_far tok rfl rfl (add_lt hgq2.2.1) (fun e he => by rw [add_block]; exact hgq2.ne (fun e he => by simp only [List.mem_cons, List.not_mem_nil, or_false] at he; rcases he with rfl | rfl | rfl | rfl <;> simp) e he) hx2) rfl ?_ | refine U1 _ (Ev.load_far tok rfl rfl (add_lt hga.2.1) (fun e he => by rw [add_block]; exact hga.ne (fun e he => by simp only [List.mem_cons, List.not_mem_nil, or_false] at he; rcases he with rfl | rfl | rfl | rfl <;> simp) e he) hxa) rfl ?_ | refine U1 _ (Ev.load_far tok rfl rfl (add_lt hgb.2.1) (fun e he => by rw [add_block]; exact hgb.ne (fun e he => by simp only [List.mem_cons, List.not_mem_nil, or_false] at he; rcases he with rfl | rfl | rfl | rfl <;> simp) e he) hxb) rfl ?_ | refine U1 _ (U4 rfl rfl) rfl ?_ | refine U1 _ (U5 rfl rfl) rfl ?_ | refine U1 _ (U2 rfl) rfl ?_ | refine U1 _ (U3 tok rfl rfl rfl rfl rfl) rfl ?_) | (refine M4 ?_; first | refine M6 ?_ | refine U6 rfl (by kernel_rfl) ?_ | refine U7 (by kernel_rfl) ?_) | (refine M5 ?_; first | exact M7 | refine U8 rfl ?_ | refine U9 rfl rfl ?_ ?_))
    refine Fw.split _ _ rfl (fun h1 => ?_) (fun h1 => ?_) <;> rw [h1]
    focus
      repeat (first | (refine M0 ?_; first | refine O0 ?_ | refine z1 tok rfl ?_ | refine O1 rfl ?_ rfl | refine O2 rfl ?_ | refine O3 rfl ?_ rfl | refine O4 rfl rfl rfl (fun _ _ => ?_) | refine O5 tok rfl rfl rfl (fun _ _ => ?_) | refine U0 _ (U2 rfl) rfl ?_ | refine U0 _ (U3 tok rfl rfl rfl rfl rfl) rfl ?_ | refine z3 tok rfl ?_ | refine U0 _ (U4 rfl rfl) rfl ?_ | refine U0 _ (U5 rfl rfl) rfl ?_) | (refine M1 ?_; first | refine J0 ?_ | refine J1 ?_ | refine J2 mixed rfl (by kernel_rfl) ?_ | refine J3 mixed rfl rfl (by kernel_rfl) ?_ | refine J4 ?_ | refine J5 ?_ | refine J6 ?_ | refine J7 ?_ | refine J8 rfl ?_ | refine J9 rfl ?_) | (refine M2 ?_; first | refine I0 ?_ | refine I1 ?_ | refine I2 ?_ | refine I3 ?_ | refine I4 ?_ | refine I5 ?_ | refine I6 rfl ?_ | refine I7 ?_ | refine I8 ?_ | refine z4 ?_) | (refine M3 ?_; first | refine O6 ?_ | refine z2 tok rfl ?_ | refine O8 rfl ?_ | refine O7 rfl ?_ rfl | refine O9 rfl ?_ rfl | refine U1 _ (U4 rfl rfl) rfl ?_ | refine U1 _ (U5 rfl rfl) rfl ?_ | refine U1 _ (U2 rfl) rfl ?_ | refine U1 _ (U3 tok rfl rfl rfl rfl rfl) rfl ?_) | (refine M4 ?_; first | refine M6 ?_ | refine U6 rfl (by kernel_rfl) ?_ | refine U7 (by kernel_rfl) ?_) | (refine M5 ?_; first | exact M7 | refine U8 rfl ?_ | refine U9 rfl rfl ?_ ?_))
      refine Fw.split _ _ rfl (fun h2 => ?_) (fun h2 => ?_) <;> rw [h2]
      focus
        obtain ⟨y1, y2⟩ := hfm (of_decide_eq_true h1) (by have : (!decide (at0 s.fil k < at0 s2.fil k)) = true := h2; intro hh; have hh2 : at0 s.fil k < at0 s2.fil k := hh; simp [hh2] at this)
        repeat (first | (refine M0 ?_; first | refine O0 ?_ | refine z1 tok rfl ?_ | refine O1 rfl ?_ rfl | refine O2 rfl ?_ | refine O3 rfl ?_ rfl | refine U0 _ (Ev.load_old tok rfl rfl (add_lt hgq) hx) rfl ?_ | refine U0 _ (Ev.load_far tok rfl rfl (add_lt hgq2.2.1) (fun e he => by rw [add_block]; exact hgq2.ne (fun e he => by simp only [List.mem_cons, List.not_mem_nil, or_false] at he; rcases he with rfl | rfl | rfl | rfl <;> simp) e he) hx2) rfl ?_ | refine U0 _ (Ev.load_far tok rfl rfl (add_lt hga.2.1) (fun e he => by rw [add_block]; exact hga.ne (fun e he => by simp only [List.mem_cons, List.not_mem_nil, or_false] at he; rcases he with rfl | rfl | rfl | rfl <;> simp) e he) hxa) rfl ?_ | refine U0 _ (Ev.load_far tok rfl rfl (add_lt hgb.2.1) (fun e he => by rw [add_block]; exact hgb.ne (fun e he => by simp only [List.mem_cons, List.not_mem_nil, or_false] at he; rcases he with rfl | rfl | rfl | rfl <;> simp) e he) hxb) rfl ?_ | refine O4 rfl rfl rfl (fun _ _ => ?_) | refine O5 tok rfl rfl rfl (fun _ _ => ?_) | refine U0 _ (U2 rfl) rfl ?_ | refine U0 _ (U3 tok rfl rfl rfl rfl rfl) rfl ?_ | refine z3 tok rfl ?_ | refine U0 _ (U4 rfl rfl) rfl ?_ | refine U0 _ (U5 rfl rfl) rfl ?_) | (refine M1 ?_; first | refine J0 ?_ | refine J1 ?_ | refine J2 mixed rfl (by kernel_rfl) ?_ | refine J3 mixed rfl rfl (by kernel_rfl) ?_ | refine J4 ?_ | refine J5 ?_ | refine J6 ?_ | refine J7 ?_ | refine J8 rfl ?_ | refine J9 rfl ?_) | (refine M2 ?_; first | refine I0 ?_ | refine I1 ?_ | refine I2 ?_ | refine I3 ?_ | refine I4 ?_ | refine I5 ?_ | refine I6 rfl ?_ | refine I7 ?_ | refine I8 ?_ | refine z4 ?_) | (refine M3 ?_; first | refine O6 ?_ | refine z2 tok rfl ?_ | refine O8 rfl ?_ | refine O7 rfl ?_ rfl | refine O9 rfl ?_ rfl | refine U1 _ (Ev.load_old tok rfl rfl (add_lt hgq) hx) rfl ?_ | refine U1 _ (Ev.load_far tok rfl rfl (add_lt hgq2.2.1) (fun e he => by rw [add_block]; exact hgq2.ne (fun e he => by simp only [List.mem_cons, List.not_mem_nil, or_false] at he; rcases he with rfl | rfl | rfl | rfl <;> simp) e he) hx2) rfl ?_ | refine U1 _ (Ev.load_far tok rfl rfl (add_lt hga.2.1) (fun e he => by rw [add_block]; exact hga.ne (fun e he => by simp only [List.mem_cons, List.not_mem_nil, or_false] at he; rcases he with rfl | rfl | rfl | rfl <;> simp) e he) hxa) rfl ?_ | refine U1 _ (Ev.load_far tok rfl rfl (add_lt hgb.2.1) (fun e he => by rw [add_block]; exact hgb.ne (fun e he => by simp only [List.mem_cons, List.not_mem_nil, or_false] at he; rcases he with rfl | rfl | rfl | rfl <;> simp) e he) hxb) rfl ?_ | refine U1 _ (U4 rfl rfl) rfl ?_ | refine U1 _ (U5 rfl rfl) rfl ?_ | refine U1 _ (U2 rfl) rfl ?_ | refine U1 _ (U3 tok rfl rfl rfl rfl rfl) rfl ?_) | (refine M4 ?_; first | refine M6 ?_ | refine U6 rfl (by kernel_rfl) ?_ | refine U7 (by kernel_rfl) ?_) | (refine M5 ?_; first | exact M7 | refine U8 rfl ?_ | refine U9 rfl rfl ?_ ?_))
        refine Fw.split _ _ rfl (fun h => absurd (of_decide_eq_true h) (by omega)) (fun h => ?_)
        rw [h]
        repeat (first | (refine M0 ?_; first | refine O0 ?_ | refine z1 tok rfl ?_ | refine O1 rfl ?_ rfl | refine O2 rfl ?_ | refine O3 rfl ?_ rfl | refine U0 _ (Ev.load_old tok rfl rfl (add_lt hgq) hx) rfl ?_ | refine U0 _ (Ev.load_far tok rfl rfl (add_lt hgq2.2.1) (fun e he => by rw [add_block]; exact hgq2.ne (fun e he => by simp only [List.mem_cons, List.not_mem_nil, or_false] at he; rcases he with rfl | rfl | rfl | rfl <;> simp) e he) hx2) rfl ?_ | refine U0 _ (Ev.load_far tok rfl rfl (add_lt hga.2.1) (fun e he => by rw [add_block]; exact hga.ne (fun e he => by simp only [List.mem_cons, List.not_mem_nil, or_false] at he; rcases he with rfl | rfl | rfl | rfl <;> simp) e he) hxa) rfl ?_ | refine U0 _ (Ev.load_far tok rfl rfl (add_lt hgb.2.1) (fun e he => by rw [add_block]; exact hgb.ne (fun e he => by simp only [List.mem_cons, List.not_mem_nil, or_false] at he; rcases he with rfl | rfl | rfl | rfl <;> simp) e he) hxb) rfl ?_ | refine O4 rfl rfl rfl (fun _ _ => ?_) | refine O5 tok rfl rfl rfl (fun _ _ => ?_) | refine U0 _ (U2 rfl) rfl ?_ | refine U0 _ (U3 tok rfl rfl rfl rfl rfl) rfl ?_ | refine z3 tok rfl ?_ | refine U0 _ (U4 rfl rfl) rfl ?_ | refine U0 _ (U5 rfl rfl) rfl ?_) | (refine M1 ?_; first | refine J0 ?_ | refine J1 ?_ | refine J2 mixed rfl (by kernel_rfl) ?_ | refine J3 mixed rfl rfl (by kernel_rfl) ?_ | refine J4 ?_ | refine J5 ?_ | refine J6 ?_ | refine J7 ?_ | refine J8 rfl ?_ | refine J9 rfl ?_) | (refine M2 ?_; first | refine I0 ?_ | refine I1 ?_ | refine I2 ?_ | refine I3 ?_ | refine I4 ?_ | refine I5 ?_ | refine I6 rfl ?_ | refine I7 ?_ | refine I8 ?_ | refine z4 ?_) | (refine M3 ?_; first | refine O6 ?_ | refine z2 tok rfl ?_ | refine O8 rfl ?_ | refine O7 rfl ?_ rfl | refine O9 rfl ?_ rfl | refine U1 _ (Ev.load_old tok rfl rfl (add_lt hgq) hx) rfl ?_ | refine U1 _ (Ev.load_far tok rfl rfl (add_lt hgq2.2.1) (fun e he => by rw [add_block]; exact hgq2.ne (fun e he => by simp only [List.mem_cons, List.not_mem_nil, or_false] at he; rcases he with rfl | rfl | rfl | rfl <;> simp) e he) hx2) rfl ?_ | refine U1 _ (Ev.load_far tok rfl rfl (add_lt hga.2.1) (fun e he => by rw [add_block]; exact hga.ne (fun e he => by simp only [List.mem_cons, List.not_mem_nil, or_false] at he; rcases he with rfl | rfl | rfl | rfl <;> simp) e he) hxa) rfl ?_ | refine U1 _ (Ev.load_far tok rfl rfl (add_lt hgb.2.1) (fun e he => by rw [add_block]; exact hgb.ne (fun e he => by simp only [List.mem_cons, List.not_mem_nil, or_false] at he; rcases he with rfl | rfl | rfl | rfl <;> simp) e he) hxb) rfl ?_ | refine U1 _ (U4 rfl rfl) rfl ?_ | refine U1 _ (U5 rfl rfl) rfl ?_ | refine U1 _ (U2 rfl) rfl ?_ | refine U1 _ (U3 tok rfl rfl rfl rfl rfl) rfl ?_) | (refine M4 ?_; first | refine M6 ?_ | refine U6 rfl (by kernel_rfl) ?_ | refine U7 (by kernel_rfl) ?_) | (refine M5 ?_; first | exact M7 | refine U8 rfl ?_ | refine U9 rfl rfl ?_ ?_))
        refine XC.cond _ rfl (fun h => absurd (of_decide_eq_true h) (by omega)) (fun h => ?_)
    all_goals
      repeat (first | (refine M0 ?_; first | refine O0 ?_ | refine z1 tok rfl ?_ | refine O1 rfl ?_ rfl | refine O2 rfl ?_ | refine O3 rfl ?_ rfl | refine O4 rfl rfl rfl (fun _ _ => ?_) | refine O5 tok rfl rfl rfl (fun _ _ => ?_) | refine U0 _ (U2 rfl) rfl ?_ | refine U0 _ (U3 tok rfl rfl rfl rfl rfl) rfl ?_ | refine z3 tok rfl ?_ | refine U0 _ (U4 rfl rfl) rfl ?_ | refine U0 _ (U5 rfl rfl) rfl ?_) | (refine M1 ?_; first | refine J0 ?_ | refine J1 ?_ | refine J2 mixed rfl (by kernel_rfl) ?_ | refine J3 mixed rfl rfl (by kernel_rfl) ?_ | refine J4 ?_ | refine J5 ?_ | refine J6 ?_ | refine J7 ?_ | refine J8 rfl ?_ | refine J9 rfl ?_) | (refine M2 ?_; first | refine I0 ?_ | refine I1 ?_ | refine I2 ?_ | refine I3 ?_ | refine I4 ?_ | refine I5 ?_ | refine I6 rfl ?_ | refine I7 ?_ | refine I8 ?_ | refine z4 ?_) | (refine M3 ?_; first | refine O6 ?_ | refine z2 tok rfl ?_ | refine O8 rfl ?_ | refine O7 rfl ?_ rfl | refine O9 rfl ?_ rfl | refine U1 _ (U4 rfl rfl) rfl ?_ | refine U1 _ (U5 rfl rfl) rfl ?_ | refine U1 _ (U2 rfl) rfl ?_ | refine U1 _ (U3 tok rfl rfl rfl rfl rfl) rfl ?_) | (refine M4 ?_; first | refine M6 ?_ | refine U6 rfl (by kernel_rfl) ?_ | refine U7 (by kernel_rfl) ?_) | (refine M5 ?_; first | exact M7 | refine U8 rfl ?_ | refine U9 rfl rfl ?_ ?_))
      refine XE.round (k + 1) hkn (by omega) (by repeat (first | exact Sub.nil | refine Sub.cons rfl ?_)) (fun _ h => h)
  have hkn : k < l1.length := by simpa using h1
  have hkn3 : k < l3.length := by omega
  have hs1 := hF6.held (hList staK ⟨A1, l1.length, c1⟩ l1) (.tail _ (.tail _ (.head _)))
  have hs3 := hF6.held (hList staK ⟨A3, l3.length, c3⟩ l3) (.head _)
  obtain ⟨ad1, rfl, hf1⟩ := ListAt.addr hs1 (by decide) (by omega)
  obtain ⟨ad3, rfl, hf3⟩ := ListAt.addr hs3 (by decide) (by omega)
  have hv1 := ListAt.elem hs1 (List.getElem?_eq_getElem hkn) 0 (.int .i64 l1[k].s.vol) rfl
  have hw1 := ListAt.elem hs1 (List.getElem?_eq_getElem hkn) 1 (.slice l1[k].q.A l1[k].q.n l1[k].q.c) rfl
  have hv3 := ListAt.elem hs3 (List.getElem?_eq_getElem hkn3) 0 (.int .i64 l3[k].s.vol) rfl
  have hw3 := ListAt.elem hs3 (List.getElem?_eq_getElem hkn3) 1 (.slice l3[k].q.A l3[k].q.n l3[k].q.c) rfl
  obtain ⟨hle1, hfl1, hfl3⟩ := hle k hkn hkn3
  have hlv := hle1.vol
  have hm6 := ho.m6
  repeat (first | (refine M0 ?_; first | refine O0 ?_ | refine z1 tok rfl ?_ | refine O1 rfl ?_ rfl | refine O2 rfl ?_ | refine O3 rfl ?_ rfl | refine O4 rfl rfl rfl (fun _ _ => ?_) | refine O5 tok rfl rfl rfl (fun _ _ => ?_) | refine U0 _ (U2 rfl) rfl ?_ | refine U0 _ (U3 tok rfl rfl rfl rfl rfl) rfl ?_ | refine z3 tok rfl ?_ | refine U0 _ (U4 rfl rfl) rfl ?_ | refine U0 _ (U5 rfl rfl) rfl ?_) | (refine M1 ?_; first | refine J0 ?_ | refine J1 ?_ | refine J4 ?_ | refine J5 ?_ | refine J6 ?_ | refine J7 ?_ | refine J8 rfl ?_ | refine J9 rfl ?_) | (refine M2 ?_; first | refine I0 ?_ | refine I1 ?_ | refine I2 ?_ | refine I3 ?_ | refine I4 ?_ | refine I5 ?_ | refine I6 rfl ?_ | refine I7 ?_ | refine I8 ?_ | refine z4 ?_) | (refine M3 ?_; first | refine O6 ?_ | refine z2 tok rfl ?_ | refine O8 rfl ?_ | refine O7 rfl ?_ rfl | refine O9 rfl ?_ rfl | refine U1 _ (U4 rfl rfl) rfl ?_ | refine U1 _ (U5 rfl rfl) rfl ?_ | refine U1 _ (U2 rfl) rfl ?_ | refine U1 _ (U3 tok rfl rfl rfl rfl rfl) rfl ?_) | (refine M4 ?_; first | refine M6 ?_ | refine U6 rfl (by kernel_rfl) ?_ | refine U7 (by kernel_rfl) ?_) | (refine M5 ?_; first | exact M7 | refine U8 rfl ?_ | refine U9 rfl rfl ?_ ?_))
  repeat (first | (refine M0 ?_; first | refine O0 ?_ | refine z1 tok rfl ?_ | refine O1 rfl ?_ rfl | refine O2 rfl ?_ | refine O3 rfl ?_ rfl | refine U0 _ (Ev.load_far tok rfl rfl (add_lt2 hf1.2.1) (fun e he => by rw [add_block, add_block]; exact hf1.ne (fun e he => by simp only [List.mem_cons, List.not_mem_nil, or_false] at he; rcases he with rfl | rfl | rfl | rfl <;> simp) e he) hv1) rfl ?_ | refine U0 _ (Ev.load_far tok rfl rfl (add_lt2 hf3.2.1) (fun e he => by rw [add_block, add_block]; exact hf3.ne (fun e he => by simp only [List.mem_cons, List.not_mem_nil, or_false] at he; rcases he with rfl | rfl | rfl | rfl <;> simp) e he) hv3) rfl ?_ | refine O4 rfl rfl rfl (fun _ _ => ?_) | refine O5 tok rfl rfl rfl (fun _ _ => ?_) | refine U0 _ (U2 rfl) rfl ?_ | refine U0 _ (U3 tok rfl rfl rfl rfl rfl) rfl ?_ | refine z3 tok rfl ?_ | refine U0 _ (U4 rfl rfl) rfl ?_ | refine U0 _ (U5 rfl rfl) rfl ?_) | (refine M1 ?_; first | refine J0 ?_ | refine J1 ?_ | refine J2 mixed rfl (by kernel_rfl) ?_ | refine J3 mixed rfl rfl (by kernel_rfl) ?_ | refine J4 ?_ | refine J5 ?_ | refine J6 ?_ | refine J7 ?_ | refine J8 rfl ?_ | refine J9 rfl ?_) | (refine M2 ?_; first | refine I0 ?_ | refine I1 ?_ | refine I2 ?_ | refine I3 ?_ | refine I4 ?_ | refine I5 ?_ | refine I6 rfl ?_ | refine I7 ?_ | refine I8 ?_ | refine z4 ?_) | (refine M3 ?_; first | refine O6 ?_ | refine z2 tok rfl ?_ | refine O8 rfl ?_ | refine O7 rfl ?_ rfl | refine O9 rfl ?_ rfl | refine U1 _ (Ev.load_far tok rfl rfl (add_lt2 hf1.2.1) (fun e he => by rw [add_block, add_block]; exact hf1.ne (fun e he => by simp only [List.mem_cons, List.not_mem_nil, or_false] at he; rcases he with rfl | rfl | rfl | rfl <;> simp) e he) hv1) rfl ?_ | refine U1 _ (Ev.load_far tok rfl rfl (add_lt2 hf3.2.1) (fun e he => by rw [add_block, add_block]; exact hf3.ne (fun e he => by simp only [List.mem_cons, List.not_mem_nil, or_false] at he; rcases he with rfl | rfl | rfl | rfl <;> simp) e he) hv3) rfl ?_ | refine U1 _ (U4 rfl rfl) rfl ?_ | refine U1 _ (U5 rfl rfl) rfl ?_ | refine U1 _ (U2 rfl) rfl ?_ | refine U1 _ (U3 tok rfl rfl rfl rfl rfl) rfl ?_) | (refine M4 ?_; first | refine M6 ?_ | refine U6 rfl (by kernel_rfl) ?_ | refine U7 (by kernel_rfl) ?_) | (refine M5 ?_; first | exact M7 | refine U8 rfl ?_ | refine U9 rfl rfl ?_ ?_))
  refine Fw.split _ _ rfl (fun h => absurd (of_decide_eq_true h) (by omega)) (fun h => ?_)
  rw [h]
  repeat (first | (refine M0 ?_; first | refine O0 ?_ | refine z1 tok rfl ?_ | refine O1 rfl ?_ rfl | refine O2 rfl ?_ | refine O3 rfl ?_ rfl | refine U0 _ (Ev.load_far tok rfl rfl (add_lt2 hf1.2.1) (fun e he => by rw [add_block, add_block]; exact hf1.ne (fun e he => by simp only [List.mem_cons, List.not_mem_nil, or_false] at he; rcases he with rfl | rfl | rfl | rfl <;> simp) e he) hv1) rfl ?_ | refine U0 _ (Ev.load_far tok rfl rfl (add_lt2 hf3.2.1) (fun e he => by rw [add_block, add_block]; exact hf3.ne (fun e he => by simp only [List.mem_cons, List.not_mem_nil, or_false] at he; rcases he with rfl | rfl | rfl | rfl <;> simp) e he) hv3) rfl ?_ | refine U0 _ (Ev.load_far tok rfl rfl (add_lt2 hf1.2.1) (fun e he => by rw [add_block, add_block]; exact hf1.ne (fun e he => by simp only [List.mem_cons, List.not_mem_nil, or_false] at he; rcases he with rfl | rfl | rfl | rfl <;> simp) e he) hw1) rfl ?_ | refine U0 _ (Ev.load_far tok rfl rfl (add_lt2 hf3.2.1) (fun e he => by rw [add_block, add_block]; exact hf3.ne (fun e he => by simp only [List.mem_cons, List.not_mem_nil, or_false] at he; rcases he with rfl | rfl | rfl | rfl <;> simp) e he) hw3) rfl ?_ | refine O4 rfl rfl rfl (fun _ _ => ?_) | refine O5 tok rfl rfl rfl (fun _ _ => ?_) | refine U0 _ (U2 rfl) rfl ?_ | refine U0 _ (U3 tok rfl rfl rfl rfl rfl) rfl ?_ | refine z3 tok rfl ?_ | refine U0 _ (U4 rfl rfl) rfl ?_ | refine U0 _ (U5 rfl rfl) rfl ?_) | (refine M1 ?_; first | refine J0 ?_ | refine J1 ?_ | refine J2 mixed rfl (by kernel_rfl) ?_ | refine J3 mixed rfl rfl (by kernel_rfl) ?_ | refine J4 ?_ | refine J5 ?_ | refine J6 ?_ | refine J7 ?_ | refine J8 rfl ?_ | refine J9 rfl ?_) | (refine M2 ?_; first | refine I0 ?_ | refine I1 ?_ | refine I2 ?_ | refine I3 ?_ | refine I4 ?_ | refine I5 ?_ | refine I6 rfl ?_ | refine I7 ?_ | refine I8 ?_ | refine z4 ?_) | (refine M3 ?_; first | refine O6 ?_ | refine z2 tok rfl ?_ | refine O8 rfl ?_ | refine O7 rfl ?_ rfl | refine O9 rfl ?_ rfl | refine U1 _ (Ev.load_far tok rfl rfl (add_lt2 hf1.2.1) (fun e he => by rw [add_block, add_block]; exact hf1.ne (fun e he => by simp only [List.mem_cons, List.not_mem_nil, or_false] at he; rcases he with rfl | rfl | rfl | rfl <;> simp) e he) hv1) rfl ?_ | refine U1 _ (Ev.load_far tok rfl rfl (add_lt2 hf3.2.1) (fun e he => by rw [add_block, add_block]; exact hf3.ne (fun e he => by simp only [List.mem_cons, List.not_mem_nil, or_false] at he; rcases he with rfl | rfl | rfl | rfl <;> simp) e he) hv3) rfl ?_ | refine U1 _ (Ev.load_far tok rfl rfl (add_lt2 hf1.2.1) (fun e he => by rw [add_block, add_block]; exact hf1.ne (fun e he => by simp only [List.mem_cons, List.not_mem_nil, or_false] at he; rcases he with rfl | rfl | rfl | rfl <;> simp) e he) hw1) rfl ?_ | refine U1 _ (Ev.load_far tok rfl rfl (add_lt2 hf3.2.1) (fun e he => by rw [add_block, add_block]; exact hf3.ne (fun e he => by simp only [List.mem_cons, List.not_mem_nil, or_false] at he; rcases he with rfl | rfl | rfl | rfl <;> simp) e he) hw3) rfl ?_ | refine U1 _ (U4 rfl rfl) rfl ?_ | refine U1 _ (U5 rfl rfl) rfl ?_ | refine U1 _ (U2 rfl) rfl ?_ | refine U1 _ (U3 tok rfl rfl rfl rfl rfl) rfl ?_) | (refine M4 ?_; first | refine M6 ?_ | refine U6 rfl (by kernel_rfl) ?_ | refine U7 (by kernel_rfl) ?_) | (refine M5 ?_; first | exact M7 | refine U8 rfl ?_ | refine U9 rfl rfl ?_ ?_))
  have hq1 : IntsAt w6 _ l1[k].q l1[k].s.fil := ListAt.ins hs1 _ (List.getElem_mem hkn) (hInts l1[k].q l1[k].s.fil) (.head _)
  have hq3 : IntsAt w6 _ l3[k].q l3[k].s.fil := ListAt.ins hs3 _ (List.getElem_mem hkn3) (hInts l3[k].q l3[k].s.fil) (.head _)
  have ln1 := hq1.len
  have ln3 := hq3.len
  refine XC.cond _ rfl (fun h => absurd (of_decide_eq_true h) (by omega)) (fun h => ?_)
  repeat (first | (refine M0 ?_; first | refine O0 ?_ | refine z1 tok rfl ?_ | refine O1 rfl ?_ rfl | refine O2 rfl ?_ | refine O3 rfl ?_ rfl | refine O4 rfl rfl rfl (fun _ _ => ?_) | refine O5 tok rfl rfl rfl (fun _ _ => ?_) | refine U0 _ (U2 rfl) rfl ?_ | refine U0 _ (U3 tok rfl rfl rfl rfl rfl) rfl ?_ | refine z3 tok rfl ?_ | refine U0 _ (U4 rfl rfl) rfl ?_ | refine U0 _ (U5 rfl rfl) rfl ?_) | (refine M1 ?_; first | refine J0 ?_ | refine J1 ?_ | refine J2 mixed rfl (by kernel_rfl) ?_ | refine J3 mixed rfl rfl (by kernel_rfl) ?_ | refine J4 ?_ | refine J5 ?_ | refine J6 ?_ | refine J7 ?_ | refine J8 rfl ?_ | refine J9 rfl ?_) | (refine M2 ?_; first | refine I0 ?_ | refine I1 ?_ | refine I2 ?_ | refine I3 ?_ | refine I4 ?_ | refine I5 ?_ | refine I6 rfl ?_ | refine I7 ?_ | refine I8 ?_ | refine z4 ?_) | (refine M3 ?_; first | refine O6 ?_ | refine z2 tok rfl ?_ | refine O8 rfl ?_ | refine O7 rfl ?_ rfl | refine O9 rfl ?_ rfl | refine U1 _ (U4 rfl rfl) rfl ?_ | refine U1 _ (U5 rfl rfl) rfl ?_ | refine U1 _ (U2 rfl) rfl ?_ | refine U1 _ (U3 tok rfl rfl rfl rfl rfl) rfl ?_) | (refine M4 ?_; first | refine M6 ?_ | refine U6 rfl (by kernel_rfl) ?_ | refine U7 (by kernel_rfl) ?_) | (refine M5 ?_; first | exact M7 | refine U8 rfl ?_ | refine U9 rfl rfl ?_ ?_))
  refine XC.loopk [3, 4, 7, 8, 11, 14] rfl (fun j : Nat => [(15, .int .i64 (j : Nat))]) (fun _ => [(g7, cel 49 [.int .i64 s2.vol, .slice Aq2 nq2 cq2, .slice A8 n8 c8, .int .i64 lim]), (g5, cel 71 [.int .i64 wo.vol, .slice y.q.A y.q.n y.q.c, .slice y.r.A y.r.n y.r.c]), (g4, cel 49 [.int .i64 s.vol, .slice Aq nq cq, .slice A7 ts.length c7, .int .i64 lim]), (g3, cel 25 [.slice p.A p.n p.c, .int .i64 b.leak, .int .i64 b.crest, .int .i64 b.over, .slice p.A2 p.n2 p.c2])]) (fun _ => w6)
    (fun j => j ≤ l1[k].q.n) (fun j => l1[k].q.n - j) 0 (Nat.zero_le _) (by repeat (first | exact Sub.nil | refine Sub.cons rfl ?_)) (fun _ h => h) ?_
  rintro j hj
  dsimp only [List.cons_append, List.nil_append]
  repeat (first | (refine M0 ?_; first | refine O0 ?_ | refine z1 tok rfl ?_ | refine O1 rfl ?_ rfl | refine O2 rfl ?_ | refine O3 rfl ?_ rfl | refine U0 _ (Ev.load_far tok rfl rfl (add_lt2 hf1.2.1) (fun e he => by rw [add_block, add_block]; exact hf1.ne (fun e he => by simp only [List.mem_cons, List.not_mem_nil, or_false] at he; rcases he with rfl | rfl | rfl | rfl <;> simp) e he) hw1) rfl ?_ | refine O4 rfl rfl rfl (fun _ _ => ?_) | refine O5 tok rfl rfl rfl (fun _ _ => ?_) | refine U0 _ (U2 rfl) rfl ?_ | refine U0 _ (U3 tok rfl rfl rfl rfl rfl) rfl ?_ | refine z3 tok rfl ?_ | refine U0 _ (U4 rfl rfl) rfl ?_ | refine U0 _ (U5 rfl rfl) rfl ?_) | (refine M1 ?_; first | refine J0 ?_ | refine J1 ?_ | refine J2 mixed rfl (by kernel_rfl) ?_ | refine J3 mixed rfl rfl (by kernel_rfl) ?_ | refine J4 ?_ | refine J5 ?_ | refine J6 ?_ | refine J7 ?_ | refine J8 rfl ?_ | refine J9 rfl ?_) | (refine M2 ?_; first | refine I0 ?_ | refine I1 ?_ | refine I2 ?_ | refine I3 ?_ | refine I4 ?_ | refine I5 ?_ | refine I6 rfl ?_ | refine I7 ?_ | refine I8 ?_ | refine z4 ?_) | (refine M3 ?_; first | refine O6 ?_ | refine z2 tok rfl ?_ | refine O8 rfl ?_ | refine O7 rfl ?_ rfl | refine O9 rfl ?_ rfl | refine U1 _ (Ev.load_far tok rfl rfl (add_lt2 hf1.2.1) (fun e he => by rw [add_block, add_block]; exact hf1.ne (fun e he => by simp only [List.mem_cons, List.not_mem_nil, or_false] at he; rcases he with rfl | rfl | rfl | rfl <;> simp) e he) hw1) rfl ?_ | refine U1 _ (U4 rfl rfl) rfl ?_ | refine U1 _ (U5 rfl rfl) rfl ?_ | refine U1 _ (U2 rfl) rfl ?_ | refine U1 _ (U3 tok rfl rfl rfl rfl rfl) rfl ?_) | (refine M4 ?_; first | refine M6 ?_ | refine U6 rfl (by kernel_rfl) ?_ | refine U7 (by kernel_rfl) ?_) | (refine M5 ?_; first | exact M7 | refine U8 rfl ?_ | refine U9 rfl rfl ?_ ?_))
  refine XC.cond _ rfl (fun h2 => ?_) (fun h2 => ?_)
  rotate_left
  · repeat (first | (refine M0 ?_; first | refine O0 ?_ | refine z1 tok rfl ?_ | refine O1 rfl ?_ rfl | refine O2 rfl ?_ | refine O3 rfl ?_ rfl | refine O4 rfl rfl rfl (fun _ _ => ?_) | refine O5 tok rfl rfl rfl (fun _ _ => ?_) | refine U0 _ (U2 rfl) rfl ?_ | refine U0 _ (U3 tok rfl rfl rfl rfl rfl) rfl ?_ | refine z3 tok rfl ?_ | refine U0 _ (U4 rfl rfl) rfl ?_ | refine U0 _ (U5 rfl rfl) rfl ?_) | (refine M1 ?_; first | refine J0 ?_ | refine J1 ?_ | refine J2 mixed rfl (by kernel_rfl) ?_ | refine J3 mixed rfl rfl (by kernel_rfl) ?_ | refine J4 ?_ | refine J5 ?_ | refine J6 ?_ | refine J7 ?_ | refine J8 rfl ?_ | refine J9 rfl ?_) | (refine M2 ?_; first | refine I0 ?_ | refine I1 ?_ | refine I2 ?_ | refine I3 ?_ | refine I4 ?_ | refine I5 ?_ | refine I6 rfl ?_ | refine I7 ?_ | refine I8 ?_ | refine z4 ?_) | (refine M3 ?_; first | refine O6 ?_ | refine z2 tok rfl ?_ | refine O8 rfl ?_ | refine O7 rfl ?_ rfl | refine O9 rfl ?_ rfl | refine U1 _ (U4 rfl rfl) rfl ?_ | refine U1 _ (U5 rfl rfl) rfl ?_ | refine U1 _ (U2 rfl) rfl ?_ | refine U1 _ (U3 tok rfl rfl rfl rfl rfl) rfl ?_) | (refine M4 ?_; first | refine M6 ?_ | refine U6 rfl (by kernel_rfl) ?_ | refine U7 (by kernel_rfl) ?_) | (refine M5 ?_; first | exact M7 | refine U8 rfl ?_ | refine U9 rfl rfl ?_ ?_))
    exact XE.round (k + 1) hkn (by omega) (by repeat (first | exact Sub.nil | refine Sub.cons rfl ?_)) (fun _ h => h)
  have hjn : j < l1[k].q.n := by simpa using h2
  obtain ⟨aq1, eA1, hg1, hd1⟩ := hq1.at_ (by omega)
  obtain ⟨aq3, eA3, hg3', hd3⟩ := hq3.at_ (by omega)
  rw [eA1] at hw1
  rw [eA3] at hw3
  have hx1 := hd1 j (by omega)
  have hx3 := hd3 j (by omega)
  repeat (first | (refine M0 ?_; first | refine O0 ?_ | refine z1 tok rfl ?_ | refine O1 rfl ?_ rfl | refine O2 rfl ?_ | refine O3 rfl ?_ rfl | refine U0 _ (Ev.load_far tok rfl rfl (add_lt2 hf1.2.1) (fun e he => by rw [add_block, add_block]; exact hf1.ne (fun e he => by simp only [List.mem_cons, List.not_mem_nil, or_false] at he; rcases he with rfl | rfl | rfl | rfl <;> simp) e he) hw1) rfl ?_ | refine U0 _ (Ev.load_far tok rfl rfl (add_lt2 hf3.2.1) (fun e he => by rw [add_block, add_block]; exact hf3.ne (fun e he => by simp only [List.mem_cons, List.not_mem_nil, or_false] at he; rcases he with rfl | rfl | rfl | rfl <;> simp) e he) hw3) rfl ?_ | refine U0 _ (Ev.load_far tok rfl rfl (add_lt hg1.2.1) (fun e he => by rw [add_block]; exact hg1.ne (fun e he => by simp only [List.mem_cons, List.not_mem_nil, or_false] at he; rcases he with rfl | rfl | rfl | rfl <;> simp) e he) hx1) rfl ?_ | refine U0 _ (Ev.load_far tok rfl rfl (add_lt hg3'.2.1) (fun e he => by rw [add_block]; exact hg3'.ne (fun e he => by simp only [List.mem_cons, List.not_mem_nil, or_false] at he; rcases he with rfl | rfl | rfl | rfl <;> simp) e he) hx3) rfl ?_ | refine O4 rfl rfl rfl (fun _ _ => ?_) | refine O5 tok rfl rfl rfl (fun _ _ => ?_) | refine U0 _ (U2 rfl) rfl ?_ | refine U0 _ (U3 tok rfl rfl rfl rfl rfl) rfl ?_ | refine z3 tok rfl ?_ | refine U0 _ (U4 rfl rfl) rfl ?_ | refine U0 _ (U5 rfl rfl) rfl ?_) | (refine M1 ?_; first | refine J0 ?_ | refine J1 ?_ | refine J2 mixed rfl (by kernel_rfl) ?_ | refine J3 mixed rfl rfl (by kernel_rfl) ?_ | refine J4 ?_ | refine J5 ?_ | refine J6 ?_ | refine J7 ?_ | refine J8 rfl ?_ | refine J9 rfl ?_) | (refine M2 ?_; first | refine I0 ?_ | refine I1 ?_ | refine I2 ?_ | refine I3 ?_ | refine I4 ?_ | refine I5 ?_ | refine I6 rfl ?_ | refine I7 ?_ | refine I8 ?_ | refine z4 ?_) | (refine M3 ?_; first | refine O6 ?_ | refine z2 tok rfl ?_ | refine O8 rfl ?_ | refine O7 rfl ?_ rfl | refine O9 rfl ?_ rfl | refine U1 _ (Ev.load_far tok rfl rfl (add_lt2 hf1.2.1) (fun e he => by rw [add_block, add_block]; exact hf1.ne (fun e he => by simp only [List.mem_cons, List.not_mem_nil, or_false] at he; rcases he with rfl | rfl | rfl | rfl <;> simp) e he) hw1) rfl ?_ | refine U1 _ (Ev.load_far tok rfl rfl (add_lt2 hf3.2.1) (fun e he => by rw [add_block, add_block]; exact hf3.ne (fun e he => by simp only [List.mem_cons, List.not_mem_nil, or_false] at he; rcases he with rfl | rfl | rfl | rfl <;> simp) e he) hw3) rfl ?_ | refine U1 _ (Ev.load_far tok rfl rfl (add_lt hg1.2.1) (fun e he => by rw [add_block]; exact hg1.ne (fun e he => by simp only [List.mem_cons, List.not_mem_nil, or_false] at he; rcases he with rfl | rfl | rfl | rfl <;> simp) e he) hx1) rfl ?_ | refine U1 _ (Ev.load_far tok rfl rfl (add_lt hg3'.2.1) (fun e he => by rw [add_block]; exact hg3'.ne (fun e he => by simp only [List.mem_cons, List.not_mem_nil, or_false] at he; rcases he with rfl | rfl | rfl | rfl <;> simp) e he) hx3) rfl ?_ | refine U1 _ (U4 rfl rfl) rfl ?_ | refine U1 _ (U5 rfl rfl) rfl ?_ | refine U1 _ (U2 rfl) rfl ?_ | refine U1 _ (U3 tok rfl rfl rfl rfl rfl) rfl ?_) | (refine M4 ?_; first | refine M6 ?_ | refine U6 rfl (by kernel_rfl) ?_ | refine U7 (by kernel_rfl) ?_) | (refine M5 ?_; first | exact M7 | refine U8 rfl ?_ | refine U9 rfl rfl ?_ ?_))
  refine XC.cond _ rfl (fun h => absurd (of_decide_eq_true h) (Int.not_lt.2 (hle1.fil j (by omega)))) (fun h => ?_)
  repeat (first | (refine M0 ?_; first | refine O0 ?_ | refine z1 tok rfl ?_ | refine O1 rfl ?_ rfl | refine O2 rfl ?_ | refine O3 rfl ?_ rfl | refine O4 rfl rfl rfl (fun _ _ => ?_) | refine O5 tok rfl rfl rfl (fun _ _ => ?_) | refine U0 _ (U2 rfl) rfl ?_ | refine U0 _ (U3 tok rfl rfl rfl rfl rfl) rfl ?_ | refine z3 tok rfl ?_ | refine U0 _ (U4 rfl rfl) rfl ?_ | refine U0 _ (U5 rfl rfl) rfl ?_) | (refine M1 ?_; first | refine J0 ?_ | refine J1 ?_ | refine J2 mixed rfl (by kernel_rfl) ?_ | refine J3 mixed rfl rfl (by kernel_rfl) ?_ | refine J4 ?_ | refine J5 ?_ | refine J6 ?_ | refine J7 ?_ | refine J8 rfl ?_ | refine J9 rfl ?_) | (refine M2 ?_; first | refine I0 ?_ | refine I1 ?_ | refine I2 ?_ | refine I3 ?_ | refine I4 ?_ | refine I5 ?_ | refine I6 rfl ?_ | refine I7 ?_ | refine I8 ?_ | refine z4 ?_) | (refine M3 ?_; first | refine O6 ?_ | refine z2 tok rfl ?_ | refine O8 rfl ?_ | refine O7 rfl ?_ rfl | refine O9 rfl ?_ rfl | refine U1 _ (U4 rfl rfl) rfl ?_ | refine U1 _ (U5 rfl rfl) rfl ?_ | refine U1 _ (U2 rfl) rfl ?_ | refine U1 _ (U3 tok rfl rfl rfl rfl rfl) rfl ?_) | (refine M4 ?_; first | refine M6 ?_ | refine U6 rfl (by kernel_rfl) ?_ | refine U7 (by kernel_rfl) ?_) | (refine M5 ?_; first | exact M7 | refine U8 rfl ?_ | refine U9 rfl rfl ?_ ?_))
  exact XE.round (j + 1) hjn (by omega) (by repeat (first | exact Sub.nil | refine Sub.cons rfl ?_)) (fun _ h => h)
end Go.Proofs.YtoiepgcjinccpaaDoor.X
/-
  From the reading of the arguments to how they lie in memory.
-/
namespace Go.Proofs.YtoiepgcjinccpaaDoor.X
open Go Go.RowKit Go.Proofs.YtoiepgcjinccpaaDoor.Bs Go.WideShapes Go.ChangeShapes
set_option linter.unusedVariables false
section
variable {H : Type} {enc : TypeId × Value → H} {P : Program} {w : World} {base : Nat} {spare : Nat → Bool} {held : Bool}
/-- a field of one cell. -/
theorem fieldR {t : TypeId} {fs : Array Field} {fuel : Nat} {cs : List Value} {x : DataW H × List MemPlace} (ht : P.underlying t = some (.struct fs)) (h : DataW.trod enc P w base spare held fuel t cs = some x) :
    cs.length = P.cellsOf t ∧ ∃ n, ∀ (i : Nat) (f : Field), fs[i]? = some f → P.cellsOf f.type = 1 → f.offset < cs.length → ∃ c y, cs[f.offset]? = some c ∧ DataW.trod enc P w base spare held n f.type [c] = some y := by
  obtain ⟨xs, n, _, rfl, hl, hlen, hf⟩ := DataW.trod_struct ht h
  refine ⟨hl, n, fun i f hi hc ho => ?_⟩
  have h1 := hf i f hi
  have hi' : i < xs.length := by rw [hlen]; exact (Array.getElem?_eq_some_iff.1 hi).1
  rw [hc, List.getElem?_eq_getElem hi'] at h1
  refine ⟨cs[f.offset], xs[i], List.getElem?_eq_getElem ho, ?_⟩
  rw [List.drop_eq_getElem_cons ho, List.take_succ_cons, List.take_zero] at h1
  exact h1
theorem choose_list {α : Type} {p : Nat → α → Prop} : ∀ n : Nat, (∀ i, i < n → ∃ b, p i b) → ∃ l : List α, l.length = n ∧ ∀ i b, l[i]? = some b → p i b := by
  intro n
  induction n with
  | zero => intro _; exact ⟨[], rfl, fun i b hb => by cases hb⟩
  | succ k ih =>
    intro hall
    obtain ⟨l, h1, h2⟩ := ih fun i hi => hall i (by omega)
    obtain ⟨b, h3⟩ := hall k (by omega)
    refine ⟨l ++ [b], by simp [h1], fun i c hc => ?_⟩
    rcases Nat.lt_or_ge i l.length with hi | hi
    · rw [List.getElem?_append_left hi] at hc
      exact h2 i c hc
    · have hi' : i < (l ++ [b]).length := (List.getElem?_eq_some_iff.1 hc).1
      have : i = l.length := by simp at hi'; omega
      subst this
      simp at hc
      subst hc
      rw [h1]
      exact h3
/-- a slice of elements that are decoded by C. -/
theorem sliceR {α : Type} {C : α → List Value} {G : α → Prop} {t e : TypeId} {m fuel : Nat} {cs : List Value} {x : DataW H × List MemPlace} (ht : P.underlying t = some (.slice e)) (he : P.cellsOf e = m)
    (hd : ∀ n cs x, DataW.trod enc P w base spare held n e cs = some x → ∃ a, cs = C a ∧ G a) (hm : ∀ a, (C a).length = m) (h0 : 0 < m) (h : DataW.trod enc P w base spare held fuel t cs = some x) :
    ∃ (A : Option Addr) (n c : Nat) (l : List α), cs = [.slice A n c] ∧ Reads w w.heap.size m A n (l.flatMap C) ∧ n ≤ c ∧ c ≤ maxLen ∧ ∀ a, a ∈ l → G a := by
  rcases Go.Deep.open_slice ht h with ⟨rfl, _⟩ | ⟨a, len, cap, m', n', D, Pl, rfl, hb, hl, hcm, hmm, _, hx⟩
  · exact ⟨none, 0, 0, [], rfl, Reads.none_, Nat.le_refl _, Nat.zero_le _, fun a ha => by cases ha⟩
  · rw [he] at hx
    have hlm : len ≤ m' := by rw [hmm]; split <;> omega
    have hall : ∀ i, i < len → ∃ b : α, w.cells? base (a.add (i * m)) m = some (C b) ∧ G b := fun i hi => by
      obtain ⟨cs', h1, h2⟩ := hx i (by omega)
      obtain ⟨b, rfl, hg⟩ := hd _ _ _ h2
      exact ⟨b, h1, hg⟩
    obtain ⟨l, hll, hlx⟩ := choose_list len hall
    refine ⟨some a, len, cap, l, rfl, ⟨by rw [flat_len C m hm, hll], fun hn => ?_⟩, hl, hcm, fun b hb => ?_⟩
    · have hcell : ∀ j u, (l.flatMap C)[j]? = some u → w.cell? (a.add j) = some u := fun j u hj => by
        have hjl : j < (l.flatMap C).length := (List.getElem?_eq_some_iff.1 hj).1
        rw [flat_len C m hm] at hjl
        have hdm := Nat.div_add_mod j m
        have hlt : j / m < l.length := Nat.div_lt_of_lt_mul (by rw [Nat.mul_comm]; exact hjl)
        have hb : l[j / m]? = some l[j / m] := List.getElem?_eq_getElem hlt
        have h1 := flat_at C m hm l (j / m) (j % m) _ hb (Nat.mod_lt _ h0)
        rw [show j / m * m + j % m = j by rw [Nat.mul_comm]; exact hdm, hj] at h1
        obtain ⟨_, _, h2⟩ := World.cells?_some (hlx _ _ hb).1
        have h3 := h2 (j % m) (Nat.mod_lt _ h0)
        rw [add_add, show j / m * m + j % m = j by rw [Nat.mul_comm]; exact hdm, ← h1] at h3
        exact h3
      refine ⟨a, rfl, ?_, hcell⟩
      obtain ⟨b, h1, _⟩ := hall 0 hn
      have := World.cells?_block h1 h0
      simpa [add_block] using this
    · obtain ⟨i, hi, rfl⟩ := List.mem_iff_getElem.1 hb
      exact (hlx i _ (List.getElem?_eq_getElem hi)).2
end
section
variable {H : Type} {enc : TypeId × Value → H} {w : World} {base : Nat} {spare : Nat → Bool} {held : Bool} {fuel : Nat} {cs : List Value} {x : DataW H × List MemPlace}
theorem intR {n : Nat} {c : Value} {y : DataW H × List MemPlace} (h : DataW.trod enc Tryd.prog w base spare held n 3 [c] = some y) : ∃ k : Int, c = .int .i64 k := by
  obtain ⟨k, e, _⟩ := DataW.trod_int Tryd.underlying3 h
  exact ⟨k, by simpa using e⟩
theorem strR {n : Nat} {c : Value} {y : DataW H × List MemPlace} (h : DataW.trod enc Tryd.prog w base spare held n 9 [c] = some y) : ∃ s : ByteArray, c = .string s ∧ s.size ≤ maxLen := by
  obtain ⟨s, e, _, hs⟩ := DataW.trod_string Tryd.underlying9 h
  exact ⟨s, by simpa using e, hs⟩
theorem c_int : (Tryd.prog).cellsOf 3 = 1 := by kernel_rfl
theorem c_str : (Tryd.prog).cellsOf 9 = 1 := by kernel_rfl
theorem c_row : (Tryd.prog).cellsOf 67 = 2 := by kernel_rfl
theorem c_pol : (Tryd.prog).cellsOf 76 = 4 := by kernel_rfl
theorem c_tick : (Tryd.prog).cellsOf 30 = 3 := by kernel_rfl
theorem c_bas : (Tryd.prog).cellsOf 25 = 5 := by kernel_rfl
theorem c_sta : (Tryd.prog).cellsOf 28 = 2 := by kernel_rfl
theorem c_rows : (Tryd.prog).cellsOf 22 = 1 := by kernel_rfl
theorem c_pols : (Tryd.prog).cellsOf 23 = 1 := by kernel_rfl
theorem c_ints : (Tryd.prog).cellsOf 26 = 1 := by kernel_rfl
theorem rowR (h : DataW.trod enc Tryd.prog w base spare held fuel 67 cs = some x) : ∃ r : Row, cs = rowC r := by
  obtain ⟨hl, n, hf⟩ := fieldR Tryd.underlying67 h
  rw [c_row] at hl
  match cs, hl with
  | [c0, c1], _ =>
    obtain ⟨d0, y0, e0, h0⟩ := hf 0 _ rfl c_int (Nat.le_of_ble_eq_true rfl)
    obtain ⟨d1, y1, e1, h1⟩ := hf 1 _ rfl c_int (Nat.le_of_ble_eq_true rfl)
    obtain ⟨k0, rfl⟩ := intR h0
    obtain ⟨k1, rfl⟩ := intR h1
    cases e0; cases e1
    exact ⟨⟨k0, k1⟩, rfl⟩
theorem polR (h : DataW.trod enc Tryd.prog w base spare held fuel 76 cs = some x) : ∃ r : Pol, cs = polC r ∧ r.name.size ≤ maxLen := by
  obtain ⟨hl, n, hf⟩ := fieldR Tryd.underlying76 h
  rw [c_pol] at hl
  match cs, hl with
  | [c0, c1, c2, c3], _ =>
    obtain ⟨d0, y0, e0, h0⟩ := hf 0 _ rfl c_str (Nat.le_of_ble_eq_true rfl)
    obtain ⟨d1, y1, e1, h1⟩ := hf 1 _ rfl c_int (Nat.le_of_ble_eq_true rfl)
    obtain ⟨d2, y2, e2, h2⟩ := hf 2 _ rfl c_int (Nat.le_of_ble_eq_true rfl)
    obtain ⟨d3, y3, e3, h3⟩ := hf 3 _ rfl c_int (Nat.le_of_ble_eq_true rfl)
    obtain ⟨s, rfl, hs⟩ := strR h0
    obtain ⟨k1, rfl⟩ := intR h1
    obtain ⟨k2, rfl⟩ := intR h2
    obtain ⟨k3, rfl⟩ := intR h3
    cases e0; cases e1; cases e2; cases e3
    exact ⟨⟨s, k1, k2, k3⟩, rfl, hs⟩
theorem tickR (h : DataW.trod enc Tryd.prog w base spare held fuel 30 cs = some x) : ∃ r : Tick, cs = tickC r := by
  obtain ⟨hl, n, hf⟩ := fieldR Tryd.underlying30 h
  rw [c_tick] at hl
  match cs, hl with
  | [c0, c1, c2], _ =>
    obtain ⟨d0, y0, e0, h0⟩ := hf 0 _ rfl c_int (Nat.le_of_ble_eq_true rfl)
    obtain ⟨d1, y1, e1, h1⟩ := hf 1 _ rfl c_int (Nat.le_of_ble_eq_true rfl)
    obtain ⟨d2, y2, e2, h2⟩ := hf 2 _ rfl c_int (Nat.le_of_ble_eq_true rfl)
    obtain ⟨k0, rfl⟩ := intR h0
    obtain ⟨k1, rfl⟩ := intR h1
    obtain ⟨k2, rfl⟩ := intR h2
    cases e0; cases e1; cases e2
    exact ⟨⟨k0, k1, k2⟩, rfl⟩
theorem ints_flat (l : List Int) : l.flatMap (fun k : Int => [Value.int .i64 k]) = ints l := by
  unfold ints
  induction l with
  | nil => rfl
  | cons a l ih => rw [List.flatMap_cons, ih]; rfl
theorem intsR (h : DataW.trod enc Tryd.prog w base spare held fuel 26 cs = some x) : ∃ (q : SV) (l : List Int), cs = [svV q] ∧ IntsAt w (Lt w.heap.size) q l := by
  obtain ⟨A, n, c, l, rfl, hr, hnc, hcm, _⟩ := sliceR (C := fun k : Int => [.int .i64 k]) (G := fun _ => True) Tryd.underlying26 c_int (fun n cs x h => by
    obtain ⟨k, e, _⟩ := DataW.trod_int Tryd.underlying3 h
    exact ⟨k, e, trivial⟩) (fun _ => rfl) (by decide) h
  refine ⟨⟨A, n, c⟩, l, rfl, ?_, by simp only; unfold maxLen at hcm; omega⟩
  have := ints_flat l
  rw [this] at hr
  exact ReadsP.of hr
theorem staR (h : DataW.trod enc Tryd.prog w base spare held fuel 28 cs = some x) : ∃ (q : SV) (s : Sta), cs = staC q s ∧ IntsAt w (Lt w.heap.size) q s.fil := by
  obtain ⟨hl, n, hf⟩ := fieldR Tryd.underlying28 h
  rw [c_sta] at hl
  match cs, hl with
  | [c0, c1], _ =>
    obtain ⟨d0, y0, e0, h0⟩ := hf 0 _ rfl c_int (Nat.le_of_ble_eq_true rfl)
    obtain ⟨d1, y1, e1, h1⟩ := hf 1 _ rfl c_ints (Nat.le_of_ble_eq_true rfl)
    obtain ⟨k0, rfl⟩ := intR h0
    obtain ⟨q, l, e, hq⟩ := intsR h1
    cases e0; cases e1; cases e
    exact ⟨q, ⟨k0, l⟩, rfl, hq⟩
theorem basR (h : DataW.trod enc Tryd.prog w base spare held fuel 25 cs = some x) : ∃ (p : BV) (b : Bas), cs = basC p b ∧ BasAt w w.heap.size p b := by
  obtain ⟨hl, n, hf⟩ := fieldR Tryd.underlying25 h
  rw [c_bas] at hl
  match cs, hl with
  | [c0, c1, c2, c3, c4], _ =>
    obtain ⟨d0, y0, e0, h0⟩ := hf 0 _ rfl c_rows (Nat.le_of_ble_eq_true rfl)
    obtain ⟨d1, y1, e1, h1⟩ := hf 1 _ rfl c_int (Nat.le_of_ble_eq_true rfl)
    obtain ⟨d2, y2, e2, h2⟩ := hf 2 _ rfl c_int (Nat.le_of_ble_eq_true rfl)
    obtain ⟨d3, y3, e3, h3⟩ := hf 3 _ rfl c_int (Nat.le_of_ble_eq_true rfl)
    obtain ⟨d4, y4, e4, h4⟩ := hf 4 _ rfl c_pols (Nat.le_of_ble_eq_true rfl)
    obtain ⟨k1, rfl⟩ := intR h1
    obtain ⟨k2, rfl⟩ := intR h2
    obtain ⟨k3, rfl⟩ := intR h3
    obtain ⟨A, n1, cc, l, e5, hr, hnc, hcm, _⟩ := sliceR (C := rowC) (G := fun _ => True) Tryd.underlying22 c_row (fun n cs x h => by
      obtain ⟨k, e⟩ := rowR h
      exact ⟨k, e, trivial⟩) rowC_len (by decide) h0
    obtain ⟨A2, n2, cc2, l2, e6, hr2, hnc2, hcm2, hg⟩ := sliceR (C := polC) (G := fun r => r.name.size ≤ maxLen) Tryd.underlying23 c_pol (fun n cs x h => polR h) polC_len (by decide) h4
    cases e0; cases e1; cases e2; cases e3; cases e4; cases e5; cases e6
    refine ⟨⟨A, n1, cc, A2, n2, cc2⟩, ⟨l, k1, k2, k3, l2⟩, rfl, hr, hr2, hnc, ?_, ?_, fun r hr => ?_⟩
    · simp only; unfold maxLen at hcm; omega
    · simp only; unfold maxLen at hcm2; omega
    · have := hg r hr
      unfold maxLen at this; omega
end
end Go.Proofs.YtoiepgcjinccpaaDoor.X
/-
  From the reading of the arguments to how they lie in memory: ticks, numbers, cases.
-/
namespace Go.Proofs.YtoiepgcjinccpaaDoor.X
open Go Go.RowKit Go.Proofs.YtoiepgcjinccpaaDoor.Bs Go.WideShapes Go.ChangeShapes
set_option linter.unusedVariables false
section
variable {H : Type} {enc : TypeId × Value → H} {w : World} {base : Nat} {spare : Nat → Bool} {held : Bool} {fuel : Nat} {cs : List Value} {x : DataW H × List MemPlace}
theorem tksR (h : DataW.trod enc Tryd.prog w base spare held fuel 41 cs = some x) : ∃ (r : SV) (ts : List Tick), cs = [svV r] ∧ TksAt w (Lt w.heap.size) r ts := by
  obtain ⟨A, n, c, l, rfl, hr, hnc, hcm, _⟩ := sliceR (C := tickC) (G := fun _ => True) Tryd.underlying41 c_tick (fun n cs x h => by
    obtain ⟨k, e⟩ := tickR h
    exact ⟨k, e, trivial⟩) (fun _ => rfl) (by decide) h
  exact ⟨⟨A, n, c⟩, l, rfl, ReadsP.of hr, by simp only; unfold maxLen at hcm; omega⟩
/-- the fields, of however many cells. -/
theorem fieldN {P : Program} {t : TypeId} {fs : Array Field} (ht : P.underlying t = some (.struct fs)) (h : DataW.trod enc P w base spare held fuel t cs = some x) :
    cs.length = P.cellsOf t ∧ ∃ n, ∀ (i : Nat) (f : Field) (u : TypeId) (o m : Nat), fs[i]? = some f → f.type = u → f.offset = o → P.cellsOf u = m → ∃ y, DataW.trod enc P w base spare held n u ((cs.drop o).take m) = some y := by
  obtain ⟨xs, n, _, rfl, hl, hlen, hf⟩ := DataW.trod_struct ht h
  refine ⟨hl, n, fun i f u o m hi hu ho hm => ?_⟩
  subst hu ho hm
  have h1 := hf i f hi
  have hi' : i < xs.length := by rw [hlen]; exact (Array.getElem?_eq_some_iff.1 hi).1
  rw [List.getElem?_eq_getElem hi'] at h1
  exact ⟨xs[i], h1⟩
/-- a number. -/
theorem intR' (h : DataW.trod enc Tryd.prog w base spare held fuel 3 cs = some x) : ∃ k : Int, cs = [.int .i64 k] := by
  obtain ⟨k, e, _⟩ := DataW.trod_int Tryd.underlying3 h
  exact ⟨k, e⟩
end
end Go.Proofs.YtoiepgcjinccpaaDoor.X
