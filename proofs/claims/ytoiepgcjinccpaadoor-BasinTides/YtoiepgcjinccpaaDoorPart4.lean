/-
  Rows of the call's own that grow, and what else was made in the call: one word for all of it.
-/
import Derived.Test.YtoiepgcjinccpaaDoorPart3
import Derived.Test.YtoiepgcjinccpaaDoorPart1
import Derived.Test.YtoiepgcjinccpaaDoorPart2
import Derived.Laws.StructEq
import Derived.Laws.MakeOwn
set_option linter.unusedVariables false
set_option linter.unusedSimpArgs false
namespace Go.Proofs.YtoiepgcjinccpaaDoor.X
open Go Go.RowKit
set_option linter.unusedVariables false
/-- something in memory, told of some blocks alone. -/
structure Held where
  p : World → (Nat → Prop) → Prop
  keep : ∀ {w w' : World} {ok : Nat → Prop}, p w ok → (∀ k, ok k → w'.heap[k]? = w.heap[k]?) → p w' ok
  mono : ∀ {w : World} {ok ok' : Nat → Prop}, p w ok → (∀ k, ok k → ok' k) → p w ok'
/-- a kind of elements: their type, how many cells they take, which; and what they point to. -/
structure Kind (α : Type) where
  ty : TypeId
  m : Nat
  c : α → List Value
  sl : α → List Held
  len : ∀ a, (c a).length = m
/-- a slice that is read. -/
structure ListAt {α : Type} (K : Kind α) (W : World) (ok : Nat → Prop) (r : SV) (l : List α) : Prop where
  rd : ReadsP W ok K.m r.A r.n (l.flatMap K.c)
  max : r.n ≤ 9223372036854775807
  ins : ∀ a, a ∈ l → ∀ h, h ∈ K.sl a → h.p W ok
section
variable {α : Type} {K : Kind α} {w w' w0 W : World} {ok ok' : Nat → Prop} {B : Nat} {r : SV} {l : List α} {L : Lo}
theorem ListAt.keep (h : ListAt K w ok r l) (hk : ∀ k, ok k → w'.heap[k]? = w.heap[k]?) : ListAt K w' ok r l := ⟨h.rd.keep hk, h.max, fun a ha x hx => x.keep (h.ins a ha x hx) hk⟩
theorem ListAt.mono (h : ListAt K w ok r l) (hk : ∀ k, ok k → ok' k) : ListAt K w ok' r l := ⟨h.rd.mono hk, h.max, fun a ha x hx => x.mono (h.ins a ha x hx) hk⟩
theorem ListAt.sys (h : ListAt K w0 ok r l) (S : Sys B w0 L w) (hk : Keep ok w0 L) : ListAt K w (Lt w.heap.size) r l := (h.keep (hk.sys S)).mono (hk.lt S)
theorem ListAt.arg (h : ListAt K w0 (Lt B) r l) (S : Sys B w0 L w) : ListAt K w (Lt w.heap.size) r l := h.sys S (Keep.arg S)
theorem ListAt.below (h : ListAt K w (Lt B) r l) (hb : Below B w w') : ListAt K w' (Lt B) r l := h.keep fun k hk => hb.block k hk
theorem ListAt.len (h : ListAt K w ok r l) (h0 : 0 < K.m) : r.n = l.length := by
  have := h.rd.len
  rw [flat_len K.c K.m K.len] at this
  exact (Nat.eq_of_mul_eq_mul_right h0 this).symm
theorem ListAt.nil : ListAt K w ok ⟨none, 0, 0⟩ [] := ⟨ReadsP.nil, Nat.zero_le _, fun a ha => by cases ha⟩
/-- an element's cells. -/
theorem ListAt.elem {ad : Addr} {n c : Nat} (h : ListAt K w ok ⟨some ad, n, c⟩ l) {k : Nat} {a : α} (hk : l[k]? = some a) : ∀ j u, (K.c a)[j]? = some u → w.cell? ((ad.add (k * K.m)).add j) = some u := fun j u hj => by
  have hj3 : j < K.m := by have := (List.getElem?_eq_some_iff.1 hj).1; rwa [K.len] at this
  have hn := h.len (by omega)
  have hkl := (List.getElem?_eq_some_iff.1 hk).1
  obtain ⟨ad', e, _, h1⟩ := h.rd.at_ (by simp only at hn ⊢; omega)
  cases e
  have e2 := flat_at K.c K.m K.len l k j a hk hj3
  have := h1 (k * K.m + j) u (e2.trans hj)
  rw [add_add]
  exact this
/-- its block. -/
theorem ListAt.addr {A : Option Addr} {n c : Nat} (h : ListAt K w ok ⟨A, n, c⟩ l) (h0 : 0 < K.m) (hn : 0 < l.length) : ∃ ad, A = some ad ∧ ok ad.block := by
  have := h.len h0
  obtain ⟨ad, e, h1, _⟩ := h.rd.at_ (by simp only at this ⊢; omega)
  exact ⟨ad, e, h1⟩
end
theorem owns_move' {W W' : World} {v : Value} {base e size n : Nat} {xs : List Value} (h : W.ownsRow base e size v n xs) (hk : ∀ k, v.ownBlock = some k → W'.heap[k]? = W.heap[k]?) : W'.ownsRow base e size v n xs := by
  refine ⟨h.1, ?_⟩
  rcases h.2 with h1 | ⟨g, cap, cur, rfl, hb, hg, h1⟩
  · exact .inl h1
  · exact .inr ⟨g, cap, cur, rfl, hb, by rw [hk g rfl]; exact hg, h1⟩
def hList {α : Type} (K : Kind α) (r : SV) (l : List α) : Held := ⟨fun w ok => ListAt K w ok r l, ListAt.keep, ListAt.mono⟩
def hInts (q : SV) (l : List Int) : Held := ⟨fun w ok => IntsAt w ok q l, IntsAt.keep, IntsAt.mono⟩
/-- a row that grows. -/
structure RowX where
  α : Type
  K : Kind α
  v : Value
  l : List α
/-- made in the call, and none of these. -/
def Free (W : World) (b0 : Nat) (ks : List Nat) (rs : List RowX) (j : Nat) : Prop := b0 ≤ j ∧ j < W.heap.size ∧ j ∉ ks ∧ ∀ r, r ∈ rs → r.v.ownBlock ≠ some j
/-- THE ROWS rs AND WHAT ELSE WAS MADE SINCE b0 (hs); ks: blocks that are none of theirs. -/
structure Fam (W : World) (b0 : Nat) (ks : List Nat) (rs : List RowX) (hs : List Held) : Prop where
  base : b0 ≤ W.heap.size
  row : ∀ r, r ∈ rs → W.ownsRow b0 r.K.ty r.K.m r.v r.l.length (r.l.flatMap r.K.c)
  sep : ∀ r, r ∈ rs → ∀ k, r.v.ownBlock = some k → k ∉ ks
  two : rs.Pairwise fun r s => ∀ k, r.v.ownBlock = some k → s.v.ownBlock ≠ some k
  ins : ∀ r, r ∈ rs → ∀ a, a ∈ r.l → ∀ h, h ∈ r.K.sl a → h.p W (Free W b0 ks rs)
  held : ∀ h, h ∈ hs → h.p W (Free W b0 ks rs)
section
variable {W W' w w0 w1 w2 : World} {b0 B : Nat} {ks ks' : List Nat} {rs : List RowX} {hs hs' : List Held} {L : Lo}
theorem Fam.start (h : b0 ≤ W.heap.size) : Fam W b0 ks [] [] := ⟨h, fun _ h => (by cases h), fun _ h => (by cases h), .nil, fun _ h => (by cases h), fun _ h => (by cases h)⟩
theorem Fam.lt (h : Fam W b0 ks rs hs) {r : RowX} (hr : r ∈ rs) {k : Nat} (hk : r.v.ownBlock = some k) : b0 ≤ k ∧ k < W.heap.size := (h.row r hr).lt k hk
theorem Fam.nil {α : Type} (K : Kind α) (h : Fam W b0 ks rs hs) : Fam W b0 ks (⟨α, K, .slice none 0 0, []⟩ :: rs) hs := by
  have hf : ∀ j, Free W b0 ks rs j → Free W b0 ks (⟨α, K, .slice none 0 0, []⟩ :: rs) j := fun j hj => ⟨hj.1, hj.2.1, hj.2.2.1, fun r hr => by
    rcases List.mem_cons.1 hr with rfl | hr
    · simp [Value.ownBlock]
    · exact hj.2.2.2 r hr⟩
  refine ⟨h.base, fun r hr => ?_, fun r hr k hk => ?_, .cons (fun s hs k hk => by cases hk) h.two, fun r hr a ha x hx => ?_, fun x hx => x.mono (h.held x hx) hf⟩
  · rcases List.mem_cons.1 hr with rfl | hr
    · exact World.ownsRow_nil _ _ _ _
    · exact h.row r hr
  · rcases List.mem_cons.1 hr with rfl | hr
    · cases hk
    · exact h.sep r hr k hk
  · rcases List.mem_cons.1 hr with rfl | hr
    · cases ha
    · exact x.mono (h.ins r hr a ha x hx) hf
theorem Fam.hold (h : Fam W b0 ks rs hs) {x : Held} {ok : Nat → Prop} (hx : x.p W ok) (hk : ∀ j, ok j → Free W b0 ks rs j) : Fam W b0 ks rs (x :: hs) :=
  ⟨h.base, h.row, h.sep, h.two, h.ins, fun y hy => by
    rcases List.mem_cons.1 hy with rfl | hy
    · exact y.mono hx hk
    · exact h.held y hy⟩
theorem Fam.forget (h : Fam W b0 ks rs hs) (hh : ∀ x, x ∈ hs' → x ∈ hs) : Fam W b0 ks rs hs' := ⟨h.base, h.row, h.sep, h.two, h.ins, fun y hy => h.held y (hh y hy)⟩
/-- the own blocks may be others. -/
theorem Fam.add (h : Fam W b0 ks rs hs) (hk : ∀ k, k ∈ ks' → k ∈ ks ∨ W.heap.size ≤ k) : Fam W b0 ks' rs hs := by
  have hf : ∀ j, Free W b0 ks rs j → Free W b0 ks' rs j := fun j hj => ⟨hj.1, hj.2.1, fun h1 => by
    rcases hk j h1 with h2 | h2
    · exact hj.2.2.1 h2
    · have := hj.2.1; omega, hj.2.2.2⟩
  exact ⟨h.base, h.row, fun r hr k h1 h2 => by
    rcases hk k h2 with h3 | h3
    · exact h.sep r hr k h1 h3
    · have := (h.lt hr h1).2; omega, h.two, fun r hr a ha x hx => x.mono (h.ins r hr a ha x hx) hf, fun x hx => x.mono (h.held x hx) hf⟩
theorem Fam.move (h : Fam W b0 ks rs hs) (hsz : W.heap.size ≤ W'.heap.size) (ho : ∀ j, j < W.heap.size → j ∉ ks → W'.heap[j]? = W.heap[j]?) : Fam W' b0 ks rs hs := by
  have hf : ∀ j, Free W b0 ks rs j → Free W' b0 ks rs j := fun j hj => ⟨hj.1, by have := hj.2.1; omega, hj.2.2⟩
  have hk : ∀ j, Free W b0 ks rs j → W'.heap[j]? = W.heap[j]? := fun j hj => ho j hj.2.1 hj.2.2.1
  exact ⟨Nat.le_trans h.base hsz, fun r hr => owns_move' (h.row r hr) fun k h1 => ho k (h.lt hr h1).2 (h.sep r hr k h1), h.sep, h.two, fun r hr a ha x hx => x.mono (x.keep (h.ins r hr a ha x hx) hk) hf, fun x hx => x.mono (x.keep (h.held x hx) hk) hf⟩
theorem Fam.sys (h : Fam w0 b0 ks rs hs) (S : Sys B w0 L w) (hL : ∀ e, e ∈ L → e.1 ∈ ks ∨ w0.heap.size ≤ e.1) : Fam w b0 ks rs hs :=
  h.move S.size fun j hj hn => S.old j hj fun e he e1 => by
    rcases hL e he with h2 | h2
    · exact hn (e1 ▸ h2)
    · omega
theorem Fam.below (h : Fam w b0 ks rs hs) (hb : Below w.heap.size w w2) : Fam w2 b0 ks rs hs := h.move hb.size fun j hj _ => hb.block j hj
/-- what a call made. -/
theorem Fam.made (h : Fam w1 b0 ks rs hs) (hb : Below w1.heap.size w1 w2) {x : Held} (hx : x.p w2 (Btw w1.heap.size w2.heap.size)) (hk : ∀ k, k ∈ ks → k < w1.heap.size) : Fam w2 b0 ks rs (x :: hs) :=
  (h.below hb).hold hx fun j hj => ⟨Nat.le_trans h.base hj.1, hj.2, fun h1 => by have := hk j h1; have := hj.1; omega, fun r hr h1 => by have := (h.lt hr h1).2; have := hj.1; omega⟩
theorem Fam.hold2 (h : Fam w2 b0 ks rs hs) {x : Held} (hx : x.p w2 (Btw w1.heap.size w2.heap.size)) (hb : b0 ≤ w1.heap.size) (hk : ∀ k, k ∈ ks → k < w1.heap.size) (hr : ∀ r, r ∈ rs → ∀ k, r.v.ownBlock = some k → k < w1.heap.size) : Fam w2 b0 ks rs (x :: hs) :=
  h.hold hx fun j hj => ⟨Nat.le_trans hb hj.1, hj.2, fun h1 => by have := hk j h1; have := hj.1; omega, fun r h0 h1 => by have := hr r h0 j h1; have := hj.1; omega⟩
/-- a row grows. -/
theorem Fam.push {α : Type} {K : Kind α} {v v' : Value} {l : List α} {a : α} {i : Nat} (h : Fam W b0 ks rs hs) (hi : rs[i]? = some ⟨α, K, v, l⟩) (ha : ∀ x, x ∈ K.sl a → x ∈ hs) (hrow : W'.ownsRow b0 K.ty K.m v' (l.length + 1) (l.flatMap K.c ++ K.c a))
    (hsz : W.heap.size ≤ W'.heap.size) (ho : ∀ j, j < W.heap.size → j ∉ ks → v.ownBlock ≠ some j → W'.heap[j]? = W.heap[j]?) (hfr : ∀ k, v'.ownBlock = some k → v.ownBlock = some k ∨ (W.heap.size ≤ k ∧ k ∉ ks)) :
    Fam W' b0 ks (rs.set i ⟨α, K, v', l ++ [a]⟩) hs := by
  have hm : ∀ r, r ∈ rs.set i ⟨α, K, v', l ++ [a]⟩ → r = ⟨α, K, v', l ++ [a]⟩ ∨ (r ∈ rs ∧ ∀ k, r.v.ownBlock = some k → v.ownBlock ≠ some k) := fun r hr => by
    obtain ⟨j, hj, rfl⟩ := List.mem_iff_getElem.1 hr
    by_cases hij : i = j
    · subst hij; left; simp
    · right
      rw [List.getElem_set_ne hij]
      simp at hj
      refine ⟨List.getElem_mem _, fun k hk h2 => ?_⟩
      obtain ⟨hil, hie⟩ := List.getElem?_eq_some_iff.1 hi
      have hp := List.pairwise_iff_getElem.1 h.two
      rcases Nat.lt_or_gt_of_ne hij with h3 | h3
      · have := hp i j hil hj h3 k (by rw [hie]; exact h2)
        exact this hk
      · have := hp j i hj hil h3 k hk
        rw [hie] at this
        exact this h2
  have hri : (⟨α, K, v, l⟩ : RowX) ∈ rs := List.mem_of_getElem? hi
  have hf : ∀ j, Free W b0 ks rs j → Free W' b0 ks (rs.set i ⟨α, K, v', l ++ [a]⟩) j := fun j hj => ⟨hj.1, by have := hj.2.1; omega, hj.2.2.1, fun r hr h1 => by
    rcases hm r hr with rfl | ⟨h2, _⟩
    · rcases hfr j h1 with h3 | h3
      · exact hj.2.2.2 _ hri h3
      · have := hj.2.1; omega
    · exact hj.2.2.2 r h2 h1⟩
  have hk : ∀ j, Free W b0 ks rs j → W'.heap[j]? = W.heap[j]? := fun j hj => ho j hj.2.1 hj.2.2.1 fun h1 => hj.2.2.2 _ hri h1
  refine ⟨Nat.le_trans h.base hsz, fun r hr => ?_, fun r hr k h1 => ?_, ?_, fun r hr b hb x hx => ?_, fun x hx => x.mono (x.keep (h.held x hx) hk) hf⟩
  · rcases hm r hr with rfl | ⟨h2, h3⟩
    · simpa using hrow
    · exact owns_move' (h.row r h2) fun k h4 => ho k (h.lt h2 h4).2 (h.sep r h2 k h4) (h3 k h4)
  · rcases hm r hr with rfl | ⟨h2, h3⟩
    · rcases hfr k h1 with h4 | h4
      · exact h.sep _ hri k h4
      · exact h4.2
    · exact h.sep r h2 k h1
  · rw [List.pairwise_iff_getElem]
    have hp := List.pairwise_iff_getElem.1 h.two
    obtain ⟨hil, hie⟩ := List.getElem?_eq_some_iff.1 hi
    intro p q hpl hql hpq k hk1 hk2
    simp at hpl hql
    by_cases h1 : i = p
    · subst h1
      have h2 : i ≠ q := by omega
      rw [List.getElem_set_ne h2] at hk2
      simp at hk1
      rcases hfr k hk1 with h4 | h4
      · exact hp i q hpl hql hpq k (by rw [hie]; exact h4) hk2
      · have := (h.lt (List.getElem_mem hql) hk2).2; omega
    · by_cases h2 : i = q
      · subst h2
        rw [List.getElem_set_ne h1] at hk1
        simp at hk2
        rcases hfr k hk2 with h4 | h4
        · have := hp p i hpl hql hpq k hk1
          rw [hie] at this
          exact this h4
        · have := (h.lt (List.getElem_mem hpl) hk1).2; omega
      · rw [List.getElem_set_ne h1] at hk1
        rw [List.getElem_set_ne h2] at hk2
        exact hp p q hpl hql hpq k hk1 hk2
  · rcases hm r hr with rfl | ⟨h2, h3⟩
    · rcases List.mem_append.1 hb with h4 | h4
      · exact x.mono (x.keep (h.ins _ hri b h4 x hx) hk) hf
      · have h5 : b = a := List.mem_singleton.1 h4
        have h6 : x ∈ K.sl b := hx
        rw [h5] at h6
        exact x.mono (x.keep (h.held x (ha x h6)) hk) hf
    · exact x.mono (x.keep (h.ins r h2 b hb x hx) hk) hf
/-- a row is read. -/
theorem Fam.list {α : Type} {K : Kind α} {v : Value} {l : List α} (h : Fam W b0 ks rs hs) (hr : (⟨α, K, v, l⟩ : RowX) ∈ rs) : ∃ r : SV, v = svV r ∧ ListAt K W (Btw b0 W.heap.size) r l := by
  have h1 := h.row _ hr
  obtain ⟨r, rfl, hrn⟩ := owns_sv h1
  obtain ⟨a1, a2, _, a4⟩ := ReadsP.own h1
  refine ⟨r, rfl, by rw [a2]; exact a1, by simp only [maxLen] at a4 hrn; omega, fun a ha x hx => x.mono (h.ins _ hr a ha x hx) fun j hj => ⟨hj.1, hj.2.1⟩⟩
theorem Fam.get {x : Held} (h : Fam W b0 ks rs hs) (hx : x ∈ hs) : x.p W (Btw b0 W.heap.size) := x.mono (h.held x hx) fun j hj => ⟨hj.1, hj.2.1⟩
end
section
variable {P : Program} {T : TT} {N : Nat} {B : Nat} {w0 : World} {ds : List Deferred} {Q : Exit → Act → World → Prop} {F : Fr} {L : Lo} {ops : Array Oper} {rest : List Oper} {ty : TypeId} {p : String} {af : Array Edge}
/-- the next operation is an append to a slice of this type. -/
theorem XL.at_push {N : Nat} {ds : List Deferred} {F : Fr} {d : Nat} (t : TypeId) {args : Array Operand} (k : XL P N B w0 ds Q ops ({ dst := some d, op := .call { callee := .builtin .append, args := args, argTypes := #[t, t] }, type := ty, pos := p, after := af, guard := none } :: rest) F L) :
    XL P N B w0 ds Q ops ({ dst := some d, op := .call { callee := .builtin .append, args := args, argTypes := #[t, t] }, type := ty, pos := p, after := af, guard := none } :: rest) F L := k
/-- append(row, one element). -/
theorem XL.push {α : Type} {K : Kind α} {d : Nat} {t : TypeId} {x y : Operand} {v : Value} {l : List α} {a : α} {c bytes b0 : Nat} {A : Addr} {ks : List Nat} {rs : List RowX} {hs : List Held} {wE : World} (i : Nat) (he : elemOk P t K.ty K.m bytes = true) (h0 : 0 < K.m)
    (hx : evo F x = some v) (hy : evo F y = some (.slice (some A) 1 c)) (hd : Nat.blt d N = true) (hF : Fam w0 b0 ks rs hs) (hi : rs[i]? = some ⟨α, K, v, l⟩) (hks : ∀ k, k ∈ ks → k < w0.heap.size) (hbl : Below B wE w0) (hB : B ≤ b0) (h1 : (K.c a).all Value.oneCell' = true) (h63 : l.length + 1 ≤ 10000000) (hb : bytes ≤ 10000000) (ha : ∀ x, x ∈ K.sl a → x ∈ hs)
    (k : ∀ w' v', Fam w' b0 (L.map (·.1) ++ ks) (rs.set i ⟨α, K, v', l ++ [a]⟩) hs → Below B wE w' → (∀ k, k ∈ L.map (·.1) ++ ks → k < w'.heap.size) → XL P N B w' ds Q ops rest ((d, v') :: F) L)
    (hL : ∀ e, e ∈ L → e.1 ∈ ks ∨ w0.heap.size ≤ e.1 := by (intro e he; repeat (first | (cases he; done) | (rcases List.mem_cons.1 he with rfl | he; · first | (right; assumption) | (left; simp <;> fail)))) <;> fail) (hnews : ∀ w, Sys B w0 L w → ∀ j u, (K.c a)[j]? = some u → w.cell? (A.add j) = some u := by (intro w S j u hj; first | (rw [add_off, Nat.zero_add, S.cell List.mem_cons_self j]; exact hj) | (rw [add_off, Nat.zero_add, S.cell (List.mem_cons_of_mem _ List.mem_cons_self) j]; exact hj) | (rw [add_off, Nat.zero_add, S.cell (List.mem_cons_of_mem _ (List.mem_cons_of_mem _ List.mem_cons_self)) j]; exact hj))) :
    XL P N B w0 ds Q ops ({ dst := some d, op := .call { callee := .builtin .append, args := #[x, y], argTypes := #[t, t] }, type := ty, pos := p, after := af, guard := none } :: rest) F L := by
  have hri : (⟨α, K, v, l⟩ : RowX) ∈ rs := List.mem_of_getElem? hi
  have hk2 : ∀ k, k ∈ L.map (·.1) ++ ks → k ∈ ks ∨ w0.heap.size ≤ k := fun k hk => by
    rcases List.mem_append.1 hk with h | h
    · obtain ⟨e, he, rfl⟩ := List.mem_map.1 h
      exact hL e he
    · exact .inl h
  have hk3 : ∀ w, Sys B w0 L w → ∀ k, k ∈ L.map (·.1) ++ ks → k < w.heap.size := fun w S k hk => by
    rcases List.mem_append.1 hk with h | h
    · obtain ⟨e, he, rfl⟩ := List.mem_map.1 h
      exact S.lt he
    · exact Nat.lt_of_lt_of_le (hks k h) S.size
  refine XL.append2 (v := v) (m := 1) (n := l.length) (size := K.m) (bytes := bytes) (base := b0) (A := A) (xs := l.flatMap K.c) (news := K.c a) (L' := L) he h0 hx hy hd (hF.row _ hri) (fun k hk e he e1 => ?_) (by rw [K.len]; omega) hnews h1 (by unfold maxLen; omega)
    (Nat.le_trans (Nat.mul_le_mul h63 hb) (by decide)) hF.base (List.Sublist.refl _) (fun w v' w' S ho hg _ hfr => ?_)
  · rcases hL e he with h | h
    · exact hF.sep _ hri k hk (e1 ▸ h)
    · have := (hF.lt hri hk).2; omega
  · have hsz := hg.size
    have hS := S.size
    refine k w' v' ?_ (hbl.trans (grown_below S hg fun k hk => Nat.le_trans hB (hF.lt hri hk).1)) fun q hq => Nat.lt_of_lt_of_le (hk3 w S q hq) hsz
    refine (hF.add (ks' := L.map (·.1) ++ ks) hk2).push hi ha ho (Nat.le_trans hS hsz) (fun j hj hn hv => ?_) (fun k hk => ?_)
    · exact grown_old S hg hj (fun e he e1 => hn (List.mem_append_left _ (List.mem_map.2 ⟨e, he, e1⟩))) fun e1 => hv e1.symm
    · rcases hfr k hk with h | h
      · exact .inl h
      · exact .inr ⟨Nat.le_trans hS h, fun h2 => by have := hk3 w S k h2; omega⟩
/-- what a call made: its value, and new things in memory. -/
def Made (w : World) (R : Value → List Held → Prop) (e : Ending) (w' : World) : Prop := ∃ v new, e = .returned v ∧ R v new ∧ (∀ x, x ∈ new → x.p w' (Btw w.heap.size w'.heap.size)) ∧ Below w.heap.size w w'
theorem Fam.call {w0 w1 w2 : World} {b0 : Nat} {ks : List Nat} {rs : List RowX} {hs new : List Held} (hF : Fam w0 b0 ks rs hs) (S : Sys B w0 L w1) (hb : Below w1.heap.size w1 w2) (hL : ∀ e, e ∈ L → e.1 ∈ ks ∨ w0.heap.size ≤ e.1) (hks : ∀ k, k ∈ ks → k < w0.heap.size)
    (hx : ∀ x, x ∈ new → x.p w2 (Btw w1.heap.size w2.heap.size)) : Fam w2 b0 (L.map (·.1) ++ ks) rs (new ++ hs) ∧ ∀ k, k ∈ L.map (·.1) ++ ks → k < w2.heap.size := by
  have hk3 : ∀ k, k ∈ L.map (·.1) ++ ks → k < w1.heap.size := fun k hk => by
    rcases List.mem_append.1 hk with h | h
    · obtain ⟨e, he, rfl⟩ := List.mem_map.1 h
      exact S.lt he
    · exact Nat.lt_of_lt_of_le (hks k h) S.size
  have h1 : Fam w0 b0 (L.map (·.1) ++ ks) rs hs := hF.add fun k hk => by
    rcases List.mem_append.1 hk with h | h
    · obtain ⟨e, he, rfl⟩ := List.mem_map.1 h
      exact hL e he
    · exact .inl h
  have h2 : Fam w1 b0 (L.map (·.1) ++ ks) rs hs := h1.sys S fun e he => .inl (List.mem_append_left _ (List.mem_map.2 ⟨e, he, rfl⟩))
  refine ⟨?_, fun k hk => Nat.lt_of_lt_of_le (hk3 k hk) hb.size⟩
  clear hL hks h1
  induction new with
  | nil => exact h2.below hb
  | cons x new ih =>
    have := ih fun y hy => hx y (List.mem_cons_of_mem _ hy)
    exact this.hold (hx x List.mem_cons_self) fun j hj => ⟨Nat.le_trans h2.base hj.1, hj.2, fun h3 => by have := hk3 j h3; have := hj.1; omega, fun r hr h3 => by have := (h2.lt hr h3).2; have := hj.1; omega⟩
theorem XL.at_call {N : Nat} {ds : List Deferred} {F : Fr} {d : Nat} (f : FuncId) {args : Array Operand} {ats : Array TypeId} (k : XL P N B w0 ds Q ops ({ dst := some d, op := .call { callee := .value (.func f), args := args, argTypes := ats }, type := ty, pos := p, after := af, guard := none } :: rest) F L) :
    XL P N B w0 ds Q ops ({ dst := some d, op := .call { callee := .value (.func f), args := args, argTypes := ats }, type := ty, pos := p, after := af, guard := none } :: rest) F L := k
/-- a call that makes new things; the world behind it is the new base. -/
theorem XL.callF {f : FuncId} {d : Nat} {args : Array Operand} {vs : List Value} {ats : Array TypeId} {b0 : Nat} {ks : List Nat} {rs : List RowX} {hs : List Held} {wE : World} (R : Value → List Held → Prop) (h : callOk P f = true)
    (ha : evos F args.toList = some vs) (hd : Nat.blt d N = true) (hF : Fam w0 b0 ks rs hs) (hks : ∀ k, k ∈ ks → k < w0.heap.size) (hbl : Below B wE w0)
    (hc : ∀ w, Sys B w0 L w → Fam w b0 (L.map (·.1) ++ ks) rs hs → Below B wE w → Calls P f vs.toArray w (Made w R))
    (k : ∀ w' v new, R v new → Fam w' b0 (L.map (·.1) ++ ks) rs (new ++ hs) → Below B wE w' → (∀ k, k ∈ L.map (·.1) ++ ks → k < w'.heap.size) → XL P N B w' ds Q ops rest ((d, v) :: F) L)
    (hL : ∀ e, e ∈ L → e.1 ∈ ks ∨ w0.heap.size ≤ e.1 := by (intro e he; repeat (first | (cases he; done) | (rcases List.mem_cons.1 he with rfl | he; · first | (right; assumption) | (left; simp <;> fail)))) <;> fail) :
    XL P N B w0 ds Q ops ({ dst := some d, op := .call { callee := .value (.func f), args := args, argTypes := ats }, type := ty, pos := p, after := af, guard := none } :: rest) F L := by
  refine XL.call (fst := []) (cap := []) (vs := vs) h rfl ha hd (List.Sublist.refl _) (fun w v w' => ∃ new, R v new ∧ (∀ x, x ∈ new → x.p w' (Btw w.heap.size w'.heap.size)) ∧ Below w.heap.size w w') (fun w S => ?_) (fun w v w' S hR hb S' => ?_)
  · have h1 := hF.call S (Below.refl _ _) hL hks (new := []) fun _ h => by cases h
    simp only [List.nil_append, List.append_nil] at h1 ⊢
    exact (hc w S h1.1 (hbl.trans S.toBelow)).mono fun e w' ⟨v, new, e1, e2, e3, e4⟩ => ⟨v, e1, ⟨new, e2, e3, e4⟩, e4⟩
  · obtain ⟨new, e2, e3, e4⟩ := hR
    have h1 := hF.call S hb hL hks e3
    exact k w' v new e2 h1.1 (hbl.trans S'.toBelow) h1.2
/-- a cut's end; the state may be told by the world. -/
theorem XE.leafW {N : Nat} {ds : List Deferred} {F : Fr} {σ : Type} {G0 : Fr} {G : σ → Fr} {M : σ → Lo} {W : σ → World} {pre : σ → Prop} (h : ∀ w, Sys B w0 L w → ∃ s, pre s ∧ Sub (G s ++ G0) F ∧ Sys B (W s) (M s) w) :
    XE N B w0 ds (cutQ N B ds Q G0 G M W pre) .normal F L := ⟨fun a w hf hs => by
  obtain ⟨s, hp, hG, hS⟩ := h w hs
  exact ⟨s, hp, hG.fits hf, hS⟩⟩
end
theorem Held.lt {x : Held} {w : World} {b0 : Nat} (h : x.p w (Btw b0 w.heap.size)) : x.p w (Lt w.heap.size) := x.mono h fun k hk => hk.2
end Go.Proofs.YtoiepgcjinccpaaDoor.X
/-
  Lists of states and of flows in memory; the walk of Run.
-/
namespace Go.Proofs.YtoiepgcjinccpaaDoor.Bs
/-- what Run answers. -/
noncomputable def runS (b : Bas) (s : Sta) (ts : List Tick) : List Sta := if runE b s ts ≠ 0 then [] else (List.range ts.length).map fun i => staAt b s ts (i + 1)
noncomputable def runF (b : Bas) (s : Sta) (ts : List Tick) : List Flo := if runE b s ts ≠ 0 then [] else (List.range ts.length).map fun i => floAt b s ts i
theorem run_n {b : Bas} {s : Sta} {ts : List Tick} (h : runE b s ts ≠ 0) : runS b s ts = [] ∧ runF b s ts = [] := by simp [runS, runF, h]
theorem run_0 {b : Bas} {s : Sta} {ts : List Tick} (h : runE b s ts = 0) : runS b s ts = (momsAt b s ts ts.length).map (·.1) ∧ runF b s ts = (momsAt b s ts ts.length).map (·.2) := by
  simp [runS, runF, h, momsAt]
end Go.Proofs.YtoiepgcjinccpaaDoor.Bs
namespace Go.Proofs.YtoiepgcjinccpaaDoor.X
open Go Go.RowKit Go.Proofs.YtoiepgcjinccpaaDoor.Bs
set_option linter.unusedVariables false
structure StaI where
  s : Sta
  q : SV
structure FloI where
  f : Flo
  r : SV
def StaI.c (a : StaI) : List Value := staC a.q a.s
def FloI.c (a : FloI) : List Value := floC a.r a.f
def staK : Kind StaI := ⟨28, 2, StaI.c, fun a => [hInts a.q a.s.fil], fun _ => rfl⟩
def floK : Kind FloI := ⟨32, 5, FloI.c, fun a => [hInts a.r a.f.taken], fun _ => rfl⟩
def momK : Kind Mom := ⟨103, 7, Mom.c, fun m => [hInts m.q m.s.fil, hInts m.r m.f.taken], Mom.c_len⟩
theorem sta_el : elemOk Tryd.prog 42 staK.ty staK.m 32 = true := by kernel_rfl
theorem flo_el : elemOk Tryd.prog 43 floK.ty floK.m 56 = true := by kernel_rfl
def Mom.a (m : Mom) : StaI := ⟨m.s, m.q⟩
def Mom.b (m : Mom) : FloI := ⟨m.f, m.r⟩
theorem MomRow.list {w : World} {ok : Nat → Prop} {r : SV} {ms : List Mom} (h : MomRow w ok r ms) : ListAt momK w ok r ms := ⟨h.rd, Nat.le_trans h.max (by decide), fun m hm x hx => by
  have := h.ins m hm
  simp only [momK, List.mem_cons, List.not_mem_nil, or_false] at hx
  rcases hx with rfl | rfl
  · exact this.1
  · exact this.2⟩
/-- what Run leaves. -/
def RunsR (b : Bas) (s : Sta) (ts : List Tick) (w : World) (v : Value) (w' : World) : Prop :=
  ∃ (r1 r2 : SV) (l1 : List StaI) (l2 : List FloI), v = .tuple ⟨[svV r1, svV r2, .int .i64 (runE b s ts)]⟩ ∧ ListAt staK w' (Btw w.heap.size w'.heap.size) r1 l1 ∧ ListAt floK w' (Btw w.heap.size w'.heap.size) r2 l2 ∧
    l1.map (·.s) = runS b s ts ∧ l2.map (·.f) = runF b s ts ∧ Below w.heap.size w w'
theorem take_add {α : Type} {l : List α} {k : Nat} (h : k < l.length) : l.take (k + 1) = l.take k ++ [l[k]] := by simp
set_option maxHeartbeats 8000000 in
theorem Run_any {p : BV} {b : Bas} {q r : SV} {s : Sta} {ts : List Tick} {w : World} (hL : Laid w) (hb : BasAt w w.heap.size p b) (hq : IntsAt w (Lt w.heap.size) q s.fil) (ht : TksAt w (Lt w.heap.size) r ts) :
    Calls Tryd.prog 24 #[basV p b, staV q s, svV r] w fun e w' => ∃ v, e = .returned v ∧ RunsR b s ts w v w' := by
  simp only [basV, basC, staV, staC, svV]
  refine enter Tryd.func24 rfl Tryd.ntmps24 rfl ?_; simp only [frame, Nat.zero_add, Nat.reduceAdd]
  repeat (first | (refine M0 ?_; first | refine O0 ?_ | refine z1 tok rfl ?_ | refine O1 rfl ?_ rfl | refine O2 rfl ?_ | refine O3 rfl ?_ rfl | refine O4 rfl rfl rfl (fun _ _ => ?_) | refine O5 tok rfl rfl rfl (fun _ _ => ?_) | refine U0 _ (U2 rfl) rfl ?_ | refine U0 _ (U3 tok rfl rfl rfl rfl rfl) rfl ?_ | refine z3 tok rfl ?_ | refine U0 _ (U4 rfl rfl) rfl ?_ | refine U0 _ (U5 rfl rfl) rfl ?_) | (refine M1 ?_; first | refine J0 ?_ | refine J1 ?_ | refine J2 mixed rfl (by kernel_rfl) ?_ | refine J3 mixed rfl rfl (by kernel_rfl) ?_ | refine J4 ?_ | refine J5 ?_ | refine J6 ?_ | refine J7 ?_ | refine J8 rfl ?_ | refine J9 rfl ?_) | (refine M2 ?_; first | refine I0 ?_ | refine I1 ?_ | refine I2 ?_ | refine I3 ?_ | refine I4 ?_ | refine I5 ?_ | refine I6 rfl ?_ | refine I7 ?_ | refine I8 ?_ | refine z4 ?_) | (refine M3 ?_; first | refine O6 ?_ | refine z2 tok rfl ?_ | refine O8 rfl ?_ | refine O7 rfl ?_ rfl | refine O9 rfl ?_ rfl | refine U1 _ (U4 rfl rfl) rfl ?_ | refine U1 _ (U5 rfl rfl) rfl ?_ | refine U1 _ (U2 rfl) rfl ?_ | refine U1 _ (U3 tok rfl rfl rfl rfl rfl) rfl ?_) | (refine M4 ?_; first | refine M6 ?_ | refine U6 rfl (by kernel_rfl) ?_ | refine U7 (by kernel_rfl) ?_) | (refine M5 ?_; first | exact M7 | refine U8 rfl ?_ | refine U9 rfl rfl ?_ ?_))
  refine XL.call (fst := []) (cap := []) (ck rfl) rfl rfl rfl (List.nil_sublist _) (fun w1 v w2 => RunR b s ts w1 v w2)
    (fun w1 S1 => (run_any (p := p) (q := q) (r := r) (hL.below S1.toBelow) (hb.sys S1) (hq.arg S1) (ht.arg S1)).mono fun e w' ⟨v, h, h4⟩ => ⟨v, h, h4, h4.2⟩) (fun w1 v w2 S1 hR hB S2 => ?_)
  have hrow : ∃ rm ms, v = .tuple ⟨[svV rm, .int .i64 (runE b s ts)]⟩ ∧ ListAt momK w2 (Btw w1.heap.size w2.heap.size) rm ms ∧ ms.length ≤ 300 ∧ ms.map (·.s) = runS b s ts ∧ ms.map (·.f) = runF b s ts := by
    rcases hR.1 with ⟨h1, rfl⟩ | ⟨h1, hE, h3, h4, rm, ms, rfl, hrow, hms⟩
    · obtain ⟨e1, e2⟩ := run_n h1
      exact ⟨⟨none, 0, 0⟩, [], rfl, ListAt.nil, by simp, e1.symm, e2.symm⟩
    · obtain ⟨e1, e2⟩ := run_0 h1
      have hl := congrArg List.length hms
      simp [momsAt] at hl
      refine ⟨rm, ms, by rw [h1], hrow.list, by omega, ?_, ?_⟩
      · rw [e1, ← hms, List.map_map]; rfl
      · rw [e2, ← hms, List.map_map]; rfl
  obtain ⟨⟨A, n, c⟩, ms, rfl, hrow, hlen, e1, e2⟩ := hrow
  have hn := hrow.len (by decide)
  simp only at hn
  subst hn
  have hF0 : Fam w2 w.heap.size [] [⟨StaI, staK, .slice none 0 0, []⟩, ⟨FloI, floK, .slice none 0 0, []⟩] [hList momK ⟨A, ms.length, c⟩ ms] := ((((Fam.start S1.size).nil floK).nil staK).made hB hrow fun k hk => by cases hk)
  have hB0 : Below w.heap.size w w2 := S2.toBelow
  simp only [svV]
  repeat (first | (refine M0 ?_; first | refine O0 ?_ | refine z1 tok rfl ?_ | refine O1 rfl ?_ rfl | refine O2 rfl ?_ | refine O3 rfl ?_ rfl | refine O4 rfl rfl rfl (fun _ _ => ?_) | refine O5 tok rfl rfl rfl (fun _ _ => ?_) | refine U0 _ (U2 rfl) rfl ?_ | refine U0 _ (U3 tok rfl rfl rfl rfl rfl) rfl ?_ | refine z3 tok rfl ?_ | refine U0 _ (U4 rfl rfl) rfl ?_ | refine U0 _ (U5 rfl rfl) rfl ?_) | (refine M1 ?_; first | refine J0 ?_ | refine J1 ?_ | refine J2 mixed rfl (by kernel_rfl) ?_ | refine J3 mixed rfl rfl (by kernel_rfl) ?_ | refine J4 ?_ | refine J5 ?_ | refine J6 ?_ | refine J7 ?_ | refine J8 rfl ?_ | refine J9 rfl ?_) | (refine M2 ?_; first | refine I0 ?_ | refine I1 ?_ | refine I2 ?_ | refine I3 ?_ | refine I4 ?_ | refine I5 ?_ | refine I6 rfl ?_ | refine I7 ?_ | refine I8 ?_ | refine z4 ?_) | (refine M3 ?_; first | refine O6 ?_ | refine z2 tok rfl ?_ | refine O8 rfl ?_ | refine O7 rfl ?_ rfl | refine O9 rfl ?_ rfl | refine U1 _ (U4 rfl rfl) rfl ?_ | refine U1 _ (U5 rfl rfl) rfl ?_ | refine U1 _ (U2 rfl) rfl ?_ | refine U1 _ (U3 tok rfl rfl rfl rfl rfl) rfl ?_) | (refine M4 ?_; first | refine M6 ?_ | refine U6 rfl (by kernel_rfl) ?_ | refine U7 (by kernel_rfl) ?_) | (refine M5 ?_; first | exact M7 | refine U8 rfl ?_ | refine U9 rfl rfl ?_ ?_))
  refine XC.loopk [8, 19, 20] rfl (fun s' : Nat × World × Value × Value => [(6, s'.2.2.1), (7, s'.2.2.2), (21, .int .i64 (s'.1 : Nat))]) (fun _ => []) (fun s' => s'.2.1)
    (fun s' => s'.1 ≤ ms.length ∧ Fam s'.2.1 w.heap.size [] [⟨StaI, staK, s'.2.2.1, (ms.take s'.1).map Mom.a⟩, ⟨FloI, floK, s'.2.2.2, (ms.take s'.1).map Mom.b⟩] [hList momK ⟨A, ms.length, c⟩ ms] ∧ Below w.heap.size w s'.2.1)
    (fun s' => ms.length - s'.1) (0, w2, .slice none 0 0, .slice none 0 0) ⟨Nat.zero_le _, hF0, hB0⟩ (by repeat (first | exact Sub.nil | refine Sub.cons rfl ?_)) (fun _ h => h) ?_
  rintro ⟨k, W, v1, v2⟩ ⟨hk, hF, hBW⟩
  simp only at hk hF hBW
  dsimp only [List.cons_append, List.nil_append]
  repeat (first | (refine M0 ?_; first | refine O0 ?_ | refine z1 tok rfl ?_ | refine O1 rfl ?_ rfl | refine O2 rfl ?_ | refine O3 rfl ?_ rfl | refine O4 rfl rfl rfl (fun _ _ => ?_) | refine O5 tok rfl rfl rfl (fun _ _ => ?_) | refine U0 _ (U2 rfl) rfl ?_ | refine U0 _ (U3 tok rfl rfl rfl rfl rfl) rfl ?_ | refine z3 tok rfl ?_ | refine U0 _ (U4 rfl rfl) rfl ?_ | refine U0 _ (U5 rfl rfl) rfl ?_) | (refine M1 ?_; first | refine J0 ?_ | refine J1 ?_ | refine J2 mixed rfl (by kernel_rfl) ?_ | refine J3 mixed rfl rfl (by kernel_rfl) ?_ | refine J4 ?_ | refine J5 ?_ | refine J6 ?_ | refine J7 ?_ | refine J8 rfl ?_ | refine J9 rfl ?_) | (refine M2 ?_; first | refine I0 ?_ | refine I1 ?_ | refine I2 ?_ | refine I3 ?_ | refine I4 ?_ | refine I5 ?_ | refine I6 rfl ?_ | refine I7 ?_ | refine I8 ?_ | refine z4 ?_) | (refine M3 ?_; first | refine O6 ?_ | refine z2 tok rfl ?_ | refine O8 rfl ?_ | refine O7 rfl ?_ rfl | refine O9 rfl ?_ rfl | refine U1 _ (U4 rfl rfl) rfl ?_ | refine U1 _ (U5 rfl rfl) rfl ?_ | refine U1 _ (U2 rfl) rfl ?_ | refine U1 _ (U3 tok rfl rfl rfl rfl rfl) rfl ?_) | (refine M4 ?_; first | refine M6 ?_ | refine U6 rfl (by kernel_rfl) ?_ | refine U7 (by kernel_rfl) ?_) | (refine M5 ?_; first | exact M7 | refine U8 rfl ?_ | refine U9 rfl rfl ?_ ?_))
  refine XC.cond _ rfl (fun h1 => ?_) (fun h1 => ?_)
  · have hkn : k < ms.length := by simpa using h1
    have hls : ListAt momK W (Free W w.heap.size [] _) ⟨A, ms.length, c⟩ ms := hF.held (hList momK _ ms) List.mem_cons_self
    obtain ⟨ad, rfl, hfr⟩ := hls.addr (by decide) (by omega)
    have hlt := hfr.2.1
    have hmk : ms[k]? = some ms[k] := List.getElem?_eq_getElem hkn
    have hcell := hls.elem hmk
    have hi1 : IntsAt W (Free W w.heap.size [] _) ms[k].q ms[k].s.fil := hls.ins _ (List.getElem_mem hkn) (hInts _ _) List.mem_cons_self
    have hi2 : IntsAt W (Free W w.heap.size [] _) ms[k].r ms[k].f.taken := hls.ins _ (List.getElem_mem hkn) (hInts _ _) (List.mem_cons_of_mem _ List.mem_cons_self)
    have hF1 := (hF.hold (x := hInts ms[k].q ms[k].s.fil) hi1 fun _ h => h).hold (x := hInts ms[k].r ms[k].f.taken) hi2 fun _ h => h
    have hks : ∀ k, k ∈ ([] : List Nat) → k < W.heap.size := fun k hk => by cases hk
    have e3 : (ms.take (k + 1)).map Mom.a = (ms.take k).map Mom.a ++ [ms[k].a] := by rw [take_add hkn, List.map_append]; rfl
    have e4 : (ms.take (k + 1)).map Mom.b = (ms.take k).map Mom.b ++ [ms[k].b] := by rw [take_add hkn, List.map_append]; rfl
    clear hF
    have hl1 : ((ms.take k).map Mom.a).length + 1 ≤ 10000000 := by simp; omega
    have hl2 : ((ms.take k).map Mom.b).length + 1 ≤ 10000000 := by simp; omega
    have ha1 : ∀ x, x ∈ staK.sl ms[k].a → x ∈ [hInts ms[k].r ms[k].f.taken, hInts ms[k].q ms[k].s.fil, hList momK ⟨some ad, ms.length, c⟩ ms] := fun x hx => by
      rw [List.mem_singleton.1 hx]; exact List.mem_cons_of_mem _ List.mem_cons_self
    have ha2 : ∀ x, x ∈ floK.sl ms[k].b → x ∈ [hInts ms[k].r ms[k].f.taken, hInts ms[k].q ms[k].s.fil, hList momK ⟨some ad, ms.length, c⟩ ms] := fun x hx => by
      rw [List.mem_singleton.1 hx]; exact List.mem_cons_self
    repeat (first | (refine M0 ?_; first | refine O0 ?_ | refine z1 tok rfl ?_ | refine O1 rfl ?_ rfl | refine O2 rfl ?_ | refine O3 rfl ?_ rfl | refine U0 _ (Ev.load_far_agg tok ms[k].c rfl rfl rfl (by rw [add_block]; exact hlt) (fun e he => by cases he) hcell) rfl ?_ | refine O4 rfl rfl rfl (fun _ _ => ?_) | refine O5 tok rfl rfl rfl (fun _ _ => ?_) | refine U0 _ (U2 rfl) rfl ?_ | refine U0 _ (U3 tok rfl rfl rfl rfl rfl) rfl ?_ | refine z3 tok rfl ?_ | refine U0 _ (U4 rfl rfl) rfl ?_ | refine U0 _ (U5 rfl rfl) rfl ?_) | (refine M1 ?_; first | refine J0 ?_ | refine J1 ?_ | refine J2 mixed rfl (by kernel_rfl) ?_ | refine J3 mixed rfl rfl (by kernel_rfl) ?_ | refine J4 ?_ | refine J5 ?_ | refine J6 ?_ | refine J7 ?_ | refine J8 rfl ?_ | refine J9 rfl ?_) | (refine M2 ?_; first | refine I0 ?_ | refine I1 ?_ | refine I2 ?_ | refine I3 ?_ | refine I4 ?_ | refine I5 ?_ | refine I6 rfl ?_ | refine I7 ?_ | refine I8 ?_ | refine z4 ?_) | (refine M3 ?_; first | refine O6 ?_ | refine z2 tok rfl ?_ | refine O8 rfl ?_ | refine O7 rfl ?_ rfl | refine O9 rfl ?_ rfl | refine U1 _ (Ev.load_far_agg tok ms[k].c rfl rfl rfl (by rw [add_block]; exact hlt) (fun e he => by cases he) hcell) rfl ?_ | refine U1 _ (U4 rfl rfl) rfl ?_ | refine U1 _ (U5 rfl rfl) rfl ?_ | refine U1 _ (U2 rfl) rfl ?_ | refine U1 _ (U3 tok rfl rfl rfl rfl rfl) rfl ?_) | (refine M4 ?_; first | refine M6 ?_ | refine U6 rfl (by kernel_rfl) ?_ | refine U7 (by kernel_rfl) ?_) | (refine M5 ?_; first | exact M7 | refine U8 rfl ?_ | refine U9 rfl rfl ?_ ?_))
    rename_i g11 hg11
    refine XC.drawRS _ [(g11, cel 103 [.int .i64 ms[k].s.vol, .slice ms[k].q.A ms[k].q.n ms[k].q.c, .int .i64 ms[k].f.river, .int .i64 ms[k].f.over, .int .i64 ms[k].f.leak, .int .i64 ms[k].f.out, .slice ms[k].r.A ms[k].r.n ms[k].r.c])] [0, 1, 2, 5, 6, 7] [3, 4, 8, 9, 10, 11] mixed (fun _ h => Sys.anchor (by assumption) h (by simp) (by simp)) rfl (by kernel_rfl) ?_
    repeat (any_goals (first | (refine M0 ?_; first | refine O0 ?_ | refine z1 tok rfl ?_ | refine O1 rfl ?_ rfl | refine O2 rfl ?_ | refine O3 rfl ?_ rfl | (refine XL.split _ _ rfl (fun h => ?_) (fun h => ?_) <;> rw [h]) | refine O4 rfl rfl rfl (fun _ _ => ?_) | refine O5 tok rfl rfl rfl (fun _ _ => ?_) | refine U0 _ (U2 rfl) rfl ?_ | refine U0 _ (U3 tok rfl rfl rfl rfl rfl) rfl ?_ | refine z3 tok rfl ?_ | refine U0 _ (U4 rfl rfl) rfl ?_ | refine U0 _ (U5 rfl rfl) rfl ?_ | refine XL.buildSlice tok rfl rfl rfl rfl rfl rfl rfl rfl rfl (fun _ _ => ?_) | (refine XL.at_push 42 ?_; refine XL.push (K := staK) (a := ms[k].a) (wE := w) 0 sta_el (by decide) rfl rfl rfl (by assumption) rfl (by assumption) (by assumption) (Nat.le_refl _) rfl hl1 (by decide) ha1 (fun _ _ _ _ _ => ?_)) | (refine XL.at_push 43 ?_; refine XL.push (K := floK) (a := ms[k].b) (wE := w) 1 flo_el (by decide) rfl rfl rfl (by assumption) rfl (by assumption) (by assumption) (Nat.le_refl _) rfl hl2 (by decide) ha2 (fun _ _ _ _ _ => ?_))) | (refine M1 ?_; first | refine J0 ?_ | refine J1 ?_ | refine J2 mixed rfl (by kernel_rfl) ?_ | refine J3 mixed rfl rfl (by kernel_rfl) ?_ | refine J4 ?_ | refine J5 ?_ | refine J6 ?_ | refine J7 ?_ | refine J8 rfl ?_ | refine J9 rfl ?_ | refine XC.cond _ rfl (fun h => ?_) (fun h => ?_)) | (refine M2 ?_; first | refine I0 ?_ | refine I1 ?_ | refine I2 ?_ | refine I3 ?_ | refine I4 ?_ | refine I5 ?_ | refine I6 rfl ?_ | refine I7 ?_ | refine I8 ?_ | refine z4 ?_) | (refine M3 ?_; first | refine O6 ?_ | refine z2 tok rfl ?_ | refine O8 rfl ?_ | refine O7 rfl ?_ rfl | refine O9 rfl ?_ rfl | (refine Fw.split _ _ rfl (fun h => ?_) (fun h => ?_) <;> rw [h]) | refine U1 _ (U4 rfl rfl) rfl ?_ | refine U1 _ (U5 rfl rfl) rfl ?_ | refine U1 _ (U2 rfl) rfl ?_ | refine U1 _ (U3 tok rfl rfl rfl rfl rfl) rfl ?_) | (refine M4 ?_; first | refine M6 ?_ | refine U6 rfl (by kernel_rfl) ?_ | refine U7 (by kernel_rfl) ?_) | (refine M5 ?_; first | exact M7 | refine U8 rfl ?_ | refine U9 rfl rfl ?_ ?_)))
    all_goals
      refine XE.roundW (s := (k, W, v1, v2)) (fun w6 S6 => ⟨(k + 1, w6, _, _), ⟨hkn, ?_, ?_⟩, by simp only; omega, (by repeat (first | exact Sub.nil | refine Sub.cons rfl ?_)), S6.rebase (List.nil_sublist _)⟩)
      · rw [e3, e4]
        refine Fam.forget (Fam.add (Fam.sys (by assumption) S6 (by intro e he; repeat (first | (cases he; done) | (rcases List.mem_cons.1 he with rfl | he; · first | (right; assumption) | (left; simp <;> fail))))) fun k hk => by cases hk) fun x hx => List.mem_cons_of_mem _ (List.mem_cons_of_mem _ hx)
      · exact Below.trans (by assumption) S6.toBelow
  · have hkn : k = ms.length := by have : ¬ (k < ms.length) := by simpa using h1
                                   omega
    subst hkn
    rw [List.take_length] at hF
    repeat (first | (refine M0 ?_; first | refine O0 ?_ | refine z1 tok rfl ?_ | refine O1 rfl ?_ rfl | refine O2 rfl ?_ | refine O3 rfl ?_ rfl | refine O4 rfl rfl rfl (fun _ _ => ?_) | refine O5 tok rfl rfl rfl (fun _ _ => ?_) | refine U0 _ (U2 rfl) rfl ?_ | refine U0 _ (U3 tok rfl rfl rfl rfl rfl) rfl ?_ | refine z3 tok rfl ?_ | refine U0 _ (U4 rfl rfl) rfl ?_ | refine U0 _ (U5 rfl rfl) rfl ?_) | (refine M1 ?_; first | refine J0 ?_ | refine J1 ?_ | refine J2 mixed rfl (by kernel_rfl) ?_ | refine J3 mixed rfl rfl (by kernel_rfl) ?_ | refine J4 ?_ | refine J5 ?_ | refine J6 ?_ | refine J7 ?_ | refine J8 rfl ?_ | refine J9 rfl ?_) | (refine M2 ?_; first | refine I0 ?_ | refine I1 ?_ | refine I2 ?_ | refine I3 ?_ | refine I4 ?_ | refine I5 ?_ | refine I6 rfl ?_ | refine I7 ?_ | refine I8 ?_ | refine z4 ?_) | (refine M3 ?_; first | refine O6 ?_ | refine z2 tok rfl ?_ | refine O8 rfl ?_ | refine O7 rfl ?_ rfl | refine O9 rfl ?_ rfl | refine U1 _ (U4 rfl rfl) rfl ?_ | refine U1 _ (U5 rfl rfl) rfl ?_ | refine U1 _ (U2 rfl) rfl ?_ | refine U1 _ (U3 tok rfl rfl rfl rfl rfl) rfl ?_) | (refine M4 ?_; first | refine M6 ?_ | refine U6 rfl (by kernel_rfl) ?_ | refine U7 (by kernel_rfl) ?_) | (refine M5 ?_; first | exact M7 | refine U8 rfl ?_ | refine U9 rfl rfl ?_ ?_))
    refine XE.retg tok Tryd.results24 rfl (by simp only [and_self, and_true]) (fun w' S => ?_)
    have hF6 := hF.sys S (fun e he => by cases he)
    obtain ⟨r1, rfl, h1⟩ := hF6.list List.mem_cons_self
    obtain ⟨r2, rfl, h2⟩ := hF6.list (List.mem_cons_of_mem _ List.mem_cons_self)
    exact ⟨_, rfl, r1, r2, _, _, rfl, h1, h2, by rw [← e1, List.map_map]; rfl, by rw [← e2, List.map_map]; rfl, hBW.trans S.toBelow⟩
end Go.Proofs.YtoiepgcjinccpaaDoor.X
/-
  The walk of the document's Run.
-/
namespace Go.Proofs.YtoiepgcjinccpaaDoor.X
open Go Go.RowKit Go.Proofs.YtoiepgcjinccpaaDoor.Bs
set_option linter.unusedVariables false
/-- what a tick gives. -/
def StepV (b : Bas) (s : Sta) (t : Tick) (v : Value) (new : List Held) : Prop := ∃ q r : SV, v = .tuple ⟨[staV q (outS b s t), floV r (outF b s t), .int .i64 (stepE b s t)]⟩ ∧ new = [hInts q (outS b s t).fil, hInts r (outF b s t).taken]
theorem StepR.made {b : Bas} {s : Sta} {t : Tick} {w w' : World} {v : Value} {e : Ending} (he : e = .returned v) (h : StepR b s t w v w') : Made w (StepV b s t) e w' := by
  obtain ⟨q, r, h1, h2, h3, h4⟩ := h
  refine ⟨v, _, he, ⟨q, r, h1, rfl⟩, fun x hx => ?_, h4⟩
  simp only [List.mem_cons, List.not_mem_nil, or_false] at hx
  rcases hx with rfl | rfl
  · exact h2
  · exact h3
def RunV (b : Bas) (s : Sta) (ts : List Tick) (v : Value) (new : List Held) : Prop :=
  ∃ (r1 r2 : SV) (l1 : List StaI) (l2 : List FloI), v = .tuple ⟨[svV r1, svV r2, .int .i64 (runE b s ts)]⟩ ∧ new = [hList staK r1 l1, hList floK r2 l2] ∧ l1.map (·.s) = runS b s ts ∧ l2.map (·.f) = runF b s ts
theorem RunsR.made {b : Bas} {s : Sta} {ts : List Tick} {w w' : World} {v : Value} {e : Ending} (he : e = .returned v) (h : RunsR b s ts w v w') : Made w (RunV b s ts) e w' := by
  obtain ⟨r1, r2, l1, l2, h1, h2, h3, h4, h5, h6⟩ := h
  refine ⟨v, _, he, ⟨r1, r2, l1, l2, h1, rfl, h4, h5⟩, fun x hx => ?_, h6⟩
  simp only [List.mem_cons, List.not_mem_nil, or_false] at hx
  rcases hx with rfl | rfl
  · exact h2
  · exact h3
theorem Run_made {p : BV} {b : Bas} {q r : SV} {s : Sta} {ts : List Tick} {w : World} (hL : Laid w) (hb : BasAt w w.heap.size p b) (hq : IntsAt w (Lt w.heap.size) q s.fil) (ht : TksAt w (Lt w.heap.size) r ts) :
    Calls Tryd.prog 24 #[basV p b, staV q s, svV r] w (Made w (RunV b s ts)) := (Run_any hL hb hq ht).mono fun e w' ⟨v, h1, h2⟩ => RunsR.made h1 h2
end Go.Proofs.YtoiepgcjinccpaaDoor.X
/-
  The walk of SameRun on equal runs; the law BasinRuns.
-/
namespace Go.Proofs.YtoiepgcjinccpaaDoor.X
open Go Go.RowKit Go.Proofs.YtoiepgcjinccpaaDoor.Bs
set_option linter.unusedVariables false
end Go.Proofs.YtoiepgcjinccpaaDoor.X
/-
  The walks of the document's stay and Stay; of both Floods.
-/
namespace Go.Proofs.YtoiepgcjinccpaaDoor.Bs
def Flo.t (f : Flo) (i : Nat) : Int := f.taken[i]?.getD 0
/-- the first tick in which polder i takes water, or -1. -/
def firstF (fs : List Flo) (i : Nat) : Int := match fs.findIdx? fun f => decide (0 < f.t i) with
  | some k => ((k : Nat) : Int)
  | none => -1
noncomputable def floods (b : Bas) (s : Sta) (ts : List Tick) : List Int := if runE b s ts ≠ 0 then [] else (List.range b.pols.length).map (firstF (runF b s ts))
end Go.Proofs.YtoiepgcjinccpaaDoor.Bs
namespace Go.Proofs.YtoiepgcjinccpaaDoor.X
open Go Go.RowKit Go.Proofs.YtoiepgcjinccpaaDoor.Bs
set_option linter.unusedVariables false
theorem runE_0 {b : Bas} {s : Sta} {ts : List Tick} (h : runE b s ts = 0) : staErr b s = 0 ∧ ts.length ≤ 300 ∧ ∀ k, k < ts.length → errAt b s ts k = 0 := by
  unfold runE at h
  split at h
  · rename_i h1; exact absurd h h1
  · rename_i h1
    split at h
    · cases h
    · rename_i h2
      split at h
      · rename_i h3; exact ⟨by simpa using h1, by omega, badAt_errs h3⟩
      · rename_i k h3; exact absurd h (badAt_err h3)
theorem runS_len {b : Bas} {s : Sta} {ts : List Tick} (h : runE b s ts = 0) : (runS b s ts).length = ts.length := by simp [runS, h]
end Go.Proofs.YtoiepgcjinccpaaDoor.X
/-
  The walks of both Floods.
-/
namespace Go.Proofs.YtoiepgcjinccpaaDoor.Bs
/-- the first tick from m on in which polder i takes water. -/
def firstG (fs : List Flo) (i m : Nat) : Int := match (fs.drop m).findIdx? fun f => decide (0 < f.t i) with
  | some k => (((m + k : Nat)) : Int)
  | none => -1
end Go.Proofs.YtoiepgcjinccpaaDoor.Bs
namespace Go.Proofs.YtoiepgcjinccpaaDoor.X
open Go Go.RowKit Go.Proofs.YtoiepgcjinccpaaDoor.Bs
set_option linter.unusedVariables false
def intK : Kind Int := ⟨3, 1, fun k => [.int .i64 k], fun _ => [], fun _ => rfl⟩
/-- what run leaves. -/
def MomV (b : Bas) (s : Sta) (ts : List Tick) (v : Value) (new : List Held) : Prop :=
  ∃ (rm : SV) (ms : List Mom), v = .tuple ⟨[svV rm, .int .i64 (runE b s ts)]⟩ ∧ new = [hList momK rm ms] ∧ ms.length ≤ 300 ∧ ms.map (·.s) = runS b s ts ∧ ms.map (·.f) = runF b s ts
/-- what Floods leaves. -/
def FloodV (b : Bas) (s : Sta) (ts : List Tick) (v : Value) (new : List Held) : Prop := ∃ r : SV, v = .tuple ⟨[svV r, .int .i64 (runE b s ts)]⟩ ∧ new = [hInts r (floods b s ts)]
def idxV (ms : List Mom) (P : Mom → Bool) : Int := match ms.findIdx? P with
  | some i => ((i : Nat) : Int)
  | none => -1
end Go.Proofs.YtoiepgcjinccpaaDoor.X
/-
  The walk of the document's Floods; the law BasinStays.
-/
namespace Go.Proofs.YtoiepgcjinccpaaDoor.X
open Go Go.RowKit Go.Proofs.YtoiepgcjinccpaaDoor.Bs
set_option linter.unusedVariables false
theorem Free.ne {W : World} {b0 : Nat} {ks : List Nat} {rs : List RowX} {k : Nat} {L : Lo} (h : Free W b0 ks rs k) (hL : ∀ e, e ∈ L → e.1 ∈ ks) : ∀ e, e ∈ L → e.1 ≠ k := fun e he e1 => h.2.2.1 (e1 ▸ hL e he)
/-- a case. -/
structure CV where
  q : SV
  r : SV
structure Cas where
  s : Sta
  ts : List Tick
  lim : Int
def caseC (x : CV) (c : Cas) : List Value := [.int .i64 c.s.vol, .slice x.q.A x.q.n x.q.c, .slice x.r.A x.r.n x.r.c, .int .i64 c.lim]
def caseV (x : CV) (c : Cas) : Value := .agg ⟨caseC x c⟩
structure CaseAt (w : World) (ok : Nat → Prop) (x : CV) (c : Cas) : Prop where
  fil : IntsAt w ok x.q c.s.fil
  tks : TksAt w ok x.r c.ts
end Go.Proofs.YtoiepgcjinccpaaDoor.X
/-
  The plain words of layer 4: levels of volumes and volumes of levels, and that both are in order.
-/
namespace Go.Proofs.YtoiepgcjinccpaaDoor.Bs
set_option linter.unusedVariables false
/-- the piece in which a level lies. -/
def lsegTo (b : Bas) (l : Int) : Nat → Nat
  | 0 => 0
  | k + 1 => if (b.row (k + 1)).level ≤ l then k + 1 else lsegTo b l k
def lseg (b : Bas) (l : Int) : Nat := lsegTo b l (b.rows.length - 2)
/-- the greatest volume whose level is at most l, as the program reckons it. -/
def volAt (b : Bas) (l : Int) : Int := (b.row (lseg b l)).vol + (l - (b.row (lseg b l)).level) * ((b.row (lseg b l + 1)).vol - (b.row (lseg b l)).vol) / ((b.row (lseg b l + 1)).level - (b.row (lseg b l)).level)
def volOf (b : Bas) (l : Int) : Int := min 1000000000 (volAt b l)
def levLo (b : Bas) (v : Int) : Int := num b v / den b v
def levHi (b : Bas) (v : Int) : Int := -((-(num b v)) / den b v)
section
variable {b : Bas} (h : RowsOk b)
include h
theorem seg_spec {v : Int} (hv : (b.row 0).vol ≤ v) : seg b v + 1 < b.rows.length ∧ (b.row (seg b v)).vol ≤ v ∧ ∀ j, seg b v < j → j + 1 < b.rows.length → v < (b.row j).vol :=
  ⟨seg_lt h v, seg_vol hv, fun j h4 h5 => (segTo_spec (b := b) (v := v) (b.rows.length - 2)).2.2 j h4 (by omega)⟩
theorem rows_le {i j : Nat} (hij : i ≤ j) (hj : j < b.rows.length) : (b.row i).vol ≤ (b.row j).vol ∧ (b.row i).level ≤ (b.row j).level := by
  rcases Nat.eq_or_lt_of_le hij with rfl | h1
  · exact ⟨Int.le_refl _, Int.le_refl _⟩
  · have := h.lt h1 hj; omega
/-- THE EXACT LEVEL IS IN ORDER. -/
theorem exact_mono {v v' : Int} (hv : (b.row 0).vol ≤ v) (hvv : v ≤ v') : num b v * den b v' ≤ num b v' * den b v := by
  obtain ⟨s1, s2, s3⟩ := seg_spec h hv
  obtain ⟨t1, t2, t3⟩ := seg_spec h (v := v') (by omega)
  have p1 := den_pos h v
  have p2 := den_pos h v'
  have hst : seg b v ≤ seg b v' := by
    rcases Nat.lt_or_ge (seg b v') (seg b v) with c | c
    · have := t3 (seg b v) c s1; omega
    · exact c
  obtain ⟨s, hs⟩ : ∃ s, s = seg b v := ⟨_, rfl⟩
  obtain ⟨t, ht⟩ : ∃ s, s = seg b v' := ⟨_, rfl⟩
  have n1 : num b v = (b.row s).level * den b v + (v - (b.row s).vol) * ((b.row (s + 1)).level - (b.row s).level) := by rw [hs]; rfl
  have n2 : num b v' = (b.row t).level * den b v' + (v' - (b.row t).vol) * ((b.row (t + 1)).level - (b.row t).level) := by rw [ht]; rfl
  have q1 : den b v = (b.row (s + 1)).vol - (b.row s).vol := by rw [hs]; rfl
  rw [← hs] at s1 s2 s3 hst
  rw [← ht] at t1 t2 t3 hst
  have uD := h.levelUp s s1
  have uD' := h.levelUp t t1
  obtain ⟨d, hd⟩ : ∃ d, d = den b v := ⟨_, rfl⟩
  obtain ⟨d', hd'⟩ : ∃ d, d = den b v' := ⟨_, rfl⟩
  rw [← hd] at n1 q1 p1 ⊢
  rw [← hd'] at n2 p2 ⊢
  rcases Nat.eq_or_lt_of_le hst with c | c
  · have : d = d' := by rw [hd, hd']; unfold den; rw [← hs, ← ht, c]
    subst this
    rw [n1, n2, ← c]
    refine Int.mul_le_mul_of_nonneg_right ?_ (by omega)
    have : (v - (b.row s).vol) * ((b.row (s + 1)).level - (b.row s).level) ≤ (v' - (b.row s).vol) * ((b.row (s + 1)).level - (b.row s).level) := Int.mul_le_mul_of_nonneg_right (by omega) (by omega)
    omega
  · have e1 := rows_le h (show s + 1 ≤ t by omega) (by omega)
    have e2 := s3 (s + 1) (by omega) (by omega)
    have a1 : num b v ≤ (b.row (s + 1)).level * d := by
      have e4 : (v - (b.row s).vol) * ((b.row (s + 1)).level - (b.row s).level) ≤ d * ((b.row (s + 1)).level - (b.row s).level) := Int.mul_le_mul_of_nonneg_right (by omega) (by omega)
      have e6 : d * ((b.row (s + 1)).level - (b.row s).level) = (b.row (s + 1)).level * d - (b.row s).level * d := by rw [Int.mul_comm, Int.sub_mul]
      omega
    have a2 : (b.row t).level * d' ≤ num b v' := by
      have : 0 ≤ (v' - (b.row t).vol) * ((b.row (t + 1)).level - (b.row t).level) := Int.mul_nonneg (by omega) (by omega)
      omega
    have a3 : num b v * d' ≤ (b.row (s + 1)).level * d * d' := Int.mul_le_mul_of_nonneg_right a1 (by omega)
    have a4 : (b.row t).level * d' * d ≤ num b v' * d := Int.mul_le_mul_of_nonneg_right a2 (by omega)
    have a5 : (b.row (s + 1)).level * d * d' ≤ (b.row t).level * d' * d := by
      rw [Int.mul_assoc, Int.mul_assoc, Int.mul_comm d' d]
      exact Int.mul_le_mul_of_nonneg_right e1.2 (Int.mul_nonneg (by omega) (by omega))
    omega
end
end Go.Proofs.YtoiepgcjinccpaaDoor.Bs
/-
  The walks of Level and of Volume (both texts); the law BasinChecks.
-/
namespace Go.Proofs.YtoiepgcjinccpaaDoor.Bs
/-- what Level answers: the fault, and the least and greatest whole level. -/
noncomputable def lvlE (b : Bas) (v : Int) : Int := if chkE b ≠ 0 then chkE b else if outB v (b.row 0).vol 1000000000 = true then 7 else 0
noncomputable def lvlLo (b : Bas) (v : Int) : Int := if lvlE b v ≠ 0 then 0 else levLo b v
noncomputable def lvlHi (b : Bas) (v : Int) : Int := if lvlE b v ≠ 0 then 0 else levHi b v
/-- what Volume answers. -/
noncomputable def volE (b : Bas) (l : Int) : Int := if chkE b ≠ 0 then chkE b else if outB l (b.row 0).level 20000 = true then 7 else 0
noncomputable def volN (b : Bas) (l : Int) : Int := if volE b l ≠ 0 then 0 else volOf b l
end Go.Proofs.YtoiepgcjinccpaaDoor.Bs
namespace Go.Proofs.YtoiepgcjinccpaaDoor.X
open Go Go.RowKit Go.Proofs.YtoiepgcjinccpaaDoor.Bs
set_option linter.unusedVariables false
section
variable {N : Nat} {B : Nat} {w0 : World} {ds : List Deferred} {F : Fr} {L : Lo} {pu : Prop} {dst : Option Tmp} {ty : TypeId} {p : String} {af : Array Edge} {gd : Option (Nat × Bool)}
end
end Go.Proofs.YtoiepgcjinccpaaDoor.X
/-
  The law BasinLasts.
-/
namespace Go.Proofs.YtoiepgcjinccpaaDoor.Bs
end Go.Proofs.YtoiepgcjinccpaaDoor.Bs
namespace Go.Proofs.YtoiepgcjinccpaaDoor.X
open Go Go.RowKit Go.Proofs.YtoiepgcjinccpaaDoor.Bs
set_option linter.unusedVariables false
section
variable {P : Program} {N : Nat} {B : Nat} {w0 : World} {ds : List Deferred} {F : Fr} {L : Lo} {pu : Prop} {dst : Option Tmp} {ty : TypeId} {p : String} {af : Array Edge} {gd : Option (Nat × Bool)}
end
end Go.Proofs.YtoiepgcjinccpaaDoor.X
/-
  The law BasinRests.
-/
namespace Go.Proofs.YtoiepgcjinccpaaDoor.Bs
/-- a basin without leak and waves. -/
def calm (b : Bas) : Bas := ⟨b.rows, 0, b.crest, 0, b.pols⟩
def restT (o : Int) : Tick := ⟨o.tmod 20001, 0, 0⟩
section
variable {b : Bas} (ho : Ok (calm b)) {s : Sta} (hs : StaOk (calm b) s) (hsill : ∀ j, j < b.pols.length → levHi (calm b) s.vol ≤ (b.pol j).sill)
include ho hs hsill
omit hs in
end
end Go.Proofs.YtoiepgcjinccpaaDoor.Bs
namespace Go.Proofs.YtoiepgcjinccpaaDoor.X
open Go Go.RowKit Go.Proofs.YtoiepgcjinccpaaDoor.Bs
set_option linter.unusedVariables false
def tickK : Kind Tick := ⟨30, 3, tickC, fun _ => [], tickC_len⟩
theorem tick_el : elemOk Tryd.prog 41 tickK.ty tickK.m 24 = true := by kernel_rfl
theorem ListAt.tks {w : World} {ok : Nat → Prop} {r : SV} {l : List Tick} (h : ListAt tickK w ok r l) : TksAt w ok r l := ⟨h.rd, h.max⟩
def i16K : Kind Int := ⟨77, 1, fun k => [.int .i16 k], fun _ => [], fun _ => rfl⟩
end Go.Proofs.YtoiepgcjinccpaaDoor.X
/-
  Rows that take whole lists; rows that are built or made; a slice from a place on.
-/
namespace Go.Proofs.YtoiepgcjinccpaaDoor.X
open Go Go.RowKit
set_option linter.unusedVariables false
section
variable {W W' w w0 w1 w2 : World} {b0 B : Nat} {ks ks' : List Nat} {rs : List RowX} {hs hs' : List Held} {L : Lo}
/-- a row takes a list. -/
theorem Fam.pushL {α : Type} {K : Kind α} {v v' : Value} {l l2 : List α} {i : Nat} (h : Fam W b0 ks rs hs) (hi : rs[i]? = some ⟨α, K, v, l⟩) (ha : ∀ a, a ∈ l2 → ∀ x, x ∈ K.sl a → x.p W (Free W b0 ks rs)) (hrow : W'.ownsRow b0 K.ty K.m v' (l.length + l2.length) (l.flatMap K.c ++ l2.flatMap K.c))
    (hsz : W.heap.size ≤ W'.heap.size) (ho : ∀ j, j < W.heap.size → j ∉ ks → v.ownBlock ≠ some j → W'.heap[j]? = W.heap[j]?) (hfr : ∀ k, v'.ownBlock = some k → v.ownBlock = some k ∨ (W.heap.size ≤ k ∧ k ∉ ks)) :
    Fam W' b0 ks (rs.set i ⟨α, K, v', l ++ l2⟩) hs := by
  have hm : ∀ r, r ∈ rs.set i ⟨α, K, v', l ++ l2⟩ → r = ⟨α, K, v', l ++ l2⟩ ∨ (r ∈ rs ∧ ∀ k, r.v.ownBlock = some k → v.ownBlock ≠ some k) := fun r hr => by
    obtain ⟨j, hj, rfl⟩ := List.mem_iff_getElem.1 hr
    by_cases hij : i = j
    · subst hij; left; simp
    · right
      rw [List.getElem_set_ne hij]
      simp at hj
      refine ⟨List.getElem_mem _, fun k hk h2 => ?_⟩
      obtain ⟨hil, hie⟩ := List.getElem?_eq_some_iff.1 hi
      have hp := List.pairwise_iff_getElem.1 h.two
      rcases Nat.lt_or_gt_of_ne hij with h3 | h3
      · have := hp i j hil hj h3 k (by rw [hie]; exact h2)
        exact this hk
      · have := hp j i hj hil h3 k hk
        rw [hie] at this
        exact this h2
  have hri : (⟨α, K, v, l⟩ : RowX) ∈ rs := List.mem_of_getElem? hi
  have hf : ∀ j, Free W b0 ks rs j → Free W' b0 ks (rs.set i ⟨α, K, v', l ++ l2⟩) j := fun j hj => ⟨hj.1, by have := hj.2.1; omega, hj.2.2.1, fun r hr h1 => by
    rcases hm r hr with rfl | ⟨h2, _⟩
    · rcases hfr j h1 with h3 | h3
      · exact hj.2.2.2 _ hri h3
      · have := hj.2.1; omega
    · exact hj.2.2.2 r h2 h1⟩
  have hk : ∀ j, Free W b0 ks rs j → W'.heap[j]? = W.heap[j]? := fun j hj => ho j hj.2.1 hj.2.2.1 fun h1 => hj.2.2.2 _ hri h1
  refine ⟨Nat.le_trans h.base hsz, fun r hr => ?_, fun r hr k h1 => ?_, ?_, fun r hr b hb x hx => ?_, fun x hx => x.mono (x.keep (h.held x hx) hk) hf⟩
  · rcases hm r hr with rfl | ⟨h2, h3⟩
    · simpa using hrow
    · exact owns_move' (h.row r h2) fun k h4 => ho k (h.lt h2 h4).2 (h.sep r h2 k h4) (h3 k h4)
  · rcases hm r hr with rfl | ⟨h2, h3⟩
    · rcases hfr k h1 with h4 | h4
      · exact h.sep _ hri k h4
      · exact h4.2
    · exact h.sep r h2 k h1
  · rw [List.pairwise_iff_getElem]
    have hp := List.pairwise_iff_getElem.1 h.two
    obtain ⟨hil, hie⟩ := List.getElem?_eq_some_iff.1 hi
    intro p q hpl hql hpq k hk1 hk2
    simp at hpl hql
    by_cases h1 : i = p
    · subst h1
      have h2 : i ≠ q := by omega
      rw [List.getElem_set_ne h2] at hk2
      simp at hk1
      rcases hfr k hk1 with h4 | h4
      · exact hp i q hpl hql hpq k (by rw [hie]; exact h4) hk2
      · have := (h.lt (List.getElem_mem hql) hk2).2; omega
    · by_cases h2 : i = q
      · subst h2
        rw [List.getElem_set_ne h1] at hk1
        simp at hk2
        rcases hfr k hk2 with h4 | h4
        · have := hp p i hpl hql hpq k hk1
          rw [hie] at this
          exact this h4
        · have := (h.lt (List.getElem_mem hpl) hk1).2; omega
      · rw [List.getElem_set_ne h1] at hk1
        rw [List.getElem_set_ne h2] at hk2
        exact hp p q hpl hql hpq k hk1 hk2
  · rcases hm r hr with rfl | ⟨h2, h3⟩
    · rcases List.mem_append.1 hb with h4 | h4
      · exact x.mono (x.keep (h.ins _ hri b h4 x hx) hk) hf
      · exact x.mono (x.keep (ha b h4 x hx) hk) hf
    · exact x.mono (x.keep (h.ins r h2 b hb x hx) hk) hf
theorem svV_inj {r q : SV} (h : svV r = svV q) : r = q := by
  obtain ⟨a, b, c⟩ := r
  obtain ⟨a', b', c'⟩ := q
  simp only [svV, Value.slice.injEq] at h
  obtain ⟨rfl, rfl, rfl⟩ := h
  rfl
theorem Fam.listOf {α : Type} {K : Kind α} {r : SV} {l : List α} (h : Fam W b0 ks rs hs) (hr : (⟨α, K, svV r, l⟩ : RowX) ∈ rs) : ListAt K W (Btw b0 W.heap.size) r l := by
  obtain ⟨q, e, h1⟩ := h.list hr
  rw [svV_inj e]
  exact h1
/-- a new row. -/
theorem Fam.fresh {α : Type} {K : Kind α} {v : Value} {l : List α} (h : Fam W b0 ks rs hs) (hsz : W.heap.size ≤ W'.heap.size) (ho : ∀ j, j < W.heap.size → j ∉ ks → W'.heap[j]? = W.heap[j]?) (hrow : W'.ownsRow b0 K.ty K.m v l.length (l.flatMap K.c))
    (hv : ∀ k, v.ownBlock = some k → W.heap.size ≤ k ∧ k ∉ ks) (ha : ∀ a, a ∈ l → ∀ x, x ∈ K.sl a → x.p W (Free W b0 ks rs)) : Fam W' b0 ks (⟨α, K, v, l⟩ :: rs) hs := by
  have h1 := h.move hsz ho
  have hf : ∀ j, Free W b0 ks rs j → Free W' b0 ks (⟨α, K, v, l⟩ :: rs) j := fun j hj => ⟨hj.1, by have := hj.2.1; omega, hj.2.2.1, fun r hr h2 => by
    rcases List.mem_cons.1 hr with rfl | hr
    · have := (hv j h2).1; have := hj.2.1; omega
    · exact hj.2.2.2 r hr h2⟩
  have hk : ∀ j, Free W b0 ks rs j → W'.heap[j]? = W.heap[j]? := fun j hj => ho j hj.2.1 hj.2.2.1
  refine ⟨h1.base, fun r hr => ?_, fun r hr k h2 => ?_, .cons (fun r hr k h2 h3 => ?_) h.two, fun r hr a hb x hx => ?_, fun x hx => x.mono (x.keep (h.held x hx) hk) hf⟩
  · rcases List.mem_cons.1 hr with rfl | hr
    · exact hrow
    · exact h1.row r hr
  · rcases List.mem_cons.1 hr with rfl | hr
    · exact (hv k h2).2
    · exact h.sep r hr k h2
  · have := (hv k h2).1; have := (h.lt hr h3).2; omega
  · rcases List.mem_cons.1 hr with rfl | hr
    · exact x.mono (x.keep (ha a hb x hx) hk) hf
    · exact x.mono (x.keep (h.ins r hr a hb x hx) hk) hf
end
section
variable {P : Program} {T : TT} {N : Nat} {B : Nat} {w0 : World} {ds : List Deferred} {Q : Exit → Act → World → Prop} {F : Fr} {L : Lo} {pu : Prop} {ops : Array Oper} {rest : List Oper} {ty : TypeId} {p : String} {af : Array Edge}
variable {dst : Option Tmp} {gd : Option (Nat × Bool)}
theorem append_none_run {w : World} {base t e size bytes n c : Nat} {v : Value} {xs : List Value} (he : elemOk P t e size bytes = true) (hown : w.ownsRow base e size v n xs) : (Builtin.append_ #[t, t] ty #[v, .slice none 0 c]).run P w = .ok v w := by
  obtain ⟨hu, i, z, hi, hz, e1, e2, e3⟩ := elemOk_spec he
  rcases hown.2 with ⟨rfl, rfl⟩ | ⟨g, cap, cur, rfl, hb, hg, hc, hm, h⟩
  · simp [Builtin.append_, run_underlying hu, sizeOf_run hi, Builtin.lenOf, Builtin.firstCells]
  · have : ¬ cap < n := by omega
    simp [Builtin.append_, run_underlying hu, sizeOf_run hi, Builtin.lenOf, Builtin.firstCells, storeCells, hc, this]
/-- append(row, a whole list). -/
theorem XL.pushL {α : Type} {K : Kind α} {d : Nat} {t : TypeId} {x y : Operand} {v : Value} {l l2 : List α} {r2 : SV} {bytes b0 : Nat} {ks : List Nat} {rs : List RowX} {hs : List Held} {wE : World} (i : Nat) (he : elemOk P t K.ty K.m bytes = true) (h0 : 0 < K.m)
    (hx : evo F x = some v) (hy : evo F y = some (.slice r2.A r2.n r2.c)) (hd : Nat.blt d N = true) (hF : Fam w0 b0 ks rs hs) (hi : rs[i]? = some ⟨α, K, v, l⟩) (hks : ∀ k, k ∈ ks → k < w0.heap.size) (hbl : Below B wE w0) (hB : B ≤ b0)
    (hr : ∀ w, Sys B w0 L w → ListAt K w (Lt w.heap.size) r2 l2) (ha : ∀ a, a ∈ l2 → ∀ x, x ∈ K.sl a → x.p w0 (Free w0 b0 ks rs)) (h1 : ∀ a : α, (K.c a).all Value.oneCell' = true) (h63 : l.length + l2.length ≤ 10000000) (hb : bytes ≤ 10000000)
    (k : ∀ w' v', Fam w' b0 (L.map (·.1) ++ ks) (rs.set i ⟨α, K, v', l ++ l2⟩) hs → Below B wE w' → (∀ k, k ∈ L.map (·.1) ++ ks → k < w'.heap.size) → XL P N B w' ds Q ops rest ((d, v') :: F) L)
    (hL : ∀ e, e ∈ L → e.1 ∈ ks ∨ w0.heap.size ≤ e.1 := by (intro e he; repeat (first | (cases he; done) | (rcases List.mem_cons.1 he with rfl | he; · first | (right; assumption) | (left; simp <;> fail)))) <;> fail) :
    XL P N B w0 ds Q ops ({ dst := some d, op := .call { callee := .builtin .append, args := #[x, y], argTypes := #[t, t] }, type := ty, pos := p, after := af, guard := none } :: rest) F L := by
  obtain ⟨A, m, c⟩ := r2
  have hri : (⟨α, K, v, l⟩ : RowX) ∈ rs := List.mem_of_getElem? hi
  have hk2 : ∀ k, k ∈ L.map (·.1) ++ ks → k ∈ ks ∨ w0.heap.size ≤ k := fun k hk => by
    rcases List.mem_append.1 hk with h | h
    · obtain ⟨e, he, rfl⟩ := List.mem_map.1 h
      exact hL e he
    · exact .inl h
  have hk3 : ∀ w, Sys B w0 L w → ∀ k, k ∈ L.map (·.1) ++ ks → k < w.heap.size := fun w S k hk => by
    rcases List.mem_append.1 hk with h | h
    · obtain ⟨e, he, rfl⟩ := List.mem_map.1 h
      exact S.lt he
    · exact Nat.lt_of_lt_of_le (hks k h) S.size
  have hsepL : ∀ k, v.ownBlock = some k → ∀ e, e ∈ L → e.1 ≠ k := fun k hk e he e1 => by
    rcases hL e he with h | h
    · exact hF.sep _ hri k hk (e1 ▸ h)
    · have := (hF.lt hri hk).2; omega
  cases A with
  | none =>
    refine ⟨fun a w hf S => ?_⟩
    refine wpList_plain rfl fun Kk hK => ?_
    unfold Oper.wp
    have hl := hr w S
    have hm := hl.len h0
    simp only at hm
    have hm0 : m = 0 := by
      rcases Nat.eq_zero_or_pos m with h | h
      · exact h
      · obtain ⟨ad, e, _⟩ := hl.rd.at_ (by simpa using h)
        cases e
    subst hm0
    have hl2 : l2 = [] := List.length_eq_zero_iff.1 hm.symm
    subst hl2
    have hrun := append_none_run (ty := ty) (c := c) he (owns_sys (hF.row _ hri) S hsepL)
    have : (execOp a.eval { dst := some d, op := .call { callee := .builtin .append, args := #[x, y], argTypes := #[t, t] }, type := ty, pos := p, after := af, guard := none }).run P w = .ok (.value v) w := by
      have hm : (#[x, y] : Array Operand).map a.eval = #[v, .slice none 0 c] := by simp [hf.eval hx, hf.eval hy]
      simp only [execOp, resolve, Sem.run_bind, Sem.run_pure, Result.andThen_ok, invoke, builtin, hm, hrun]
    rw [this]
    refine hK _ _ ((k w v ?_ (hbl.trans S.toBelow) (hk3 w S)).run _ _ (hf.put hd) (S.rebase (List.Sublist.refl _)))
    have h2 := (hF.add (ks' := L.map (·.1) ++ ks) hk2).sys S fun e he => .inl (List.mem_append_left _ (List.mem_map.2 ⟨e, he, rfl⟩))
    obtain ⟨hil, hie⟩ := List.getElem?_eq_some_iff.1 hi
    have h3 : rs.set i ⟨α, K, v, l ++ []⟩ = rs := by
      rw [List.append_nil, ← hie]
      exact List.set_getElem_self hil
    rw [h3]
    exact h2
  | some A =>
    by_cases hex : ∃ w, Sys B w0 L w
    · obtain ⟨wx, Sx⟩ := hex
      have hm := (hr wx Sx).len h0
      simp only at hm
      subst hm
      refine XL.append2 (v := v) (m := l2.length) (n := l.length) (size := K.m) (bytes := bytes) (base := b0) (A := A) (xs := l.flatMap K.c) (news := l2.flatMap K.c) (L' := L) he h0 hx hy hd (hF.row _ hri) hsepL (by rw [flat_len K.c K.m K.len])
        (fun w S j u hj => ?_) ?_ (by unfold maxLen; omega) (Nat.le_trans (Nat.mul_le_mul h63 hb) (by decide)) hF.base (List.Sublist.refl _) (fun w v' w' S ho hg _ hfr => ?_)
      · have h2 := hr w S
        have hjl := (List.getElem?_eq_some_iff.1 hj).1
        rw [flat_len K.c K.m K.len] at hjl
        have hpos : 0 < l2.length := by
          rcases Nat.eq_zero_or_pos l2.length with h | h
          · rw [h] at hjl; omega
          · exact h
        obtain ⟨ad, e, _, h3⟩ := h2.rd.at_ hpos
        cases e
        exact h3 j u hj
      · rw [List.all_eq_true]
        intro u hu
        obtain ⟨a, ha', hu'⟩ := List.mem_flatMap.1 hu
        exact List.all_eq_true.1 (h1 a) u hu'
      · have hsz := hg.size
        have hS := S.size
        refine k w' v' ?_ (hbl.trans (grown_below S hg fun k hk => Nat.le_trans hB (hF.lt hri hk).1)) fun q hq => Nat.lt_of_lt_of_le (hk3 w S q hq) hsz
        have hfa : ∀ j, Free w0 b0 ks rs j → Free w0 b0 (L.map (·.1) ++ ks) rs j := fun j hj => ⟨hj.1, hj.2.1, fun h => by
          rcases hk2 j h with h4 | h4
          · exact hj.2.2.1 h4
          · have := hj.2.1; omega, hj.2.2.2⟩
        refine (hF.add (ks' := L.map (·.1) ++ ks) hk2).pushL hi (fun a h4 x hx => x.mono (ha a h4 x hx) hfa) ho (Nat.le_trans hS hsz) (fun j hj hn hv => ?_) (fun k hk => ?_)
        · exact grown_old S hg hj (fun e he e1 => hn (List.mem_append_left _ (List.mem_map.2 ⟨e, he, e1⟩))) fun e1 => hv e1.symm
        · rcases hfr k hk with h | h
          · exact .inl h
          · exact .inr ⟨Nat.le_trans hS h, fun h2 => by have := hk3 w S k h2; omega⟩
    · exact ⟨fun a w hf S => absurd ⟨w, S⟩ hex⟩
theorem XL.weak1 {t : Nat} {u : Value} (h : XL P N B w0 ds Q ops rest F L) : XL P N B w0 ds Q ops rest ((1000000 + t, u) :: F) L :=
  ⟨fun a w hf hs => h.run a w ⟨hf.size, hf.defers, fun t' v ht hv => hf.get t' v ht (by
    unfold lk
    have : Nat.beq (1000000 + t) t' = false := by
      cases hb : Nat.beq (1000000 + t) t' with
      | false => rfl
      | true => have := Nat.eq_of_beq_eq_true hb; omega
    rw [this]
    exact hv)⟩ hs⟩
/-- a slice literal is a new row. -/
theorem XL.newRow (hT : TOK P T) {α : Type} {K : Kind α} {l : List α} {d : Nat} {t e : TypeId} {n size b0 : Nat} {ps : List (Nat × Operand)} {z : Value} {zs cs : List Value} {ks : List Nat} {rs : List RowX} {hs : List Held} {wE : World}
    (hs' : lkG T.sl t = some (e, size)) (hz : lkG T.zero e = some z) (hzs : cellsO z = some zs) (hsz : Nat.beq zs.length size = true) (h0 : Nat.blt 0 size = true) (hbig : Nat.ble (n * size) 16777216 = true) {zl : List Value} (hzl : zerosO zs n = some zl) (hc : fillS F size zl ps = some cs) (hd : Nat.blt d N = true)
    (hK : K.ty = e ∧ K.m = size) (hcs : cs = l.flatMap K.c) (hn : l.length = n) (hF : Fam w0 b0 ks rs hs) (hks : ∀ k, k ∈ ks → k < w0.heap.size) (hbl : Below B wE w0) (hb0 : b0 ≤ w0.heap.size) (ha : ∀ a, a ∈ l → ∀ x, x ∈ K.sl a → x.p w0 (Free w0 b0 ks rs))
    (k : ∀ w' g, Fam w' b0 (L.map (·.1) ++ ks) (⟨α, K, .slice (some ⟨g, 0, none⟩) n n, l⟩ :: rs) hs → Below B wE w' → (∀ k, k ∈ L.map (·.1) ++ ks → k < w'.heap.size) → XL P N B w' ds Q ops rest ((d, .slice (some ⟨g, 0, none⟩) n n) :: F) L)
    (hL : ∀ e, e ∈ L → e.1 ∈ ks ∨ w0.heap.size ≤ e.1 := by (intro e he; repeat (first | (cases he; done) | (rcases List.mem_cons.1 he with rfl | he; · first | (right; assumption) | (left; simp <;> fail)))) <;> fail) :
    XL P N B w0 ds Q ops ({ dst := some d, op := .buildSlice t n ps.toArray, type := ty, pos := p, after := af, guard := none } :: rest) F L := by
  refine XL.buildSlice hT hs' hz hzs hsz h0 hbig hzl hc hd fun g hg => ?_
  refine XL.rebase (List.sublist_cons_self _ _) fun w1 S => ?_
  have hk2 : ∀ k, k ∈ L.map (·.1) ++ ks → k ∈ ks ∨ w0.heap.size ≤ k := fun k hk => by
    rcases List.mem_append.1 hk with h | h
    · obtain ⟨e, he, rfl⟩ := List.mem_map.1 h
      exact hL e he
    · exact .inl h
  have hk3 : ∀ k, k ∈ L.map (·.1) ++ ks → k < w1.heap.size := fun k hk => by
    rcases List.mem_append.1 hk with h | h
    · obtain ⟨e, he, rfl⟩ := List.mem_map.1 h
      exact S.lt (List.mem_cons_of_mem _ he)
    · exact Nat.lt_of_lt_of_le (hks k h) S.size
  have hgL : g ∉ L.map (·.1) := by have := S.nd; simp only [List.map_cons, List.nodup_cons] at this; exact this.1
  have hfa : ∀ j, Free w0 b0 ks rs j → Free w0 b0 (L.map (·.1) ++ ks) rs j := fun j hj => ⟨hj.1, hj.2.1, fun h => by
    rcases hk2 j h with h4 | h4
    · exact hj.2.2.1 h4
    · have := hj.2.1; omega, hj.2.2.2⟩
  obtain ⟨hK1, hK2⟩ := hK
  have hrow : w1.ownsRow b0 K.ty K.m (.slice (some ⟨g, 0, none⟩) n n) l.length (l.flatMap K.c) := by
    have h5 := (S.own (g, _) List.mem_cons_self).2
    have h6 : (l.flatMap K.c).length = n * K.m := by rw [flat_len K.c K.m K.len, hn]
    have hsz' : 0 < K.m := by rw [hK2]; exact Nat.le_of_ble_eq_true h0
    have hbig' : n * K.m ≤ 16777216 := by rw [hK2]; exact Nat.le_of_ble_eq_true hbig
    have hnm : n ≤ n * K.m := Nat.le_mul_of_pos_right n hsz'
    refine ⟨by rw [h6, hn], .inr ⟨g, n, ⟨l.flatMap K.c⟩, by rw [hn], Nat.le_trans hb0 hg, ?_, by omega, by unfold maxLen; omega, by simpa using h6, ?_⟩⟩
    · rw [hK1, ← hcs]; exact h5
    · rw [hn, ← h6]
      simp only [List.take_length]
  refine XL.weak1 (k w1 g ((hF.add (ks' := L.map (·.1) ++ ks) hk2).fresh S.size (fun j hj hn' => ?_) hrow (fun q hq => ?_) fun a h4 x hx => x.mono (ha a h4 x hx) hfa) (hbl.trans S.toBelow) hk3)
  · exact S.old j hj fun e he e1 => by
      rcases List.mem_cons.1 he with rfl | he
      · simp only at e1; omega
      · exact hn' (List.mem_append_left _ (List.mem_map.2 ⟨e, he, e1⟩))
  · simp only [Value.ownBlock, Option.some.injEq] at hq
    subst hq
    refine ⟨hg, fun h7 => ?_⟩
    rcases List.mem_append.1 h7 with h8 | h8
    · exact hgL h8
    · have := hks _ h8; omega
/-- make([]int, n). -/
theorem XL.makeInts {d : Nat} {t e : TypeId} {x y : Operand} {n : Nat} (he : elemOk P t e 1 8 = true) (hz : (P.info? e).bind (·.zero) = some (.int .i64 0)) (hx : evo F x = some (.int .i64 (n : Nat))) (hy : evo F y = some (.int .i64 (n : Nat))) (hd : Nat.blt d N = true) (hn : n ≤ 1000000)
    (k : ∀ g, w0.heap.size ≤ g → XL P N B w0 ds Q ops rest ((1000000 + d, .slice none L.length 0) :: (d, .slice (some ⟨g, 0, none⟩) n n) :: F) ((g, cel e (ints (List.replicate n 0))) :: L)) :
    XL P N B w0 ds Q ops ({ dst := some d, op := .makeSlice t x y, type := ty, pos := p, after := af, guard := none } :: rest) F L := by
  refine ⟨fun a w hf hw => ?_⟩
  refine wpList_plain rfl fun Kk hK => ?_
  unfold Oper.wp
  obtain ⟨hu, i, z, hi, hz', e1, e2, e3⟩ := elemOk_spec he
  rw [hi] at hz
  simp only [Option.bind_some] at hz
  have hz2 : z = .int .i64 0 := by rw [hz'] at hz; exact Option.some.inj hz
  subst hz2
  have hrun := run_makeSlice (P := P) w t e i (.int .i64 0) hu hi hz' .i64 .i64 (n : Int) (n : Int) (by omega) (Int.le_refl _) (by rw [e1]; simp; omega) (by rw [e2]; omega) (by omega)
  have hmc : madeCells (Value.int .i64 0).cells ((n : Int).toNat * i.size) = ⟨ints (List.replicate n 0)⟩ := by
    rw [e1]
    apply Array.ext
    · simp [madeCells, ints]
    · intro j h1 h2
      simp [madeCells, ints, Value.cells]
      rw [show j % 1 = 0 from by omega]
      rfl
  rw [hmc] at hrun
  simp only [Int.toNat_natCast] at hrun
  have : (execOp a.eval { dst := some d, op := .makeSlice t x y, type := ty, pos := p, after := af, guard := none }).run P w = .ok (.value (.slice (some ⟨w.heap.size, 0, none⟩) n n)) (w.alloc (cel e (ints (List.replicate n 0)))) := by
    simp [execOp, hf.eval hx, hf.eval hy, hrun]
  rw [this]
  exact hK _ _ ((k w.heap.size hw.size).run _ _ ((hf.put hd).hint d _) (hw.box _))
/-- x[j:], whatever room there is. -/
theorem Ev.slice_from (hT : TOK P T) {t e es : Nat} {x lo : Operand} {A : Option Addr} {n c : Nat} {k : IntKind} {q : Int} (j : Nat) (hx : evo F x = some (.slice A n c)) (hlo : evo F lo = some (.int k q)) (hq : q = (j : Int))
    (hs : lkG T.sl t = some (e, es)) (h1 : j ≤ n) : Ev P N B w0 ds pu F L ⟨dst, .slice t x (some lo) none none, ty, p, af, gd⟩ (.slice (if c = j then A else A.map (·.add (j * es))) (n - j) (c - j)) :=
  .of_run fun a w hf hw => by
    have h := tab_ok hT.sl hs
    unfold slOf at h
    cases hu : P.underlying t with
    | none => rw [hu] at h; cases h
    | some d =>
      rw [hu] at h
      cases d <;> simp at h
      obtain ⟨i, hi, rfl, rfl⟩ := h
      subst hq
      have hz := sizeOf_run hi w
      simp [execOp, hf.eval hx, hf.eval hlo, Instr.sliceAt, Instr.slice, run_underlying hu, Instr.sliceBounds, Instr.sliceBound, asIntOf, hz, h1]
end
end Go.Proofs.YtoiepgcjinccpaaDoor.X
/-
  The plain words of layer 4: more water at first, and in each tick, is not less water later.
-/
namespace Go.Proofs.YtoiepgcjinccpaaDoor.Bs
set_option linter.unusedVariables false
/-- two floors that differ by no more than k. -/
theorem floor_shift {x d x' d' k : Int} (hd : 0 < d) (hd' : 0 < d') (h : x * d' ≤ x' * d + k * (d * d')) : x / d ≤ x' / d' + k := by
  have h1 : x / d * d ≤ x := Int.ediv_mul_le _ (by omega)
  have h2 : x / d * d * d' ≤ x * d' := Int.mul_le_mul_of_nonneg_right h1 (by omega)
  have h3 : (x / d - k) * d' ≤ x' := by
    refine Int.le_of_mul_le_mul_right (a := d) ?_ hd
    have e1 : (x / d - k) * d' * d = x / d * d * d' - k * (d * d') := by grind
    omega
  have h4 : x / d - k ≤ x' / d' := (Int.le_ediv_iff_mul_le hd').2 h3
  omega
section
variable {b : Bas} (h : Ok b)
include h
/-- between rows. -/
theorem wide_between {i : Nat} : ∀ {j : Nat}, i ≤ j → j < b.rows.length → great b b.pols.length * ((b.row j).level - (b.row i).level) ≤ (b.row j).vol - (b.row i).vol := by
  intro j
  induction j with
  | zero => intro h1 _; have : i = 0 := by omega
            subst this; simp
  | succ j ih =>
    intro h1 hj
    by_cases e : i = j + 1
    · subst e; simp
    · have h2 := ih (by omega) (by omega)
      have h3 := h.wide j hj
      unfold wideAt at h3
      have e : great b b.pols.length * ((b.row (j + 1)).level - (b.row i).level) = great b b.pols.length * ((b.row j).level - (b.row i).level) + great b b.pols.length * ((b.row (j + 1)).level - (b.row j).level) := by rw [← Int.mul_add]; congr 1; omega
      omega
/-- so much more water raises the level by no more than the width allows. -/
theorem wide_two {v v' : Int} (hv : (b.row 0).vol ≤ v) (hvv : v ≤ v') : great b b.pols.length * (num b v' * den b v - num b v * den b v') ≤ (v' - v) * (den b v * den b v') := by
  have ho := h.rowsOk
  obtain ⟨s1, s2, s3⟩ := seg_spec ho hv
  obtain ⟨t1, t2, t3⟩ := seg_spec ho (v := v') (by omega)
  have p1 := den_pos ho v
  have p2 := den_pos ho v'
  have hst : seg b v ≤ seg b v' := by
    rcases Nat.lt_or_ge (seg b v') (seg b v) with c | c
    · have := t3 (seg b v) c s1; omega
    · exact c
  have hG := (great_bd h).1
  have w1 := h.wide _ s1
  have w2 := h.wide _ t1
  unfold wideAt at w1 w2
  obtain ⟨s, hs⟩ : ∃ s, s = seg b v := ⟨_, rfl⟩
  obtain ⟨t, ht⟩ : ∃ s, s = seg b v' := ⟨_, rfl⟩
  have n1 : num b v = (b.row s).level * den b v + (v - (b.row s).vol) * ((b.row (s + 1)).level - (b.row s).level) := by rw [hs]; rfl
  have n2 : num b v' = (b.row t).level * den b v' + (v' - (b.row t).vol) * ((b.row (t + 1)).level - (b.row t).level) := by rw [ht]; rfl
  have q1 : den b v = (b.row (s + 1)).vol - (b.row s).vol := by rw [hs]; rfl
  have q2 : den b v' = (b.row (t + 1)).vol - (b.row t).vol := by rw [ht]; rfl
  rw [← hs] at s1 s2 s3 hst w1
  rw [← ht] at t1 t2 t3 hst w2
  obtain ⟨G, hGd⟩ : ∃ G, G = great b b.pols.length := ⟨_, rfl⟩
  rw [← hGd] at hG w1 w2 ⊢
  obtain ⟨d, hd⟩ : ∃ d, d = den b v := ⟨_, rfl⟩
  obtain ⟨d', hd'⟩ : ∃ d, d = den b v' := ⟨_, rfl⟩
  rw [← hd] at n1 q1 p1 ⊢
  rw [← hd'] at n2 q2 p2 ⊢
  obtain ⟨D, hD⟩ : ∃ D, D = (b.row (s + 1)).level - (b.row s).level := ⟨_, rfl⟩
  obtain ⟨D', hD'⟩ : ∃ D, D = (b.row (t + 1)).level - (b.row t).level := ⟨_, rfl⟩
  rw [← hD] at n1 w1
  rw [← hD'] at n2 w2
  rw [← q1] at w1
  rw [← q2] at w2
  rcases Nat.eq_or_lt_of_le hst with c | c
  · have e1 : d = d' := by rw [q1, q2, c]
    have e2 : D = D' := by rw [hD, hD', c]
    subst e1 e2
    rw [n1, n2, c]
    have e3 : G * (((b.row t).level * d + (v' - (b.row t).vol) * D) * d - ((b.row t).level * d + (v - (b.row t).vol) * D) * d) = (v' - v) * d * (G * D) := by grind
    rw [e3]
    have e4 : (v' - v) * d * (G * D) ≤ (v' - v) * d * d := Int.mul_le_mul_of_nonneg_left w1 (Int.mul_nonneg (by omega) (by omega))
    have e5 : (v' - v) * d * d = (v' - v) * (d * d) := Int.mul_assoc _ _ _
    omega
  · have e2 := s3 (s + 1) (by omega) (by omega)
    have wb := wide_between h (i := s + 1) (j := t) (by omega) (by omega)
    rw [← hGd] at wb
    have a1 : (v' - (b.row t).vol) * d * (G * D') ≤ (v' - (b.row t).vol) * d * d' := Int.mul_le_mul_of_nonneg_left w2 (Int.mul_nonneg (by omega) (by omega))
    have a2 : ((b.row (s + 1)).vol - v) * d' * (G * D) ≤ ((b.row (s + 1)).vol - v) * d' * d := Int.mul_le_mul_of_nonneg_left w1 (Int.mul_nonneg (by omega) (by omega))
    have a3 : G * ((b.row t).level - (b.row (s + 1)).level) * (d * d') ≤ ((b.row t).vol - (b.row (s + 1)).vol) * (d * d') := Int.mul_le_mul_of_nonneg_right wb (Int.mul_nonneg (by omega) (by omega))
    have l1 : (b.row (s + 1)).level = (b.row s).level + D := by omega
    have l2 : (b.row (s + 1)).vol = (b.row s).vol + d := by omega
    have e3 : G * (num b v' * d - num b v * d') = G * ((b.row t).level - (b.row (s + 1)).level) * (d * d') + (v' - (b.row t).vol) * d * (G * D') + ((b.row (s + 1)).vol - v) * d' * (G * D) := by
      rw [n1, n2, l1, l2]; grind
    have e4 : (v' - v) * (d * d') = ((b.row t).vol - (b.row (s + 1)).vol) * (d * d') + (v' - (b.row t).vol) * d * d' + ((b.row (s + 1)).vol - v) * d' * d := by grind
    omega
/-- the same for a rate that is not greater. -/
theorem rate_two {r v v' : Int} (hr : 0 ≤ r ∧ r ≤ great b b.pols.length) (hv : (b.row 0).vol ≤ v) (hvv : v ≤ v') : 0 ≤ r * (num b v' * den b v - num b v * den b v') ∧ r * (num b v' * den b v - num b v * den b v') ≤ (v' - v) * (den b v * den b v') := by
  have h1 := wide_two h hv hvv
  have h2 := exact_mono h.rowsOk hv hvv
  have h3 : 0 ≤ num b v' * den b v - num b v * den b v' := by omega
  have h4 : r * (num b v' * den b v - num b v * den b v') ≤ great b b.pols.length * (num b v' * den b v - num b v * den b v') := Int.mul_le_mul_of_nonneg_right hr.2 h3
  exact ⟨Int.mul_nonneg hr.1 h3, by omega⟩
theorem leakQ_mono {o o' v v' : Int} (ho : o ≤ o') (hv : (b.row 0).vol ≤ v) (hvv : v ≤ v') : leakQ b o v ≤ leakQ b o' v' + (v' - v) := by
  have p1 := den_pos h.rowsOk v
  have p2 := den_pos h.rowsOk v'
  have h1 := (rate_two h (r := b.leak) ⟨h.leak.1, great_leak b _⟩ hv hvv).2
  unfold leakQ
  refine floor_shift (by omega) (by omega) ?_
  have h2 : b.leak * (den b v * den b v') * o ≤ b.leak * (den b v * den b v') * o' := Int.mul_le_mul_of_nonneg_left ho (Int.mul_nonneg h.leak.1 (Int.mul_nonneg (by omega) (by omega)))
  have e1 : b.leak * (-num b v - -o * den b v) * den b v' = b.leak * (den b v * den b v') * o - b.leak * (num b v * den b v') := by grind
  have e2 : b.leak * (-num b v' - -o' * den b v') * den b v = b.leak * (den b v * den b v') * o' - b.leak * (num b v' * den b v) := by grind
  have e3 : b.leak * (num b v' * den b v - num b v * den b v') = b.leak * (num b v' * den b v) - b.leak * (num b v * den b v') := Int.mul_sub _ _ _
  omega
/-- what a polder would take if it had room. -/
def takeQ (b : Bas) (i : Nat) (v : Int) : Int := (b.pol i).take * (num b v - (b.pol i).sill * den b v) / den b v
theorem takeQ_mono {i : Nat} (hi : i < b.pols.length) {v v' : Int} (hv : (b.row 0).vol ≤ v) (hvv : v ≤ v') : takeQ b i v ≤ takeQ b i v' ∧ takeQ b i v' ≤ takeQ b i v + (v' - v) := by
  have p1 := den_pos h.rowsOk v
  have p2 := den_pos h.rowsOk v'
  obtain ⟨h0, h1⟩ := rate_two h (r := (b.pol i).take) ⟨(h.take i hi).1, great_le b _ i hi⟩ hv hvv
  have e1 : (b.pol i).take * (num b v - (b.pol i).sill * den b v) * den b v' = (b.pol i).take * (num b v * den b v') - (b.pol i).take * (b.pol i).sill * (den b v * den b v') := by grind
  have e2 : (b.pol i).take * (num b v' - (b.pol i).sill * den b v') * den b v = (b.pol i).take * (num b v' * den b v) - (b.pol i).take * (b.pol i).sill * (den b v * den b v') := by grind
  have e3 : (b.pol i).take * (num b v' * den b v - num b v * den b v') = (b.pol i).take * (num b v' * den b v) - (b.pol i).take * (num b v * den b v') := Int.mul_sub _ _ _
  have e4 : (v' - v) * (den b v' * den b v) = (v' - v) * (den b v * den b v') := by rw [Int.mul_comm (den b v')]
  unfold takeQ
  refine ⟨?_, floor_shift (by omega) (by omega) (by omega)⟩
  have := floor_shift (x := (b.pol i).take * (num b v - (b.pol i).sill * den b v)) (d := den b v) (x' := (b.pol i).take * (num b v' - (b.pol i).sill * den b v')) (d' := den b v') (k := 0) (by omega) (by omega) (by omega)
  omega
theorem takeOf_eq {i : Nat} (hi : i < b.pols.length) {v fil : Int} (hf : fil ≤ (b.pol i).room) : takeOf b i v fil = max 0 (min (takeQ b i v) ((b.pol i).room - fil)) := by
  have p1 := den_pos h.rowsOk v
  have ht := (h.take i hi).1
  unfold takeOf
  by_cases hc : (b.pol i).sill * den b v < num b v
  · rw [if_pos hc]
    have h2 : 0 ≤ takeQ b i v := Int.ediv_nonneg (Int.mul_nonneg ht (by omega)) (by omega)
    unfold takeQ at h2 ⊢
    omega
  · rw [if_neg hc]
    have h1 : (b.pol i).take * (num b v - (b.pol i).sill * den b v) ≤ 0 := Int.mul_nonpos_of_nonneg_of_nonpos ht (by omega)
    have h2 : takeQ b i v ≤ 0 := by
      unfold takeQ
      have : (b.pol i).take * (num b v - (b.pol i).sill * den b v) / den b v ≤ 0 / den b v := Int.ediv_le_ediv (by omega) h1
      rw [Int.zero_ediv] at this
      exact this
    omega
theorem takeOf_mono {i : Nat} (hi : i < b.pols.length) {v v' fil fil' : Int} (hv : (b.row 0).vol ≤ v) (hvv : v ≤ v') (hf : fil ≤ fil') (hf' : fil' ≤ (b.pol i).room) :
    v - takeOf b i v fil ≤ v' - takeOf b i v' fil' ∧ fil + takeOf b i v fil ≤ fil' + takeOf b i v' fil' := by
  obtain ⟨h1, h2⟩ := takeQ_mono h hi hv hvv
  rw [takeOf_eq h hi (by omega), takeOf_eq h hi hf']
  omega
/-- a state that is not less. -/
structure StaLe (b : Bas) (s s' : Sta) : Prop where
  vol : s.vol ≤ s'.vol
  fil : ∀ i, i < b.pols.length → s.f i ≤ s'.f i
theorem polV_mono {s s' : Sta} (hs : StaOk b s) (hs' : StaOk b s') (hle : ∀ i, i < b.pols.length → s.f i ≤ s'.f i) {v v' : Int} (hv : b.v0 ≤ v ∧ v ≤ 1000000000) (hv' : b.v0 ≤ v' ∧ v' ≤ 1000000000) (hvv : v ≤ v') :
    ∀ k, k ≤ b.pols.length → polV b s v k ≤ polV b s' v' k ∧ (k < b.pols.length → s.f k + polT b s v k ≤ s'.f k + polT b s' v' k) := by
  have key : ∀ k, k < b.pols.length → polV b s v k ≤ polV b s' v' k → polV b s v k - takeOf b k (polV b s v k) (s.f k) ≤ polV b s' v' k - takeOf b k (polV b s' v' k) (s'.f k) ∧ s.f k + takeOf b k (polV b s v k) (s.f k) ≤ s'.f k + takeOf b k (polV b s' v' k) (s'.f k) := fun k hk hle2 =>
    takeOf_mono h hk (polV_bd h hs hv k (by omega)).1 hle2 (hle k hk) (hs'.fil k hk).2
  intro k
  induction k with
  | zero => intro _; exact ⟨hvv, fun hk => (key 0 hk hvv).2⟩
  | succ k ih =>
    intro hk
    have h1 := (ih (by omega)).1
    have h2 : polV b s v (k + 1) ≤ polV b s' v' (k + 1) := (key k (by omega) h1).1
    exact ⟨h2, fun hk2 => (key (k + 1) hk2 h2).2⟩
/-- a tick that brings no less. -/
structure TickLe (t t' : Tick) : Prop where
  outer : t.outer ≤ t'.outer
  river : t.river ≤ t'.river
  out : t'.out ≤ t.out
theorem vols_mono {s s' : Sta} {t t' : Tick} (hs : StaOk b s) (hs' : StaOk b s') (hle : StaLe b s s') (ht : TickLe t t') (hr : 0 ≤ t.river) (hx : -20000 ≤ t.outer ∧ t.outer ≤ 20000) :
    vol1 s t ≤ vol1 s' t' ∧ vol2 b s t ≤ vol2 b s' t' ∧ vol3 b s t ≤ vol3 b s' t' ∧ vol4 b s t ≤ vol4 b s' t' := by
  have hv := hs.vol
  have h1 : vol1 s t ≤ vol1 s' t' := by have := hle.vol; have := ht.river; unfold vol1; omega
  have hov : overOf b t ≤ overOf b t' := by
    unfold overOf
    exact Int.mul_le_mul_of_nonneg_left (by have := ht.outer; omega) h.over.1
  have ho0 := (over_bd h t hx).1
  have h2 : vol2 b s t ≤ vol2 b s' t' := by unfold vol2; omega
  have hv2 : (b.row 0).vol ≤ vol2 b s t := by unfold vol2 vol1; omega
  have h3 : vol3 b s t ≤ vol3 b s' t' := by
    have := leakQ_mono h ht.outer hv2 h2
    unfold vol3 leakOf; omega
  refine ⟨h1, h2, h3, ?_⟩
  have := ht.out
  unfold vol4 outOf; omega
theorem step_mono {s s' : Sta} {t t' : Tick} (hs : StaOk b s) (hs' : StaOk b s') (hle : StaLe b s s') (ht : TickLe t t') (he : stepE b s t = 0) (he' : stepE b s' t' = 0) : StaLe b (outS b s t) (outS b s' t') := by
  have k1 := stepOk_of h hs he
  have k2 := stepOk_of h hs' he'
  obtain ⟨_, _, _, h4⟩ := vols_mono h hs hs' hle ht k1.river.1 k1.outer
  have h5 := polV_mono h hs hs' hle.fil k1.v4 k2.v4 h4
  rw [outS_0 he, outS_0 he']
  refine ⟨(h5 _ (Nat.le_refl _)).1, fun i hi => ?_⟩
  have e1 : (stepS b s t).f i = s.f i + polT b s (vol4 b s t) i := by simp only [stepS, Sta.f]; exact rg_at hi
  have e2 : (stepS b s' t').f i = s'.f i + polT b s' (vol4 b s' t') i := by simp only [stepS, Sta.f]; exact rg_at hi
  rw [e1, e2]
  exact (h5 i (by omega)).2 hi
/-- where the worse tick has no fault, the other has none but its own numbers. -/
theorem step_fine {s s' : Sta} {t t' : Tick} (hs : StaOk b s) (hs' : StaOk b s') (hle : StaLe b s s') (ht : TickLe t t') (hb : tickBad t = false) (he' : stepE b s' t' = 0) : stepE b s t = 0 := by
  have k2 := stepOk_of h hs' he'
  have hb' := hb
  simp only [tickBad, Bool.or_eq_false_iff] at hb'
  have o1 := outB_f.1 hb'.1
  have o2 := outB_f.1 hb'.2.1
  obtain ⟨h1, h2, h3, _⟩ := vols_mono h hs hs' hle ht o2.1 o1
  have := k2.v1; have := k2.v2; have := k2.v3
  exact stepE_0 hb (by omega) (by omega) (by omega)
end
end Go.Proofs.YtoiepgcjinccpaaDoor.Bs
/-
  The plain words of layer 4: a worse case through all its ticks.
-/
namespace Go.Proofs.YtoiepgcjinccpaaDoor.Bs
set_option linter.unusedVariables false
theorem step_tick {b : Bas} {s : Sta} {t : Tick} {e : Int} (he : stepE b s t = e) (h7 : e ≠ 7) : tickBad t = false := by
  cases hb : tickBad t with
  | false => rfl
  | true => unfold stepE at he; rw [hb] at he; exact absurd he.symm h7
/-- a case that is worse, where the numbers of the other one are fine. -/
structure CaseLe (b : Bas) (s s' : Sta) (ts ts' : List Tick) : Prop where
  len : ts'.length = ts.length
  sta : StaOk b s → StaLe b s s'
  tick : ∀ k, k < ts.length → tickBad (tk ts k) = false → TickLe (tk ts k) (tk ts' k)
section
variable {b : Bas} {s s' : Sta} {ts ts' : List Tick}
theorem run_mono (h : Ok b) (hs : StaOk b s) (hs' : StaOk b s') (hc : CaseLe b s s' ts ts') : ∀ k, k ≤ ts.length → (∀ j, j < k → errAt b s ts j = 0) → (∀ j, j < k → errAt b s' ts' j = 0) → StaLe b (staAt b s ts k) (staAt b s' ts' k) := by
  intro k
  induction k with
  | zero => intro _ _ _; exact hc.sta hs
  | succ k ih =>
    intro hk h1 h2
    have h3 := ih (by omega) (fun j hj => h1 j (by omega)) (fun j hj => h2 j (by omega))
    have e1 : stepE b (staAt b s ts k) (tk ts k) = 0 := h1 k (by omega)
    have e2 : stepE b (staAt b s' ts' k) (tk ts' k) = 0 := h2 k (by omega)
    exact step_mono h (staAt_ok h hs k fun j hj => h1 j (by omega)) (staAt_ok h hs' k fun j hj => h2 j (by omega)) h3 (hc.tick k (by omega) (step_tick e1 (by decide))) e1 e2
/-- too much water in the one is too much in the worse one. -/
theorem long_no (hc : CaseLe b s s' ts ts') (h3 : runE b s ts = 3) (h0 : runE b s' ts' = 0) : False := by
  obtain ⟨hs0', h300', herr'⟩ := X.runE_0 h0
  obtain ⟨ho, hs'⟩ := staOk_of hs0'
  have hchk : chkE b = 0 := by
    by_cases hh : chkE b = 0
    · exact hh
    · rw [staErr_c hh] at hs0'; exact absurd hs0' hh
  unfold runE at h3
  split at h3
  · unfold staErr at h3
    rw [if_neg (by simp [hchk])] at h3
    split at h3
    · cases h3
    · split at h3 <;> cases h3
  · rename_i hs0
    have hs0 : staErr b s = 0 := by simpa using hs0
    have hs := (staOk_of hs0).2
    split at h3
    · rename_i h4; have := hc.len; omega
    · split at h3
      · cases h3
      · rename_i k hk
        have hk2 := hk
        unfold badAt at hk2
        rw [List.find?_range_eq_some] at hk2
        obtain ⟨_, hkl, hlow⟩ := hk2
        have hkl : k < ts.length := by simpa using hkl
        have h1 : ∀ j, j < k → errAt b s ts j = 0 := fun j hj => by simpa using hlow j hj
        have h2 : ∀ j, j < k → errAt b s' ts' j = 0 := fun j hj => herr' j (by have := hc.len; omega)
        have h5 := run_mono ho hs hs' hc k (by omega) h1 h2
        have hb := step_tick (show stepE b (staAt b s ts k) (tk ts k) = 3 from h3) (by decide)
        have h6 := step_fine ho (staAt_ok ho hs k h1) (staAt_ok ho hs' k h2) h5 (hc.tick k hkl hb) hb (herr' k (by have := hc.len; omega))
        have h7 : stepE b (staAt b s ts k) (tk ts k) = 3 := h3
        rw [h6] at h7; cases h7
theorem over_mono (h : RowsOk b) {lim v v' : Int} (hv : (b.row 0).vol ≤ v) (hvv : v ≤ v') (ho : X.overB b lim v = true) : X.overB b lim v' = true := by
  simp only [X.overB, decide_eq_true_eq] at ho ⊢
  have p1 := den_pos h v
  have p2 := den_pos h v'
  have h1 := exact_mono h hv hvv
  have h2 : lim * den b v * den b v' < num b v * den b v' := Int.mul_lt_mul_of_pos_right ho (by omega)
  refine Int.lt_of_mul_lt_mul_right (a := den b v) ?_ (by omega)
  have : lim * den b v' * den b v = lim * den b v * den b v' := by grind
  omega
theorem find_mono {α β : Type} {p : α → Bool} {q : β → Bool} : ∀ {l : List α} {m : List β}, l.length = m.length → (∀ i, (h1 : i < l.length) → (h2 : i < m.length) → p l[i] = true → q m[i] = true) → m.findIdx q ≤ l.findIdx p := by
  intro l
  induction l with
  | nil => intro m h _; have : m = [] := List.length_eq_zero_iff.1 (by simpa using h.symm)
           subst this; simp
  | cons a l ih =>
    intro m h hp
    cases m with
    | nil => simp at h
    | cons c m =>
      have h0 := hp 0 (by simp) (by simp)
      simp only [List.getElem_cons_zero] at h0
      have h1 := ih (m := m) (by simpa using h) fun i h1 h2 h3 => by
        have := hp (i + 1) (by simpa using h1) (by simpa using h2)
        simp only [List.getElem_cons_succ] at this
        exact this h3
      rw [List.findIdx_cons, List.findIdx_cons]
      cases ha : p a with
      | true => rw [h0 ha]; simp
      | false =>
        cases hc : q c with
        | true => simp
        | false => simpa using h1
/-- Stay is not greater. -/
theorem stay_mono (hc : CaseLe b s s' ts ts') (h0 : runE b s ts = 0) (h0' : runE b s' ts' = 0) (lim : Int) : X.stayE b s ts lim = X.stayE b s' ts' lim ∧ X.stayN b s' ts' lim ≤ X.stayN b s ts lim := by
  obtain ⟨hs0, h300, herr⟩ := X.runE_0 h0
  obtain ⟨hs0', h300', herr'⟩ := X.runE_0 h0'
  obtain ⟨ho, hs⟩ := staOk_of hs0
  have hs' := (staOk_of hs0').2
  cases h1 : outB lim (b.row 0).level 20000 with
  | true =>
    obtain ⟨a1, a2⟩ := X.stay_out h0 h1
    obtain ⟨b1, b2⟩ := X.stay_out h0' h1
    rw [a1, a2, b1, b2]
    exact ⟨rfl, Int.le_refl _⟩
  | false =>
    obtain ⟨a1, a2⟩ := X.stay_in h0 h1
    obtain ⟨b1, b2⟩ := X.stay_in h0' h1
    rw [a1, a2, b1, b2]
    refine ⟨rfl, ?_⟩
    have : (momsAt b s' ts' ts'.length).findIdx (fun x => X.overB b lim x.1.vol) ≤ (momsAt b s ts ts.length).findIdx (fun x => X.overB b lim x.1.vol) := by
      refine find_mono (by simp [momsAt, hc.len]) fun i h2 h3 h4 => ?_
      have hi : i < ts.length := by simpa [momsAt] using h2
      simp only [momsAt, List.getElem_map, List.getElem_range] at h4 ⊢
      have h5 := run_mono ho hs hs' hc (i + 1) (by omega) (fun j hj => herr j (by omega)) (fun j hj => herr' j (by have := hc.len; omega))
      exact over_mono ho.rowsOk (staAt_ok ho hs (ts := ts) (i + 1) fun j hj => herr j (by omega)).vol.1 h5.vol h4
    omega
end
end Go.Proofs.YtoiepgcjinccpaaDoor.Bs
/-
  A walk by lemmas (J): in a region that draws its order, reckonings too may be taken first, not only copies and addresses.
-/
namespace Go.Proofs.YtoiepgcjinccpaaDoor.X
open Go Go.RowKit
set_option linter.unusedVariables false
section
variable {P : Program} {N : Nat} {B : Nat} {wS w0 : World} {ds : List Deferred} {Q : Exit → Act → World → Prop} {F : Fr} {L Ls : Lo} {ops : Array Oper} {rem rem' : List (Nat × Oper)}
/-- operations of slots alone, reckonings among them. -/
def reckOp (o : Oper) : Bool := match o.guard with
  | some _ => false
  | none => match o.op with
    | .move _ | .assign _ | .extract .. | .makeInterface .. | .build .. | .fieldAddr .. | .indexAddr .. | .binOp .. | .convert .. => true
    | .call c => match c.callee with
      | .builtin .min => true
      | .builtin .max => true
      | _ => false
    | _ => false
/-- the first of these that may come up. -/
def firstR (rem : List (Nat × Oper)) : List (Nat × Oper) → Option (Nat × Oper × List (Nat × Oper))
  | [] => none
  | (i, o) :: r => match reckOp o with
    | true => match readyB rem o with
      | true => match dropO rem i with
        | some rem' => some (i, o, rem')
        | none => none
      | false => firstR rem r
    | false => firstR rem r
theorem firstR_spec : ∀ {l : List (Nat × Oper)} {i : Nat} {o : Oper}, firstR rem l = some (i, o, rem') → (i, o) ∈ l ∧ readyB rem o = true ∧ dropO rem i = some rem' := by
  intro l
  induction l with
  | nil => intro i o h; cases h
  | cons e r ih =>
    intro i o h
    obtain ⟨j, p⟩ := e
    simp only [firstR] at h
    split at h
    · split at h
      · rename_i hr
        split at h
        · rename_i r2 hd
          simp only [Option.some.injEq, Prod.mk.injEq] at h
          obtain ⟨rfl, rfl, rfl⟩ := h
          exact ⟨List.mem_cons_self, hr, hd⟩
        · cases h
      · obtain ⟨h1, h2⟩ := ih h; exact ⟨List.mem_cons_of_mem _ h1, h2⟩
    · obtain ⟨h1, h2⟩ := ih h; exact ⟨List.mem_cons_of_mem _ h1, h2⟩
theorem XR.take2 {i : Nat} {o : Oper} (h1 : firstR rem rem = some (i, o, rem')) (hl : loneB ops rem i o = true) (h : Fw P N B wS ds False (fun F' => XR P N B wS w0 ds Q Ls ops rem' F' L) ops Ls [o] F) :
    XR P N B wS w0 ds Q Ls ops rem F L := by
  obtain ⟨hm, hr, hd⟩ := firstR_spec h1
  unfold loneB at hl
  simp only [Bool.and_eq_true] at hl
  obtain ⟨⟨hsel, hein⟩, hap⟩ := hl
  obtain ⟨v, hok, F', hal, hk⟩ := h.run
  refine ⟨fun D fuel a w hD hlen hf hs hS => ?_⟩
  have hrd : i ∈ Region.ready .any ops D := hD.mem_ready hm hr fun e he hb => by
    unfold edgesIn at hein
    have := List.all_eq_true.1 hein _ hm
    have := List.all_eq_true.1 this e (by simpa using he)
    simp only [hb, Bool.not_true, Bool.false_or] at this
    exact Nat.le_of_ble_eq_true this
  obtain ⟨n, rfl, hn⟩ := ready_count hrd hlen
  have hD' := hD.set hm hd
  refine wpAnyH_first (hD.at_ _ hm) (Region.noSelect_spec hsel) (fun c a w q => q.elim) n D a w (fun j oj hj hne hun hno => ?_) hrd (hok.yieldsIf hf) hS ?_
  · have hjs : j < ops.size := (Array.getElem?_eq_some_iff.1 hj).1
    have hon : on D j = false := by
      unfold on
      have hlt' : j < D.size := by rw [hD.size]; exact hjs
      rw [Array.getD_eq_getD_getElem?, Array.getElem?_eq_getElem hlt'] at hun ⊢
      exact hun
    obtain ⟨o', ho'⟩ := inRem_iff.1 ((hD.left j hjs).1 hon)
    have := hD.at_ _ ho'
    rw [hj] at this
    obtain rfl := Option.some.inj this
    have h2 := List.all_eq_true.1 hap _ ho'
    simp only [Bool.or_eq_true] at h2
    rcases h2 with (h2 | h2) | h2
    · exact absurd (Nat.eq_of_beq_eq_true h2) hne
    · obtain ⟨e, he, hb⟩ := Array.any_eq_true'.1 h2
      simp only [Bool.and_eq_true, beq_iff_eq] at hb
      exact absurd hb.2 (hno e he hb.1)
    · exact h2
  · exact hk.run _ n _ w hD' hn (hal.fits (hf.putF hok.1)) hs hS
end
end Go.Proofs.YtoiepgcjinccpaaDoor.X
/-
  The plain words of layer 4: sums, what Total answers, and that the water balances. No program stands here.
-/
namespace Go.Proofs.YtoiepgcjinccpaaDoor.Bs
open Go.Proofs.YtoiepgcjinccpaaDoor.X
set_option linter.unusedVariables false
def sumTo (g : Nat → Int) : Nat → Int
  | 0 => 0
  | k + 1 => sumTo g k + g k
theorem sumTo_congr {f g : Nat → Int} : ∀ {n : Nat}, (∀ i, i < n → f i = g i) → sumTo f n = sumTo g n := by
  intro n
  induction n with
  | zero => intro _; rfl
  | succ n ih => intro h; simp only [sumTo]; rw [ih fun i hi => h i (by omega), h n (by omega)]
theorem sumTo_le {f g : Nat → Int} : ∀ {n : Nat}, (∀ i, i < n → f i ≤ g i) → sumTo f n ≤ sumTo g n := by
  intro n
  induction n with
  | zero => intro _; exact Int.le_refl _
  | succ n ih => intro h; simp only [sumTo]; have := ih fun i hi => h i (by omega); have := h n (by omega); omega
theorem sumTo_bd {f : Nat → Int} {M : Int} : ∀ {n : Nat}, (∀ i, i < n → -M ≤ f i ∧ f i ≤ M) → -((n : Int) * M) ≤ sumTo f n ∧ sumTo f n ≤ (n : Int) * M := by
  intro n
  induction n with
  | zero => intro _; simp [sumTo]
  | succ n ih =>
    intro h
    have h1 := ih fun i hi => h i (by omega)
    have h2 := h n (by omega)
    have h3 : ((n + 1 : Nat) : Int) * M = (n : Int) * M + M := by rw [Int.natCast_add, Int.add_mul]; simp
    simp only [sumTo]
    rw [h3]
    omega
/-- a flow that is out of bounds. -/
def farB (n : Int) : Bool := outB n (-1000000000) 1000000000
def floBad (f : Flo) : Bool := farB f.river || (farB f.over || (farB f.leak || (farB f.out || f.taken.any farB)))
def floShort (b : Bas) (f : Flo) : Bool := decide (f.taken.length ≠ b.pols.length)
noncomputable def totE (b : Bas) (l : List Flo) : Int := if chkE b ≠ 0 then chkE b else if 300 < l.length then 3 else if l.any (floShort b) = true then 2 else if l.any floBad = true then 7 else 0
def fl (l : List Flo) (k : Nat) : Flo := l[k]?.getD ⟨0, 0, 0, 0, []⟩
def takTo (l : List Flo) (k i : Nat) : Int := sumTo (fun j => (fl l j).t i) k
/-- the sums of the first k flows; of the next one the first i polders. -/
def totA (b : Bas) (l : List Flo) (k : Nat) : Flo := ⟨sumTo (fun j => (fl l j).river) k, sumTo (fun j => (fl l j).over) k, sumTo (fun j => (fl l j).leak) k, sumTo (fun j => (fl l j).out) k, rg b.pols.length (takTo l k)⟩
noncomputable def totF (b : Bas) (l : List Flo) : Flo := if totE b l ≠ 0 then ⟨0, 0, 0, 0, []⟩ else totA b l l.length
/-- a flow within bounds. -/
structure FloFine (f : Flo) : Prop where
  river : -1000000000 ≤ f.river ∧ f.river ≤ 1000000000
  over : -1000000000 ≤ f.over ∧ f.over ≤ 1000000000
  leak : -1000000000 ≤ f.leak ∧ f.leak ≤ 1000000000
  out : -1000000000 ≤ f.out ∧ f.out ≤ 1000000000
  taken : ∀ i, i < f.taken.length → -1000000000 ≤ f.t i ∧ f.t i ≤ 1000000000
/-- the bounds of what Total adds. -/
structure TotBd (b : Bas) (l : List Flo) : Prop where
  short : l.length ≤ 300
  len : ∀ k, k < l.length → (fl l k).taken.length = b.pols.length
  fine : ∀ k, k < l.length → FloFine (fl l k)
section
variable {b : Bas} {l : List Flo} (h : TotBd b l)
include h
end
section
variable {b : Bas} {s : Sta} {ts : List Tick}
end
end Go.Proofs.YtoiepgcjinccpaaDoor.Bs
/-
  The walk of Total: what it looks through.
-/
namespace Go.Proofs.YtoiepgcjinccpaaDoor.Bs
/-- the first j of m numbers from g, the others from f. -/
def mixL (m : Nat) (f g : Nat → Int) (j : Nat) : List Int := rg m fun i => if i < j then g i else f i
def idxL {α : Type} (l : List α) (P : α → Bool) : Int := match l.findIdx? P with
  | some i => ((i : Nat) : Int)
  | none => -1
theorem idxL_any {α : Type} (l : List α) (P : α → Bool) : decide (0 ≤ idxL l P) = l.any P := by
  unfold idxL
  cases h : l.findIdx? P with
  | none =>
    rw [List.findIdx?_eq_none_iff] at h
    have : l.any P = false := List.any_eq_false.2 fun x hx => by simp [h x hx]
    rw [this]; rfl
  | some i =>
    obtain ⟨hi, h1, _⟩ := List.findIdx?_eq_some_iff_getElem.1 h
    have : l.any P = true := List.any_eq_true.2 ⟨_, List.getElem_mem hi, h1⟩
    rw [this]
    simp
end Go.Proofs.YtoiepgcjinccpaaDoor.Bs
namespace Go.Proofs.YtoiepgcjinccpaaDoor.X
open Go Go.RowKit Go.Proofs.YtoiepgcjinccpaaDoor.Bs
set_option linter.unusedVariables false
/-- what Total leaves. -/
def TotV (b : Bas) (l : List Flo) (v : Value) (new : List Held) : Prop := ∃ r : SV, v = .tuple ⟨[floV r (totF b l), .int .i64 (totE b l)]⟩ ∧ new = [hInts r (totF b l).taken]
set_option maxHeartbeats 4000000 in
theorem idxInt {f : FuncId} {cap : List Value} {P : Int → Bool} {r : SV} {ms : List Int} {w : World} (hck : callOk Tryd.prog f = true) (hr : IntsAt w (Lt w.heap.size) r ms) (hn : ms.length ≤ 1000)
    (hc : ∀ m, m ∈ ms → ∀ w', Below w.heap.size w w' → Calls Tryd.prog f ([] ++ [Value.int .i64 m] ++ cap).toArray w' fun e w'' => e = .returned (.bool (P m)) ∧ Below w'.heap.size w' w'') :
    Calls Tryd.prog 99 #[svV r, .func (.func f) #[] cap.toArray] w fun e w' => e = .returned (.int .i64 (idxL ms P)) ∧ Below w.heap.size w w' := by
  obtain ⟨A, n, c⟩ := r
  have hln := hr.len
  simp only at hln
  subst hln
  simp only [svV]
  refine enter Tryd.func99 rfl Tryd.ntmps99 rfl ?_; simp only [frame, Nat.zero_add, Nat.reduceAdd]
  repeat (first | (refine M0 ?_; first | refine O0 ?_ | refine z1 tok rfl ?_ | refine O1 rfl ?_ rfl | refine O2 rfl ?_ | refine O3 rfl ?_ rfl | refine O4 rfl rfl rfl (fun _ _ => ?_) | refine O5 tok rfl rfl rfl (fun _ _ => ?_) | refine U0 _ (U2 rfl) rfl ?_ | refine U0 _ (U3 tok rfl rfl rfl rfl rfl) rfl ?_ | refine z3 tok rfl ?_ | refine U0 _ (U4 rfl rfl) rfl ?_ | refine U0 _ (U5 rfl rfl) rfl ?_) | (refine M1 ?_; first | refine J0 ?_ | refine J1 ?_ | refine J2 mixed rfl (by kernel_rfl) ?_ | refine J3 mixed rfl rfl (by kernel_rfl) ?_ | refine J4 ?_ | refine J5 ?_ | refine J6 ?_ | refine J7 ?_ | refine J8 rfl ?_ | refine J9 rfl ?_) | (refine M2 ?_; first | refine I0 ?_ | refine I1 ?_ | refine I2 ?_ | refine I3 ?_ | refine I4 ?_ | refine I5 ?_ | refine I6 rfl ?_ | refine I7 ?_ | refine I8 ?_ | refine z4 ?_) | (refine M3 ?_; first | refine O6 ?_ | refine z2 tok rfl ?_ | refine O8 rfl ?_ | refine O7 rfl ?_ rfl | refine O9 rfl ?_ rfl | refine U1 _ (U4 rfl rfl) rfl ?_ | refine U1 _ (U5 rfl rfl) rfl ?_ | refine U1 _ (U2 rfl) rfl ?_ | refine U1 _ (U3 tok rfl rfl rfl rfl rfl) rfl ?_) | (refine M4 ?_; first | refine M6 ?_ | refine U6 rfl (by kernel_rfl) ?_ | refine U7 (by kernel_rfl) ?_) | (refine M5 ?_; first | exact M7 | refine U8 rfl ?_ | refine U9 rfl rfl ?_ ?_))
  refine XC.loopk [0, 1, 7] rfl (fun k : Nat => [(8, .int .i64 (k : Nat))]) (fun _ => []) (fun _ => w) (fun k => k ≤ ms.length ∧ ∀ j m, j < k → ms[j]? = some m → P m = false) (fun k => ms.length - k) 0 ⟨Nat.zero_le _, fun j m h => absurd h (by omega)⟩ (by repeat (first | exact Sub.nil | refine Sub.cons rfl ?_)) (fun _ h => h) ?_
  rintro k ⟨hk, h0⟩
  dsimp only [List.cons_append, List.nil_append]
  repeat (first | (refine M0 ?_; first | refine O0 ?_ | refine z1 tok rfl ?_ | refine O1 rfl ?_ rfl | refine O2 rfl ?_ | refine O3 rfl ?_ rfl | refine O4 rfl rfl rfl (fun _ _ => ?_) | refine O5 tok rfl rfl rfl (fun _ _ => ?_) | refine U0 _ (U2 rfl) rfl ?_ | refine U0 _ (U3 tok rfl rfl rfl rfl rfl) rfl ?_ | refine z3 tok rfl ?_ | refine U0 _ (U4 rfl rfl) rfl ?_ | refine U0 _ (U5 rfl rfl) rfl ?_) | (refine M1 ?_; first | refine J0 ?_ | refine J1 ?_ | refine J2 mixed rfl (by kernel_rfl) ?_ | refine J3 mixed rfl rfl (by kernel_rfl) ?_ | refine J4 ?_ | refine J5 ?_ | refine J6 ?_ | refine J7 ?_ | refine J8 rfl ?_ | refine J9 rfl ?_) | (refine M2 ?_; first | refine I0 ?_ | refine I1 ?_ | refine I2 ?_ | refine I3 ?_ | refine I4 ?_ | refine I5 ?_ | refine I6 rfl ?_ | refine I7 ?_ | refine I8 ?_ | refine z4 ?_) | (refine M3 ?_; first | refine O6 ?_ | refine z2 tok rfl ?_ | refine O8 rfl ?_ | refine O7 rfl ?_ rfl | refine O9 rfl ?_ rfl | refine U1 _ (U4 rfl rfl) rfl ?_ | refine U1 _ (U5 rfl rfl) rfl ?_ | refine U1 _ (U2 rfl) rfl ?_ | refine U1 _ (U3 tok rfl rfl rfl rfl rfl) rfl ?_) | (refine M4 ?_; first | refine M6 ?_ | refine U6 rfl (by kernel_rfl) ?_ | refine U7 (by kernel_rfl) ?_) | (refine M5 ?_; first | exact M7 | refine U8 rfl ?_ | refine U9 rfl rfl ?_ ?_))
  refine XC.cond _ rfl (fun h3 => ?_) (fun h3 => ?_)
  · have hkn : k < ms.length := by simpa using h3
    obtain ⟨ad, rfl, hlt, hcells⟩ := hr.at_ (by omega)
    have hmk : ms[k]? = some ms[k] := List.getElem?_eq_getElem hkn
    have hcell := hcells k hkn
    rw [show at0 ms k = ms[k] by simp [at0, hkn]] at hcell
    repeat (first | (refine M0 ?_; first | refine O0 ?_ | refine z1 tok rfl ?_ | refine O1 rfl ?_ rfl | refine O2 rfl ?_ | refine O3 rfl ?_ rfl | refine U0 _ (Ev.load_old tok rfl rfl (add_lt hlt) hcell) rfl ?_ | refine U0 _ (Ev.callv (f := f) (fst := []) (cap := cap) hck rfl rfl (fun w S => hc _ (List.getElem_mem hkn) w S.toBelow)) rfl ?_ | refine O4 rfl rfl rfl (fun _ _ => ?_) | refine O5 tok rfl rfl rfl (fun _ _ => ?_) | refine U0 _ (U2 rfl) rfl ?_ | refine U0 _ (U3 tok rfl rfl rfl rfl rfl) rfl ?_ | refine z3 tok rfl ?_ | refine U0 _ (U4 rfl rfl) rfl ?_ | refine U0 _ (U5 rfl rfl) rfl ?_) | (refine M1 ?_; first | refine J0 ?_ | refine J1 ?_ | refine J2 mixed rfl (by kernel_rfl) ?_ | refine J3 mixed rfl rfl (by kernel_rfl) ?_ | refine J4 ?_ | refine J5 ?_ | refine J6 ?_ | refine J7 ?_ | refine J8 rfl ?_ | refine J9 rfl ?_) | (refine M2 ?_; first | refine I0 ?_ | refine I1 ?_ | refine I2 ?_ | refine I3 ?_ | refine I4 ?_ | refine I5 ?_ | refine I6 rfl ?_ | refine I7 ?_ | refine I8 ?_ | refine z4 ?_) | (refine M3 ?_; first | refine O6 ?_ | refine z2 tok rfl ?_ | refine O8 rfl ?_ | refine O7 rfl ?_ rfl | refine O9 rfl ?_ rfl | refine U1 _ (Ev.load_old tok rfl rfl (add_lt hlt) hcell) rfl ?_ | refine U1 _ (Ev.callv (f := f) (fst := []) (cap := cap) hck rfl rfl (fun w S => hc _ (List.getElem_mem hkn) w S.toBelow)) rfl ?_ | refine U1 _ (U4 rfl rfl) rfl ?_ | refine U1 _ (U5 rfl rfl) rfl ?_ | refine U1 _ (U2 rfl) rfl ?_ | refine U1 _ (U3 tok rfl rfl rfl rfl rfl) rfl ?_) | (refine M4 ?_; first | refine M6 ?_ | refine U6 rfl (by kernel_rfl) ?_ | refine U7 (by kernel_rfl) ?_) | (refine M5 ?_; first | exact M7 | refine U8 rfl ?_ | refine U9 rfl rfl ?_ ?_))
    refine XC.cond _ rfl (fun h4 => ?_) (fun h4 => ?_)
    · repeat (first | (refine M0 ?_; first | refine O0 ?_ | refine z1 tok rfl ?_ | refine O1 rfl ?_ rfl | refine O2 rfl ?_ | refine O3 rfl ?_ rfl | refine O4 rfl rfl rfl (fun _ _ => ?_) | refine O5 tok rfl rfl rfl (fun _ _ => ?_) | refine U0 _ (U2 rfl) rfl ?_ | refine U0 _ (U3 tok rfl rfl rfl rfl rfl) rfl ?_ | refine z3 tok rfl ?_ | refine U0 _ (U4 rfl rfl) rfl ?_ | refine U0 _ (U5 rfl rfl) rfl ?_) | (refine M1 ?_; first | refine J0 ?_ | refine J1 ?_ | refine J2 mixed rfl (by kernel_rfl) ?_ | refine J3 mixed rfl rfl (by kernel_rfl) ?_ | refine J4 ?_ | refine J5 ?_ | refine J6 ?_ | refine J7 ?_ | refine J8 rfl ?_ | refine J9 rfl ?_) | (refine M2 ?_; first | refine I0 ?_ | refine I1 ?_ | refine I2 ?_ | refine I3 ?_ | refine I4 ?_ | refine I5 ?_ | refine I6 rfl ?_ | refine I7 ?_ | refine I8 ?_ | refine z4 ?_) | (refine M3 ?_; first | refine O6 ?_ | refine z2 tok rfl ?_ | refine O8 rfl ?_ | refine O7 rfl ?_ rfl | refine O9 rfl ?_ rfl | refine U1 _ (U4 rfl rfl) rfl ?_ | refine U1 _ (U5 rfl rfl) rfl ?_ | refine U1 _ (U2 rfl) rfl ?_ | refine U1 _ (U3 tok rfl rfl rfl rfl rfl) rfl ?_) | (refine M4 ?_; first | refine M6 ?_ | refine U6 rfl (by kernel_rfl) ?_ | refine U7 (by kernel_rfl) ?_) | (refine M5 ?_; first | exact M7 | refine U8 rfl ?_ | refine U9 rfl rfl ?_ ?_))
      refine XE.retg tok Tryd.results99 rfl (by simp only [and_self, and_true]) (fun w' S => ?_)
      have : ms.findIdx? P = some k := by
        rw [List.findIdx?_eq_some_iff_getElem]
        exact ⟨hkn, h4, fun j hj => by simpa using h0 j _ hj (List.getElem?_eq_getElem (by omega))⟩
      unfold idxL
      rw [this]
      exact ⟨rfl, S.toBelow⟩
    · repeat (first | (refine M0 ?_; first | refine O0 ?_ | refine z1 tok rfl ?_ | refine O1 rfl ?_ rfl | refine O2 rfl ?_ | refine O3 rfl ?_ rfl | refine O4 rfl rfl rfl (fun _ _ => ?_) | refine O5 tok rfl rfl rfl (fun _ _ => ?_) | refine U0 _ (U2 rfl) rfl ?_ | refine U0 _ (U3 tok rfl rfl rfl rfl rfl) rfl ?_ | refine z3 tok rfl ?_ | refine U0 _ (U4 rfl rfl) rfl ?_ | refine U0 _ (U5 rfl rfl) rfl ?_) | (refine M1 ?_; first | refine J0 ?_ | refine J1 ?_ | refine J2 mixed rfl (by kernel_rfl) ?_ | refine J3 mixed rfl rfl (by kernel_rfl) ?_ | refine J4 ?_ | refine J5 ?_ | refine J6 ?_ | refine J7 ?_ | refine J8 rfl ?_ | refine J9 rfl ?_) | (refine M2 ?_; first | refine I0 ?_ | refine I1 ?_ | refine I2 ?_ | refine I3 ?_ | refine I4 ?_ | refine I5 ?_ | refine I6 rfl ?_ | refine I7 ?_ | refine I8 ?_ | refine z4 ?_) | (refine M3 ?_; first | refine O6 ?_ | refine z2 tok rfl ?_ | refine O8 rfl ?_ | refine O7 rfl ?_ rfl | refine O9 rfl ?_ rfl | refine U1 _ (U4 rfl rfl) rfl ?_ | refine U1 _ (U5 rfl rfl) rfl ?_ | refine U1 _ (U2 rfl) rfl ?_ | refine U1 _ (U3 tok rfl rfl rfl rfl rfl) rfl ?_) | (refine M4 ?_; first | refine M6 ?_ | refine U6 rfl (by kernel_rfl) ?_ | refine U7 (by kernel_rfl) ?_) | (refine M5 ?_; first | exact M7 | refine U8 rfl ?_ | refine U9 rfl rfl ?_ ?_))
      refine XE.round (k + 1) ⟨hkn, fun j m hj hm => ?_⟩ (by omega) (by repeat (first | exact Sub.nil | refine Sub.cons rfl ?_)) (fun _ h => h)
      rcases Nat.lt_or_ge j k with h5 | h5
      · exact h0 j m h5 hm
      · have : j = k := by omega
        subst this
        rw [hmk] at hm
        cases hm
        exact h4
  · have hkn : ¬ k < ms.length := by simpa using h3
    repeat (first | (refine M0 ?_; first | refine O0 ?_ | refine z1 tok rfl ?_ | refine O1 rfl ?_ rfl | refine O2 rfl ?_ | refine O3 rfl ?_ rfl | refine O4 rfl rfl rfl (fun _ _ => ?_) | refine O5 tok rfl rfl rfl (fun _ _ => ?_) | refine U0 _ (U2 rfl) rfl ?_ | refine U0 _ (U3 tok rfl rfl rfl rfl rfl) rfl ?_ | refine z3 tok rfl ?_ | refine U0 _ (U4 rfl rfl) rfl ?_ | refine U0 _ (U5 rfl rfl) rfl ?_) | (refine M1 ?_; first | refine J0 ?_ | refine J1 ?_ | refine J2 mixed rfl (by kernel_rfl) ?_ | refine J3 mixed rfl rfl (by kernel_rfl) ?_ | refine J4 ?_ | refine J5 ?_ | refine J6 ?_ | refine J7 ?_ | refine J8 rfl ?_ | refine J9 rfl ?_) | (refine M2 ?_; first | refine I0 ?_ | refine I1 ?_ | refine I2 ?_ | refine I3 ?_ | refine I4 ?_ | refine I5 ?_ | refine I6 rfl ?_ | refine I7 ?_ | refine I8 ?_ | refine z4 ?_) | (refine M3 ?_; first | refine O6 ?_ | refine z2 tok rfl ?_ | refine O8 rfl ?_ | refine O7 rfl ?_ rfl | refine O9 rfl ?_ rfl | refine U1 _ (U4 rfl rfl) rfl ?_ | refine U1 _ (U5 rfl rfl) rfl ?_ | refine U1 _ (U2 rfl) rfl ?_ | refine U1 _ (U3 tok rfl rfl rfl rfl rfl) rfl ?_) | (refine M4 ?_; first | refine M6 ?_ | refine U6 rfl (by kernel_rfl) ?_ | refine U7 (by kernel_rfl) ?_) | (refine M5 ?_; first | exact M7 | refine U8 rfl ?_ | refine U9 rfl rfl ?_ ?_))
    refine XE.retg tok Tryd.results99 rfl (by simp only [and_self, and_true]) (fun w' S => ?_)
    have : ms.findIdx? P = none := by
      rw [List.findIdx?_eq_none_iff]
      intro m hm
      obtain ⟨j, hj, e⟩ := List.mem_iff_getElem.1 hm
      exact h0 j m (by omega) (by rw [List.getElem?_eq_getElem hj, e])
    unfold idxL
    rw [this]
    exact ⟨rfl, S.toBelow⟩
theorem contInt {f : FuncId} {cap : List Value} {P : Int → Bool} {r : SV} {ms : List Int} {w : World} (hck : callOk Tryd.prog f = true) (hr : IntsAt w (Lt w.heap.size) r ms) (hn : ms.length ≤ 1000)
    (hc : ∀ m, m ∈ ms → ∀ w', Below w.heap.size w w' → Calls Tryd.prog f ([] ++ [Value.int .i64 m] ++ cap).toArray w' fun e w'' => e = .returned (.bool (P m)) ∧ Below w'.heap.size w' w'') :
    Calls Tryd.prog 74 #[svV r, .func (.func f) #[] cap.toArray] w fun e w' => e = .returned (.bool (ms.any P)) ∧ Below w.heap.size w w' := by
  obtain ⟨A, n, c⟩ := r
  simp only [svV]
  refine enter Tryd.func74 rfl Tryd.ntmps74 rfl ?_; simp only [frame, Nat.zero_add, Nat.reduceAdd]
  repeat (first | (refine M0 ?_; first | refine O0 ?_ | refine z1 tok rfl ?_ | refine O1 rfl ?_ rfl | refine O2 rfl ?_ | refine O3 rfl ?_ rfl | refine U0 _ (Ev.call (f := 99) (ck rfl) rfl (fun w5 S5 => (idxInt (f := f) (cap := cap) (P := P) (r := ⟨A, n, c⟩) (ms := ms) hck (hr.arg S5) hn (fun m hm w' hb => hc m hm w' (S5.toBelow.trans (hb.mono S5.size))) :))) rfl ?_ | refine O4 rfl rfl rfl (fun _ _ => ?_) | refine O5 tok rfl rfl rfl (fun _ _ => ?_) | refine U0 _ (U2 rfl) rfl ?_ | refine U0 _ (U3 tok rfl rfl rfl rfl rfl) rfl ?_ | refine z3 tok rfl ?_ | refine U0 _ (U4 rfl rfl) rfl ?_ | refine U0 _ (U5 rfl rfl) rfl ?_) | (refine M1 ?_; first | refine J0 ?_ | refine J1 ?_ | refine J2 mixed rfl (by kernel_rfl) ?_ | refine J3 mixed rfl rfl (by kernel_rfl) ?_ | refine J4 ?_ | refine J5 ?_ | refine J6 ?_ | refine J7 ?_ | refine J8 rfl ?_ | refine J9 rfl ?_) | (refine M2 ?_; first | refine I0 ?_ | refine I1 ?_ | refine I2 ?_ | refine I3 ?_ | refine I4 ?_ | refine I5 ?_ | refine I6 rfl ?_ | refine I7 ?_ | refine I8 ?_ | refine z4 ?_) | (refine M3 ?_; first | refine O6 ?_ | refine z2 tok rfl ?_ | refine O8 rfl ?_ | refine O7 rfl ?_ rfl | refine O9 rfl ?_ rfl | refine U1 _ (Ev.call (f := 99) (ck rfl) rfl (fun w5 S5 => (idxInt (f := f) (cap := cap) (P := P) (r := ⟨A, n, c⟩) (ms := ms) hck (hr.arg S5) hn (fun m hm w' hb => hc m hm w' (S5.toBelow.trans (hb.mono S5.size))) :))) rfl ?_ | refine U1 _ (U4 rfl rfl) rfl ?_ | refine U1 _ (U5 rfl rfl) rfl ?_ | refine U1 _ (U2 rfl) rfl ?_ | refine U1 _ (U3 tok rfl rfl rfl rfl rfl) rfl ?_) | (refine M4 ?_; first | refine M6 ?_ | refine U6 rfl (by kernel_rfl) ?_ | refine U7 (by kernel_rfl) ?_) | (refine M5 ?_; first | exact M7 | refine U8 rfl ?_ | refine U9 rfl rfl ?_ ?_))
  refine XE.retg tok Tryd.results74 rfl (by simp only [and_self, and_true]) (fun w' S => ?_)
  exact ⟨by rw [idxL_any]; rfl, S.toBelow⟩
end Go.Proofs.YtoiepgcjinccpaaDoor.X
/-
  The walk of Total.
-/
namespace Go.Proofs.YtoiepgcjinccpaaDoor.X
open Go Go.RowKit Go.Proofs.YtoiepgcjinccpaaDoor.Bs
set_option linter.unusedVariables false
end Go.Proofs.YtoiepgcjinccpaaDoor.X
/-
  The walk of the document's Total.
-/
namespace Go.Proofs.YtoiepgcjinccpaaDoor.Bs
/-- the error that stands ahead of the flows; and ahead of their numbers. -/
noncomputable def totE1 (b : Bas) (l : List Flo) : Int := if chkE b ≠ 0 then chkE b else if 300 < l.length then 3 else 0
noncomputable def totE2 (b : Bas) (l : List Flo) : Int := if totE1 b l ≠ 0 then totE1 b l else if l.any (floShort b) = true then 2 else 0
end Go.Proofs.YtoiepgcjinccpaaDoor.Bs
namespace Go.Proofs.YtoiepgcjinccpaaDoor.X
open Go Go.RowKit Go.Proofs.YtoiepgcjinccpaaDoor.Bs
set_option linter.unusedVariables false
end Go.Proofs.YtoiepgcjinccpaaDoor.X
/-
  The law BasinBalance.
-/
namespace Go.Proofs.YtoiepgcjinccpaaDoor.X
open Go Go.RowKit Go.Proofs.YtoiepgcjinccpaaDoor.Bs
set_option linter.unusedVariables false
set_option maxHeartbeats 4000000 in
theorem sum_any {q : SV} {l : List Int} {w : World} (hq : IntsAt w (Lt w.heap.size) q l) (hn : l.length ≤ 1000) (hb : ∀ i, i < l.length → -1000000000000 ≤ at0 l i ∧ at0 l i ≤ 1000000000000) :
    Calls Tryd.prog 44 #[svV q] w fun e w' => e = .returned (.int .i64 (sumTo (at0 l) l.length)) ∧ Below w.heap.size w w' := by
  obtain ⟨A, n, c⟩ := q
  have hln := hq.len
  simp only at hln
  subst hln
  simp only [svV]
  refine enter Tryd.func44 rfl Tryd.ntmps44 rfl ?_; simp only [frame, Nat.zero_add, Nat.reduceAdd]
  repeat (first | (refine M0 ?_; first | refine O0 ?_ | refine z1 tok rfl ?_ | refine O1 rfl ?_ rfl | refine O2 rfl ?_ | refine O3 rfl ?_ rfl | refine O4 rfl rfl rfl (fun _ _ => ?_) | refine O5 tok rfl rfl rfl (fun _ _ => ?_) | refine U0 _ (U2 rfl) rfl ?_ | refine U0 _ (U3 tok rfl rfl rfl rfl rfl) rfl ?_ | refine z3 tok rfl ?_ | refine U0 _ (U4 rfl rfl) rfl ?_ | refine U0 _ (U5 rfl rfl) rfl ?_) | (refine M1 ?_; first | refine J0 ?_ | refine J1 ?_ | refine J2 mixed rfl (by kernel_rfl) ?_ | refine J3 mixed rfl rfl (by kernel_rfl) ?_ | refine J4 ?_ | refine J5 ?_ | refine J6 ?_ | refine J7 ?_ | refine J8 rfl ?_ | refine J9 rfl ?_) | (refine M2 ?_; first | refine I0 ?_ | refine I1 ?_ | refine I2 ?_ | refine I3 ?_ | refine I4 ?_ | refine I5 ?_ | refine I6 rfl ?_ | refine I7 ?_ | refine I8 ?_ | refine z4 ?_) | (refine M3 ?_; first | refine O6 ?_ | refine z2 tok rfl ?_ | refine O8 rfl ?_ | refine O7 rfl ?_ rfl | refine O9 rfl ?_ rfl | refine U1 _ (U4 rfl rfl) rfl ?_ | refine U1 _ (U5 rfl rfl) rfl ?_ | refine U1 _ (U2 rfl) rfl ?_ | refine U1 _ (U3 tok rfl rfl rfl rfl rfl) rfl ?_) | (refine M4 ?_; first | refine M6 ?_ | refine U6 rfl (by kernel_rfl) ?_ | refine U7 (by kernel_rfl) ?_) | (refine M5 ?_; first | exact M7 | refine U8 rfl ?_ | refine U9 rfl rfl ?_ ?_))
  refine XC.loopk [0] rfl (fun k : Nat => [(4, .int .i64 (k : Nat)), (3, .int .i64 (sumTo (at0 l) k))]) (fun _ => []) (fun _ => w) (fun k => k ≤ l.length) (fun k => l.length - k) 0 (Nat.zero_le _) (by repeat (first | exact Sub.nil | refine Sub.cons rfl ?_)) (fun _ h => h) ?_
  rintro k hk
  dsimp only [List.cons_append, List.nil_append]
  repeat (first | (refine M0 ?_; first | refine O0 ?_ | refine z1 tok rfl ?_ | refine O1 rfl ?_ rfl | refine O2 rfl ?_ | refine O3 rfl ?_ rfl | refine O4 rfl rfl rfl (fun _ _ => ?_) | refine O5 tok rfl rfl rfl (fun _ _ => ?_) | refine U0 _ (U2 rfl) rfl ?_ | refine U0 _ (U3 tok rfl rfl rfl rfl rfl) rfl ?_ | refine z3 tok rfl ?_ | refine U0 _ (U4 rfl rfl) rfl ?_ | refine U0 _ (U5 rfl rfl) rfl ?_) | (refine M1 ?_; first | refine J0 ?_ | refine J1 ?_ | refine J2 mixed rfl (by kernel_rfl) ?_ | refine J3 mixed rfl rfl (by kernel_rfl) ?_ | refine J4 ?_ | refine J5 ?_ | refine J6 ?_ | refine J7 ?_ | refine J8 rfl ?_ | refine J9 rfl ?_) | (refine M2 ?_; first | refine I0 ?_ | refine I1 ?_ | refine I2 ?_ | refine I3 ?_ | refine I4 ?_ | refine I5 ?_ | refine I6 rfl ?_ | refine I7 ?_ | refine I8 ?_ | refine z4 ?_) | (refine M3 ?_; first | refine O6 ?_ | refine z2 tok rfl ?_ | refine O8 rfl ?_ | refine O7 rfl ?_ rfl | refine O9 rfl ?_ rfl | refine U1 _ (U4 rfl rfl) rfl ?_ | refine U1 _ (U5 rfl rfl) rfl ?_ | refine U1 _ (U2 rfl) rfl ?_ | refine U1 _ (U3 tok rfl rfl rfl rfl rfl) rfl ?_) | (refine M4 ?_; first | refine M6 ?_ | refine U6 rfl (by kernel_rfl) ?_ | refine U7 (by kernel_rfl) ?_) | (refine M5 ?_; first | exact M7 | refine U8 rfl ?_ | refine U9 rfl rfl ?_ ?_))
  refine XC.cond _ rfl (fun h1 => ?_) (fun h1 => ?_)
  · have hkn : k < l.length := by simpa using h1
    obtain ⟨ad, rfl, hlt, hcells⟩ := hq.at_ (by omega)
    have hcell := hcells k hkn
    have h2 := sumTo_bd (f := at0 l) (M := 1000000000000) (n := k) fun i hi => hb i (by omega)
    have h3 := hb k hkn
    repeat (first | (refine M0 ?_; first | refine O0 ?_ | refine z1 tok rfl ?_ | refine O1 rfl ?_ rfl | refine O2 rfl ?_ | refine O3 rfl ?_ rfl | refine U0 _ (Ev.load_old tok rfl rfl (add_lt hlt) hcell) rfl ?_ | refine O4 rfl rfl rfl (fun _ _ => ?_) | refine O5 tok rfl rfl rfl (fun _ _ => ?_) | refine U0 _ (U2 rfl) rfl ?_ | refine U0 _ (U3 tok rfl rfl rfl rfl rfl) rfl ?_ | refine z3 tok rfl ?_ | refine U0 _ (U4 rfl rfl) rfl ?_ | refine U0 _ (U5 rfl rfl) rfl ?_) | (refine M1 ?_; first | refine J0 ?_ | refine J1 ?_ | refine J2 mixed rfl (by kernel_rfl) ?_ | refine J3 mixed rfl rfl (by kernel_rfl) ?_ | refine J4 ?_ | refine J5 ?_ | refine J6 ?_ | refine J7 ?_ | refine J8 rfl ?_ | refine J9 rfl ?_) | (refine M2 ?_; first | refine I0 ?_ | refine I1 ?_ | refine I2 ?_ | refine I3 ?_ | refine I4 ?_ | refine I5 ?_ | refine I6 rfl ?_ | refine I7 ?_ | refine I8 ?_ | refine z4 ?_) | (refine M3 ?_; first | refine O6 ?_ | refine z2 tok rfl ?_ | refine O8 rfl ?_ | refine O7 rfl ?_ rfl | refine O9 rfl ?_ rfl | refine U1 _ (Ev.load_old tok rfl rfl (add_lt hlt) hcell) rfl ?_ | refine U1 _ (U4 rfl rfl) rfl ?_ | refine U1 _ (U5 rfl rfl) rfl ?_ | refine U1 _ (U2 rfl) rfl ?_ | refine U1 _ (U3 tok rfl rfl rfl rfl rfl) rfl ?_) | (refine M4 ?_; first | refine M6 ?_ | refine U6 rfl (by kernel_rfl) ?_ | refine U7 (by kernel_rfl) ?_) | (refine M5 ?_; first | exact M7 | refine U8 rfl ?_ | refine U9 rfl rfl ?_ ?_))
    exact XE.round (k + 1) hkn (by omega) (by repeat (first | exact Sub.nil | refine Sub.cons rfl ?_)) (fun _ h => h)
  · have hkn : k = l.length := by have : ¬ (k < l.length) := by simpa using h1
                                  omega
    subst hkn
    repeat (first | (refine M0 ?_; first | refine O0 ?_ | refine z1 tok rfl ?_ | refine O1 rfl ?_ rfl | refine O2 rfl ?_ | refine O3 rfl ?_ rfl | refine O4 rfl rfl rfl (fun _ _ => ?_) | refine O5 tok rfl rfl rfl (fun _ _ => ?_) | refine U0 _ (U2 rfl) rfl ?_ | refine U0 _ (U3 tok rfl rfl rfl rfl rfl) rfl ?_ | refine z3 tok rfl ?_ | refine U0 _ (U4 rfl rfl) rfl ?_ | refine U0 _ (U5 rfl rfl) rfl ?_) | (refine M1 ?_; first | refine J0 ?_ | refine J1 ?_ | refine J2 mixed rfl (by kernel_rfl) ?_ | refine J3 mixed rfl rfl (by kernel_rfl) ?_ | refine J4 ?_ | refine J5 ?_ | refine J6 ?_ | refine J7 ?_ | refine J8 rfl ?_ | refine J9 rfl ?_) | (refine M2 ?_; first | refine I0 ?_ | refine I1 ?_ | refine I2 ?_ | refine I3 ?_ | refine I4 ?_ | refine I5 ?_ | refine I6 rfl ?_ | refine I7 ?_ | refine I8 ?_ | refine z4 ?_) | (refine M3 ?_; first | refine O6 ?_ | refine z2 tok rfl ?_ | refine O8 rfl ?_ | refine O7 rfl ?_ rfl | refine O9 rfl ?_ rfl | refine U1 _ (U4 rfl rfl) rfl ?_ | refine U1 _ (U5 rfl rfl) rfl ?_ | refine U1 _ (U2 rfl) rfl ?_ | refine U1 _ (U3 tok rfl rfl rfl rfl rfl) rfl ?_) | (refine M4 ?_; first | refine M6 ?_ | refine U6 rfl (by kernel_rfl) ?_ | refine U7 (by kernel_rfl) ?_) | (refine M5 ?_; first | exact M7 | refine U8 rfl ?_ | refine U9 rfl rfl ?_ ?_))
    refine XE.retg tok Tryd.results44 rfl (by simp only [and_self, and_true]) (fun w' S => ?_)
    exact ⟨rfl, S.toBelow⟩
/-- the state that stands in 'now' ahead of tick k. -/
def nowI (q : SV) (s : Sta) (l : List StaI) : Nat → StaI
  | 0 => ⟨s, q⟩
  | k + 1 => l[k]?.getD ⟨s, q⟩
end Go.Proofs.YtoiepgcjinccpaaDoor.X
/-
  The plain words of layer 4: Need and Spare, and that they are monotone. No program stands here.
-/
namespace Go.Proofs.YtoiepgcjinccpaaDoor.Bs
open Go.Proofs.YtoiepgcjinccpaaDoor.X
set_option linter.unusedVariables false
def needT (t : Tick) (n : Nat) : Tick := ⟨t.outer, t.river, min 10000000 (t.out + n)⟩
def spareT (t : Tick) (n : Nat) : Tick := ⟨t.outer, t.river + n, t.out⟩
def chTs (ch : Tick → Nat → Tick) (ts : List Tick) (n : Nat) : List Tick := ts.map fun t => ch t n
/-- no fault, and never above the limit. -/
def hold (b : Bas) (s : Sta) (ts : List Tick) (lim : Int) : Prop := ∀ k, k < ts.length → errAt b s ts k = 0 ∧ overB b lim (staAt b s ts (k + 1)).vol = false
open Classical in
noncomputable def holdB (b : Bas) (s : Sta) (lim : Int) (ch : Tick → Nat → Tick) (ts : List Tick) (n : Nat) : Bool := decide (hold b s (chTs ch ts n) lim)
/-- the binary search of sort.Search. -/
def srch (P : Nat → Bool) : Nat → Nat → Nat → Nat
  | 0, i, _ => i
  | f + 1, i, j => if i < j then (if P ((i + j) / 2) = true then srch P f i ((i + j) / 2) else srch P f ((i + j) / 2 + 1) j) else i
def top : Nat := 10000001
noncomputable def askE (b : Bas) (s : Sta) (ts : List Tick) (lim : Int) : Int := if staErr b s ≠ 0 then staErr b s else if outB lim (b.row 0).level 20000 = true then 7 else runE b s ts
noncomputable def needI (b : Bas) (s : Sta) (ts : List Tick) (lim : Int) : Nat := srch (holdB b s lim needT ts) top 0 top
noncomputable def spareI (b : Bas) (s : Sta) (ts : List Tick) (lim : Int) : Nat := srch (fun n => !holdB b s lim spareT ts n) top 0 top
noncomputable def needE (b : Bas) (s : Sta) (ts : List Tick) (lim : Int) : Int := if askE b s ts lim ≠ 0 then askE b s ts lim else if 10000000 < needI b s ts lim then 9 else 0
noncomputable def needN (b : Bas) (s : Sta) (ts : List Tick) (lim : Int) : Int := if needE b s ts lim ≠ 0 then 0 else (needI b s ts lim : Int)
noncomputable def spareE (b : Bas) (s : Sta) (ts : List Tick) (lim : Int) : Int := if askE b s ts lim ≠ 0 then askE b s ts lim else if spareI b s ts lim = 0 then 9 else 0
noncomputable def spareN (b : Bas) (s : Sta) (ts : List Tick) (lim : Int) : Int := if spareE b s ts lim ≠ 0 then 0 else (spareI b s ts lim : Int) - 1
section
variable {b : Bas} {s s' : Sta} {ts ts' : List Tick} {lim : Int}
end
end Go.Proofs.YtoiepgcjinccpaaDoor.Bs
/-
  Plain words and law for BasinTides: the rows of ticks for the greatest, the least and some levels of the spans.
-/
namespace Go.Proofs.YtoiepgcjinccpaaDoor.Bs
open Go Go.Proofs.YtoiepgcjinccpaaDoor.X
def tiL (f : Nat → Tick) (n : Nat) : List Tick := (List.range n).map f
theorem tiL_len {f : Nat → Tick} {n : Nat} : (tiL f n).length = n := by simp [tiL]
theorem tiL_at {f : Nat → Tick} {n k : Nat} (h : k < n) : tk (tiL f n) k = f k := by
  unfold tk tiL
  rw [List.getElem?_map, List.getElem?_range h]
  rfl
theorem tiL_succ {f : Nat → Tick} {n : Nat} : tiL f (n + 1) = tiL f n ++ [f n] := by
  unfold tiL
  rw [List.range_succ, List.map_append]
  rfl
theorem ti_case {f g : Nat → Tick} {n : Nat} {b : Bas} {s : Sta} (h : ∀ k, k < n → TickLe (f k) (g k)) : CaseLe b s s (tiL f n) (tiL g n) :=
  ⟨by rw [tiL_len, tiL_len], fun _ => ⟨Int.le_refl _, fun _ _ => Int.le_refl _⟩, fun k hk _ => by
    rw [tiL_len] at hk
    rw [tiL_at hk, tiL_at hk]
    exact h k hk⟩
/-- where the greater levels bring no fault, the lesser ones bring none. -/
theorem ti_run {f g : Nat → Tick} {n : Nat} {b : Bas} {s : Sta} (h : ∀ k, k < n → TickLe (f k) (g k)) (hx : ∀ k, k < n → -20000 ≤ (f k).outer ∧ (f k).river = (g k).river ∧ (f k).out = (g k).out) (h0 : runE b s (tiL g n) = 0) : runE b s (tiL f n) = 0 := by
  obtain ⟨hs0, h300, herr⟩ := runE_0 h0
  have hE : runE b s (tiL f n) = 0 ∨ runE b s (tiL f n) = 3 := by
    unfold runE
    rw [if_neg (by simp [hs0]), if_neg (by rw [tiL_len] at *; omega)]
    split
    · exact .inl rfl
    · rename_i k hk
      unfold badAt at hk
      rw [List.find?_range_eq_some] at hk
      obtain ⟨_, hkl, _⟩ := hk
      have hkn : k < n := by rw [tiL_len] at hkl; simpa using hkl
      have hg := step_tick (show stepE b (staAt b s (tiL g n) k) (tk (tiL g n) k) = 0 from herr k (by rw [tiL_len]; exact hkn)) (by decide)
      have hf : tickBad (tk (tiL f n) k) = false := by
        rw [tiL_at hkn] at hg ⊢
        obtain ⟨x1, x2, x3⟩ := hx k hkn
        have hle := (h k hkn).outer
        simp only [tickBad, highB, Bool.or_eq_false_iff] at hg ⊢
        rw [x2, x3]
        refine ⟨outB_f.2 ⟨x1, ?_⟩, hg.2⟩
        have := outB_f.1 hg.1
        omega
      unfold errAt stepE
      rw [hf]
      simp only [Bool.false_eq_true, if_false]
      split
      · exact .inr rfl
      · split
        · exact .inr rfl
        · split
          · exact .inr rfl
          · exact .inl rfl
  rcases hE with hE | hE
  · exact hE
  · exact (long_no (ti_case h) hE h0).elim
theorem ti_sta {f g : Nat → Tick} {n : Nat} {b : Bas} {s : Sta} (h : ∀ k, k < n → TickLe (f k) (g k)) (h0 : runE b s (tiL f n) = 0) (h0' : runE b s (tiL g n) = 0) {k : Nat} (hk : k < n) :
    (staAt b s (tiL f n) (k + 1)).vol ≤ (staAt b s (tiL g n) (k + 1)).vol ∧ sumTo (at0 (staAt b s (tiL f n) (k + 1)).fil) (staAt b s (tiL f n) (k + 1)).fil.length ≤ sumTo (at0 (staAt b s (tiL g n) (k + 1)).fil) (staAt b s (tiL g n) (k + 1)).fil.length := by
  obtain ⟨hs0, h300, herr⟩ := runE_0 h0
  obtain ⟨hs0', h300', herr'⟩ := runE_0 h0'
  obtain ⟨ho, hs⟩ := staOk_of hs0
  rw [tiL_len] at herr herr'
  have h1 := run_mono ho hs hs (ti_case h) (k + 1) (by rw [tiL_len]; omega) (fun j hj => herr j (by omega)) (fun j hj => herr' j (by omega))
  have l1 := (staAt_ok ho hs (ts := tiL f n) (k + 1) fun j hj => herr j (by omega)).len
  have l2 := (staAt_ok ho hs (ts := tiL g n) (k + 1) fun j hj => herr' j (by omega)).len
  refine ⟨h1.vol, ?_⟩
  rw [l1, l2]
  exact sumTo_le fun i hi => h1.fil i hi
/-- the three rows. -/
def hiT (l : List (Int × Int)) (sg : Int) (ts : List Tick) (i : Nat) : Tick := ⟨(l[i]?.getD (0, 0)).2 + sg, (tk ts i).river, (tk ts i).out⟩
def loT (l : List (Int × Int)) (ts : List Tick) (i : Nat) : Tick := ⟨(l[i]?.getD (0, 0)).1, (tk ts i).river, (tk ts i).out⟩
def atO (l : List (Int × Int)) (sg : Int) (sh : List Int) (i : Nat) : Int := if i < sh.length then (l[i]?.getD (0, 0)).1 + (((l[i]?.getD (0, 0)).2 + sg - (l[i]?.getD (0, 0)).1) * at0 sh i).tdiv 255 else (l[i]?.getD (0, 0)).1
def atT (l : List (Int × Int)) (sg : Int) (sh : List Int) (ts : List Tick) (i : Nat) : Tick := ⟨atO l sg sh i, (tk ts i).river, (tk ts i).out⟩
theorem atO_bd {l : List (Int × Int)} {sg : Int} {sh : List Int} {i : Nat} (hi : i < l.length) (h1 : l[i].1 ≤ l[i].2) (hs : 0 ≤ sg) (hsh : ∀ i, i < sh.length → 0 ≤ at0 sh i ∧ at0 sh i ≤ 255) : l[i].1 ≤ atO l sg sh i ∧ atO l sg sh i ≤ l[i].2 + sg := by
  unfold atO
  rw [List.getElem?_eq_getElem hi]
  simp only [Option.getD_some]
  split
  · rename_i h
    obtain ⟨s1, s2⟩ := hsh i h
    have m1 : 0 ≤ (l[i].2 + sg - l[i].1) * at0 sh i := Int.mul_nonneg (by omega) s1
    have m2 : (l[i].2 + sg - l[i].1) * at0 sh i ≤ (l[i].2 + sg - l[i].1) * 255 := Int.mul_le_mul_of_nonneg_left s2 (by omega)
    rw [Int.tdiv_eq_ediv_of_nonneg m1]
    omega
  · omega
end Go.Proofs.YtoiepgcjinccpaaDoor.Bs
/-
  The walks of sort.Search and of asked.
-/
namespace Go.Proofs.YtoiepgcjinccpaaDoor.X
open Go Go.RowKit Go.Proofs.YtoiepgcjinccpaaDoor.Bs
set_option linter.unusedVariables false
end Go.Proofs.YtoiepgcjinccpaaDoor.X
/-
  The walks of slices.Clone of ticks, and of what changes a tick.
-/
namespace Go.Proofs.YtoiepgcjinccpaaDoor.X
open Go Go.RowKit Go.Proofs.YtoiepgcjinccpaaDoor.Bs
set_option linter.unusedVariables false
end Go.Proofs.YtoiepgcjinccpaaDoor.X
/-
  The walks of trial and of what it returns.
-/
namespace Go.Proofs.YtoiepgcjinccpaaDoor.Bs
open Go.Proofs.YtoiepgcjinccpaaDoor.X
/-- the first i ticks are changed. -/
def chTo (ch : Tick → Nat → Tick) (ts : List Tick) (n i : Nat) : List Tick := (List.range ts.length).map fun j => if j < i then ch (tk ts j) n else tk ts j
end Go.Proofs.YtoiepgcjinccpaaDoor.Bs
namespace Go.Proofs.YtoiepgcjinccpaaDoor.X
open Go Go.RowKit Go.Proofs.YtoiepgcjinccpaaDoor.Bs
set_option linter.unusedVariables false
/-- the five boxes of a trial. -/
structure TrAt (w : World) (ok : Nat → Prop) (g5 g6 g7 g8 g9 : Nat) (p : BV) (b : Bas) (q : SV) (s : Sta) (r : SV) (lim : Int) (f : FuncId) : Prop where
  k5 : ok g5
  k6 : ok g6
  k7 : ok g7
  k8 : ok g8
  k9 : ok g9
  h5 : w.heap[g5]? = some (cel 25 (basC p b))
  h6 : w.heap[g6]? = some (cel 28 (staC q s))
  h7 : w.heap[g7]? = some (cel 41 [svV r])
  h8 : w.heap[g8]? = some (cel 3 [.int .i64 lim])
  h9 : w.heap[g9]? = some (cel 129 [.func (.func f) #[] #[]])
section
variable {w w' : World} {ok ok' : Nat → Prop} {g5 g6 g7 g8 g9 : Nat} {p : BV} {b : Bas} {q : SV} {s : Sta} {r : SV} {lim : Int} {f : FuncId}
theorem TrAt.keep (h : TrAt w ok g5 g6 g7 g8 g9 p b q s r lim f) (hk : ∀ k, ok k → w'.heap[k]? = w.heap[k]?) : TrAt w' ok g5 g6 g7 g8 g9 p b q s r lim f :=
  ⟨h.k5, h.k6, h.k7, h.k8, h.k9, (hk _ h.k5).trans h.h5, (hk _ h.k6).trans h.h6, (hk _ h.k7).trans h.h7, (hk _ h.k8).trans h.h8, (hk _ h.k9).trans h.h9⟩
theorem TrAt.mono (h : TrAt w ok g5 g6 g7 g8 g9 p b q s r lim f) (hk : ∀ k, ok k → ok' k) : TrAt w ok' g5 g6 g7 g8 g9 p b q s r lim f :=
  ⟨hk _ h.k5, hk _ h.k6, hk _ h.k7, hk _ h.k8, hk _ h.k9, h.h5, h.h6, h.h7, h.h8, h.h9⟩
end
def hTr (g5 g6 g7 g8 g9 : Nat) (p : BV) (b : Bas) (q : SV) (s : Sta) (r : SV) (lim : Int) (f : FuncId) : Held := ⟨fun w ok => TrAt w ok g5 g6 g7 g8 g9 p b q s r lim f, TrAt.keep, TrAt.mono⟩
def trCap (g5 g6 g7 g8 g9 : Nat) : List Value := [.pointer (some ⟨g7, 0, none⟩), .pointer (some ⟨g9, 0, none⟩), .pointer (some ⟨g5, 0, none⟩), .pointer (some ⟨g6, 0, none⟩), .pointer (some ⟨g8, 0, none⟩)]
def TrialV (p : BV) (b : Bas) (q : SV) (s : Sta) (r : SV) (lim : Int) (f : FuncId) (v : Value) (new : List Held) : Prop :=
  ∃ g5 g6 g7 g8 g9 : Nat, v = .func (.func 101) #[] (trCap g5 g6 g7 g8 g9).toArray ∧ new = [hTr g5 g6 g7 g8 g9 p b q s r lim f]
end Go.Proofs.YtoiepgcjinccpaaDoor.X
/-
  The walks of layer 1's small functions (tide).
-/
namespace Go.Proofs.YtoiepgcjinccpaaDoor.Bs
/-- a constituent, and a table. -/
structure Con where
  name : ByteArray
  hs : List Int
  off : Int
  step : Int
  den : Int
  slack : Int
structure ConOk (c : Con) : Prop where
  hs : 2 ≤ c.hs.length ∧ c.hs.length ≤ 48
  h : ∀ i, i < c.hs.length → -10000 ≤ c.hs[i]?.getD 0 ∧ c.hs[i]?.getD 0 ≤ 10000
  off : 0 ≤ c.off ∧ c.off ≤ c.den * c.hs.length - 1
  step : 1 ≤ c.step ∧ c.step ≤ 100000
  den : 1 ≤ c.den ∧ c.den ≤ 1000
  slack : 0 ≤ c.slack ∧ c.slack ≤ 1000
end Go.Proofs.YtoiepgcjinccpaaDoor.Bs
namespace Go.Proofs.YtoiepgcjinccpaaDoor.X
open Go Go.RowKit Go.Proofs.YtoiepgcjinccpaaDoor.Bs
set_option linter.unusedVariables false
def conC (q : SV) (c : Con) : List Value := [.string c.name, .slice q.A q.n q.c, .int .i64 c.off, .int .i64 c.step, .int .i64 c.den, .int .i64 c.slack]
structure ConI where
  c : Con
  q : SV
def ConI.v (a : ConI) : List Value := conC a.q a.c
def conK : Kind ConI := ⟨159, 6, ConI.v, fun a => [hInts a.q a.c.hs], fun _ => rfl⟩
theorem tdout_any (n lo hi : Int) (w : World) :
    Calls Tryd.prog 105 #[.int .i64 n, .int .i64 lo, .int .i64 hi] w fun e w' => e = .returned (.bool (outB n lo hi)) ∧ Below w.heap.size w w' := by
  refine enter Tryd.func105 rfl Tryd.ntmps105 rfl ?_; simp only [frame, Nat.zero_add, Nat.reduceAdd]
  repeat (first | (refine M0 ?_; first | refine O0 ?_ | refine z1 tok rfl ?_ | refine O1 rfl ?_ rfl | refine O2 rfl ?_ | refine O3 rfl ?_ rfl | refine O4 rfl rfl rfl (fun _ _ => ?_) | refine O5 tok rfl rfl rfl (fun _ _ => ?_) | refine U0 _ (U2 rfl) rfl ?_ | refine U0 _ (U3 tok rfl rfl rfl rfl rfl) rfl ?_ | refine z3 tok rfl ?_ | refine U0 _ (U4 rfl rfl) rfl ?_ | refine U0 _ (U5 rfl rfl) rfl ?_) | (refine M1 ?_; first | refine J0 ?_ | refine J1 ?_ | refine J2 mixed rfl (by kernel_rfl) ?_ | refine J3 mixed rfl rfl (by kernel_rfl) ?_ | refine J4 ?_ | refine J5 ?_ | refine J6 ?_ | refine J7 ?_ | refine J8 rfl ?_ | refine J9 rfl ?_) | (refine M2 ?_; first | refine I0 ?_ | refine I1 ?_ | refine I2 ?_ | refine I3 ?_ | refine I4 ?_ | refine I5 ?_ | refine I6 rfl ?_ | refine I7 ?_ | refine I8 ?_ | refine z4 ?_) | (refine M3 ?_; first | refine O6 ?_ | refine z2 tok rfl ?_ | refine O8 rfl ?_ | refine O7 rfl ?_ rfl | refine O9 rfl ?_ rfl | refine U1 _ (U4 rfl rfl) rfl ?_ | refine U1 _ (U5 rfl rfl) rfl ?_ | refine U1 _ (U2 rfl) rfl ?_ | refine U1 _ (U3 tok rfl rfl rfl rfl rfl) rfl ?_) | (refine M4 ?_; first | refine M6 ?_ | refine U6 rfl (by kernel_rfl) ?_ | refine XR.take2 rfl (by kernel_rfl) ?_ | refine U7 (by kernel_rfl) ?_) | (refine M5 ?_; first | exact M7 | refine U8 rfl ?_ | refine U9 rfl rfl ?_ ?_))
  refine XL.split _ _ rfl (fun h => ?_) (fun h => ?_) <;> rw [h]
  · repeat (first | (refine M0 ?_; first | refine O0 ?_ | refine z1 tok rfl ?_ | refine O1 rfl ?_ rfl | refine O2 rfl ?_ | refine O3 rfl ?_ rfl | refine O4 rfl rfl rfl (fun _ _ => ?_) | refine O5 tok rfl rfl rfl (fun _ _ => ?_) | refine U0 _ (U2 rfl) rfl ?_ | refine U0 _ (U3 tok rfl rfl rfl rfl rfl) rfl ?_ | refine z3 tok rfl ?_ | refine U0 _ (U4 rfl rfl) rfl ?_ | refine U0 _ (U5 rfl rfl) rfl ?_) | (refine M1 ?_; first | refine J0 ?_ | refine J1 ?_ | refine J2 mixed rfl (by kernel_rfl) ?_ | refine J3 mixed rfl rfl (by kernel_rfl) ?_ | refine J4 ?_ | refine J5 ?_ | refine J6 ?_ | refine J7 ?_ | refine J8 rfl ?_ | refine J9 rfl ?_) | (refine M2 ?_; first | refine I0 ?_ | refine I1 ?_ | refine I2 ?_ | refine I3 ?_ | refine I4 ?_ | refine I5 ?_ | refine I6 rfl ?_ | refine I7 ?_ | refine I8 ?_ | refine z4 ?_) | (refine M3 ?_; first | refine O6 ?_ | refine z2 tok rfl ?_ | refine O8 rfl ?_ | refine O7 rfl ?_ rfl | refine O9 rfl ?_ rfl | refine U1 _ (U4 rfl rfl) rfl ?_ | refine U1 _ (U5 rfl rfl) rfl ?_ | refine U1 _ (U2 rfl) rfl ?_ | refine U1 _ (U3 tok rfl rfl rfl rfl rfl) rfl ?_) | (refine M4 ?_; first | refine M6 ?_ | refine U6 rfl (by kernel_rfl) ?_ | refine XR.take2 rfl (by kernel_rfl) ?_ | refine U7 (by kernel_rfl) ?_) | (refine M5 ?_; first | exact M7 | refine U8 rfl ?_ | refine U9 rfl rfl ?_ ?_))
    refine XE.retg tok Tryd.results105 rfl (by simp only [and_self, and_true]) (fun w' S => ?_)
    exact ⟨by unfold outB; rw [h]; rfl, S.toBelow⟩
  · repeat (first | (refine M0 ?_; first | refine O0 ?_ | refine z1 tok rfl ?_ | refine O1 rfl ?_ rfl | refine O2 rfl ?_ | refine O3 rfl ?_ rfl | refine O4 rfl rfl rfl (fun _ _ => ?_) | refine O5 tok rfl rfl rfl (fun _ _ => ?_) | refine U0 _ (U2 rfl) rfl ?_ | refine U0 _ (U3 tok rfl rfl rfl rfl rfl) rfl ?_ | refine z3 tok rfl ?_ | refine U0 _ (U4 rfl rfl) rfl ?_ | refine U0 _ (U5 rfl rfl) rfl ?_) | (refine M1 ?_; first | refine J0 ?_ | refine J1 ?_ | refine J2 mixed rfl (by kernel_rfl) ?_ | refine J3 mixed rfl rfl (by kernel_rfl) ?_ | refine J4 ?_ | refine J5 ?_ | refine J6 ?_ | refine J7 ?_ | refine J8 rfl ?_ | refine J9 rfl ?_) | (refine M2 ?_; first | refine I0 ?_ | refine I1 ?_ | refine I2 ?_ | refine I3 ?_ | refine I4 ?_ | refine I5 ?_ | refine I6 rfl ?_ | refine I7 ?_ | refine I8 ?_ | refine z4 ?_) | (refine M3 ?_; first | refine O6 ?_ | refine z2 tok rfl ?_ | refine O8 rfl ?_ | refine O7 rfl ?_ rfl | refine O9 rfl ?_ rfl | refine U1 _ (U4 rfl rfl) rfl ?_ | refine U1 _ (U5 rfl rfl) rfl ?_ | refine U1 _ (U2 rfl) rfl ?_ | refine U1 _ (U3 tok rfl rfl rfl rfl rfl) rfl ?_) | (refine M4 ?_; first | refine M6 ?_ | refine U6 rfl (by kernel_rfl) ?_ | refine XR.take2 rfl (by kernel_rfl) ?_ | refine U7 (by kernel_rfl) ?_) | (refine M5 ?_; first | exact M7 | refine U8 rfl ?_ | refine U9 rfl rfl ?_ ?_))
    refine XE.retg tok Tryd.results105 rfl (by simp only [and_self, and_true]) (fun w' S => ?_)
    exact ⟨by unfold outB; rw [h]; rfl, S.toBelow⟩
theorem cycle_any {q : SV} {c : Con} {w : World} (hq : q.n = c.hs.length) (hn : c.hs.length ≤ 48) (hd : 1 ≤ c.den ∧ c.den ≤ 1000) :
    Calls Tryd.prog 112 #[.agg ⟨conC q c⟩] w fun e w' => e = .returned (.int .i64 (c.den * c.hs.length)) ∧ Below w.heap.size w w' := by
  obtain ⟨A, n, cc⟩ := q
  simp only at hq
  subst hq
  simp only [conC]
  have hm : i64in (c.den * (c.hs.length : Int)) := by
    have := mul_bd (X := 1000) (Y := 48) (x := c.den) (y := (c.hs.length : Int)) (by omega) (by omega)
    unfold i64in; omega
  refine enter Tryd.func112 rfl Tryd.ntmps112 rfl ?_; simp only [frame, Nat.zero_add, Nat.reduceAdd]
  repeat (first | (refine M0 ?_; first | refine O0 ?_ | refine z1 tok rfl ?_ | refine O1 rfl ?_ rfl | refine O2 rfl ?_ | refine O3 rfl ?_ rfl | refine O4 rfl rfl rfl (fun _ _ => ?_) | refine O5 tok rfl rfl rfl (fun _ _ => ?_) | refine U0 _ (U2 rfl) rfl ?_ | refine U0 _ (U3 tok rfl rfl rfl rfl rfl) rfl ?_ | refine z3 tok rfl ?_ | refine U0 _ (U4 rfl rfl) rfl ?_ | refine U0 _ (U5 rfl rfl) rfl ?_) | (refine M1 ?_; first | refine J0 ?_ | refine J1 ?_ | refine J2 mixed rfl (by kernel_rfl) ?_ | refine J3 mixed rfl rfl (by kernel_rfl) ?_ | refine J4 ?_ | refine J5 ?_ | refine J6 ?_ | refine J7 ?_ | refine J8 rfl ?_ | refine J9 rfl ?_) | (refine M2 ?_; first | refine I0 ?_ | refine I1 ?_ | refine I2 ?_ | refine I3 ?_ | refine I4 ?_ | refine I5 ?_ | refine I6 rfl ?_ | refine I7 ?_ | refine I8 ?_ | refine z4 ?_) | (refine M3 ?_; first | refine O6 ?_ | refine z2 tok rfl ?_ | refine O8 rfl ?_ | refine O7 rfl ?_ rfl | refine O9 rfl ?_ rfl | refine U1 _ (U4 rfl rfl) rfl ?_ | refine U1 _ (U5 rfl rfl) rfl ?_ | refine U1 _ (U2 rfl) rfl ?_ | refine U1 _ (U3 tok rfl rfl rfl rfl rfl) rfl ?_) | (refine M4 ?_; first | refine M6 ?_ | refine U6 rfl (by kernel_rfl) ?_ | refine XR.take2 rfl (by kernel_rfl) ?_ | refine U7 (by kernel_rfl) ?_) | (refine M5 ?_; first | exact M7 | refine U8 rfl ?_ | refine U9 rfl rfl ?_ ?_))
  refine XE.retg tok Tryd.results112 rfl (by simp only [and_self, and_true]) (fun w' S => ?_)
  exact ⟨rfl, S.toBelow⟩
theorem ticks1_any (n : Int) (w : World) :
    Calls Tryd.prog 126 #[.int .i64 n] w fun e w' => e = .returned (.bool (outB n 0 200000)) ∧ Below w.heap.size w w' := by
  refine enter Tryd.func126 rfl Tryd.ntmps126 rfl ?_; simp only [frame, Nat.zero_add, Nat.reduceAdd]
  repeat (first | (refine M0 ?_; first | refine O0 ?_ | refine z1 tok rfl ?_ | refine O1 rfl ?_ rfl | refine O2 rfl ?_ | refine O3 rfl ?_ rfl | refine U0 _ (Ev.call (f := 105) (ck rfl) rfl (fun w S => tdout_any _ _ _ w)) rfl ?_ | refine O4 rfl rfl rfl (fun _ _ => ?_) | refine O5 tok rfl rfl rfl (fun _ _ => ?_) | refine U0 _ (U2 rfl) rfl ?_ | refine U0 _ (U3 tok rfl rfl rfl rfl rfl) rfl ?_ | refine z3 tok rfl ?_ | refine U0 _ (U4 rfl rfl) rfl ?_ | refine U0 _ (U5 rfl rfl) rfl ?_) | (refine M1 ?_; first | refine J0 ?_ | refine J1 ?_ | refine J2 mixed rfl (by kernel_rfl) ?_ | refine J3 mixed rfl rfl (by kernel_rfl) ?_ | refine J4 ?_ | refine J5 ?_ | refine J6 ?_ | refine J7 ?_ | refine J8 rfl ?_ | refine J9 rfl ?_) | (refine M2 ?_; first | refine I0 ?_ | refine I1 ?_ | refine I2 ?_ | refine I3 ?_ | refine I4 ?_ | refine I5 ?_ | refine I6 rfl ?_ | refine I7 ?_ | refine I8 ?_ | refine z4 ?_) | (refine M3 ?_; first | refine O6 ?_ | refine z2 tok rfl ?_ | refine O8 rfl ?_ | refine O7 rfl ?_ rfl | refine O9 rfl ?_ rfl | refine U1 _ (Ev.call (f := 105) (ck rfl) rfl (fun w S => tdout_any _ _ _ w)) rfl ?_ | refine U1 _ (U4 rfl rfl) rfl ?_ | refine U1 _ (U5 rfl rfl) rfl ?_ | refine U1 _ (U2 rfl) rfl ?_ | refine U1 _ (U3 tok rfl rfl rfl rfl rfl) rfl ?_) | (refine M4 ?_; first | refine M6 ?_ | refine U6 rfl (by kernel_rfl) ?_ | refine XR.take2 rfl (by kernel_rfl) ?_ | refine U7 (by kernel_rfl) ?_) | (refine M5 ?_; first | exact M7 | refine U8 rfl ?_ | refine U9 rfl rfl ?_ ?_))
  refine XE.retg tok Tryd.results126 rfl (by simp only [and_self, and_true]) (fun w' S => ?_)
  exact ⟨rfl, S.toBelow⟩
theorem check3_any (n : Int) (w : World) :
    Calls Tryd.prog 107 #[.int .i64 n] w fun e w' => e = .returned (.bool (outB n (-10000) 10000)) ∧ Below w.heap.size w w' := by
  refine enter Tryd.func107 rfl Tryd.ntmps107 rfl ?_; simp only [frame, Nat.zero_add, Nat.reduceAdd]
  repeat (first | (refine M0 ?_; first | refine O0 ?_ | refine z1 tok rfl ?_ | refine O1 rfl ?_ rfl | refine O2 rfl ?_ | refine O3 rfl ?_ rfl | refine U0 _ (Ev.call (f := 105) (ck rfl) rfl (fun w S => tdout_any _ _ _ w)) rfl ?_ | refine O4 rfl rfl rfl (fun _ _ => ?_) | refine O5 tok rfl rfl rfl (fun _ _ => ?_) | refine U0 _ (U2 rfl) rfl ?_ | refine U0 _ (U3 tok rfl rfl rfl rfl rfl) rfl ?_ | refine z3 tok rfl ?_ | refine U0 _ (U4 rfl rfl) rfl ?_ | refine U0 _ (U5 rfl rfl) rfl ?_) | (refine M1 ?_; first | refine J0 ?_ | refine J1 ?_ | refine J2 mixed rfl (by kernel_rfl) ?_ | refine J3 mixed rfl rfl (by kernel_rfl) ?_ | refine J4 ?_ | refine J5 ?_ | refine J6 ?_ | refine J7 ?_ | refine J8 rfl ?_ | refine J9 rfl ?_) | (refine M2 ?_; first | refine I0 ?_ | refine I1 ?_ | refine I2 ?_ | refine I3 ?_ | refine I4 ?_ | refine I5 ?_ | refine I6 rfl ?_ | refine I7 ?_ | refine I8 ?_ | refine z4 ?_) | (refine M3 ?_; first | refine O6 ?_ | refine z2 tok rfl ?_ | refine O8 rfl ?_ | refine O7 rfl ?_ rfl | refine O9 rfl ?_ rfl | refine U1 _ (Ev.call (f := 105) (ck rfl) rfl (fun w S => tdout_any _ _ _ w)) rfl ?_ | refine U1 _ (U4 rfl rfl) rfl ?_ | refine U1 _ (U5 rfl rfl) rfl ?_ | refine U1 _ (U2 rfl) rfl ?_ | refine U1 _ (U3 tok rfl rfl rfl rfl rfl) rfl ?_) | (refine M4 ?_; first | refine M6 ?_ | refine U6 rfl (by kernel_rfl) ?_ | refine XR.take2 rfl (by kernel_rfl) ?_ | refine U7 (by kernel_rfl) ?_) | (refine M5 ?_; first | exact M7 | refine U8 rfl ?_ | refine U9 rfl rfl ?_ ?_))
  refine XE.retg tok Tryd.results107 rfl (by simp only [and_self, and_true]) (fun w' S => ?_)
  exact ⟨rfl, S.toBelow⟩
theorem ticks_any {q : SV} {l : List Int} {w : World} (hq : IntsAt w (Lt w.heap.size) q l) (hn : l.length ≤ 1000) :
    Calls Tryd.prog 113 #[svV q] w fun e w' => e = .returned (.int .i64 (if l.any (fun n => outB n 0 200000) = true then 7 else 0)) ∧ Below w.heap.size w w' := by
  obtain ⟨A, n, c⟩ := q
  simp only [svV]
  refine enter Tryd.func113 rfl Tryd.ntmps113 rfl ?_; simp only [frame, Nat.zero_add, Nat.reduceAdd]
  repeat (first | (refine M0 ?_; first | refine O0 ?_ | refine z1 tok rfl ?_ | refine O1 rfl ?_ rfl | refine O2 rfl ?_ | refine O3 rfl ?_ rfl | refine O4 rfl rfl rfl (fun _ _ => ?_) | refine O5 tok rfl rfl rfl (fun _ _ => ?_) | refine U0 _ (U2 rfl) rfl ?_ | refine U0 _ (U3 tok rfl rfl rfl rfl rfl) rfl ?_ | refine z3 tok rfl ?_ | refine U0 _ (U4 rfl rfl) rfl ?_ | refine U0 _ (U5 rfl rfl) rfl ?_) | (refine M1 ?_; first | refine J0 ?_ | refine J1 ?_ | refine J2 mixed rfl (by kernel_rfl) ?_ | refine J3 mixed rfl rfl (by kernel_rfl) ?_ | refine J4 ?_ | refine J5 ?_ | refine J6 ?_ | refine J7 ?_ | refine J8 rfl ?_ | refine J9 rfl ?_) | (refine M2 ?_; first | refine I0 ?_ | refine I1 ?_ | refine I2 ?_ | refine I3 ?_ | refine I4 ?_ | refine I5 ?_ | refine I6 rfl ?_ | refine I7 ?_ | refine I8 ?_ | refine z4 ?_) | (refine M3 ?_; first | refine O6 ?_ | refine z2 tok rfl ?_ | refine O8 rfl ?_ | refine O7 rfl ?_ rfl | refine O9 rfl ?_ rfl | refine U1 _ (U4 rfl rfl) rfl ?_ | refine U1 _ (U5 rfl rfl) rfl ?_ | refine U1 _ (U2 rfl) rfl ?_ | refine U1 _ (U3 tok rfl rfl rfl rfl rfl) rfl ?_) | (refine M4 ?_; first | refine M6 ?_ | refine U6 rfl (by kernel_rfl) ?_ | refine XR.take2 rfl (by kernel_rfl) ?_ | refine U7 (by kernel_rfl) ?_) | (refine M5 ?_; first | exact M7 | refine U8 rfl ?_ | refine U9 rfl rfl ?_ ?_))
  refine XL.step _ (Ev.call (f := 74) (ck rfl) rfl (fun w5 S5 => (contInt (f := 126) (cap := []) (P := fun n => outB n 0 200000) (r := ⟨A, n, c⟩) (ms := l) (ck rfl) (hq.arg S5) hn (fun m hm w' hb => ticks1_any m w') :))) rfl ?_
  repeat (first | (refine M0 ?_; first | refine O0 ?_ | refine z1 tok rfl ?_ | refine O1 rfl ?_ rfl | refine O2 rfl ?_ | refine O3 rfl ?_ rfl | refine O4 rfl rfl rfl (fun _ _ => ?_) | refine O5 tok rfl rfl rfl (fun _ _ => ?_) | refine U0 _ (U2 rfl) rfl ?_ | refine U0 _ (U3 tok rfl rfl rfl rfl rfl) rfl ?_ | refine z3 tok rfl ?_ | refine U0 _ (U4 rfl rfl) rfl ?_ | refine U0 _ (U5 rfl rfl) rfl ?_) | (refine M1 ?_; first | refine J0 ?_ | refine J1 ?_ | refine J2 mixed rfl (by kernel_rfl) ?_ | refine J3 mixed rfl rfl (by kernel_rfl) ?_ | refine J4 ?_ | refine J5 ?_ | refine J6 ?_ | refine J7 ?_ | refine J8 rfl ?_ | refine J9 rfl ?_) | (refine M2 ?_; first | refine I0 ?_ | refine I1 ?_ | refine I2 ?_ | refine I3 ?_ | refine I4 ?_ | refine I5 ?_ | refine I6 rfl ?_ | refine I7 ?_ | refine I8 ?_ | refine z4 ?_) | (refine M3 ?_; first | refine O6 ?_ | refine z2 tok rfl ?_ | refine O8 rfl ?_ | refine O7 rfl ?_ rfl | refine O9 rfl ?_ rfl | refine U1 _ (U4 rfl rfl) rfl ?_ | refine U1 _ (U5 rfl rfl) rfl ?_ | refine U1 _ (U2 rfl) rfl ?_ | refine U1 _ (U3 tok rfl rfl rfl rfl rfl) rfl ?_) | (refine M4 ?_; first | refine M6 ?_ | refine U6 rfl (by kernel_rfl) ?_ | refine XR.take2 rfl (by kernel_rfl) ?_ | refine U7 (by kernel_rfl) ?_) | (refine M5 ?_; first | exact M7 | refine U8 rfl ?_ | refine U9 rfl rfl ?_ ?_))
  refine XC.cond _ rfl (fun h => ?_) (fun h => ?_)
  · repeat (first | (refine M0 ?_; first | refine O0 ?_ | refine z1 tok rfl ?_ | refine O1 rfl ?_ rfl | refine O2 rfl ?_ | refine O3 rfl ?_ rfl | refine O4 rfl rfl rfl (fun _ _ => ?_) | refine O5 tok rfl rfl rfl (fun _ _ => ?_) | refine U0 _ (U2 rfl) rfl ?_ | refine U0 _ (U3 tok rfl rfl rfl rfl rfl) rfl ?_ | refine z3 tok rfl ?_ | refine U0 _ (U4 rfl rfl) rfl ?_ | refine U0 _ (U5 rfl rfl) rfl ?_) | (refine M1 ?_; first | refine J0 ?_ | refine J1 ?_ | refine J2 mixed rfl (by kernel_rfl) ?_ | refine J3 mixed rfl rfl (by kernel_rfl) ?_ | refine J4 ?_ | refine J5 ?_ | refine J6 ?_ | refine J7 ?_ | refine J8 rfl ?_ | refine J9 rfl ?_) | (refine M2 ?_; first | refine I0 ?_ | refine I1 ?_ | refine I2 ?_ | refine I3 ?_ | refine I4 ?_ | refine I5 ?_ | refine I6 rfl ?_ | refine I7 ?_ | refine I8 ?_ | refine z4 ?_) | (refine M3 ?_; first | refine O6 ?_ | refine z2 tok rfl ?_ | refine O8 rfl ?_ | refine O7 rfl ?_ rfl | refine O9 rfl ?_ rfl | refine U1 _ (U4 rfl rfl) rfl ?_ | refine U1 _ (U5 rfl rfl) rfl ?_ | refine U1 _ (U2 rfl) rfl ?_ | refine U1 _ (U3 tok rfl rfl rfl rfl rfl) rfl ?_) | (refine M4 ?_; first | refine M6 ?_ | refine U6 rfl (by kernel_rfl) ?_ | refine XR.take2 rfl (by kernel_rfl) ?_ | refine U7 (by kernel_rfl) ?_) | (refine M5 ?_; first | exact M7 | refine U8 rfl ?_ | refine U9 rfl rfl ?_ ?_))
    refine XE.retg tok Tryd.results113 rfl (by simp only [and_self, and_true]) (fun w' S => ?_)
    exact ⟨by rw [if_pos h]; rfl, S.toBelow⟩
  · repeat (first | (refine M0 ?_; first | refine O0 ?_ | refine z1 tok rfl ?_ | refine O1 rfl ?_ rfl | refine O2 rfl ?_ | refine O3 rfl ?_ rfl | refine O4 rfl rfl rfl (fun _ _ => ?_) | refine O5 tok rfl rfl rfl (fun _ _ => ?_) | refine U0 _ (U2 rfl) rfl ?_ | refine U0 _ (U3 tok rfl rfl rfl rfl rfl) rfl ?_ | refine z3 tok rfl ?_ | refine U0 _ (U4 rfl rfl) rfl ?_ | refine U0 _ (U5 rfl rfl) rfl ?_) | (refine M1 ?_; first | refine J0 ?_ | refine J1 ?_ | refine J2 mixed rfl (by kernel_rfl) ?_ | refine J3 mixed rfl rfl (by kernel_rfl) ?_ | refine J4 ?_ | refine J5 ?_ | refine J6 ?_ | refine J7 ?_ | refine J8 rfl ?_ | refine J9 rfl ?_) | (refine M2 ?_; first | refine I0 ?_ | refine I1 ?_ | refine I2 ?_ | refine I3 ?_ | refine I4 ?_ | refine I5 ?_ | refine I6 rfl ?_ | refine I7 ?_ | refine I8 ?_ | refine z4 ?_) | (refine M3 ?_; first | refine O6 ?_ | refine z2 tok rfl ?_ | refine O8 rfl ?_ | refine O7 rfl ?_ rfl | refine O9 rfl ?_ rfl | refine U1 _ (U4 rfl rfl) rfl ?_ | refine U1 _ (U5 rfl rfl) rfl ?_ | refine U1 _ (U2 rfl) rfl ?_ | refine U1 _ (U3 tok rfl rfl rfl rfl rfl) rfl ?_) | (refine M4 ?_; first | refine M6 ?_ | refine U6 rfl (by kernel_rfl) ?_ | refine XR.take2 rfl (by kernel_rfl) ?_ | refine U7 (by kernel_rfl) ?_) | (refine M5 ?_; first | exact M7 | refine U8 rfl ?_ | refine U9 rfl rfl ?_ ?_))
    refine XE.retg tok Tryd.results113 rfl (by simp only [and_self, and_true]) (fun w' S => ?_)
    exact ⟨by rw [if_neg (by simp [h])]; rfl, S.toBelow⟩
/-- what is asked of some ticks: the error. -/
def someE (a n : Int) : Int := if outB n 0 400 = true then 3 else if n = 0 then 0 else if outB a 0 200000 = true then 7 else if outB (a + n - 1) 0 200000 = true then 7 else 0
set_option maxHeartbeats 4000000 in
theorem some_any (a n : Int) (w : World) :
    Calls Tryd.prog 83 #[.int .i64 a, .int .i64 n] w fun e w' => e = .returned (.int .i64 (someE a n)) ∧ Below w.heap.size w w' := by
  refine enter Tryd.func83 rfl Tryd.ntmps83 rfl ?_; simp only [frame, Nat.zero_add, Nat.reduceAdd]
  repeat (first | (refine M0 ?_; first | refine O0 ?_ | refine z1 tok rfl ?_ | refine O1 rfl ?_ rfl | refine O2 rfl ?_ | refine O3 rfl ?_ rfl | refine U0 _ (Ev.call (f := 105) (ck rfl) rfl (fun w S => tdout_any _ _ _ w)) rfl ?_ | refine O4 rfl rfl rfl (fun _ _ => ?_) | refine O5 tok rfl rfl rfl (fun _ _ => ?_) | refine U0 _ (U2 rfl) rfl ?_ | refine U0 _ (U3 tok rfl rfl rfl rfl rfl) rfl ?_ | refine z3 tok rfl ?_ | refine U0 _ (U4 rfl rfl) rfl ?_ | refine U0 _ (U5 rfl rfl) rfl ?_) | (refine M1 ?_; first | refine J0 ?_ | refine J1 ?_ | refine J2 mixed rfl (by kernel_rfl) ?_ | refine J3 mixed rfl rfl (by kernel_rfl) ?_ | refine J4 ?_ | refine J5 ?_ | refine J6 ?_ | refine J7 ?_ | refine J8 rfl ?_ | refine J9 rfl ?_) | (refine M2 ?_; first | refine I0 ?_ | refine I1 ?_ | refine I2 ?_ | refine I3 ?_ | refine I4 ?_ | refine I5 ?_ | refine I6 rfl ?_ | refine I7 ?_ | refine I8 ?_ | refine z4 ?_) | (refine M3 ?_; first | refine O6 ?_ | refine z2 tok rfl ?_ | refine O8 rfl ?_ | refine O7 rfl ?_ rfl | refine O9 rfl ?_ rfl | refine U1 _ (Ev.call (f := 105) (ck rfl) rfl (fun w S => tdout_any _ _ _ w)) rfl ?_ | refine U1 _ (U4 rfl rfl) rfl ?_ | refine U1 _ (U5 rfl rfl) rfl ?_ | refine U1 _ (U2 rfl) rfl ?_ | refine U1 _ (U3 tok rfl rfl rfl rfl rfl) rfl ?_) | (refine M4 ?_; first | refine M6 ?_ | refine U6 rfl (by kernel_rfl) ?_ | refine XR.take2 rfl (by kernel_rfl) ?_ | refine U7 (by kernel_rfl) ?_) | (refine M5 ?_; first | exact M7 | refine U8 rfl ?_ | refine U9 rfl rfl ?_ ?_))
  refine XC.cond _ rfl (fun h0 => ?_) (fun h0 => ?_)
  · repeat (first | (refine M0 ?_; first | refine O0 ?_ | refine z1 tok rfl ?_ | refine O1 rfl ?_ rfl | refine O2 rfl ?_ | refine O3 rfl ?_ rfl | refine O4 rfl rfl rfl (fun _ _ => ?_) | refine O5 tok rfl rfl rfl (fun _ _ => ?_) | refine U0 _ (U2 rfl) rfl ?_ | refine U0 _ (U3 tok rfl rfl rfl rfl rfl) rfl ?_ | refine z3 tok rfl ?_ | refine U0 _ (U4 rfl rfl) rfl ?_ | refine U0 _ (U5 rfl rfl) rfl ?_) | (refine M1 ?_; first | refine J0 ?_ | refine J1 ?_ | refine J2 mixed rfl (by kernel_rfl) ?_ | refine J3 mixed rfl rfl (by kernel_rfl) ?_ | refine J4 ?_ | refine J5 ?_ | refine J6 ?_ | refine J7 ?_ | refine J8 rfl ?_ | refine J9 rfl ?_) | (refine M2 ?_; first | refine I0 ?_ | refine I1 ?_ | refine I2 ?_ | refine I3 ?_ | refine I4 ?_ | refine I5 ?_ | refine I6 rfl ?_ | refine I7 ?_ | refine I8 ?_ | refine z4 ?_) | (refine M3 ?_; first | refine O6 ?_ | refine z2 tok rfl ?_ | refine O8 rfl ?_ | refine O7 rfl ?_ rfl | refine O9 rfl ?_ rfl | refine U1 _ (U4 rfl rfl) rfl ?_ | refine U1 _ (U5 rfl rfl) rfl ?_ | refine U1 _ (U2 rfl) rfl ?_ | refine U1 _ (U3 tok rfl rfl rfl rfl rfl) rfl ?_) | (refine M4 ?_; first | refine M6 ?_ | refine U6 rfl (by kernel_rfl) ?_ | refine XR.take2 rfl (by kernel_rfl) ?_ | refine U7 (by kernel_rfl) ?_) | (refine M5 ?_; first | exact M7 | refine U8 rfl ?_ | refine U9 rfl rfl ?_ ?_))
    refine XE.retg tok Tryd.results83 rfl (by simp only [and_self, and_true]) (fun w' S => ?_)
    exact ⟨by unfold someE; rw [if_pos h0]; rfl, S.toBelow⟩
  repeat (first | (refine M0 ?_; first | refine O0 ?_ | refine z1 tok rfl ?_ | refine O1 rfl ?_ rfl | refine O2 rfl ?_ | refine O3 rfl ?_ rfl | refine O4 rfl rfl rfl (fun _ _ => ?_) | refine O5 tok rfl rfl rfl (fun _ _ => ?_) | refine U0 _ (U2 rfl) rfl ?_ | refine U0 _ (U3 tok rfl rfl rfl rfl rfl) rfl ?_ | refine z3 tok rfl ?_ | refine U0 _ (U4 rfl rfl) rfl ?_ | refine U0 _ (U5 rfl rfl) rfl ?_) | (refine M1 ?_; first | refine J0 ?_ | refine J1 ?_ | refine J2 mixed rfl (by kernel_rfl) ?_ | refine J3 mixed rfl rfl (by kernel_rfl) ?_ | refine J4 ?_ | refine J5 ?_ | refine J6 ?_ | refine J7 ?_ | refine J8 rfl ?_ | refine J9 rfl ?_) | (refine M2 ?_; first | refine I0 ?_ | refine I1 ?_ | refine I2 ?_ | refine I3 ?_ | refine I4 ?_ | refine I5 ?_ | refine I6 rfl ?_ | refine I7 ?_ | refine I8 ?_ | refine z4 ?_) | (refine M3 ?_; first | refine O6 ?_ | refine z2 tok rfl ?_ | refine O8 rfl ?_ | refine O7 rfl ?_ rfl | refine O9 rfl ?_ rfl | refine U1 _ (U4 rfl rfl) rfl ?_ | refine U1 _ (U5 rfl rfl) rfl ?_ | refine U1 _ (U2 rfl) rfl ?_ | refine U1 _ (U3 tok rfl rfl rfl rfl rfl) rfl ?_) | (refine M4 ?_; first | refine M6 ?_ | refine U6 rfl (by kernel_rfl) ?_ | refine XR.take2 rfl (by kernel_rfl) ?_ | refine U7 (by kernel_rfl) ?_) | (refine M5 ?_; first | exact M7 | refine U8 rfl ?_ | refine U9 rfl rfl ?_ ?_))
  refine XC.cond _ rfl (fun h1 => ?_) (fun h1 => ?_)
  · repeat (first | (refine M0 ?_; first | refine O0 ?_ | refine z1 tok rfl ?_ | refine O1 rfl ?_ rfl | refine O2 rfl ?_ | refine O3 rfl ?_ rfl | refine O4 rfl rfl rfl (fun _ _ => ?_) | refine O5 tok rfl rfl rfl (fun _ _ => ?_) | refine U0 _ (U2 rfl) rfl ?_ | refine U0 _ (U3 tok rfl rfl rfl rfl rfl) rfl ?_ | refine z3 tok rfl ?_ | refine U0 _ (U4 rfl rfl) rfl ?_ | refine U0 _ (U5 rfl rfl) rfl ?_) | (refine M1 ?_; first | refine J0 ?_ | refine J1 ?_ | refine J2 mixed rfl (by kernel_rfl) ?_ | refine J3 mixed rfl rfl (by kernel_rfl) ?_ | refine J4 ?_ | refine J5 ?_ | refine J6 ?_ | refine J7 ?_ | refine J8 rfl ?_ | refine J9 rfl ?_) | (refine M2 ?_; first | refine I0 ?_ | refine I1 ?_ | refine I2 ?_ | refine I3 ?_ | refine I4 ?_ | refine I5 ?_ | refine I6 rfl ?_ | refine I7 ?_ | refine I8 ?_ | refine z4 ?_) | (refine M3 ?_; first | refine O6 ?_ | refine z2 tok rfl ?_ | refine O8 rfl ?_ | refine O7 rfl ?_ rfl | refine O9 rfl ?_ rfl | refine U1 _ (U4 rfl rfl) rfl ?_ | refine U1 _ (U5 rfl rfl) rfl ?_ | refine U1 _ (U2 rfl) rfl ?_ | refine U1 _ (U3 tok rfl rfl rfl rfl rfl) rfl ?_) | (refine M4 ?_; first | refine M6 ?_ | refine U6 rfl (by kernel_rfl) ?_ | refine XR.take2 rfl (by kernel_rfl) ?_ | refine U7 (by kernel_rfl) ?_) | (refine M5 ?_; first | exact M7 | refine U8 rfl ?_ | refine U9 rfl rfl ?_ ?_))
    refine XE.retg tok Tryd.results83 rfl (by simp only [and_self, and_true]) (fun w' S => ?_)
    exact ⟨by unfold someE; rw [if_neg (by simp [h0]), if_pos (of_decide_eq_true h1)]; rfl, S.toBelow⟩
  repeat (first | (refine M0 ?_; first | refine O0 ?_ | refine z1 tok rfl ?_ | refine O1 rfl ?_ rfl | refine O2 rfl ?_ | refine O3 rfl ?_ rfl | refine U0 _ (Ev.call (f := 105) (ck rfl) rfl (fun w S => tdout_any _ _ _ w)) rfl ?_ | refine O4 rfl rfl rfl (fun _ _ => ?_) | refine O5 tok rfl rfl rfl (fun _ _ => ?_) | refine U0 _ (U2 rfl) rfl ?_ | refine U0 _ (U3 tok rfl rfl rfl rfl rfl) rfl ?_ | refine z3 tok rfl ?_ | refine U0 _ (U4 rfl rfl) rfl ?_ | refine U0 _ (U5 rfl rfl) rfl ?_) | (refine M1 ?_; first | refine J0 ?_ | refine J1 ?_ | refine J2 mixed rfl (by kernel_rfl) ?_ | refine J3 mixed rfl rfl (by kernel_rfl) ?_ | refine J4 ?_ | refine J5 ?_ | refine J6 ?_ | refine J7 ?_ | refine J8 rfl ?_ | refine J9 rfl ?_) | (refine M2 ?_; first | refine I0 ?_ | refine I1 ?_ | refine I2 ?_ | refine I3 ?_ | refine I4 ?_ | refine I5 ?_ | refine I6 rfl ?_ | refine I7 ?_ | refine I8 ?_ | refine z4 ?_) | (refine M3 ?_; first | refine O6 ?_ | refine z2 tok rfl ?_ | refine O8 rfl ?_ | refine O7 rfl ?_ rfl | refine O9 rfl ?_ rfl | refine U1 _ (Ev.call (f := 105) (ck rfl) rfl (fun w S => tdout_any _ _ _ w)) rfl ?_ | refine U1 _ (U4 rfl rfl) rfl ?_ | refine U1 _ (U5 rfl rfl) rfl ?_ | refine U1 _ (U2 rfl) rfl ?_ | refine U1 _ (U3 tok rfl rfl rfl rfl rfl) rfl ?_) | (refine M4 ?_; first | refine M6 ?_ | refine U6 rfl (by kernel_rfl) ?_ | refine XR.take2 rfl (by kernel_rfl) ?_ | refine U7 (by kernel_rfl) ?_) | (refine M5 ?_; first | exact M7 | refine U8 rfl ?_ | refine U9 rfl rfl ?_ ?_))
  refine XC.cond _ rfl (fun h2 => ?_) (fun h2 => ?_)
  · repeat (first | (refine M0 ?_; first | refine O0 ?_ | refine z1 tok rfl ?_ | refine O1 rfl ?_ rfl | refine O2 rfl ?_ | refine O3 rfl ?_ rfl | refine O4 rfl rfl rfl (fun _ _ => ?_) | refine O5 tok rfl rfl rfl (fun _ _ => ?_) | refine U0 _ (U2 rfl) rfl ?_ | refine U0 _ (U3 tok rfl rfl rfl rfl rfl) rfl ?_ | refine z3 tok rfl ?_ | refine U0 _ (U4 rfl rfl) rfl ?_ | refine U0 _ (U5 rfl rfl) rfl ?_) | (refine M1 ?_; first | refine J0 ?_ | refine J1 ?_ | refine J2 mixed rfl (by kernel_rfl) ?_ | refine J3 mixed rfl rfl (by kernel_rfl) ?_ | refine J4 ?_ | refine J5 ?_ | refine J6 ?_ | refine J7 ?_ | refine J8 rfl ?_ | refine J9 rfl ?_) | (refine M2 ?_; first | refine I0 ?_ | refine I1 ?_ | refine I2 ?_ | refine I3 ?_ | refine I4 ?_ | refine I5 ?_ | refine I6 rfl ?_ | refine I7 ?_ | refine I8 ?_ | refine z4 ?_) | (refine M3 ?_; first | refine O6 ?_ | refine z2 tok rfl ?_ | refine O8 rfl ?_ | refine O7 rfl ?_ rfl | refine O9 rfl ?_ rfl | refine U1 _ (U4 rfl rfl) rfl ?_ | refine U1 _ (U5 rfl rfl) rfl ?_ | refine U1 _ (U2 rfl) rfl ?_ | refine U1 _ (U3 tok rfl rfl rfl rfl rfl) rfl ?_) | (refine M4 ?_; first | refine M6 ?_ | refine U6 rfl (by kernel_rfl) ?_ | refine XR.take2 rfl (by kernel_rfl) ?_ | refine U7 (by kernel_rfl) ?_) | (refine M5 ?_; first | exact M7 | refine U8 rfl ?_ | refine U9 rfl rfl ?_ ?_))
    refine XE.retg tok Tryd.results83 rfl (by simp only [and_self, and_true]) (fun w' S => ?_)
    exact ⟨by unfold someE; rw [if_neg (by simp [h0]), if_neg (of_decide_eq_false h1), if_pos h2]; rfl, S.toBelow⟩
  have b0 := outB_f.1 h0
  have b2 := outB_f.1 h2
  repeat (first | (refine M0 ?_; first | refine O0 ?_ | refine z1 tok rfl ?_ | refine O1 rfl ?_ rfl | refine O2 rfl ?_ | refine O3 rfl ?_ rfl | refine O4 rfl rfl rfl (fun _ _ => ?_) | refine O5 tok rfl rfl rfl (fun _ _ => ?_) | refine U0 _ (U2 rfl) rfl ?_ | refine U0 _ (U3 tok rfl rfl rfl rfl rfl) rfl ?_ | refine z3 tok rfl ?_ | refine U0 _ (U4 rfl rfl) rfl ?_ | refine U0 _ (U5 rfl rfl) rfl ?_ | refine XL.buildSlice tok rfl rfl rfl rfl rfl rfl rfl rfl rfl (fun _ _ => ?_)) | (refine M1 ?_; first | refine J0 ?_ | refine J1 ?_ | refine J2 mixed rfl (by kernel_rfl) ?_ | refine J3 mixed rfl rfl (by kernel_rfl) ?_ | refine J4 ?_ | refine J5 ?_ | refine J6 ?_ | refine J7 ?_ | refine J8 rfl ?_ | refine J9 rfl ?_) | (refine M2 ?_; first | refine I0 ?_ | refine I1 ?_ | refine I2 ?_ | refine I3 ?_ | refine I4 ?_ | refine I5 ?_ | refine I6 rfl ?_ | refine I7 ?_ | refine I8 ?_ | refine z4 ?_) | (refine M3 ?_; first | refine O6 ?_ | refine z2 tok rfl ?_ | refine O8 rfl ?_ | refine O7 rfl ?_ rfl | refine O9 rfl ?_ rfl | refine U1 _ (U4 rfl rfl) rfl ?_ | refine U1 _ (U5 rfl rfl) rfl ?_ | refine U1 _ (U2 rfl) rfl ?_ | refine U1 _ (U3 tok rfl rfl rfl rfl rfl) rfl ?_) | (refine M4 ?_; first | refine M6 ?_ | refine U6 rfl (by kernel_rfl) ?_ | refine XR.take2 rfl (by kernel_rfl) ?_ | refine U7 (by kernel_rfl) ?_) | (refine M5 ?_; first | exact M7 | refine U8 rfl ?_ | refine U9 rfl rfl ?_ ?_))
  refine XL.step _ (Ev.call (f := 113) (ck rfl) rfl (fun w5 S5 => (ticks_any (q := ⟨some ⟨_, 0, none⟩, 1, 1⟩) (l := [a + n - 1]) ⟨(ReadsP.block (S5.own _ List.mem_cons_self).2 (Nat.zero_le _) rfl).mono fun j hj => hj.2, by simp⟩ (by simp)))) rfl ?_
  repeat (first | (refine M0 ?_; first | refine O0 ?_ | refine z1 tok rfl ?_ | refine O1 rfl ?_ rfl | refine O2 rfl ?_ | refine O3 rfl ?_ rfl | refine O4 rfl rfl rfl (fun _ _ => ?_) | refine O5 tok rfl rfl rfl (fun _ _ => ?_) | refine U0 _ (U2 rfl) rfl ?_ | refine U0 _ (U3 tok rfl rfl rfl rfl rfl) rfl ?_ | refine z3 tok rfl ?_ | refine U0 _ (U4 rfl rfl) rfl ?_ | refine U0 _ (U5 rfl rfl) rfl ?_) | (refine M1 ?_; first | refine J0 ?_ | refine J1 ?_ | refine J2 mixed rfl (by kernel_rfl) ?_ | refine J3 mixed rfl rfl (by kernel_rfl) ?_ | refine J4 ?_ | refine J5 ?_ | refine J6 ?_ | refine J7 ?_ | refine J8 rfl ?_ | refine J9 rfl ?_) | (refine M2 ?_; first | refine I0 ?_ | refine I1 ?_ | refine I2 ?_ | refine I3 ?_ | refine I4 ?_ | refine I5 ?_ | refine I6 rfl ?_ | refine I7 ?_ | refine I8 ?_ | refine z4 ?_) | (refine M3 ?_; first | refine O6 ?_ | refine z2 tok rfl ?_ | refine O8 rfl ?_ | refine O7 rfl ?_ rfl | refine O9 rfl ?_ rfl | refine U1 _ (U4 rfl rfl) rfl ?_ | refine U1 _ (U5 rfl rfl) rfl ?_ | refine U1 _ (U2 rfl) rfl ?_ | refine U1 _ (U3 tok rfl rfl rfl rfl rfl) rfl ?_) | (refine M4 ?_; first | refine M6 ?_ | refine U6 rfl (by kernel_rfl) ?_ | refine XR.take2 rfl (by kernel_rfl) ?_ | refine U7 (by kernel_rfl) ?_) | (refine M5 ?_; first | exact M7 | refine U8 rfl ?_ | refine U9 rfl rfl ?_ ?_))
  refine XE.retg tok Tryd.results83 rfl (by simp only [and_self, and_true]) (fun w' S => ?_)
  refine ⟨?_, S.toBelow⟩
  have e9 : someE a n = if outB (a + n - 1) 0 200000 = true then 7 else 0 := by
    unfold someE
    rw [if_neg (by simp [h0]), if_neg (of_decide_eq_false h1), if_neg (by simp [h2])]
  rw [e9, show ([a + n - 1].any fun n => outB n 0 200000) = outB (a + n - 1) 0 200000 by simp]
  rfl
theorem tdfloor_any {a b : Int} (hb : 1 ≤ b) (ha : -9223372036854775807 ≤ a ∧ a ≤ 9223372036854775807) (w : World) :
    Calls Tryd.prog 128 #[.int .i64 a, .int .i64 b] w fun e w' => e = .returned (.int .i64 (a / b)) ∧ Below w.heap.size w w' := by
  have h1 := tdiv_bd (a := a) hb
  have h2 := tdiv_mul (a := a) hb
  have h3 := floor_bd (a := a) hb
  have h4 := floor_eq (a := a) hb
  have h8 := Int.mul_tdiv_add_tmod a b
  rw [Int.mul_comm] at h8
  have h5 : i64in a := by unfold i64in; omega
  refine enter Tryd.func128 rfl Tryd.ntmps128 rfl ?_; simp only [frame, Nat.zero_add, Nat.reduceAdd]
  repeat (first | (refine M0 ?_; first | refine O0 ?_ | refine z1 tok rfl ?_ | refine O1 rfl ?_ rfl | refine O2 rfl ?_ | refine O3 rfl ?_ rfl | refine U0 _ (Ev.rem rfl rfl (by omega)) rfl ?_ | refine O4 rfl rfl rfl (fun _ _ => ?_) | refine O5 tok rfl rfl rfl (fun _ _ => ?_) | refine U0 _ (U2 rfl) rfl ?_ | refine U0 _ (U3 tok rfl rfl rfl rfl rfl) rfl ?_ | refine z3 tok rfl ?_ | refine U0 _ (U4 rfl rfl) rfl ?_ | refine U0 _ (U5 rfl rfl) rfl ?_) | (refine M1 ?_; first | refine J0 ?_ | refine J1 ?_ | refine J2 mixed rfl (by kernel_rfl) ?_ | refine J3 mixed rfl rfl (by kernel_rfl) ?_ | refine J4 ?_ | refine J5 ?_ | refine J6 ?_ | refine J7 ?_ | refine J8 rfl ?_ | refine J9 rfl ?_) | (refine M2 ?_; first | refine I0 ?_ | refine I1 ?_ | refine I2 ?_ | refine I3 ?_ | refine I4 ?_ | refine I5 ?_ | refine I6 rfl ?_ | refine I7 ?_ | refine I8 ?_ | refine z4 ?_) | (refine M3 ?_; first | refine O6 ?_ | refine z2 tok rfl ?_ | refine O8 rfl ?_ | refine O7 rfl ?_ rfl | refine O9 rfl ?_ rfl | refine U1 _ (Ev.rem rfl rfl (by omega)) rfl ?_ | refine U1 _ (U4 rfl rfl) rfl ?_ | refine U1 _ (U5 rfl rfl) rfl ?_ | refine U1 _ (U2 rfl) rfl ?_ | refine U1 _ (U3 tok rfl rfl rfl rfl rfl) rfl ?_) | (refine M4 ?_; first | refine M6 ?_ | refine U6 rfl (by kernel_rfl) ?_ | refine XR.take2 rfl (by kernel_rfl) ?_ | refine U7 (by kernel_rfl) ?_) | (refine M5 ?_; first | exact M7 | refine U8 rfl ?_ | refine U9 rfl rfl ?_ ?_))
  refine XC.cond _ rfl (fun h => ?_) (fun h => ?_)
  · have h9 : a < a.tdiv b * b := by have := of_decide_eq_true h; omega
    rw [if_pos h9] at h4
    have h7 : i64in (a.tdiv b - 1) := by unfold i64in; omega
    repeat (first | (refine M0 ?_; first | refine O0 ?_ | refine z1 tok rfl ?_ | refine O1 rfl ?_ rfl | refine O2 rfl ?_ | refine O3 rfl ?_ rfl | refine O4 rfl rfl rfl (fun _ _ => ?_) | refine O5 tok rfl rfl rfl (fun _ _ => ?_) | refine U0 _ (U2 rfl) rfl ?_ | refine U0 _ (U3 tok rfl rfl rfl rfl rfl) rfl ?_ | refine z3 tok rfl ?_ | refine U0 _ (U4 rfl rfl) rfl ?_ | refine U0 _ (U5 rfl rfl) rfl ?_) | (refine M1 ?_; first | refine J0 ?_ | refine J1 ?_ | refine J2 mixed rfl (by kernel_rfl) ?_ | refine J3 mixed rfl rfl (by kernel_rfl) ?_ | refine J4 ?_ | refine J5 ?_ | refine J6 ?_ | refine J7 ?_ | refine J8 rfl ?_ | refine J9 rfl ?_) | (refine M2 ?_; first | refine I0 ?_ | refine I1 ?_ | refine I2 ?_ | refine I3 ?_ | refine I4 ?_ | refine I5 ?_ | refine I6 rfl ?_ | refine I7 ?_ | refine I8 ?_ | refine z4 ?_) | (refine M3 ?_; first | refine O6 ?_ | refine z2 tok rfl ?_ | refine O8 rfl ?_ | refine O7 rfl ?_ rfl | refine O9 rfl ?_ rfl | refine U1 _ (U4 rfl rfl) rfl ?_ | refine U1 _ (U5 rfl rfl) rfl ?_ | refine U1 _ (U2 rfl) rfl ?_ | refine U1 _ (U3 tok rfl rfl rfl rfl rfl) rfl ?_) | (refine M4 ?_; first | refine M6 ?_ | refine U6 rfl (by kernel_rfl) ?_ | refine XR.take2 rfl (by kernel_rfl) ?_ | refine U7 (by kernel_rfl) ?_) | (refine M5 ?_; first | exact M7 | refine U8 rfl ?_ | refine U9 rfl rfl ?_ ?_))
    refine XE.retg tok Tryd.results128 rfl (by simp only [and_self, and_true]) (fun w' S => ?_)
    exact ⟨by rw [h4]; rfl, S.toBelow⟩
  · have h9 : ¬ a < a.tdiv b * b := by have := of_decide_eq_false h; omega
    rw [if_neg h9] at h4
    repeat (first | (refine M0 ?_; first | refine O0 ?_ | refine z1 tok rfl ?_ | refine O1 rfl ?_ rfl | refine O2 rfl ?_ | refine O3 rfl ?_ rfl | refine O4 rfl rfl rfl (fun _ _ => ?_) | refine O5 tok rfl rfl rfl (fun _ _ => ?_) | refine U0 _ (U2 rfl) rfl ?_ | refine U0 _ (U3 tok rfl rfl rfl rfl rfl) rfl ?_ | refine z3 tok rfl ?_ | refine U0 _ (U4 rfl rfl) rfl ?_ | refine U0 _ (U5 rfl rfl) rfl ?_) | (refine M1 ?_; first | refine J0 ?_ | refine J1 ?_ | refine J2 mixed rfl (by kernel_rfl) ?_ | refine J3 mixed rfl rfl (by kernel_rfl) ?_ | refine J4 ?_ | refine J5 ?_ | refine J6 ?_ | refine J7 ?_ | refine J8 rfl ?_ | refine J9 rfl ?_) | (refine M2 ?_; first | refine I0 ?_ | refine I1 ?_ | refine I2 ?_ | refine I3 ?_ | refine I4 ?_ | refine I5 ?_ | refine I6 rfl ?_ | refine I7 ?_ | refine I8 ?_ | refine z4 ?_) | (refine M3 ?_; first | refine O6 ?_ | refine z2 tok rfl ?_ | refine O8 rfl ?_ | refine O7 rfl ?_ rfl | refine O9 rfl ?_ rfl | refine U1 _ (U4 rfl rfl) rfl ?_ | refine U1 _ (U5 rfl rfl) rfl ?_ | refine U1 _ (U2 rfl) rfl ?_ | refine U1 _ (U3 tok rfl rfl rfl rfl rfl) rfl ?_) | (refine M4 ?_; first | refine M6 ?_ | refine U6 rfl (by kernel_rfl) ?_ | refine XR.take2 rfl (by kernel_rfl) ?_ | refine U7 (by kernel_rfl) ?_) | (refine M5 ?_; first | exact M7 | refine U8 rfl ?_ | refine U9 rfl rfl ?_ ?_))
    refine XE.retg tok Tryd.results128 rfl (by simp only [and_self, and_true]) (fun w' S => ?_)
    exact ⟨by rw [h4]; rfl, S.toBelow⟩
section
variable {α : Type} {C : α → List Value} {m : Nat} (hC : ∀ a, (C a).length = m)
include hC
theorem fget {l : List α} {k : Nat} {t : α} {j : Nat} (sp : List Value) (h : l[k]? = some t) (hj : j < m) : (l.flatMap C ++ sp)[k * m + j]? = (C t)[j]? := by
  have e := flat_at C m hC l k j t h hj
  have h1 := (List.getElem?_eq_some_iff.1 h).1
  have h2 : (k + 1) * m ≤ l.length * m := Nat.mul_le_mul_right m h1
  rw [← e, List.getElem?_append_left]
  rw [flat_len C m hC]
  rw [Nat.add_mul] at h2
  omega
theorem flt {l : List α} {k : Nat} {t : α} {j : Nat} (sp : List Value) (h : l[k]? = some t) (hj : j < m) : k * m + j < (l.flatMap C ++ sp).length := by
  have h1 := (List.getElem?_eq_some_iff.1 h).1
  have h2 : (k + 1) * m ≤ l.length * m := Nat.mul_le_mul_right m h1
  rw [List.length_append, flat_len C m hC]
  rw [Nat.add_mul] at h2
  omega
theorem fset {l : List α} : ∀ {k : Nat} {t t' : α} {j : Nat} {v : Value} (sp : List Value), l[k]? = some t → (C t).set j v = C t' → j < m → (l.flatMap C ++ sp).set (k * m + j) v = (l.set k t').flatMap C ++ sp := by
  induction l with
  | nil => intro k t t' j v sp h; cases h
  | cons a l ih =>
    intro k t t' j v sp h h1 h2
    cases k with
    | zero =>
      simp only [List.getElem?_cons_zero, Option.some.injEq] at h
      subst h
      rw [List.flatMap_cons, List.append_assoc, List.set_cons_zero, List.flatMap_cons, List.append_assoc, ← h1, Nat.zero_mul, Nat.zero_add]
      rw [List.set_append_left _ _ (by rw [hC]; exact h2)]
    | succ k =>
      simp only [List.getElem?_cons_succ] at h
      rw [List.flatMap_cons, List.append_assoc, List.set_cons_succ, List.flatMap_cons, List.append_assoc]
      rw [List.set_append_right _ _ (by rw [hC, Nat.add_mul]; omega)]
      congr 1
      rw [← ih sp h h1 h2]
      congr 1
      rw [hC, Nat.add_mul]; omega
end
/-- the levels a span is added to, in a row's block. -/
def spC (x : Int × Int) : List Value := [.int .i64 x.1, .int .i64 x.2]
theorem spC_len (x : Int × Int) : (spC x).length = 2 := rfl
set_option maxHeartbeats 4000000 in
theorem add_any {g k : Nat} {l : List (Int × Int)} {sp : List Value} {x y : Int × Int} {w : World} (h : w.heap[g]? = some (cel 164 (l.flatMap spC ++ sp))) (hk : l[k]? = some x) (h1 : i64in (x.1 + y.1)) (h2 : i64in (x.2 + y.2)) :
    Calls Tryd.prog 114 #[.pointer (some ((⟨g, 0, none⟩ : Addr).add (k * 2))), .agg ⟨[.int .i64 y.1, .int .i64 y.2]⟩] w fun e w' => e = .returned (.tuple ⟨[]⟩) ∧ Sys g w [(g, cel 164 ((l.set k (x.1 + y.1, x.2 + y.2)).flatMap spC ++ sp))] w' := by
  have hg0 : (l.flatMap spC ++ sp)[0 + k * 2 + 0]? = some (.int .i64 x.1) := by rw [Nat.zero_add, fget spC_len sp hk (by decide)]; rfl
  have hk1 : (l.set k (x.1 + y.1, x.2))[k]? = some (x.1 + y.1, x.2) := by rw [List.getElem?_set_self (List.getElem?_eq_some_iff.1 hk).1]
  have hg1 : ((l.set k (x.1 + y.1, x.2)).flatMap spC ++ sp)[k * 2 + 1]? = some (.int .i64 x.2) := by rw [fget spC_len sp hk1 (by decide)]; rfl
  refine enterL Tryd.func114 rfl Tryd.ntmps114 rfl (Sys.start1 (Nat.le_refl g) h) ?_; simp only [frame, Nat.zero_add, Nat.reduceAdd]
  simp only [add_off]
  repeat (first | (refine M0 ?_; first | refine O0 ?_ | refine z1 tok rfl ?_ | refine O1 rfl ?_ rfl | refine O2 rfl ?_ | refine O3 rfl ?_ rfl | refine O4 rfl rfl rfl (fun _ _ => ?_) | refine O5 tok rfl rfl rfl (fun _ _ => ?_) | refine U0 _ (U2 rfl) rfl ?_ | refine U0 _ (U3 tok rfl rfl rfl rfl rfl) rfl ?_ | refine z3 tok rfl ?_ | refine U0 _ (U4 rfl rfl) rfl ?_ | refine U0 _ (U5 rfl rfl) rfl ?_) | (refine M1 ?_; first | refine J0 ?_ | refine J1 ?_ | refine J4 ?_ | refine J5 ?_ | refine J6 ?_ | refine J7 ?_ | refine J8 rfl ?_ | refine J9 rfl ?_) | (refine M2 ?_; first | refine I0 ?_ | refine I1 ?_ | refine I2 ?_ | refine I3 ?_ | refine I4 ?_ | refine I5 ?_ | refine I6 rfl ?_ | refine I7 ?_ | refine I8 ?_ | refine z4 ?_) | (refine M3 ?_; first | refine O6 ?_ | refine z2 tok rfl ?_ | refine O8 rfl ?_ | refine O7 rfl ?_ rfl | refine O9 rfl ?_ rfl | refine U1 _ (U4 rfl rfl) rfl ?_ | refine U1 _ (U5 rfl rfl) rfl ?_ | refine U1 _ (U2 rfl) rfl ?_ | refine U1 _ (U3 tok rfl rfl rfl rfl rfl) rfl ?_) | (refine M4 ?_; first | refine M6 ?_ | refine U6 rfl (by kernel_rfl) ?_ | refine XR.take2 rfl (by kernel_rfl) ?_ | refine U7 (by kernel_rfl) ?_) | (refine M5 ?_; first | exact M7 | refine U8 rfl ?_ | refine U9 rfl rfl ?_ ?_))
  rename_i g3 hg3
  refine XC.drawT mixed rfl rfl (by kernel_rfl) ?_
  repeat (first | (refine M0 ?_; first | refine O0 ?_ | refine z1 tok rfl ?_ | refine O1 rfl ?_ rfl | refine O2 rfl ?_ | refine O3 rfl ?_ rfl | refine U0 _ (Ev.load_loc tok 1 (g := g) (o := 0 + k * 2 + 0) rfl rfl rfl hg0) rfl ?_ | refine O4 rfl rfl rfl (fun _ _ => ?_) | refine O5 tok rfl rfl rfl (fun _ _ => ?_) | refine U0 _ (U2 rfl) rfl ?_ | refine U0 _ (U3 tok rfl rfl rfl rfl rfl) rfl ?_ | refine z3 tok rfl ?_ | refine U0 _ (U4 rfl rfl) rfl ?_ | refine U0 _ (U5 rfl rfl) rfl ?_) | (refine M1 ?_; first | refine J0 ?_ | refine J1 ?_ | refine J4 ?_ | refine J5 ?_ | refine J6 ?_ | refine J7 ?_ | refine J8 rfl ?_ | refine J9 rfl ?_) | (refine M2 ?_; first | refine I0 ?_ | refine I1 ?_ | refine I2 ?_ | refine I3 ?_ | refine I4 ?_ | refine I5 ?_ | refine I6 rfl ?_ | refine I7 ?_ | refine I8 ?_ | refine z4 ?_) | (refine M3 ?_; first | refine O6 ?_ | refine z2 tok rfl ?_ | refine O8 rfl ?_ | refine O7 rfl ?_ rfl | refine O9 rfl ?_ rfl | refine U1 _ (Ev.load_loc tok 1 (g := g) (o := 0 + k * 2 + 0) rfl rfl rfl hg0) rfl ?_ | refine U1 _ (U4 rfl rfl) rfl ?_ | refine U1 _ (U5 rfl rfl) rfl ?_ | refine U1 _ (U2 rfl) rfl ?_ | refine U1 _ (U3 tok rfl rfl rfl rfl rfl) rfl ?_) | (refine M4 ?_; first | refine M6 ?_ | refine U6 rfl (by kernel_rfl) ?_ | refine XR.take2 rfl (by kernel_rfl) ?_ | refine U7 (by kernel_rfl) ?_) | (refine M5 ?_; first | exact M7 | refine U8 rfl ?_ | refine U9 rfl rfl ?_ ?_))
  refine XL.store_at tok 1 (g := g) (o := 0 + k * 2) (j := 0) (by rw [add_off]; rfl) rfl rfl rfl rfl (by rw [Nat.zero_add]; exact flt spC_len sp hk (by decide)) rfl ?_
  rw [Nat.zero_add, fset (t' := (x.1 + y.1, x.2)) spC_len sp hk rfl (by decide)]
  repeat (first | (refine M0 ?_; first | refine O0 ?_ | refine z1 tok rfl ?_ | refine O1 rfl ?_ rfl | refine O2 rfl ?_ | refine O3 rfl ?_ rfl | refine O4 rfl rfl rfl (fun _ _ => ?_) | refine O5 tok rfl rfl rfl (fun _ _ => ?_) | refine U0 _ (U2 rfl) rfl ?_ | refine U0 _ (U3 tok rfl rfl rfl rfl rfl) rfl ?_ | refine z3 tok rfl ?_ | refine U0 _ (U4 rfl rfl) rfl ?_ | refine U0 _ (U5 rfl rfl) rfl ?_) | (refine M1 ?_; first | refine J0 ?_ | refine J1 ?_ | refine J4 ?_ | refine J5 ?_ | refine J6 ?_ | refine J7 ?_ | refine J8 rfl ?_ | refine J9 rfl ?_) | (refine M2 ?_; first | refine I0 ?_ | refine I1 ?_ | refine I2 ?_ | refine I3 ?_ | refine I4 ?_ | refine I5 ?_ | refine I6 rfl ?_ | refine I7 ?_ | refine I8 ?_ | refine z4 ?_) | (refine M3 ?_; first | refine O6 ?_ | refine z2 tok rfl ?_ | refine O8 rfl ?_ | refine O7 rfl ?_ rfl | refine O9 rfl ?_ rfl | refine U1 _ (U4 rfl rfl) rfl ?_ | refine U1 _ (U5 rfl rfl) rfl ?_ | refine U1 _ (U2 rfl) rfl ?_ | refine U1 _ (U3 tok rfl rfl rfl rfl rfl) rfl ?_) | (refine M4 ?_; first | refine M6 ?_ | refine U6 rfl (by kernel_rfl) ?_ | refine XR.take2 rfl (by kernel_rfl) ?_ | refine U7 (by kernel_rfl) ?_) | (refine M5 ?_; first | exact M7 | refine U8 rfl ?_ | refine U9 rfl rfl ?_ ?_))
  refine XC.drawT mixed rfl rfl (by kernel_rfl) ?_
  repeat (first | (refine M0 ?_; first | refine O0 ?_ | refine z1 tok rfl ?_ | refine O1 rfl ?_ rfl | refine O2 rfl ?_ | refine O3 rfl ?_ rfl | refine U0 _ (Ev.load_loc tok 1 (g := g) (o := k * 2 + 1) rfl rfl rfl hg1) rfl ?_ | refine O4 rfl rfl rfl (fun _ _ => ?_) | refine O5 tok rfl rfl rfl (fun _ _ => ?_) | refine U0 _ (U2 rfl) rfl ?_ | refine U0 _ (U3 tok rfl rfl rfl rfl rfl) rfl ?_ | refine z3 tok rfl ?_ | refine U0 _ (U4 rfl rfl) rfl ?_ | refine U0 _ (U5 rfl rfl) rfl ?_) | (refine M1 ?_; first | refine J0 ?_ | refine J1 ?_ | refine J4 ?_ | refine J5 ?_ | refine J6 ?_ | refine J7 ?_ | refine J8 rfl ?_ | refine J9 rfl ?_) | (refine M2 ?_; first | refine I0 ?_ | refine I1 ?_ | refine I2 ?_ | refine I3 ?_ | refine I4 ?_ | refine I5 ?_ | refine I6 rfl ?_ | refine I7 ?_ | refine I8 ?_ | refine z4 ?_) | (refine M3 ?_; first | refine O6 ?_ | refine z2 tok rfl ?_ | refine O8 rfl ?_ | refine O7 rfl ?_ rfl | refine O9 rfl ?_ rfl | refine U1 _ (Ev.load_loc tok 1 (g := g) (o := k * 2 + 1) rfl rfl rfl hg1) rfl ?_ | refine U1 _ (U4 rfl rfl) rfl ?_ | refine U1 _ (U5 rfl rfl) rfl ?_ | refine U1 _ (U2 rfl) rfl ?_ | refine U1 _ (U3 tok rfl rfl rfl rfl rfl) rfl ?_) | (refine M4 ?_; first | refine M6 ?_ | refine U6 rfl (by kernel_rfl) ?_ | refine XR.take2 rfl (by kernel_rfl) ?_ | refine U7 (by kernel_rfl) ?_) | (refine M5 ?_; first | exact M7 | refine U8 rfl ?_ | refine U9 rfl rfl ?_ ?_))
  refine XL.store_at tok 1 (g := g) (o := k * 2) (j := 1) (by rw [add_off]; rfl) rfl rfl rfl rfl (flt spC_len sp hk1 (by decide)) rfl ?_
  rw [fset (t' := (x.1 + y.1, x.2 + y.2)) spC_len sp hk1 rfl (by decide), List.set_set]
  repeat (first | (refine M0 ?_; first | refine O0 ?_ | refine z1 tok rfl ?_ | refine O1 rfl ?_ rfl | refine O2 rfl ?_ | refine O3 rfl ?_ rfl | refine O4 rfl rfl rfl (fun _ _ => ?_) | refine O5 tok rfl rfl rfl (fun _ _ => ?_) | refine U0 _ (U2 rfl) rfl ?_ | refine U0 _ (U3 tok rfl rfl rfl rfl rfl) rfl ?_ | refine z3 tok rfl ?_ | refine U0 _ (U4 rfl rfl) rfl ?_ | refine U0 _ (U5 rfl rfl) rfl ?_) | (refine M1 ?_; first | refine J0 ?_ | refine J1 ?_ | refine J4 ?_ | refine J5 ?_ | refine J6 ?_ | refine J7 ?_ | refine J8 rfl ?_ | refine J9 rfl ?_) | (refine M2 ?_; first | refine I0 ?_ | refine I1 ?_ | refine I2 ?_ | refine I3 ?_ | refine I4 ?_ | refine I5 ?_ | refine I6 rfl ?_ | refine I7 ?_ | refine I8 ?_ | refine z4 ?_) | (refine M3 ?_; first | refine O6 ?_ | refine z2 tok rfl ?_ | refine O8 rfl ?_ | refine O7 rfl ?_ rfl | refine O9 rfl ?_ rfl | refine U1 _ (U4 rfl rfl) rfl ?_ | refine U1 _ (U5 rfl rfl) rfl ?_ | refine U1 _ (U2 rfl) rfl ?_ | refine U1 _ (U3 tok rfl rfl rfl rfl rfl) rfl ?_) | (refine M4 ?_; first | refine M6 ?_ | refine U6 rfl (by kernel_rfl) ?_ | refine XR.take2 rfl (by kernel_rfl) ?_ | refine U7 (by kernel_rfl) ?_) | (refine M5 ?_; first | exact M7 | refine U8 rfl ?_ | refine U9 rfl rfl ?_ ?_))
  refine XE.endg tok Tryd.results114 rfl trivial (fun w' S => ?_)
  exact ⟨rfl, S.pop hg3⟩
end Go.Proofs.YtoiepgcjinccpaaDoor.X
/-
  The walks of parts (tide) and of what it returns.
-/
namespace Go.Proofs.YtoiepgcjinccpaaDoor.Bs
def Con.cyc (c : Con) : Int := c.den * c.hs.length
def Con.at (c : Con) (i : Int) : Int := c.hs[i.toNat]?.getD 0
/-- the height, times Den, at a place; the span there; the next place. -/
def Con.hi (c : Con) (p : Int) : Int := c.at (p.tdiv c.den) * c.den + (c.at ((p.tdiv c.den + 1).tmod c.hs.length) - c.at (p.tdiv c.den)) * p.tmod c.den
def Con.span (c : Con) (p : Int) : Int × Int := (c.hi p / c.den - c.slack, -((-(c.hi p)) / c.den) + c.slack)
def Con.next (c : Con) (p : Int) : Int := (p + c.step).tmod c.cyc
def Con.start (c : Con) (t : Int) : Int := (IntKind.i64.wrap (c.off + IntKind.i64.wrap (c.step * t))).tmod c.cyc
section
variable {c : Con} (h : ConOk c)
include h
theorem cyc_bd : 2 ≤ c.cyc ∧ c.cyc ≤ 48000 := by
  unfold Con.cyc
  have h1 := h.hs
  have h2 := h.den
  have h3 := mul_bd (X := 1000) (Y := 48) (x := c.den) (y := (c.hs.length : Int)) (by omega) (by omega)
  have h4 : 1 * (c.hs.length : Int) ≤ c.den * c.hs.length := Int.mul_le_mul_of_nonneg_right h2.1 (by omega)
  omega
theorem place {p : Int} (hp : 0 ≤ p ∧ p < c.cyc) : (0 ≤ p.tdiv c.den ∧ p.tdiv c.den < c.hs.length) ∧ (0 ≤ p.tmod c.den ∧ p.tmod c.den < c.den) ∧ (0 ≤ (p.tdiv c.den + 1).tmod c.hs.length ∧ (p.tdiv c.den + 1).tmod c.hs.length < c.hs.length) := by
  have h2 := h.den
  have h1 := h.hs
  have a1 := Int.tdiv_nonneg hp.1 (show 0 ≤ c.den by omega)
  have a2 := Int.tmod_nonneg c.den hp.1
  have a3 := Int.tmod_lt_of_pos p (show 0 < c.den by omega)
  have a4 := Int.mul_tdiv_add_tmod p c.den
  have a5 : p.tdiv c.den < c.hs.length := by
    by_cases h5 : p.tdiv c.den < c.hs.length
    · exact h5
    · have := Int.mul_le_mul_of_nonneg_left (Int.not_lt.1 h5) (show 0 ≤ c.den by omega)
      have h6 := hp.2
      unfold Con.cyc at h6
      omega
  exact ⟨⟨a1, a5⟩, ⟨a2, a3⟩, Int.tmod_nonneg _ (by omega), Int.tmod_lt_of_pos _ (by omega)⟩
theorem at_bd {i : Int} (hi : 0 ≤ i ∧ i < c.hs.length) : -10000 ≤ c.at i ∧ c.at i ≤ 10000 := h.h i.toNat (by omega)
theorem hi_bd {p : Int} (hp : 0 ≤ p ∧ p < c.cyc) : -40000000 ≤ c.hi p ∧ c.hi p ≤ 40000000 := by
  obtain ⟨h1, h2, h3⟩ := place h hp
  have b1 := at_bd h h1
  have b2 := at_bd h h3
  have hd := h.den
  have m1 := mul_bd (X := 10000) (Y := 1000) (x := c.at (p.tdiv c.den)) (y := c.den) (by omega) (by omega)
  have m2 := mul_bd (X := 20000) (Y := 1000) (x := c.at ((p.tdiv c.den + 1).tmod c.hs.length) - c.at (p.tdiv c.den)) (y := p.tmod c.den) (by omega) (by omega)
  unfold Con.hi
  omega
theorem span_ok {p : Int} (hp : 0 ≤ p ∧ p < c.cyc) : (c.span p).1 ≤ (c.span p).2 ∧ -50000000 ≤ (c.span p).1 ∧ (c.span p).2 ≤ 50000000 := by
  have h1 := hi_bd h hp
  have hd := h.den
  have hs := h.slack
  have f1 := floor_bd (a := c.hi p) hd.1
  have f2 := floor_bd (a := -(c.hi p)) hd.1
  have f3 : c.hi p / c.den * c.den ≤ c.hi p := Int.ediv_mul_le _ (by omega)
  have f4 : -(c.hi p) / c.den * c.den ≤ -(c.hi p) := Int.ediv_mul_le _ (by omega)
  have f5 : c.hi p / c.den ≤ -((-(c.hi p)) / c.den) := by
    by_cases h5 : -((-(c.hi p)) / c.den) < c.hi p / c.den
    · have h6 : 1 * c.den ≤ (c.hi p / c.den + (-(c.hi p)) / c.den) * c.den := Int.mul_le_mul_of_nonneg_right (by omega) (by omega)
      rw [Int.add_mul] at h6
      omega
    · exact Int.not_lt.1 h5
  unfold Con.span
  simp only
  omega
theorem next_ok {p : Int} (hp : 0 ≤ p ∧ p < c.cyc) : 0 ≤ c.next p ∧ c.next p < c.cyc := by
  have := cyc_bd h
  have := h.step
  exact ⟨Int.tmod_nonneg _ (by omega), Int.tmod_lt_of_pos _ (by omega)⟩
theorem start_ok {t : Int} (ht : 0 ≤ t ∧ t ≤ 200000) : 0 ≤ c.start t ∧ c.start t < c.cyc := by
  have hcy := cyc_bd h
  have h1 := h.step
  have h2 := h.off
  have : 0 ≤ c.step * t := Int.mul_nonneg (by omega) ht.1
  have m1 := mul_bd (X := 100000) (Y := 200000) (x := c.step) (y := t) (by omega) (by omega)
  have e : c.start t = (c.off + c.step * t).tmod c.cyc := by
    unfold Con.start
    rw [X.wrap_in (x := c.step * t) (by unfold X.i64in; omega), X.wrap_in (by unfold Con.cyc at hcy; unfold X.i64in; omega)]
  rw [e]
  exact ⟨Int.tmod_nonneg _ (by omega), Int.tmod_lt_of_pos _ (by omega)⟩
end
end Go.Proofs.YtoiepgcjinccpaaDoor.Bs
namespace Go.Proofs.YtoiepgcjinccpaaDoor.X
open Go Go.RowKit Go.Proofs.YtoiepgcjinccpaaDoor.Bs
set_option linter.unusedVariables false
/-- the two boxes of parts. -/
structure PtAt (w : World) (ok : Nat → Prop) (gp gc : Nat) (q : SV) (c : Con) (pp : Int) : Prop where
  kp : ok gp
  kc : ok gc
  lt : gc < gp
  hp : w.heap[gp]? = some (cel 3 [.int .i64 pp])
  hc : w.heap[gc]? = some (cel 159 (conC q c))
theorem PtAt.keep {w w' : World} {ok : Nat → Prop} {gp gc : Nat} {q : SV} {c : Con} {pp : Int} (h : PtAt w ok gp gc q c pp) (hk : ∀ k, ok k → w'.heap[k]? = w.heap[k]?) : PtAt w' ok gp gc q c pp := ⟨h.kp, h.kc, h.lt, (hk _ h.kp).trans h.hp, (hk _ h.kc).trans h.hc⟩
theorem PtAt.mono {w : World} {ok ok' : Nat → Prop} {gp gc : Nat} {q : SV} {c : Con} {pp : Int} (h : PtAt w ok gp gc q c pp) (hk : ∀ k, ok k → ok' k) : PtAt w ok' gp gc q c pp := ⟨hk _ h.kp, hk _ h.kc, h.lt, h.hp, h.hc⟩
def hPt (gp gc : Nat) (q : SV) (c : Con) (pp : Int) : Held := ⟨fun w ok => PtAt w ok gp gc q c pp, PtAt.keep, PtAt.mono⟩
def PartsV (q : SV) (c : Con) (pp : Int) (v : Value) (new : List Held) : Prop := ∃ gp gc : Nat, v = .func (.func 127) #[] #[.pointer (some ⟨gp, 0, none⟩), .pointer (some ⟨gc, 0, none⟩)] ∧ new = [hPt gp gc q c pp]
set_option maxHeartbeats 8000000 in
theorem parts1_any {gp gc : Nat} {q : SV} {c : Con} {pp : Int} {w : World} (hP : PtAt w (Lt w.heap.size) gp gc q c pp) (hq : IntsAt w (Lt gp) q c.hs) (ho : ConOk c) (hpp : 0 ≤ pp ∧ pp < c.cyc) :
    Calls Tryd.prog 127 #[.pointer (some ⟨gp, 0, none⟩), .pointer (some ⟨gc, 0, none⟩)] w fun e w' => e = .returned (.agg ⟨spC (c.span pp)⟩) ∧ Sys gp w [(gp, cel 3 [.int .i64 (c.next pp)])] w' := by
  obtain ⟨kp, kc, hlt, hp, hc⟩ := hP
  obtain ⟨A, n, cc⟩ := q
  have hqn := hq.len
  simp only at hqn
  subst hqn
  obtain ⟨p1, p2, p3⟩ := place ho hpp
  have hh := ho.hs
  have hd := ho.den
  obtain ⟨ad, rfl, hla, hcells⟩ := hq.at_ (by omega)
  have c0 : ∀ j u, (conC ⟨some ad, c.hs.length, cc⟩ c)[j]? = some u → w.cell? ((⟨gc, 0, none⟩ : Addr).add j) = some u := fun j u hj => by rw [add_off]; simp [World.cell?, hc, hj]
  have c1 := c0 1 _ rfl
  have c3 := c0 3 _ rfl
  have c4 := c0 4 _ rfl
  have c5 := c0 5 _ rfl
  refine enterL Tryd.func127 rfl Tryd.ntmps127 rfl (Sys.start1 (Nat.le_refl gp) hp) ?_; simp only [frame, Nat.zero_add, Nat.reduceAdd]
  refine XC.hint 0 0 ?_
  have hcy := cyc_bd ho
  have hin : i64in pp := by unfold i64in; omega
  have hd0 : c.den ≠ 0 := by omega
  have hl0 : (c.hs.length : Int) ≠ 0 := by omega
  have ha1 := at_bd ho p1
  have ha2 := at_bd ho p3
  obtain ⟨H1, hH1⟩ : ∃ H1, H1 = c.at (pp.tdiv c.den) := ⟨_, rfl⟩
  obtain ⟨H2, hH2⟩ : ∃ H2, H2 = c.at ((pp.tdiv c.den + 1).tmod c.hs.length) := ⟨_, rfl⟩
  have hhi : c.hi pp = H1 * c.den + (H2 - H1) * pp.tmod c.den := by unfold Con.hi; rw [← hH1, ← hH2]
  have hhb := hi_bd ho hpp
  rw [← hH1] at ha1
  rw [← hH2] at ha2
  have m1 := mul_bd (X := 10000) (Y := 1000) (x := H1) (y := c.den) (by omega) (by omega)
  have m2 := mul_bd (X := 20000) (Y := 1000) (x := H2 - H1) (y := pp.tmod c.den) (by omega) (by omega)
  have i1 : i64in (H1 * c.den) := by unfold i64in; omega
  have i2 : i64in ((H2 - H1) * pp.tmod c.den) := by unfold i64in; omega
  have i3 : i64in (H2 - H1) := by unfold i64in; omega
  have i4 : i64in (H1 * c.den + (H2 - H1) * pp.tmod c.den) := by rw [← hhi]; unfold i64in; omega
  have hi1 := hcells (pp.tdiv c.den).toNat (by omega)
  have hi2 := hcells ((pp.tdiv c.den + 1).tmod c.hs.length).toNat (by omega)
  rw [show at0 c.hs (pp.tdiv c.den).toNat = H1 from hH1.symm] at hi1
  rw [show at0 c.hs ((pp.tdiv c.den + 1).tmod c.hs.length).toNat = H2 from hH2.symm] at hi2
  refine XC.seq (XC.region ?_)
  repeat (first | (refine M0 ?_; first | refine O0 ?_ | refine z1 tok rfl ?_ | refine O1 rfl ?_ rfl | refine O2 rfl ?_ | refine O3 rfl ?_ rfl | refine O4 rfl rfl rfl (fun _ _ => ?_) | refine O5 tok rfl rfl rfl (fun _ _ => ?_) | refine U0 _ (U2 rfl) rfl ?_ | refine U0 _ (U3 tok rfl rfl rfl rfl rfl) rfl ?_ | refine z3 tok rfl ?_ | refine U0 _ (U4 rfl rfl) rfl ?_ | refine U0 _ (U5 rfl rfl) rfl ?_) | (refine M2 ?_; first | refine I0 ?_ | refine I1 ?_ | refine I2 ?_ | refine I3 ?_ | refine I4 ?_ | refine I5 ?_ | refine I6 rfl ?_ | refine I7 ?_ | refine I8 ?_ | refine z4 ?_) | (refine M3 ?_; first | refine O6 ?_ | refine z2 tok rfl ?_ | refine O8 rfl ?_ | refine O7 rfl ?_ rfl | refine O9 rfl ?_ rfl | refine U1 _ (U4 rfl rfl) rfl ?_ | refine U1 _ (U5 rfl rfl) rfl ?_ | refine U1 _ (U2 rfl) rfl ?_ | refine U1 _ (U3 tok rfl rfl rfl rfl rfl) rfl ?_) | (refine M4 ?_; first | refine M6 ?_ | refine U6 rfl (by kernel_rfl) ?_ | refine U7 (by kernel_rfl) ?_) | (refine M5 ?_; first | exact M7 | refine U8 rfl ?_ | refine U9 rfl rfl ?_ ?_))
  refine XC.seq (XC.draw mixed rfl (by kernel_rfl) ?_)
  repeat (first | (refine M0 ?_; first | refine O0 ?_ | refine z1 tok rfl ?_ | refine O1 rfl ?_ rfl | refine O2 rfl ?_ | refine O3 rfl ?_ rfl | refine U0 _ (Ev.rem rfl rfl hd0) rfl ?_ | refine U0 _ (Ev.rem rfl rfl hl0) rfl ?_ | refine U0 _ (Ev.quo rfl rfl hd.1 hin) rfl ?_ | refine U0 _ (Ev.load_old tok rfl rfl hlt c4) rfl ?_ | refine U0 _ (Ev.load_old tok rfl rfl hlt c1) rfl ?_ | refine U0 _ (Ev.load_old tok rfl rfl (add_lt hla) hi1) rfl ?_ | refine U0 _ (Ev.load_old tok rfl rfl (add_lt hla) hi2) rfl ?_ | refine O4 rfl rfl rfl (fun _ _ => ?_) | refine O5 tok rfl rfl rfl (fun _ _ => ?_) | refine U0 _ (U2 rfl) rfl ?_ | refine U0 _ (U3 tok rfl rfl rfl rfl rfl) rfl ?_ | refine z3 tok rfl ?_ | refine U0 _ (U4 rfl rfl) rfl ?_ | refine U0 _ (U5 rfl rfl) rfl ?_) | (refine M2 ?_; first | refine I0 ?_ | refine I1 ?_ | refine I2 ?_ | refine I3 ?_ | refine I4 ?_ | refine I5 ?_ | refine I6 rfl ?_ | refine I7 ?_ | refine I8 ?_ | refine z4 ?_) | (refine M3 ?_; first | refine O6 ?_ | refine z2 tok rfl ?_ | refine O8 rfl ?_ | refine O7 rfl ?_ rfl | refine O9 rfl ?_ rfl | refine U1 _ (Ev.rem rfl rfl hd0) rfl ?_ | refine U1 _ (Ev.rem rfl rfl hl0) rfl ?_ | refine U1 _ (Ev.quo rfl rfl hd.1 hin) rfl ?_ | refine U1 _ (Ev.load_old tok rfl rfl hlt c4) rfl ?_ | refine U1 _ (Ev.load_old tok rfl rfl hlt c1) rfl ?_ | refine U1 _ (Ev.load_old tok rfl rfl (add_lt hla) hi1) rfl ?_ | refine U1 _ (Ev.load_old tok rfl rfl (add_lt hla) hi2) rfl ?_ | refine U1 _ (U4 rfl rfl) rfl ?_ | refine U1 _ (U5 rfl rfl) rfl ?_ | refine U1 _ (U2 rfl) rfl ?_ | refine U1 _ (U3 tok rfl rfl rfl rfl rfl) rfl ?_) | (refine M4 ?_; first | refine M6 ?_ | refine U6 rfl (by kernel_rfl) ?_ | refine U7 (by kernel_rfl) ?_) | (refine M5 ?_; first | exact M7 | refine U8 rfl ?_ | refine U9 rfl rfl ?_ ?_))
  refine XC.seq (XC.draw mixed rfl (by kernel_rfl) ?_)
  repeat (first | (refine M0 ?_; first | refine O0 ?_ | refine z1 tok rfl ?_ | refine O1 rfl ?_ rfl | refine O2 rfl ?_ | refine O3 rfl ?_ rfl | refine U0 _ (Ev.rem rfl rfl hd0) rfl ?_ | refine U0 _ (Ev.rem rfl rfl hl0) rfl ?_ | refine U0 _ (Ev.quo rfl rfl hd.1 hin) rfl ?_ | refine U0 _ (Ev.load_old tok rfl rfl hlt c4) rfl ?_ | refine U0 _ (Ev.load_old tok rfl rfl hlt c1) rfl ?_ | refine U0 _ (Ev.load_old tok rfl rfl (add_lt hla) hi1) rfl ?_ | refine U0 _ (Ev.load_old tok rfl rfl (add_lt hla) hi2) rfl ?_ | refine O4 rfl rfl rfl (fun _ _ => ?_) | refine O5 tok rfl rfl rfl (fun _ _ => ?_) | refine U0 _ (U2 rfl) rfl ?_ | refine U0 _ (U3 tok rfl rfl rfl rfl rfl) rfl ?_ | refine z3 tok rfl ?_ | refine U0 _ (U4 rfl rfl) rfl ?_ | refine U0 _ (U5 rfl rfl) rfl ?_) | (refine M2 ?_; first | refine I0 ?_ | refine I1 ?_ | refine I2 ?_ | refine I3 ?_ | refine I4 ?_ | refine I5 ?_ | refine I6 rfl ?_ | refine I7 ?_ | refine I8 ?_ | refine z4 ?_) | (refine M3 ?_; first | refine O6 ?_ | refine z2 tok rfl ?_ | refine O8 rfl ?_ | refine O7 rfl ?_ rfl | refine O9 rfl ?_ rfl | refine U1 _ (Ev.rem rfl rfl hd0) rfl ?_ | refine U1 _ (Ev.rem rfl rfl hl0) rfl ?_ | refine U1 _ (Ev.quo rfl rfl hd.1 hin) rfl ?_ | refine U1 _ (Ev.load_old tok rfl rfl hlt c4) rfl ?_ | refine U1 _ (Ev.load_old tok rfl rfl hlt c1) rfl ?_ | refine U1 _ (Ev.load_old tok rfl rfl (add_lt hla) hi1) rfl ?_ | refine U1 _ (Ev.load_old tok rfl rfl (add_lt hla) hi2) rfl ?_ | refine U1 _ (U4 rfl rfl) rfl ?_ | refine U1 _ (U5 rfl rfl) rfl ?_ | refine U1 _ (U2 rfl) rfl ?_ | refine U1 _ (U3 tok rfl rfl rfl rfl rfl) rfl ?_) | (refine M4 ?_; first | refine M6 ?_ | refine U6 rfl (by kernel_rfl) ?_ | refine U7 (by kernel_rfl) ?_) | (refine M5 ?_; first | exact M7 | refine U8 rfl ?_ | refine U9 rfl rfl ?_ ?_))
  refine XC.seq (XC.draw mixed rfl (by kernel_rfl) ?_)
  repeat (first | (refine M0 ?_; first | refine O0 ?_ | refine z1 tok rfl ?_ | refine O1 rfl ?_ rfl | refine O2 rfl ?_ | refine O3 rfl ?_ rfl | refine U0 _ (Ev.rem rfl rfl hd0) rfl ?_ | refine U0 _ (Ev.rem rfl rfl hl0) rfl ?_ | refine U0 _ (Ev.quo rfl rfl hd.1 hin) rfl ?_ | refine U0 _ (Ev.load_old tok rfl rfl hlt c4) rfl ?_ | refine U0 _ (Ev.load_old tok rfl rfl hlt c1) rfl ?_ | refine U0 _ (Ev.load_old tok rfl rfl (add_lt hla) hi1) rfl ?_ | refine U0 _ (Ev.load_old tok rfl rfl (add_lt hla) hi2) rfl ?_ | refine O4 rfl rfl rfl (fun _ _ => ?_) | refine O5 tok rfl rfl rfl (fun _ _ => ?_) | refine U0 _ (U2 rfl) rfl ?_ | refine U0 _ (U3 tok rfl rfl rfl rfl rfl) rfl ?_ | refine z3 tok rfl ?_ | refine U0 _ (U4 rfl rfl) rfl ?_ | refine U0 _ (U5 rfl rfl) rfl ?_) | (refine M2 ?_; first | refine I0 ?_ | refine I1 ?_ | refine I2 ?_ | refine I3 ?_ | refine I4 ?_ | refine I5 ?_ | refine I6 rfl ?_ | refine I7 ?_ | refine I8 ?_ | refine z4 ?_) | (refine M3 ?_; first | refine O6 ?_ | refine z2 tok rfl ?_ | refine O8 rfl ?_ | refine O7 rfl ?_ rfl | refine O9 rfl ?_ rfl | refine U1 _ (Ev.rem rfl rfl hd0) rfl ?_ | refine U1 _ (Ev.rem rfl rfl hl0) rfl ?_ | refine U1 _ (Ev.quo rfl rfl hd.1 hin) rfl ?_ | refine U1 _ (Ev.load_old tok rfl rfl hlt c4) rfl ?_ | refine U1 _ (Ev.load_old tok rfl rfl hlt c1) rfl ?_ | refine U1 _ (Ev.load_old tok rfl rfl (add_lt hla) hi1) rfl ?_ | refine U1 _ (Ev.load_old tok rfl rfl (add_lt hla) hi2) rfl ?_ | refine U1 _ (U4 rfl rfl) rfl ?_ | refine U1 _ (U5 rfl rfl) rfl ?_ | refine U1 _ (U2 rfl) rfl ?_ | refine U1 _ (U3 tok rfl rfl rfl rfl rfl) rfl ?_) | (refine M4 ?_; first | refine M6 ?_ | refine U6 rfl (by kernel_rfl) ?_ | refine U7 (by kernel_rfl) ?_) | (refine M5 ?_; first | exact M7 | refine U8 rfl ?_ | refine U9 rfl rfl ?_ ?_))
  rw [← hhi]
  have hst := ho.step
  have i5 : i64in (pp + c.step) := by unfold i64in; omega
  have hcy0 : c.den * (c.hs.length : Int) ≠ 0 := by have := hcy.1; unfold Con.cyc at this; omega
  refine XC.seq (XC.drawT mixed rfl rfl (by kernel_rfl) ?_)
  repeat (first | (refine M0 ?_; first | refine O0 ?_ | refine z1 tok rfl ?_ | refine O1 rfl ?_ rfl | refine O2 rfl ?_ | refine O3 rfl ?_ rfl | refine U0 _ (Ev.load_old tok rfl rfl hlt c3) rfl ?_ | refine U0 _ (Ev.load_old_agg tok (conC ⟨some ad, c.hs.length, cc⟩ c) rfl rfl rfl hlt c0) rfl ?_ | refine U0 _ (Ev.call (f := 112) (ck rfl) rfl (fun w5 S5 => cycle_any (q := ⟨some ad, c.hs.length, cc⟩) (c := c) rfl hh.2 hd)) rfl ?_ | refine U0 _ (Ev.rem rfl rfl hcy0) rfl ?_ | refine O4 rfl rfl rfl (fun _ _ => ?_) | refine O5 tok rfl rfl rfl (fun _ _ => ?_) | refine U0 _ (U2 rfl) rfl ?_ | refine U0 _ (U3 tok rfl rfl rfl rfl rfl) rfl ?_ | refine z3 tok rfl ?_ | refine U0 _ (U4 rfl rfl) rfl ?_ | refine U0 _ (U5 rfl rfl) rfl ?_) | (refine M2 ?_; first | refine I0 ?_ | refine I1 ?_ | refine I2 ?_ | refine I3 ?_ | refine I4 ?_ | refine I5 ?_ | refine I6 rfl ?_ | refine I7 ?_ | refine I8 ?_ | refine z4 ?_) | (refine M3 ?_; first | refine O6 ?_ | refine z2 tok rfl ?_ | refine O8 rfl ?_ | refine O7 rfl ?_ rfl | refine O9 rfl ?_ rfl | refine U1 _ (Ev.load_old tok rfl rfl hlt c3) rfl ?_ | refine U1 _ (Ev.load_old_agg tok (conC ⟨some ad, c.hs.length, cc⟩ c) rfl rfl rfl hlt c0) rfl ?_ | refine U1 _ (Ev.call (f := 112) (ck rfl) rfl (fun w5 S5 => cycle_any (q := ⟨some ad, c.hs.length, cc⟩) (c := c) rfl hh.2 hd)) rfl ?_ | refine U1 _ (Ev.rem rfl rfl hcy0) rfl ?_ | refine U1 _ (U4 rfl rfl) rfl ?_ | refine U1 _ (U5 rfl rfl) rfl ?_ | refine U1 _ (U2 rfl) rfl ?_ | refine U1 _ (U3 tok rfl rfl rfl rfl rfl) rfl ?_) | (refine M4 ?_; first | refine M6 ?_ | refine U6 rfl (by kernel_rfl) ?_ | refine U7 (by kernel_rfl) ?_) | (refine M5 ?_; first | exact M7 | refine U8 rfl ?_ | refine U9 rfl rfl ?_ ?_))
  have f1 := floor_bd (a := c.hi pp) hd.1
  have f2 := floor_bd (a := -(c.hi pp)) hd.1
  have hsl := ho.slack
  refine XC.seq (XC.drawT mixed rfl rfl (by kernel_rfl) ?_)
  repeat (first | (refine M0 ?_; first | refine O0 ?_ | refine z1 tok rfl ?_ | refine O1 rfl ?_ rfl | refine O2 rfl ?_ | refine O3 rfl ?_ rfl | refine U0 _ (Ev.load_old tok rfl rfl hlt c4) rfl ?_ | refine U0 _ (Ev.load_old tok rfl rfl hlt c5) rfl ?_ | refine U0 _ (Ev.call (f := 128) (vs := [.int .i64 (c.hi pp), .int .i64 c.den]) (ck rfl) rfl (fun w5 S5 => tdfloor_any hd.1 (by omega) w5)) rfl ?_ | refine U0 _ (Ev.call (f := 128) (vs := [.int .i64 (-(c.hi pp)), .int .i64 c.den]) (ck rfl) rfl (fun w5 S5 => tdfloor_any hd.1 (by omega) w5)) rfl ?_ | refine O4 rfl rfl rfl (fun _ _ => ?_) | refine O5 tok rfl rfl rfl (fun _ _ => ?_) | refine U0 _ (U2 rfl) rfl ?_ | refine U0 _ (U3 tok rfl rfl rfl rfl rfl) rfl ?_ | refine z3 tok rfl ?_ | refine U0 _ (U4 rfl rfl) rfl ?_ | refine U0 _ (U5 rfl rfl) rfl ?_) | (refine M2 ?_; first | refine I0 ?_ | refine I1 ?_ | refine I2 ?_ | refine I3 ?_ | refine I4 ?_ | refine I5 ?_ | refine I6 rfl ?_ | refine I7 ?_ | refine I8 ?_ | refine z4 ?_) | (refine M3 ?_; first | refine O6 ?_ | refine z2 tok rfl ?_ | refine O8 rfl ?_ | refine O7 rfl ?_ rfl | refine O9 rfl ?_ rfl | refine U1 _ (Ev.load_old tok rfl rfl hlt c4) rfl ?_ | refine U1 _ (Ev.load_old tok rfl rfl hlt c5) rfl ?_ | refine U1 _ (Ev.call (f := 128) (vs := [.int .i64 (c.hi pp), .int .i64 c.den]) (ck rfl) rfl (fun w5 S5 => tdfloor_any hd.1 (by omega) w5)) rfl ?_ | refine U1 _ (Ev.call (f := 128) (vs := [.int .i64 (-(c.hi pp)), .int .i64 c.den]) (ck rfl) rfl (fun w5 S5 => tdfloor_any hd.1 (by omega) w5)) rfl ?_ | refine U1 _ (U4 rfl rfl) rfl ?_ | refine U1 _ (U5 rfl rfl) rfl ?_ | refine U1 _ (U2 rfl) rfl ?_ | refine U1 _ (U3 tok rfl rfl rfl rfl rfl) rfl ?_) | (refine M4 ?_; first | refine M6 ?_ | refine U6 rfl (by kernel_rfl) ?_ | refine U7 (by kernel_rfl) ?_) | (refine M5 ?_; first | exact M7 | refine U8 rfl ?_ | refine U9 rfl rfl ?_ ?_))
  repeat (first | (refine M0 ?_; first | refine O0 ?_ | refine z1 tok rfl ?_ | refine O1 rfl ?_ rfl | refine O2 rfl ?_ | refine O3 rfl ?_ rfl | refine O4 rfl rfl rfl (fun _ _ => ?_) | refine O5 tok rfl rfl rfl (fun _ _ => ?_) | refine U0 _ (U2 rfl) rfl ?_ | refine U0 _ (U3 tok rfl rfl rfl rfl rfl) rfl ?_ | refine z3 tok rfl ?_ | refine U0 _ (U4 rfl rfl) rfl ?_ | refine U0 _ (U5 rfl rfl) rfl ?_) | (refine M1 ?_; first | refine J0 ?_ | refine J1 ?_ | refine J4 ?_ | refine J5 ?_ | refine J6 ?_ | refine J7 ?_ | refine J8 rfl ?_ | refine J9 rfl ?_) | (refine M2 ?_; first | refine I0 ?_ | refine I1 ?_ | refine I2 ?_ | refine I3 ?_ | refine I4 ?_ | refine I5 ?_ | refine I6 rfl ?_ | refine I7 ?_ | refine I8 ?_ | refine z4 ?_) | (refine M3 ?_; first | refine O6 ?_ | refine z2 tok rfl ?_ | refine O8 rfl ?_ | refine O7 rfl ?_ rfl | refine O9 rfl ?_ rfl | refine U1 _ (U4 rfl rfl) rfl ?_ | refine U1 _ (U5 rfl rfl) rfl ?_ | refine U1 _ (U2 rfl) rfl ?_ | refine U1 _ (U3 tok rfl rfl rfl rfl rfl) rfl ?_) | (refine M4 ?_; first | refine M6 ?_ | refine U6 rfl (by kernel_rfl) ?_ | refine U7 (by kernel_rfl) ?_) | (refine M5 ?_; first | exact M7 | refine U8 rfl ?_ | refine U9 rfl rfl ?_ ?_))
  rename_i g2 hg2
  refine XE.retg tok Tryd.results127 rfl (by simp only [and_self, and_true]) (fun w' S => ?_)
  exact ⟨rfl, S.pop hg2⟩
set_option maxHeartbeats 8000000 in
theorem parts_made {q : SV} {c : Con} {t : Int} {w : World} (hq : q.n = c.hs.length) (ho : ConOk c) :
    Calls Tryd.prog 115 #[.agg ⟨conC q c⟩, .int .i64 t] w (Made w (PartsV q c (c.start t))) := by
  have hst := ho.step
  have hof := ho.off
  have hd := ho.den
  have hh := ho.hs
  have hcy := cyc_bd ho
  have hcy0 : c.den * (c.hs.length : Int) ≠ 0 := by have := hcy.1; unfold Con.cyc at this; omega
  simp only [conC]
  refine enter Tryd.func115 rfl Tryd.ntmps115 rfl ?_; simp only [frame, Nat.zero_add, Nat.reduceAdd]
  repeat (first | (refine M0 ?_; first | refine O0 ?_ | refine z1 tok rfl ?_ | refine O1 rfl ?_ rfl | refine O2 rfl ?_ | refine O3 rfl ?_ rfl | refine O4 rfl rfl rfl (fun _ _ => ?_) | refine O5 tok rfl rfl rfl (fun _ _ => ?_) | refine U0 _ (U2 rfl) rfl ?_ | refine U0 _ (U3 tok rfl rfl rfl rfl rfl) rfl ?_ | refine z3 tok rfl ?_ | refine U0 _ (U4 rfl rfl) rfl ?_ | refine U0 _ (U5 rfl rfl) rfl ?_) | (refine M1 ?_; first | refine J0 ?_ | refine J1 ?_ | refine J4 ?_ | refine J5 ?_ | refine J6 ?_ | refine J7 ?_ | refine J8 rfl ?_ | refine J9 rfl ?_) | (refine M2 ?_; first | refine I0 ?_ | refine I1 ?_ | refine I2 ?_ | refine I3 ?_ | refine I4 ?_ | refine I5 ?_ | refine I6 rfl ?_ | refine I7 ?_ | refine I8 ?_ | refine z4 ?_) | (refine M3 ?_; first | refine O6 ?_ | refine z2 tok rfl ?_ | refine O8 rfl ?_ | refine O7 rfl ?_ rfl | refine O9 rfl ?_ rfl | refine U1 _ (U4 rfl rfl) rfl ?_ | refine U1 _ (U5 rfl rfl) rfl ?_ | refine U1 _ (U2 rfl) rfl ?_ | refine U1 _ (U3 tok rfl rfl rfl rfl rfl) rfl ?_) | (refine M4 ?_; first | refine M6 ?_ | refine U6 rfl (by kernel_rfl) ?_ | refine U7 (by kernel_rfl) ?_) | (refine M5 ?_; first | exact M7 | refine U8 rfl ?_ | refine U9 rfl rfl ?_ ?_))
  rename_i gc hgc
  refine XC.rebase (List.Sublist.refl _) (fun w1 S1 => ?_)
  have hgcl := S1.lt (e := (gc, _)) (.head _)
  have hs1 := S1.size
  refine XC.cutln [2] rfl (fun g : Nat => [(5, .pointer (some ⟨g, 0, none⟩))]) (fun g => [(g, cel 3 [.int .i64 (c.start t)])]) (fun g => w1.heap.size ≤ g) ?_ ?_
  · refine XC.drawR _ [0, 1, 2, 3, 4, 5, 6, 7] [8, 9, 10, 11] mixed (fun _ h => h) rfl (by kernel_rfl) ?_
    repeat (any_goals (first | (refine M0 ?_; first | refine O0 ?_ | refine z1 tok rfl ?_ | refine O1 rfl ?_ rfl | refine O2 rfl ?_ | refine O3 rfl ?_ rfl | refine U0 _ (Ev.rem rfl rfl hcy0) rfl ?_ | refine U0 _ (Ev.fieldAddr_loc tok rfl rfl rfl) rfl ?_ | refine U0 _ (Ev.load_loc tok 0 rfl rfl rfl rfl) rfl ?_ | refine U0 _ (Ev.move rfl) rfl ?_ | refine U0 _ (Ev.mul_w rfl rfl) rfl ?_ | refine U0 _ (Ev.add_w rfl rfl) rfl ?_ | refine U0 _ (Ev.call (f := 112) (ck rfl) rfl (fun w5 S5 => cycle_any (q := q) (c := c) hq hh.2 hd)) rfl ?_ | refine O4 rfl rfl rfl (fun _ _ => ?_) | refine O5 tok rfl rfl rfl (fun _ _ => ?_) | refine U0 _ (U2 rfl) rfl ?_ | refine U0 _ (U3 tok rfl rfl rfl rfl rfl) rfl ?_ | refine z3 tok rfl ?_ | refine U0 _ (U4 rfl rfl) rfl ?_ | refine U0 _ (U5 rfl rfl) rfl ?_) | (refine M1 ?_; first | refine J0 ?_ | refine J1 ?_ | refine J4 ?_ | refine J5 ?_ | refine J6 ?_ | refine J7 ?_ | refine J8 rfl ?_ | refine J9 rfl ?_) | (refine M2 ?_; first | refine I0 ?_ | refine I1 ?_ | refine I2 ?_ | refine I3 ?_ | refine I4 ?_ | refine I5 ?_ | refine I6 rfl ?_ | refine I7 ?_ | refine I8 ?_ | refine z4 ?_) | (refine M3 ?_; first | refine O6 ?_ | refine z2 tok rfl ?_ | refine O8 rfl ?_ | refine O7 rfl ?_ rfl | refine O9 rfl ?_ rfl | refine U1 _ (Ev.rem rfl rfl hcy0) rfl ?_ | refine U1 _ (Ev.fieldAddr_loc tok rfl rfl rfl) rfl ?_ | refine U1 _ (Ev.load_loc tok 0 rfl rfl rfl rfl) rfl ?_ | refine U1 _ (Ev.move rfl) rfl ?_ | refine U1 _ (Ev.mul_w rfl rfl) rfl ?_ | refine U1 _ (Ev.add_w rfl rfl) rfl ?_ | refine U1 _ (Ev.call (f := 112) (ck rfl) rfl (fun w5 S5 => cycle_any (q := q) (c := c) hq hh.2 hd)) rfl ?_ | refine U1 _ (U4 rfl rfl) rfl ?_ | refine U1 _ (U5 rfl rfl) rfl ?_ | refine U1 _ (U2 rfl) rfl ?_ | refine U1 _ (U3 tok rfl rfl rfl rfl rfl) rfl ?_) | (refine M4 ?_; first | refine M6 ?_ | refine U6 rfl (by kernel_rfl) ?_ | refine U7 (by kernel_rfl) ?_) | (refine M5 ?_; first | exact M7 | refine U8 rfl ?_ | refine U9 rfl rfl ?_ ?_)))
    any_goals (repeat (first | exact AnyR.nil | refine AnyR.skip rfl ?_))
    all_goals
      rw [show (IntKind.i64.wrap (c.off + IntKind.i64.wrap (c.step * t))).tmod (c.den * (c.hs.length : Int)) = c.start t from rfl]
      refine XE.leaf _ (by repeat (first | exact Sub.nil | refine Sub.cons rfl ?_)) (fun _ S' => by first | exact S' | exact S'.perm (by repeat (first | exact List.Perm.refl _ | refine perm1 ?_ | refine List.Perm.cons _ ?_ | refine perm2 ?_)) | exact (S'.pop (by assumption)) | exact (S'.pop2 (by assumption))) ?_
      assumption
  rintro gp hgp
  dsimp only [List.cons_append, List.nil_append]
  repeat (first | (refine M0 ?_; first | refine O0 ?_ | refine z1 tok rfl ?_ | refine O1 rfl ?_ rfl | refine O2 rfl ?_ | refine O3 rfl ?_ rfl | refine U0 _ (Ev.makeFunc rfl rfl) rfl ?_ | refine O4 rfl rfl rfl (fun _ _ => ?_) | refine O5 tok rfl rfl rfl (fun _ _ => ?_) | refine U0 _ (U2 rfl) rfl ?_ | refine U0 _ (U3 tok rfl rfl rfl rfl rfl) rfl ?_ | refine z3 tok rfl ?_ | refine U0 _ (U4 rfl rfl) rfl ?_ | refine U0 _ (U5 rfl rfl) rfl ?_) | (refine M1 ?_; first | refine J0 ?_ | refine J1 ?_ | refine J4 ?_ | refine J5 ?_ | refine J6 ?_ | refine J7 ?_ | refine J8 rfl ?_ | refine J9 rfl ?_) | (refine M2 ?_; first | refine I0 ?_ | refine I1 ?_ | refine I2 ?_ | refine I3 ?_ | refine I4 ?_ | refine I5 ?_ | refine I6 rfl ?_ | refine I7 ?_ | refine I8 ?_ | refine z4 ?_) | (refine M3 ?_; first | refine O6 ?_ | refine z2 tok rfl ?_ | refine O8 rfl ?_ | refine O7 rfl ?_ rfl | refine O9 rfl ?_ rfl | refine U1 _ (Ev.makeFunc rfl rfl) rfl ?_ | refine U1 _ (U4 rfl rfl) rfl ?_ | refine U1 _ (U5 rfl rfl) rfl ?_ | refine U1 _ (U2 rfl) rfl ?_ | refine U1 _ (U3 tok rfl rfl rfl rfl rfl) rfl ?_) | (refine M4 ?_; first | refine M6 ?_ | refine U6 rfl (by kernel_rfl) ?_ | refine U7 (by kernel_rfl) ?_) | (refine M5 ?_; first | exact M7 | refine U8 rfl ?_ | refine U9 rfl rfl ?_ ?_))
  refine XE.retg tok Tryd.results115 rfl (by simp only [and_self, and_true]) (fun w' S => ?_)
  refine ⟨_, _, rfl, ⟨gp, gc, rfl, rfl⟩, fun x hx => ?_, S1.toBelow.trans S.toBelow⟩
  rw [List.mem_singleton] at hx
  subst hx
  exact ⟨⟨Nat.le_trans hs1 hgp, S.keyLt _ (by simp)⟩, ⟨hgc, S.keyLt _ (by simp)⟩, Nat.lt_of_lt_of_le hgcl hgp, S.obj (i := 0) rfl, S.obj (i := 1) rfl⟩
end Go.Proofs.YtoiepgcjinccpaaDoor.X
/-
  The walks of first and of Check's rules (tide).
-/
namespace Go.Proofs.YtoiepgcjinccpaaDoor.X
open Go Go.RowKit Go.Proofs.YtoiepgcjinccpaaDoor.Bs
set_option linter.unusedVariables false
/-- a rule: its function, what that holds, its error, and whether it is broken. -/
structure RuleI where
  f : FuncId
  cap : List Value
  e : Int
  b : Bool
def RuleI.v (a : RuleI) : List Value := [.func (.func a.f) #[] a.cap.toArray, .int .i64 a.e]
def ruleK : Kind RuleI := ⟨157, 2, RuleI.v, fun _ => [], fun _ => rfl⟩
def firstE : List RuleI → Int
  | [] => 0
  | a :: r => if a.b = true then a.e else firstE r
def RuleOk (w : World) (a : RuleI) : Prop := callOk Tryd.prog a.f = true ∧ ∀ w', Below w.heap.size w w' → Calls Tryd.prog a.f ([] ++ [] ++ a.cap).toArray w' fun e w'' => e = .returned (.bool a.b) ∧ Below w'.heap.size w' w''
theorem firstE_0 : ∀ {rs : List RuleI}, (∀ a, a ∈ rs → a.e ≠ 0) → firstE rs = 0 → ∀ a, a ∈ rs → a.b = false := by
  intro rs
  induction rs with
  | nil => intro _ _ a ha; cases ha
  | cons x r ih =>
    intro he h0 a ha
    unfold firstE at h0
    split at h0
    · exact absurd h0 (he x (.head _))
    · rename_i h1
      rcases List.mem_cons.1 ha with rfl | ha
      · simpa using h1
      · exact ih (fun y hy => he y (.tail _ hy)) h0 a ha
set_option maxHeartbeats 4000000 in
theorem first_any {r : SV} {rs : List RuleI} {w : World} (hr : ListAt ruleK w (Lt w.heap.size) r rs) (hn : rs.length ≤ 1000)
    (hc : ∀ k, (h : k < rs.length) → (∀ j, (hj : j < k) → (rs[j]'(by omega)).b = false) → RuleOk w rs[k]) :
    Calls Tryd.prog 103 #[svV r] w fun e w' => e = .returned (.int .i64 (firstE rs)) ∧ Below w.heap.size w w' := by
  obtain ⟨A, n, c⟩ := r
  have hln := hr.len (by decide)
  simp only at hln
  subst hln
  simp only [svV]
  refine enter Tryd.func103 rfl Tryd.ntmps103 rfl ?_; simp only [frame, Nat.zero_add, Nat.reduceAdd]
  repeat (first | (refine M0 ?_; first | refine O0 ?_ | refine z1 tok rfl ?_ | refine O1 rfl ?_ rfl | refine O2 rfl ?_ | refine O3 rfl ?_ rfl | refine O4 rfl rfl rfl (fun _ _ => ?_) | refine O5 tok rfl rfl rfl (fun _ _ => ?_) | refine U0 _ (U2 rfl) rfl ?_ | refine U0 _ (U3 tok rfl rfl rfl rfl rfl) rfl ?_ | refine z3 tok rfl ?_ | refine U0 _ (U4 rfl rfl) rfl ?_ | refine U0 _ (U5 rfl rfl) rfl ?_) | (refine M1 ?_; first | refine J0 ?_ | refine J1 ?_ | refine J4 ?_ | refine J5 ?_ | refine J6 ?_ | refine J7 ?_ | refine J8 rfl ?_ | refine J9 rfl ?_) | (refine M2 ?_; first | refine I0 ?_ | refine I1 ?_ | refine I2 ?_ | refine I3 ?_ | refine I4 ?_ | refine I5 ?_ | refine I6 rfl ?_ | refine I7 ?_ | refine I8 ?_ | refine z4 ?_) | (refine M3 ?_; first | refine O6 ?_ | refine z2 tok rfl ?_ | refine O8 rfl ?_ | refine O7 rfl ?_ rfl | refine O9 rfl ?_ rfl | refine U1 _ (U4 rfl rfl) rfl ?_ | refine U1 _ (U5 rfl rfl) rfl ?_ | refine U1 _ (U2 rfl) rfl ?_ | refine U1 _ (U3 tok rfl rfl rfl rfl rfl) rfl ?_) | (refine M4 ?_; first | refine M6 ?_ | refine U6 rfl (by kernel_rfl) ?_ | refine U7 (by kernel_rfl) ?_) | (refine M5 ?_; first | exact M7 | refine U8 rfl ?_ | refine U9 rfl rfl ?_ ?_))
  refine XC.loopk [5, 6] rfl (fun k : Nat => [(7, .int .i64 (k : Nat))]) (fun _ => []) (fun _ => w) (fun k => k ≤ rs.length ∧ firstE (rs.drop k) = firstE rs ∧ ∀ j, (h : j < rs.length) → j < k → rs[j].b = false) (fun k => rs.length - k) 0 ⟨Nat.zero_le _, by simp, fun j h hj => absurd hj (by omega)⟩ (by repeat (first | exact Sub.nil | refine Sub.cons rfl ?_)) (fun _ h => h) ?_
  rintro k ⟨hk, hE, hb⟩
  dsimp only [List.cons_append, List.nil_append]
  repeat (first | (refine M0 ?_; first | refine O0 ?_ | refine z1 tok rfl ?_ | refine O1 rfl ?_ rfl | refine O2 rfl ?_ | refine O3 rfl ?_ rfl | refine O4 rfl rfl rfl (fun _ _ => ?_) | refine O5 tok rfl rfl rfl (fun _ _ => ?_) | refine U0 _ (U2 rfl) rfl ?_ | refine U0 _ (U3 tok rfl rfl rfl rfl rfl) rfl ?_ | refine z3 tok rfl ?_ | refine U0 _ (U4 rfl rfl) rfl ?_ | refine U0 _ (U5 rfl rfl) rfl ?_) | (refine M1 ?_; first | refine J0 ?_ | refine J1 ?_ | refine J4 ?_ | refine J5 ?_ | refine J6 ?_ | refine J7 ?_ | refine J8 rfl ?_ | refine J9 rfl ?_) | (refine M2 ?_; first | refine I0 ?_ | refine I1 ?_ | refine I2 ?_ | refine I3 ?_ | refine I4 ?_ | refine I5 ?_ | refine I6 rfl ?_ | refine I7 ?_ | refine I8 ?_ | refine z4 ?_) | (refine M3 ?_; first | refine O6 ?_ | refine z2 tok rfl ?_ | refine O8 rfl ?_ | refine O7 rfl ?_ rfl | refine O9 rfl ?_ rfl | refine U1 _ (U4 rfl rfl) rfl ?_ | refine U1 _ (U5 rfl rfl) rfl ?_ | refine U1 _ (U2 rfl) rfl ?_ | refine U1 _ (U3 tok rfl rfl rfl rfl rfl) rfl ?_) | (refine M4 ?_; first | refine M6 ?_ | refine U6 rfl (by kernel_rfl) ?_ | refine U7 (by kernel_rfl) ?_) | (refine M5 ?_; first | exact M7 | refine U8 rfl ?_ | refine U9 rfl rfl ?_ ?_))
  refine XC.cond _ rfl (fun h1 => ?_) (fun h1 => ?_)
  · have hkn : k < rs.length := by simpa using h1
    obtain ⟨ad, rfl, hlt⟩ := hr.addr (by decide) (by omega)
    have hcell : ∀ j u, rs[k].v[j]? = some u → w.cell? ((ad.add (k * 2)).add j) = some u := hr.elem (List.getElem?_eq_getElem hkn)
    obtain ⟨hck, hcall⟩ := hc k hkn fun j hj => hb j (by omega) hj
    rw [List.drop_eq_getElem_cons hkn] at hE
    rw [show firstE (rs[k] :: rs.drop (k + 1)) = if rs[k].b = true then rs[k].e else firstE (rs.drop (k + 1)) from rfl] at hE
    repeat (first | (refine M0 ?_; first | refine O0 ?_ | refine z1 tok rfl ?_ | refine O1 rfl ?_ rfl | refine O2 rfl ?_ | refine O3 rfl ?_ rfl | refine U0 _ (Ev.load_old_agg tok rs[k].v rfl rfl rfl (add_lt hlt) hcell) rfl ?_ | refine O4 rfl rfl rfl (fun _ _ => ?_) | refine O5 tok rfl rfl rfl (fun _ _ => ?_) | refine U0 _ (U2 rfl) rfl ?_ | refine U0 _ (U3 tok rfl rfl rfl rfl rfl) rfl ?_ | refine z3 tok rfl ?_ | refine U0 _ (U4 rfl rfl) rfl ?_ | refine U0 _ (U5 rfl rfl) rfl ?_) | (refine M1 ?_; first | refine J0 ?_ | refine J1 ?_ | refine J4 ?_ | refine J5 ?_ | refine J6 ?_ | refine J7 ?_ | refine J8 rfl ?_ | refine J9 rfl ?_) | (refine M2 ?_; first | refine I0 ?_ | refine I1 ?_ | refine I2 ?_ | refine I3 ?_ | refine I4 ?_ | refine I5 ?_ | refine I6 rfl ?_ | refine I7 ?_ | refine I8 ?_ | refine z4 ?_) | (refine M3 ?_; first | refine O6 ?_ | refine z2 tok rfl ?_ | refine O8 rfl ?_ | refine O7 rfl ?_ rfl | refine O9 rfl ?_ rfl | refine U1 _ (Ev.load_old_agg tok rs[k].v rfl rfl rfl (add_lt hlt) hcell) rfl ?_ | refine U1 _ (U4 rfl rfl) rfl ?_ | refine U1 _ (U5 rfl rfl) rfl ?_ | refine U1 _ (U2 rfl) rfl ?_ | refine U1 _ (U3 tok rfl rfl rfl rfl rfl) rfl ?_) | (refine M4 ?_; first | refine M6 ?_ | refine U6 rfl (by kernel_rfl) ?_ | refine U7 (by kernel_rfl) ?_) | (refine M5 ?_; first | exact M7 | refine U8 rfl ?_ | refine U9 rfl rfl ?_ ?_))
    rename_i g4 hg4
    refine XL.step _ (Ev.callv (f := rs[k].f) (fst := []) (cap := rs[k].cap) hck rfl rfl (fun w5 S5 => hcall w5 S5.toBelow)) rfl ?_
    repeat (first | (refine M0 ?_; first | refine O0 ?_ | refine z1 tok rfl ?_ | refine O1 rfl ?_ rfl | refine O2 rfl ?_ | refine O3 rfl ?_ rfl | refine O4 rfl rfl rfl (fun _ _ => ?_) | refine O5 tok rfl rfl rfl (fun _ _ => ?_) | refine U0 _ (U2 rfl) rfl ?_ | refine U0 _ (U3 tok rfl rfl rfl rfl rfl) rfl ?_ | refine z3 tok rfl ?_ | refine U0 _ (U4 rfl rfl) rfl ?_ | refine U0 _ (U5 rfl rfl) rfl ?_) | (refine M1 ?_; first | refine J0 ?_ | refine J1 ?_ | refine J4 ?_ | refine J5 ?_ | refine J6 ?_ | refine J7 ?_ | refine J8 rfl ?_ | refine J9 rfl ?_) | (refine M2 ?_; first | refine I0 ?_ | refine I1 ?_ | refine I2 ?_ | refine I3 ?_ | refine I4 ?_ | refine I5 ?_ | refine I6 rfl ?_ | refine I7 ?_ | refine I8 ?_ | refine z4 ?_) | (refine M3 ?_; first | refine O6 ?_ | refine z2 tok rfl ?_ | refine O8 rfl ?_ | refine O7 rfl ?_ rfl | refine O9 rfl ?_ rfl | refine U1 _ (U4 rfl rfl) rfl ?_ | refine U1 _ (U5 rfl rfl) rfl ?_ | refine U1 _ (U2 rfl) rfl ?_ | refine U1 _ (U3 tok rfl rfl rfl rfl rfl) rfl ?_) | (refine M4 ?_; first | refine M6 ?_ | refine U6 rfl (by kernel_rfl) ?_ | refine U7 (by kernel_rfl) ?_) | (refine M5 ?_; first | exact M7 | refine U8 rfl ?_ | refine U9 rfl rfl ?_ ?_))
    refine XC.cond _ rfl (fun h2 => ?_) (fun h2 => ?_)
    · rw [if_pos h2] at hE
      repeat (first | (refine M0 ?_; first | refine O0 ?_ | refine z1 tok rfl ?_ | refine O1 rfl ?_ rfl | refine O2 rfl ?_ | refine O3 rfl ?_ rfl | refine O4 rfl rfl rfl (fun _ _ => ?_) | refine O5 tok rfl rfl rfl (fun _ _ => ?_) | refine U0 _ (U2 rfl) rfl ?_ | refine U0 _ (U3 tok rfl rfl rfl rfl rfl) rfl ?_ | refine z3 tok rfl ?_ | refine U0 _ (U4 rfl rfl) rfl ?_ | refine U0 _ (U5 rfl rfl) rfl ?_) | (refine M1 ?_; first | refine J0 ?_ | refine J1 ?_ | refine J4 ?_ | refine J5 ?_ | refine J6 ?_ | refine J7 ?_ | refine J8 rfl ?_ | refine J9 rfl ?_) | (refine M2 ?_; first | refine I0 ?_ | refine I1 ?_ | refine I2 ?_ | refine I3 ?_ | refine I4 ?_ | refine I5 ?_ | refine I6 rfl ?_ | refine I7 ?_ | refine I8 ?_ | refine z4 ?_) | (refine M3 ?_; first | refine O6 ?_ | refine z2 tok rfl ?_ | refine O8 rfl ?_ | refine O7 rfl ?_ rfl | refine O9 rfl ?_ rfl | refine U1 _ (U4 rfl rfl) rfl ?_ | refine U1 _ (U5 rfl rfl) rfl ?_ | refine U1 _ (U2 rfl) rfl ?_ | refine U1 _ (U3 tok rfl rfl rfl rfl rfl) rfl ?_) | (refine M4 ?_; first | refine M6 ?_ | refine U6 rfl (by kernel_rfl) ?_ | refine U7 (by kernel_rfl) ?_) | (refine M5 ?_; first | exact M7 | refine U8 rfl ?_ | refine U9 rfl rfl ?_ ?_))
      refine XE.retg tok Tryd.results103 rfl (by simp only [and_self, and_true]) (fun w' S => ?_)
      exact ⟨by rw [← hE]; rfl, S.toBelow⟩
    · rw [if_neg (by simp [h2])] at hE
      repeat (first | (refine M0 ?_; first | refine O0 ?_ | refine z1 tok rfl ?_ | refine O1 rfl ?_ rfl | refine O2 rfl ?_ | refine O3 rfl ?_ rfl | refine O4 rfl rfl rfl (fun _ _ => ?_) | refine O5 tok rfl rfl rfl (fun _ _ => ?_) | refine U0 _ (U2 rfl) rfl ?_ | refine U0 _ (U3 tok rfl rfl rfl rfl rfl) rfl ?_ | refine z3 tok rfl ?_ | refine U0 _ (U4 rfl rfl) rfl ?_ | refine U0 _ (U5 rfl rfl) rfl ?_) | (refine M1 ?_; first | refine J0 ?_ | refine J1 ?_ | refine J4 ?_ | refine J5 ?_ | refine J6 ?_ | refine J7 ?_ | refine J8 rfl ?_ | refine J9 rfl ?_) | (refine M2 ?_; first | refine I0 ?_ | refine I1 ?_ | refine I2 ?_ | refine I3 ?_ | refine I4 ?_ | refine I5 ?_ | refine I6 rfl ?_ | refine I7 ?_ | refine I8 ?_ | refine z4 ?_) | (refine M3 ?_; first | refine O6 ?_ | refine z2 tok rfl ?_ | refine O8 rfl ?_ | refine O7 rfl ?_ rfl | refine O9 rfl ?_ rfl | refine U1 _ (U4 rfl rfl) rfl ?_ | refine U1 _ (U5 rfl rfl) rfl ?_ | refine U1 _ (U2 rfl) rfl ?_ | refine U1 _ (U3 tok rfl rfl rfl rfl rfl) rfl ?_) | (refine M4 ?_; first | refine M6 ?_ | refine U6 rfl (by kernel_rfl) ?_ | refine U7 (by kernel_rfl) ?_) | (refine M5 ?_; first | exact M7 | refine U8 rfl ?_ | refine U9 rfl rfl ?_ ?_))
      refine XE.round (k + 1) ⟨hkn, hE, fun j h hj => ?_⟩ (by omega) (by repeat (first | exact Sub.nil | refine Sub.cons rfl ?_)) (fun _ h => h.pop hg4)
      by_cases e : j = k
      · subst e; exact h2
      · exact hb j h (by omega)
  · have hkn : k = rs.length := by have : ¬ (k < rs.length) := by simpa using h1
                                   omega
    subst hkn
    rw [List.drop_length] at hE
    repeat (first | (refine M0 ?_; first | refine O0 ?_ | refine z1 tok rfl ?_ | refine O1 rfl ?_ rfl | refine O2 rfl ?_ | refine O3 rfl ?_ rfl | refine O4 rfl rfl rfl (fun _ _ => ?_) | refine O5 tok rfl rfl rfl (fun _ _ => ?_) | refine U0 _ (U2 rfl) rfl ?_ | refine U0 _ (U3 tok rfl rfl rfl rfl rfl) rfl ?_ | refine z3 tok rfl ?_ | refine U0 _ (U4 rfl rfl) rfl ?_ | refine U0 _ (U5 rfl rfl) rfl ?_) | (refine M1 ?_; first | refine J0 ?_ | refine J1 ?_ | refine J4 ?_ | refine J5 ?_ | refine J6 ?_ | refine J7 ?_ | refine J8 rfl ?_ | refine J9 rfl ?_) | (refine M2 ?_; first | refine I0 ?_ | refine I1 ?_ | refine I2 ?_ | refine I3 ?_ | refine I4 ?_ | refine I5 ?_ | refine I6 rfl ?_ | refine I7 ?_ | refine I8 ?_ | refine z4 ?_) | (refine M3 ?_; first | refine O6 ?_ | refine z2 tok rfl ?_ | refine O8 rfl ?_ | refine O7 rfl ?_ rfl | refine O9 rfl ?_ rfl | refine U1 _ (U4 rfl rfl) rfl ?_ | refine U1 _ (U5 rfl rfl) rfl ?_ | refine U1 _ (U2 rfl) rfl ?_ | refine U1 _ (U3 tok rfl rfl rfl rfl rfl) rfl ?_) | (refine M4 ?_; first | refine M6 ?_ | refine U6 rfl (by kernel_rfl) ?_ | refine U7 (by kernel_rfl) ?_) | (refine M5 ?_; first | exact M7 | refine U8 rfl ?_ | refine U9 rfl rfl ?_ ?_))
    refine XE.retg tok Tryd.results103 rfl (by simp only [and_self, and_true]) (fun w' S => ?_)
    exact ⟨by rw [← hE]; rfl, S.toBelow⟩
section
variable {g g2 : Nat} {q : SV} {c : Con} {w : World}
theorem conBox (h : w.heap[g]? = some (cel 159 (conC q c))) : g < w.heap.size ∧ ∀ j u, (conC q c)[j]? = some u → w.cell? ((⟨g, 0, none⟩ : Addr).add j) = some u :=
  ⟨(Array.getElem?_eq_some_iff.1 h).1, fun j u hj => by rw [add_off]; simp [World.cell?, h, hj]⟩
theorem check4_any (h : w.heap[g]? = some (cel 159 (conC q c))) (hs : c.name.size ≤ 9223372036854775807) :
    Calls Tryd.prog 108 #[.pointer (some ⟨g, 0, none⟩)] w fun e w' => e = .returned (.bool (!nameB c.name)) ∧ Below w.heap.size w w' := by
  obtain ⟨hl, c0⟩ := conBox h
  have d0 := c0 0 _ rfl
  refine enter Tryd.func108 rfl Tryd.ntmps108 rfl ?_; simp only [frame, Nat.zero_add, Nat.reduceAdd]
  repeat (first | (refine M0 ?_; first | refine O0 ?_ | refine z1 tok rfl ?_ | refine O1 rfl ?_ rfl | refine O2 rfl ?_ | refine O3 rfl ?_ rfl | refine U0 _ (Ev.load_old tok rfl rfl hl d0) rfl ?_ | refine U0 _ (Ev.call (f := 63) (ck rfl) rfl (fun w _ => name_any _ hs w)) rfl ?_ | refine O4 rfl rfl rfl (fun _ _ => ?_) | refine O5 tok rfl rfl rfl (fun _ _ => ?_) | refine U0 _ (U2 rfl) rfl ?_ | refine U0 _ (U3 tok rfl rfl rfl rfl rfl) rfl ?_ | refine z3 tok rfl ?_ | refine U0 _ (U4 rfl rfl) rfl ?_ | refine U0 _ (U5 rfl rfl) rfl ?_) | (refine M1 ?_; first | refine J0 ?_ | refine J1 ?_ | refine J2 mixed rfl (by kernel_rfl) ?_ | refine J3 mixed rfl rfl (by kernel_rfl) ?_ | refine J4 ?_ | refine J5 ?_ | refine J6 ?_ | refine J7 ?_ | refine J8 rfl ?_ | refine J9 rfl ?_) | (refine M2 ?_; first | refine I0 ?_ | refine I1 ?_ | refine I2 ?_ | refine I3 ?_ | refine I4 ?_ | refine I5 ?_ | refine I6 rfl ?_ | refine I7 ?_ | refine I8 ?_ | refine z4 ?_) | (refine M3 ?_; first | refine O6 ?_ | refine z2 tok rfl ?_ | refine O8 rfl ?_ | refine O7 rfl ?_ rfl | refine O9 rfl ?_ rfl | refine U1 _ (Ev.load_old tok rfl rfl hl d0) rfl ?_ | refine U1 _ (Ev.call (f := 63) (ck rfl) rfl (fun w _ => name_any _ hs w)) rfl ?_ | refine U1 _ (U4 rfl rfl) rfl ?_ | refine U1 _ (U5 rfl rfl) rfl ?_ | refine U1 _ (U2 rfl) rfl ?_ | refine U1 _ (U3 tok rfl rfl rfl rfl rfl) rfl ?_) | (refine M4 ?_; first | refine M6 ?_ | refine U6 rfl (by kernel_rfl) ?_ | refine U7 (by kernel_rfl) ?_) | (refine M5 ?_; first | exact M7 | refine U8 rfl ?_ | refine U9 rfl rfl ?_ ?_))
  refine XE.retg tok Tryd.results108 rfl (by simp only [and_self, and_true]) (fun w' S => ?_)
  exact ⟨rfl, S.toBelow⟩
theorem check6_any (h : w.heap[g]? = some (cel 159 (conC q c))) (hq : q.n = c.hs.length) :
    Calls Tryd.prog 110 #[.pointer (some ⟨g, 0, none⟩)] w fun e w' => e = .returned (.bool (outB c.hs.length 2 48)) ∧ Below w.heap.size w w' := by
  obtain ⟨A, n, cc⟩ := q
  simp only at hq
  subst hq
  obtain ⟨hl, c0⟩ := conBox h
  have d1 := c0 1 _ rfl
  refine enter Tryd.func110 rfl Tryd.ntmps110 rfl ?_; simp only [frame, Nat.zero_add, Nat.reduceAdd]
  repeat (first | (refine M0 ?_; first | refine O0 ?_ | refine z1 tok rfl ?_ | refine O1 rfl ?_ rfl | refine O2 rfl ?_ | refine O3 rfl ?_ rfl | refine U0 _ (Ev.load_old tok rfl rfl hl d1) rfl ?_ | refine U0 _ (Ev.call (f := 105) (ck rfl) rfl (fun w _ => tdout_any _ _ _ w)) rfl ?_ | refine O4 rfl rfl rfl (fun _ _ => ?_) | refine O5 tok rfl rfl rfl (fun _ _ => ?_) | refine U0 _ (U2 rfl) rfl ?_ | refine U0 _ (U3 tok rfl rfl rfl rfl rfl) rfl ?_ | refine z3 tok rfl ?_ | refine U0 _ (U4 rfl rfl) rfl ?_ | refine U0 _ (U5 rfl rfl) rfl ?_) | (refine M1 ?_; first | refine J0 ?_ | refine J1 ?_ | refine J2 mixed rfl (by kernel_rfl) ?_ | refine J3 mixed rfl rfl (by kernel_rfl) ?_ | refine J4 ?_ | refine J5 ?_ | refine J6 ?_ | refine J7 ?_ | refine J8 rfl ?_ | refine J9 rfl ?_) | (refine M2 ?_; first | refine I0 ?_ | refine I1 ?_ | refine I2 ?_ | refine I3 ?_ | refine I4 ?_ | refine I5 ?_ | refine I6 rfl ?_ | refine I7 ?_ | refine I8 ?_ | refine z4 ?_) | (refine M3 ?_; first | refine O6 ?_ | refine z2 tok rfl ?_ | refine O8 rfl ?_ | refine O7 rfl ?_ rfl | refine O9 rfl ?_ rfl | refine U1 _ (Ev.load_old tok rfl rfl hl d1) rfl ?_ | refine U1 _ (Ev.call (f := 105) (ck rfl) rfl (fun w _ => tdout_any _ _ _ w)) rfl ?_ | refine U1 _ (U4 rfl rfl) rfl ?_ | refine U1 _ (U5 rfl rfl) rfl ?_ | refine U1 _ (U2 rfl) rfl ?_ | refine U1 _ (U3 tok rfl rfl rfl rfl rfl) rfl ?_) | (refine M4 ?_; first | refine M6 ?_ | refine U6 rfl (by kernel_rfl) ?_ | refine U7 (by kernel_rfl) ?_) | (refine M5 ?_; first | exact M7 | refine U8 rfl ?_ | refine U9 rfl rfl ?_ ?_))
  refine XE.retg tok Tryd.results110 rfl (by simp only [and_self, and_true]) (fun w' S => ?_)
  exact ⟨rfl, S.toBelow⟩
/-- the numbers of a constituent are no good. -/
def badC (c : Con) : Bool := outB c.den 1 1000 || (outB c.step 1 100000 || (outB c.slack 0 1000 || (outB c.off 0 (c.den * c.hs.length - 1) || c.hs.any fun h => outB h (-10000) 10000)))
set_option maxHeartbeats 16000000 in
theorem check7_any (h : w.heap[g]? = some (cel 159 (conC q c))) (h2 : w.heap[g2]? = some (cel 108 [.func (.func 107) #[] #[]])) (hq : IntsAt w (Lt w.heap.size) q c.hs) (hn : c.hs.length ≤ 48) :
    Calls Tryd.prog 111 #[.pointer (some ⟨g, 0, none⟩), .pointer (some ⟨g2, 0, none⟩)] w fun e w' => e = .returned (.bool (badC c)) ∧ Below w.heap.size w w' := by
  obtain ⟨A, n, cc⟩ := q
  have hqn := hq.len
  simp only at hqn
  subst hqn
  obtain ⟨hl, c0⟩ := conBox h
  have d1 := c0 1 _ rfl
  have d2 := c0 2 _ rfl
  have d3 := c0 3 _ rfl
  have d4 := c0 4 _ rfl
  have d5 := c0 5 _ rfl
  have hl2 := (Array.getElem?_eq_some_iff.1 h2).1
  have f2 : w.cell? ⟨g2, 0, none⟩ = some (.func (.func 107) #[] #[]) := by simp [World.cell?, h2]
  have oo : ∀ (n lo hi : Int) (b : Bool), outB n lo hi = b → ∀ w, Calls Tryd.prog 105 #[.int .i64 n, .int .i64 lo, .int .i64 hi] w fun e w' => e = .returned (.bool b) ∧ Below w.heap.size w w' := fun n lo hi b e w => by subst e; exact tdout_any n lo hi w
  refine enter Tryd.func111 rfl Tryd.ntmps111 rfl ?_; simp only [frame, Nat.zero_add, Nat.reduceAdd]
  cases e0 : outB c.den 1 1000 with
  | true =>
    repeat (first | (refine M0 ?_; first | refine O0 ?_ | refine z1 tok rfl ?_ | refine O1 rfl ?_ rfl | refine O2 rfl ?_ | refine O3 rfl ?_ rfl | refine U0 _ (Ev.load_old tok rfl rfl hl d4) rfl ?_ | refine U0 _ (Ev.call (f := 105) (vs := [.int .i64 c.den, .int .i64 1, .int .i64 1000]) (ck rfl) rfl (fun w S => oo _ _ _ _ e0 w)) rfl ?_ | refine O4 rfl rfl rfl (fun _ _ => ?_) | refine O5 tok rfl rfl rfl (fun _ _ => ?_) | refine U0 _ (U2 rfl) rfl ?_ | refine U0 _ (U3 tok rfl rfl rfl rfl rfl) rfl ?_ | refine z3 tok rfl ?_ | refine U0 _ (U4 rfl rfl) rfl ?_ | refine U0 _ (U5 rfl rfl) rfl ?_) | (refine M1 ?_; first | refine J0 ?_ | refine J1 ?_ | refine J2 mixed rfl (by kernel_rfl) ?_ | refine J3 mixed rfl rfl (by kernel_rfl) ?_ | refine J4 ?_ | refine J5 ?_ | refine J6 ?_ | refine J7 ?_ | refine J8 rfl ?_ | refine J9 rfl ?_) | (refine M2 ?_; first | refine I0 ?_ | refine I1 ?_ | refine I2 ?_ | refine I3 ?_ | refine I4 ?_ | refine I5 ?_ | refine I6 rfl ?_ | refine I7 ?_ | refine I8 ?_ | refine z4 ?_) | (refine M3 ?_; first | refine O6 ?_ | refine z2 tok rfl ?_ | refine O8 rfl ?_ | refine O7 rfl ?_ rfl | refine O9 rfl ?_ rfl | refine U1 _ (Ev.load_old tok rfl rfl hl d4) rfl ?_ | refine U1 _ (Ev.call (f := 105) (vs := [.int .i64 c.den, .int .i64 1, .int .i64 1000]) (ck rfl) rfl (fun w S => oo _ _ _ _ e0 w)) rfl ?_ | refine U1 _ (U4 rfl rfl) rfl ?_ | refine U1 _ (U5 rfl rfl) rfl ?_ | refine U1 _ (U2 rfl) rfl ?_ | refine U1 _ (U3 tok rfl rfl rfl rfl rfl) rfl ?_) | (refine M4 ?_; first | refine M6 ?_ | refine U6 rfl (by kernel_rfl) ?_ | refine U7 (by kernel_rfl) ?_) | (refine M5 ?_; first | exact M7 | refine U8 rfl ?_ | refine U9 rfl rfl ?_ ?_))
    refine XE.retg tok Tryd.results111 rfl (by simp only [and_self, and_true]) (fun w' S => ?_)
    exact ⟨by rw [show badC c = true by simp only [badC, e0, Bool.true_or]]; rfl, S.toBelow⟩
  | false =>
  cases e1 : outB c.step 1 100000 with
  | true =>
    repeat (first | (refine M0 ?_; first | refine O0 ?_ | refine z1 tok rfl ?_ | refine O1 rfl ?_ rfl | refine O2 rfl ?_ | refine O3 rfl ?_ rfl | refine U0 _ (Ev.load_old tok rfl rfl hl d4) rfl ?_ | refine U0 _ (Ev.load_old tok rfl rfl hl d3) rfl ?_ | refine U0 _ (Ev.call (f := 105) (vs := [.int .i64 c.den, .int .i64 1, .int .i64 1000]) (ck rfl) rfl (fun w S => oo _ _ _ _ e0 w)) rfl ?_ | refine U0 _ (Ev.call (f := 105) (vs := [.int .i64 c.step, .int .i64 1, .int .i64 100000]) (ck rfl) rfl (fun w S => oo _ _ _ _ e1 w)) rfl ?_ | refine O4 rfl rfl rfl (fun _ _ => ?_) | refine O5 tok rfl rfl rfl (fun _ _ => ?_) | refine U0 _ (U2 rfl) rfl ?_ | refine U0 _ (U3 tok rfl rfl rfl rfl rfl) rfl ?_ | refine z3 tok rfl ?_ | refine U0 _ (U4 rfl rfl) rfl ?_ | refine U0 _ (U5 rfl rfl) rfl ?_) | (refine M1 ?_; first | refine J0 ?_ | refine J1 ?_ | refine J2 mixed rfl (by kernel_rfl) ?_ | refine J3 mixed rfl rfl (by kernel_rfl) ?_ | refine J4 ?_ | refine J5 ?_ | refine J6 ?_ | refine J7 ?_ | refine J8 rfl ?_ | refine J9 rfl ?_) | (refine M2 ?_; first | refine I0 ?_ | refine I1 ?_ | refine I2 ?_ | refine I3 ?_ | refine I4 ?_ | refine I5 ?_ | refine I6 rfl ?_ | refine I7 ?_ | refine I8 ?_ | refine z4 ?_) | (refine M3 ?_; first | refine O6 ?_ | refine z2 tok rfl ?_ | refine O8 rfl ?_ | refine O7 rfl ?_ rfl | refine O9 rfl ?_ rfl | refine U1 _ (Ev.load_old tok rfl rfl hl d4) rfl ?_ | refine U1 _ (Ev.load_old tok rfl rfl hl d3) rfl ?_ | refine U1 _ (Ev.call (f := 105) (vs := [.int .i64 c.den, .int .i64 1, .int .i64 1000]) (ck rfl) rfl (fun w S => oo _ _ _ _ e0 w)) rfl ?_ | refine U1 _ (Ev.call (f := 105) (vs := [.int .i64 c.step, .int .i64 1, .int .i64 100000]) (ck rfl) rfl (fun w S => oo _ _ _ _ e1 w)) rfl ?_ | refine U1 _ (U4 rfl rfl) rfl ?_ | refine U1 _ (U5 rfl rfl) rfl ?_ | refine U1 _ (U2 rfl) rfl ?_ | refine U1 _ (U3 tok rfl rfl rfl rfl rfl) rfl ?_) | (refine M4 ?_; first | refine M6 ?_ | refine U6 rfl (by kernel_rfl) ?_ | refine U7 (by kernel_rfl) ?_) | (refine M5 ?_; first | exact M7 | refine U8 rfl ?_ | refine U9 rfl rfl ?_ ?_))
    refine XE.retg tok Tryd.results111 rfl (by simp only [and_self, and_true]) (fun w' S => ?_)
    exact ⟨by rw [show badC c = true by simp only [badC, e0, e1, Bool.true_or, Bool.false_or]]; rfl, S.toBelow⟩
  | false =>
  cases e2 : outB c.slack 0 1000 with
  | true =>
    repeat (first | (refine M0 ?_; first | refine O0 ?_ | refine z1 tok rfl ?_ | refine O1 rfl ?_ rfl | refine O2 rfl ?_ | refine O3 rfl ?_ rfl | refine U0 _ (Ev.load_old tok rfl rfl hl d4) rfl ?_ | refine U0 _ (Ev.load_old tok rfl rfl hl d3) rfl ?_ | refine U0 _ (Ev.load_old tok rfl rfl hl d5) rfl ?_ | refine U0 _ (Ev.call (f := 105) (vs := [.int .i64 c.den, .int .i64 1, .int .i64 1000]) (ck rfl) rfl (fun w S => oo _ _ _ _ e0 w)) rfl ?_ | refine U0 _ (Ev.call (f := 105) (vs := [.int .i64 c.step, .int .i64 1, .int .i64 100000]) (ck rfl) rfl (fun w S => oo _ _ _ _ e1 w)) rfl ?_ | refine U0 _ (Ev.call (f := 105) (vs := [.int .i64 c.slack, .int .i64 0, .int .i64 1000]) (ck rfl) rfl (fun w S => oo _ _ _ _ e2 w)) rfl ?_ | refine O4 rfl rfl rfl (fun _ _ => ?_) | refine O5 tok rfl rfl rfl (fun _ _ => ?_) | refine U0 _ (U2 rfl) rfl ?_ | refine U0 _ (U3 tok rfl rfl rfl rfl rfl) rfl ?_ | refine z3 tok rfl ?_ | refine U0 _ (U4 rfl rfl) rfl ?_ | refine U0 _ (U5 rfl rfl) rfl ?_) | (refine M1 ?_; first | refine J0 ?_ | refine J1 ?_ | refine J2 mixed rfl (by kernel_rfl) ?_ | refine J3 mixed rfl rfl (by kernel_rfl) ?_ | refine J4 ?_ | refine J5 ?_ | refine J6 ?_ | refine J7 ?_ | refine J8 rfl ?_ | refine J9 rfl ?_) | (refine M2 ?_; first | refine I0 ?_ | refine I1 ?_ | refine I2 ?_ | refine I3 ?_ | refine I4 ?_ | refine I5 ?_ | refine I6 rfl ?_ | refine I7 ?_ | refine I8 ?_ | refine z4 ?_) | (refine M3 ?_; first | refine O6 ?_ | refine z2 tok rfl ?_ | refine O8 rfl ?_ | refine O7 rfl ?_ rfl | refine O9 rfl ?_ rfl | refine U1 _ (Ev.load_old tok rfl rfl hl d4) rfl ?_ | refine U1 _ (Ev.load_old tok rfl rfl hl d3) rfl ?_ | refine U1 _ (Ev.load_old tok rfl rfl hl d5) rfl ?_ | refine U1 _ (Ev.call (f := 105) (vs := [.int .i64 c.den, .int .i64 1, .int .i64 1000]) (ck rfl) rfl (fun w S => oo _ _ _ _ e0 w)) rfl ?_ | refine U1 _ (Ev.call (f := 105) (vs := [.int .i64 c.step, .int .i64 1, .int .i64 100000]) (ck rfl) rfl (fun w S => oo _ _ _ _ e1 w)) rfl ?_ | refine U1 _ (Ev.call (f := 105) (vs := [.int .i64 c.slack, .int .i64 0, .int .i64 1000]) (ck rfl) rfl (fun w S => oo _ _ _ _ e2 w)) rfl ?_ | refine U1 _ (U4 rfl rfl) rfl ?_ | refine U1 _ (U5 rfl rfl) rfl ?_ | refine U1 _ (U2 rfl) rfl ?_ | refine U1 _ (U3 tok rfl rfl rfl rfl rfl) rfl ?_) | (refine M4 ?_; first | refine M6 ?_ | refine U6 rfl (by kernel_rfl) ?_ | refine U7 (by kernel_rfl) ?_) | (refine M5 ?_; first | exact M7 | refine U8 rfl ?_ | refine U9 rfl rfl ?_ ?_))
    refine XE.retg tok Tryd.results111 rfl (by simp only [and_self, and_true]) (fun w' S => ?_)
    exact ⟨by rw [show badC c = true by simp only [badC, e0, e1, e2, Bool.true_or, Bool.false_or]]; rfl, S.toBelow⟩
  | false =>
  have hd := outB_f.1 e0
  have hm := mul_bd (X := 1000) (Y := 48) (x := c.den) (y := (c.hs.length : Int)) (by omega) (by omega)
  have i1 : i64in (c.den * (c.hs.length : Int) - 1) := by unfold i64in; omega
  cases e3 : outB c.off 0 (c.den * c.hs.length - 1) with
  | true =>
    repeat (first | (refine M0 ?_; first | refine O0 ?_ | refine z1 tok rfl ?_ | refine O1 rfl ?_ rfl | refine O2 rfl ?_ | refine O3 rfl ?_ rfl | refine U0 _ (Ev.load_old tok rfl rfl hl d4) rfl ?_ | refine U0 _ (Ev.load_old tok rfl rfl hl d3) rfl ?_ | refine U0 _ (Ev.load_old tok rfl rfl hl d5) rfl ?_ | refine U0 _ (Ev.load_old tok rfl rfl hl d2) rfl ?_ | refine U0 _ (Ev.load_old_agg tok (conC ⟨A, c.hs.length, cc⟩ c) rfl rfl rfl hl c0) rfl ?_ | refine U0 _ (Ev.call (f := 112) (ck rfl) rfl (fun w5 S5 => cycle_any (q := ⟨A, c.hs.length, cc⟩) (c := c) rfl hn hd)) rfl ?_ | refine U0 _ (Ev.call (f := 105) (vs := [.int .i64 c.den, .int .i64 1, .int .i64 1000]) (ck rfl) rfl (fun w S => oo _ _ _ _ e0 w)) rfl ?_ | refine U0 _ (Ev.call (f := 105) (vs := [.int .i64 c.step, .int .i64 1, .int .i64 100000]) (ck rfl) rfl (fun w S => oo _ _ _ _ e1 w)) rfl ?_ | refine U0 _ (Ev.call (f := 105) (vs := [.int .i64 c.slack, .int .i64 0, .int .i64 1000]) (ck rfl) rfl (fun w S => oo _ _ _ _ e2 w)) rfl ?_ | refine U0 _ (Ev.call (f := 105) (vs := [.int .i64 c.off, .int .i64 0, .int .i64 (c.den * c.hs.length - 1)]) (ck rfl) rfl (fun w S => oo _ _ _ _ e3 w)) rfl ?_ | refine O4 rfl rfl rfl (fun _ _ => ?_) | refine O5 tok rfl rfl rfl (fun _ _ => ?_) | refine U0 _ (U2 rfl) rfl ?_ | refine U0 _ (U3 tok rfl rfl rfl rfl rfl) rfl ?_ | refine z3 tok rfl ?_ | refine U0 _ (U4 rfl rfl) rfl ?_ | refine U0 _ (U5 rfl rfl) rfl ?_) | (refine M1 ?_; first | refine J0 ?_ | refine J1 ?_ | refine J2 mixed rfl (by kernel_rfl) ?_ | refine J3 mixed rfl rfl (by kernel_rfl) ?_ | refine J4 ?_ | refine J5 ?_ | refine J6 ?_ | refine J7 ?_ | refine J8 rfl ?_ | refine J9 rfl ?_) | (refine M2 ?_; first | refine I0 ?_ | refine I1 ?_ | refine I2 ?_ | refine I3 ?_ | refine I4 ?_ | refine I5 ?_ | refine I6 rfl ?_ | refine I7 ?_ | refine I8 ?_ | refine z4 ?_) | (refine M3 ?_; first | refine O6 ?_ | refine z2 tok rfl ?_ | refine O8 rfl ?_ | refine O7 rfl ?_ rfl | refine O9 rfl ?_ rfl | refine U1 _ (Ev.load_old tok rfl rfl hl d4) rfl ?_ | refine U1 _ (Ev.load_old tok rfl rfl hl d3) rfl ?_ | refine U1 _ (Ev.load_old tok rfl rfl hl d5) rfl ?_ | refine U1 _ (Ev.load_old tok rfl rfl hl d2) rfl ?_ | refine U1 _ (Ev.load_old_agg tok (conC ⟨A, c.hs.length, cc⟩ c) rfl rfl rfl hl c0) rfl ?_ | refine U1 _ (Ev.call (f := 112) (ck rfl) rfl (fun w5 S5 => cycle_any (q := ⟨A, c.hs.length, cc⟩) (c := c) rfl hn hd)) rfl ?_ | refine U1 _ (Ev.call (f := 105) (vs := [.int .i64 c.den, .int .i64 1, .int .i64 1000]) (ck rfl) rfl (fun w S => oo _ _ _ _ e0 w)) rfl ?_ | refine U1 _ (Ev.call (f := 105) (vs := [.int .i64 c.step, .int .i64 1, .int .i64 100000]) (ck rfl) rfl (fun w S => oo _ _ _ _ e1 w)) rfl ?_ | refine U1 _ (Ev.call (f := 105) (vs := [.int .i64 c.slack, .int .i64 0, .int .i64 1000]) (ck rfl) rfl (fun w S => oo _ _ _ _ e2 w)) rfl ?_ | refine U1 _ (Ev.call (f := 105) (vs := [.int .i64 c.off, .int .i64 0, .int .i64 (c.den * c.hs.length - 1)]) (ck rfl) rfl (fun w S => oo _ _ _ _ e3 w)) rfl ?_ | refine U1 _ (U4 rfl rfl) rfl ?_ | refine U1 _ (U5 rfl rfl) rfl ?_ | refine U1 _ (U2 rfl) rfl ?_ | refine U1 _ (U3 tok rfl rfl rfl rfl rfl) rfl ?_) | (refine M4 ?_; first | refine M6 ?_ | refine U6 rfl (by kernel_rfl) ?_ | refine U7 (by kernel_rfl) ?_) | (refine M5 ?_; first | exact M7 | refine U8 rfl ?_ | refine U9 rfl rfl ?_ ?_))
    refine XE.retg tok Tryd.results111 rfl (by simp only [and_self, and_true]) (fun w' S => ?_)
    exact ⟨by rw [show badC c = true by simp only [badC, e0, e1, e2, e3, Bool.true_or, Bool.false_or]]; rfl, S.toBelow⟩
  | false =>
  repeat (first | (refine M0 ?_; first | refine O0 ?_ | refine z1 tok rfl ?_ | refine O1 rfl ?_ rfl | refine O2 rfl ?_ | refine O3 rfl ?_ rfl | refine U0 _ (Ev.load_old tok rfl rfl hl d4) rfl ?_ | refine U0 _ (Ev.load_old tok rfl rfl hl d3) rfl ?_ | refine U0 _ (Ev.load_old tok rfl rfl hl d5) rfl ?_ | refine U0 _ (Ev.load_old tok rfl rfl hl d2) rfl ?_ | refine U0 _ (Ev.load_old_agg tok (conC ⟨A, c.hs.length, cc⟩ c) rfl rfl rfl hl c0) rfl ?_ | refine U0 _ (Ev.call (f := 112) (ck rfl) rfl (fun w5 S5 => cycle_any (q := ⟨A, c.hs.length, cc⟩) (c := c) rfl hn hd)) rfl ?_ | refine U0 _ (Ev.call (f := 105) (vs := [.int .i64 c.den, .int .i64 1, .int .i64 1000]) (ck rfl) rfl (fun w S => oo _ _ _ _ e0 w)) rfl ?_ | refine U0 _ (Ev.call (f := 105) (vs := [.int .i64 c.step, .int .i64 1, .int .i64 100000]) (ck rfl) rfl (fun w S => oo _ _ _ _ e1 w)) rfl ?_ | refine U0 _ (Ev.call (f := 105) (vs := [.int .i64 c.slack, .int .i64 0, .int .i64 1000]) (ck rfl) rfl (fun w S => oo _ _ _ _ e2 w)) rfl ?_ | refine U0 _ (Ev.call (f := 105) (vs := [.int .i64 c.off, .int .i64 0, .int .i64 (c.den * c.hs.length - 1)]) (ck rfl) rfl (fun w S => oo _ _ _ _ e3 w)) rfl ?_ | refine U0 _ (Ev.load_old tok rfl rfl hl d1) rfl ?_ | refine U0 _ (Ev.load_old tok rfl rfl hl2 f2) rfl ?_ | refine U0 _ (Ev.call (f := 74) (ck rfl) rfl (fun w5 S5 => (contInt (f := 107) (cap := []) (P := fun h => outB h (-10000) 10000) (r := ⟨A, c.hs.length, cc⟩) (ms := c.hs) (ck rfl) (hq.arg S5) (by omega) (fun m hm w' hb => check3_any m w') :))) rfl ?_ | refine O4 rfl rfl rfl (fun _ _ => ?_) | refine O5 tok rfl rfl rfl (fun _ _ => ?_) | refine U0 _ (U2 rfl) rfl ?_ | refine U0 _ (U3 tok rfl rfl rfl rfl rfl) rfl ?_ | refine z3 tok rfl ?_ | refine U0 _ (U4 rfl rfl) rfl ?_ | refine U0 _ (U5 rfl rfl) rfl ?_) | (refine M1 ?_; first | refine J0 ?_ | refine J1 ?_ | refine J2 mixed rfl (by kernel_rfl) ?_ | refine J3 mixed rfl rfl (by kernel_rfl) ?_ | refine J4 ?_ | refine J5 ?_ | refine J6 ?_ | refine J7 ?_ | refine J8 rfl ?_ | refine J9 rfl ?_) | (refine M2 ?_; first | refine I0 ?_ | refine I1 ?_ | refine I2 ?_ | refine I3 ?_ | refine I4 ?_ | refine I5 ?_ | refine I6 rfl ?_ | refine I7 ?_ | refine I8 ?_ | refine z4 ?_) | (refine M3 ?_; first | refine O6 ?_ | refine z2 tok rfl ?_ | refine O8 rfl ?_ | refine O7 rfl ?_ rfl | refine O9 rfl ?_ rfl | refine U1 _ (Ev.load_old tok rfl rfl hl d4) rfl ?_ | refine U1 _ (Ev.load_old tok rfl rfl hl d3) rfl ?_ | refine U1 _ (Ev.load_old tok rfl rfl hl d5) rfl ?_ | refine U1 _ (Ev.load_old tok rfl rfl hl d2) rfl ?_ | refine U1 _ (Ev.load_old_agg tok (conC ⟨A, c.hs.length, cc⟩ c) rfl rfl rfl hl c0) rfl ?_ | refine U1 _ (Ev.call (f := 112) (ck rfl) rfl (fun w5 S5 => cycle_any (q := ⟨A, c.hs.length, cc⟩) (c := c) rfl hn hd)) rfl ?_ | refine U1 _ (Ev.call (f := 105) (vs := [.int .i64 c.den, .int .i64 1, .int .i64 1000]) (ck rfl) rfl (fun w S => oo _ _ _ _ e0 w)) rfl ?_ | refine U1 _ (Ev.call (f := 105) (vs := [.int .i64 c.step, .int .i64 1, .int .i64 100000]) (ck rfl) rfl (fun w S => oo _ _ _ _ e1 w)) rfl ?_ | refine U1 _ (Ev.call (f := 105) (vs := [.int .i64 c.slack, .int .i64 0, .int .i64 1000]) (ck rfl) rfl (fun w S => oo _ _ _ _ e2 w)) rfl ?_ | refine U1 _ (Ev.call (f := 105) (vs := [.int .i64 c.off, .int .i64 0, .int .i64 (c.den * c.hs.length - 1)]) (ck rfl) rfl (fun w S => oo _ _ _ _ e3 w)) rfl ?_ | refine U1 _ (Ev.load_old tok rfl rfl hl d1) rfl ?_ | refine U1 _ (Ev.load_old tok rfl rfl hl2 f2) rfl ?_ | refine U1 _ (Ev.call (f := 74) (ck rfl) rfl (fun w5 S5 => (contInt (f := 107) (cap := []) (P := fun h => outB h (-10000) 10000) (r := ⟨A, c.hs.length, cc⟩) (ms := c.hs) (ck rfl) (hq.arg S5) (by omega) (fun m hm w' hb => check3_any m w') :))) rfl ?_ | refine U1 _ (U4 rfl rfl) rfl ?_ | refine U1 _ (U5 rfl rfl) rfl ?_ | refine U1 _ (U2 rfl) rfl ?_ | refine U1 _ (U3 tok rfl rfl rfl rfl rfl) rfl ?_) | (refine M4 ?_; first | refine M6 ?_ | refine U6 rfl (by kernel_rfl) ?_ | refine U7 (by kernel_rfl) ?_) | (refine M5 ?_; first | exact M7 | refine U8 rfl ?_ | refine U9 rfl rfl ?_ ?_))
  refine XE.retg tok Tryd.results111 rfl (by simp only [and_self, and_true]) (fun w' S => ?_)
  exact ⟨by rw [show badC c = c.hs.any (fun h => outB h (-10000) 10000) by simp only [badC, e0, e1, e2, e3, Bool.false_or]]; rfl, S.toBelow⟩
end
end Go.Proofs.YtoiepgcjinccpaaDoor.X
/-
  The walk of Check (tide).
-/
namespace Go.Proofs.YtoiepgcjinccpaaDoor.X
open Go Go.RowKit Go.Proofs.YtoiepgcjinccpaaDoor.Bs
set_option linter.unusedVariables false
/-- a table in memory. -/
def tabC (r : SV) (m : Int) : List Value := [.int .i64 m, .slice r.A r.n r.c]
structure TabAt (w : World) (ok : Nat → Prop) (r : SV) (cs : List ConI) : Prop where
  ls : ListAt conK w ok r cs
  nm : ∀ a, a ∈ cs → a.c.name.size ≤ 9223372036854775807
structure TabOk (m : Int) (cs : List ConI) : Prop where
  mean : -20000 ≤ m ∧ m ≤ 20000
  len : cs.length ≤ 12
  con : ∀ a, a ∈ cs → ConOk a.c
def nmKV (cs : List ConI) (k : Nat) : List (ByteArray × Value) := (cs.take k).map fun a => (a.c.name, .bool true)
def seenC (cs : List ConI) (k : Nat) (s : ByteArray) : Bool := (findS (nmKV cs k) s).isSome
theorem seenC_v (cs : List ConI) (k : Nat) (s : ByteArray) : (findS (nmKV cs k) s).getD (.bool false) = .bool (seenC cs k s) := by
  unfold seenC
  cases h : findS (nmKV cs k) s with
  | none => rfl
  | some v =>
    unfold findS at h
    cases h2 : (nmKV cs k).find? fun e => decide (s = e.1) with
    | none => rw [h2] at h; cases h
    | some e =>
      rw [h2] at h
      have h3 := List.mem_of_find?_eq_some h2
      unfold nmKV at h3
      obtain ⟨a, _, rfl⟩ := List.mem_map.1 h3
      simp only [Option.map_some, Option.some.injEq] at h
      subst h
      rfl
theorem nmKV_succ {cs : List ConI} {k : Nat} (h : k < cs.length) : nmKV cs (k + 1) = nmKV cs k ++ [(cs[k].c.name, .bool true)] := by
  unfold nmKV
  rw [List.take_add_one, List.map_append, List.getElem?_eq_getElem h]
  rfl
section
variable {P : Program} {T : TT} {N B : Nat} {w0 : World} {ds : List Deferred} {pu : Prop} {F : Fr} {L : Lo} {dst : Option Tmp} {ty : TypeId} {p : String} {af : Array Edge} {gd : Option (Nat × Bool)}
theorem Ev.lookupM (hT : TOK P T) {t kt et : TypeId} {x y : Operand} {z v : Value} (kvs : List (ByteArray × Value)) {r : Nat} {k : ByteArray} (hx : evo F x = some (.map (some r))) (hy : evo F y = some (.string k)) (hm : w0.heap[r]? = some (mapS kvs)) (hn : ∀ e, e ∈ L → e.1 ≠ r)
    (ht : P.underlying t = some (.map kt et)) (hkt : P.underlying kt = some .string) (hz : lkG T.zero et = some z) (hv : (findS kvs k).getD z = v) :
    Ev P N B w0 ds pu F L ⟨dst, .lookup t x y false, ty, p, af, gd⟩ v :=
  .of_run fun a w hf hw => by
    have h1 : w.heap[r]? = some (mapS kvs) := (hw.old r (Array.getElem?_eq_some_iff.1 hm).1 (fun e he => hn e he)).trans hm
    have := lookupS_run (k := k) (ok := false) hT ht hkt hz h1
    rw [← hv]
    simp [execOp, hf.eval hx, hf.eval hy, this]
end
section
variable {g g4 gm : Nat} {r q : SV} {c : Con} {m : Int} {w : World}
theorem check1_any (h : w.heap[g]? = some (cel 89 (tabC r m))) :
    Calls Tryd.prog 104 #[.pointer (some ⟨g, 0, none⟩)] w fun e w' => e = .returned (.bool (outB m (-20000) 20000)) ∧ Below w.heap.size w w' := by
  have hl := (Array.getElem?_eq_some_iff.1 h).1
  have d0 : w.cell? ⟨g, 0, none⟩ = some (.int .i64 m) := by simp [World.cell?, h, tabC]
  refine enter Tryd.func104 rfl Tryd.ntmps104 rfl ?_; simp only [frame, Nat.zero_add, Nat.reduceAdd]
  repeat (first | (refine M0 ?_; first | refine O0 ?_ | refine z1 tok rfl ?_ | refine O1 rfl ?_ rfl | refine O2 rfl ?_ | refine O3 rfl ?_ rfl | refine U0 _ (Ev.load_old tok rfl rfl hl d0) rfl ?_ | refine U0 _ (Ev.call (f := 105) (ck rfl) rfl (fun w _ => tdout_any _ _ _ w)) rfl ?_ | refine O4 rfl rfl rfl (fun _ _ => ?_) | refine O5 tok rfl rfl rfl (fun _ _ => ?_) | refine U0 _ (U2 rfl) rfl ?_ | refine U0 _ (U3 tok rfl rfl rfl rfl rfl) rfl ?_ | refine z3 tok rfl ?_ | refine U0 _ (U4 rfl rfl) rfl ?_ | refine U0 _ (U5 rfl rfl) rfl ?_) | (refine M1 ?_; first | refine J0 ?_ | refine J1 ?_ | refine J2 mixed rfl (by kernel_rfl) ?_ | refine J3 mixed rfl rfl (by kernel_rfl) ?_ | refine J4 ?_ | refine J5 ?_ | refine J6 ?_ | refine J7 ?_ | refine J8 rfl ?_ | refine J9 rfl ?_) | (refine M2 ?_; first | refine I0 ?_ | refine I1 ?_ | refine I2 ?_ | refine I3 ?_ | refine I4 ?_ | refine I5 ?_ | refine I6 rfl ?_ | refine I7 ?_ | refine I8 ?_ | refine z4 ?_) | (refine M3 ?_; first | refine O6 ?_ | refine z2 tok rfl ?_ | refine O8 rfl ?_ | refine O7 rfl ?_ rfl | refine O9 rfl ?_ rfl | refine U1 _ (Ev.load_old tok rfl rfl hl d0) rfl ?_ | refine U1 _ (Ev.call (f := 105) (ck rfl) rfl (fun w _ => tdout_any _ _ _ w)) rfl ?_ | refine U1 _ (U4 rfl rfl) rfl ?_ | refine U1 _ (U5 rfl rfl) rfl ?_ | refine U1 _ (U2 rfl) rfl ?_ | refine U1 _ (U3 tok rfl rfl rfl rfl rfl) rfl ?_) | (refine M4 ?_; first | refine M6 ?_ | refine U6 rfl (by kernel_rfl) ?_ | refine U7 (by kernel_rfl) ?_) | (refine M5 ?_; first | exact M7 | refine U8 rfl ?_ | refine U9 rfl rfl ?_ ?_))
  refine XE.retg tok Tryd.results104 rfl (by simp only [and_self, and_true]) (fun w' S => ?_)
  exact ⟨rfl, S.toBelow⟩
theorem check2_any (h : w.heap[g]? = some (cel 89 (tabC r m))) :
    Calls Tryd.prog 106 #[.pointer (some ⟨g, 0, none⟩)] w fun e w' => e = .returned (.bool (decide ((12 : Int) < r.n))) ∧ Below w.heap.size w w' := by
  have hl := (Array.getElem?_eq_some_iff.1 h).1
  have d1 : w.cell? ⟨g, 1, none⟩ = some (.slice r.A r.n r.c) := by simp [World.cell?, h, tabC]
  refine enter Tryd.func106 rfl Tryd.ntmps106 rfl ?_; simp only [frame, Nat.zero_add, Nat.reduceAdd]
  repeat (first | (refine M0 ?_; first | refine O0 ?_ | refine z1 tok rfl ?_ | refine O1 rfl ?_ rfl | refine O2 rfl ?_ | refine O3 rfl ?_ rfl | refine U0 _ (Ev.load_old tok rfl rfl hl d1) rfl ?_ | refine O4 rfl rfl rfl (fun _ _ => ?_) | refine O5 tok rfl rfl rfl (fun _ _ => ?_) | refine U0 _ (U2 rfl) rfl ?_ | refine U0 _ (U3 tok rfl rfl rfl rfl rfl) rfl ?_ | refine z3 tok rfl ?_ | refine U0 _ (U4 rfl rfl) rfl ?_ | refine U0 _ (U5 rfl rfl) rfl ?_) | (refine M1 ?_; first | refine J0 ?_ | refine J1 ?_ | refine J2 mixed rfl (by kernel_rfl) ?_ | refine J3 mixed rfl rfl (by kernel_rfl) ?_ | refine J4 ?_ | refine J5 ?_ | refine J6 ?_ | refine J7 ?_ | refine J8 rfl ?_ | refine J9 rfl ?_) | (refine M2 ?_; first | refine I0 ?_ | refine I1 ?_ | refine I2 ?_ | refine I3 ?_ | refine I4 ?_ | refine I5 ?_ | refine I6 rfl ?_ | refine I7 ?_ | refine I8 ?_ | refine z4 ?_) | (refine M3 ?_; first | refine O6 ?_ | refine z2 tok rfl ?_ | refine O8 rfl ?_ | refine O7 rfl ?_ rfl | refine O9 rfl ?_ rfl | refine U1 _ (Ev.load_old tok rfl rfl hl d1) rfl ?_ | refine U1 _ (U4 rfl rfl) rfl ?_ | refine U1 _ (U5 rfl rfl) rfl ?_ | refine U1 _ (U2 rfl) rfl ?_ | refine U1 _ (U3 tok rfl rfl rfl rfl rfl) rfl ?_) | (refine M4 ?_; first | refine M6 ?_ | refine U6 rfl (by kernel_rfl) ?_ | refine U7 (by kernel_rfl) ?_) | (refine M5 ?_; first | exact M7 | refine U8 rfl ?_ | refine U9 rfl rfl ?_ ?_))
  refine XE.retg tok Tryd.results106 rfl (by simp only [and_self, and_true]) (fun w' S => ?_)
  exact ⟨rfl, S.toBelow⟩
theorem check5_any {cs : List ConI} {k : Nat} (h4 : w.heap[g4]? = some (cel 109 [.map (some gm)])) (hm : w.heap[gm]? = some (mapS (nmKV cs k))) (h : w.heap[g]? = some (cel 159 (conC q c))) :
    Calls Tryd.prog 109 #[.pointer (some ⟨g4, 0, none⟩), .pointer (some ⟨g, 0, none⟩)] w fun e w' => e = .returned (.bool (seenC cs k c.name)) ∧ Below w.heap.size w w' := by
  obtain ⟨hl, c0⟩ := conBox h
  have d0 := c0 0 _ rfl
  have hl4 := (Array.getElem?_eq_some_iff.1 h4).1
  have d4 : w.cell? ⟨g4, 0, none⟩ = some (.map (some gm)) := by simp [World.cell?, h4]
  refine enter Tryd.func109 rfl Tryd.ntmps109 rfl ?_; simp only [frame, Nat.zero_add, Nat.reduceAdd]
  repeat (first | (refine M0 ?_; first | refine O0 ?_ | refine z1 tok rfl ?_ | refine O1 rfl ?_ rfl | refine O2 rfl ?_ | refine O3 rfl ?_ rfl | refine U0 _ (Ev.load_old tok rfl rfl hl4 d4) rfl ?_ | refine U0 _ (Ev.load_old tok rfl rfl hl d0) rfl ?_ | refine U0 _ (Ev.lookupM tok (nmKV cs k) rfl rfl hm (fun e he => by cases he) Tryd.underlying109 Tryd.underlying9 rfl (seenC_v cs k c.name)) rfl ?_ | refine O4 rfl rfl rfl (fun _ _ => ?_) | refine O5 tok rfl rfl rfl (fun _ _ => ?_) | refine U0 _ (U2 rfl) rfl ?_ | refine U0 _ (U3 tok rfl rfl rfl rfl rfl) rfl ?_ | refine z3 tok rfl ?_ | refine U0 _ (U4 rfl rfl) rfl ?_ | refine U0 _ (U5 rfl rfl) rfl ?_) | (refine M1 ?_; first | refine J0 ?_ | refine J1 ?_ | refine J2 mixed rfl (by kernel_rfl) ?_ | refine J3 mixed rfl rfl (by kernel_rfl) ?_ | refine J4 ?_ | refine J5 ?_ | refine J6 ?_ | refine J7 ?_ | refine J8 rfl ?_ | refine J9 rfl ?_) | (refine M2 ?_; first | refine I0 ?_ | refine I1 ?_ | refine I2 ?_ | refine I3 ?_ | refine I4 ?_ | refine I5 ?_ | refine I6 rfl ?_ | refine I7 ?_ | refine I8 ?_ | refine z4 ?_) | (refine M3 ?_; first | refine O6 ?_ | refine z2 tok rfl ?_ | refine O8 rfl ?_ | refine O7 rfl ?_ rfl | refine O9 rfl ?_ rfl | refine U1 _ (Ev.load_old tok rfl rfl hl4 d4) rfl ?_ | refine U1 _ (Ev.load_old tok rfl rfl hl d0) rfl ?_ | refine U1 _ (Ev.lookupM tok (nmKV cs k) rfl rfl hm (fun e he => by cases he) Tryd.underlying109 Tryd.underlying9 rfl (seenC_v cs k c.name)) rfl ?_ | refine U1 _ (U4 rfl rfl) rfl ?_ | refine U1 _ (U5 rfl rfl) rfl ?_ | refine U1 _ (U2 rfl) rfl ?_ | refine U1 _ (U3 tok rfl rfl rfl rfl rfl) rfl ?_) | (refine M4 ?_; first | refine M6 ?_ | refine U6 rfl (by kernel_rfl) ?_ | refine U7 (by kernel_rfl) ?_) | (refine M5 ?_; first | exact M7 | refine U8 rfl ?_ | refine U9 rfl rfl ?_ ?_))
  refine XE.retg tok Tryd.results109 rfl (by simp only [and_self, and_true]) (fun w' S => ?_)
  exact ⟨rfl, S.toBelow⟩
end
/-- what Check answers. -/
def ChkV (m : Int) (cs : List ConI) (v : Value) (new : List Held) : Prop := ∃ i e : Int, v = .tuple ⟨[.int .i64 i, .int .i64 e]⟩ ∧ (e = 0 → TabOk m cs) ∧ new = []
set_option maxHeartbeats 16000000 in
theorem tdCheck_made {r : SV} {m : Int} {cs : List ConI} {w : World} (hr : TabAt w (Lt w.heap.size) r cs) :
    Calls Tryd.prog 82 #[.agg ⟨tabC r m⟩] w (Made w (ChkV m cs)) := by
  obtain ⟨A, n, c⟩ := r
  have hn := hr.ls.len (by decide)
  have hmx := hr.ls.max
  simp only at hn hmx
  subst hn
  simp only [tabC]
  refine enter Tryd.func82 rfl Tryd.ntmps82 rfl ?_; simp only [frame, Nat.zero_add, Nat.reduceAdd]
  repeat (first | (refine M0 ?_; first | refine O0 ?_ | refine z1 tok rfl ?_ | refine O1 rfl ?_ rfl | refine O2 rfl ?_ | refine O3 rfl ?_ rfl | refine U0 _ (Ev.makeFunc rfl rfl) rfl ?_ | refine O4 rfl rfl rfl (fun _ _ => ?_) | refine O5 tok rfl rfl rfl (fun _ _ => ?_) | refine U0 _ (U2 rfl) rfl ?_ | refine U0 _ (U3 tok rfl rfl rfl rfl rfl) rfl ?_ | refine z3 tok rfl ?_ | refine U0 _ (U4 rfl rfl) rfl ?_ | refine U0 _ (U5 rfl rfl) rfl ?_ | refine XL.buildSlice tok rfl rfl rfl rfl rfl rfl rfl rfl rfl (fun _ _ => ?_)) | (refine M1 ?_; first | refine J0 ?_ | refine J1 ?_ | refine J4 ?_ | refine J5 ?_ | refine J6 ?_ | refine J7 ?_ | refine J8 rfl ?_ | refine J9 rfl ?_) | (refine M2 ?_; first | refine I0 ?_ | refine I1 ?_ | refine I2 ?_ | refine I3 ?_ | refine I4 ?_ | refine I5 ?_ | refine I6 rfl ?_ | refine I7 ?_ | refine I8 ?_ | refine z4 ?_) | (refine M3 ?_; first | refine O6 ?_ | refine z2 tok rfl ?_ | refine O8 rfl ?_ | refine O7 rfl ?_ rfl | refine O9 rfl ?_ rfl | refine U1 _ (Ev.makeFunc rfl rfl) rfl ?_ | refine U1 _ (U4 rfl rfl) rfl ?_ | refine U1 _ (U5 rfl rfl) rfl ?_ | refine U1 _ (U2 rfl) rfl ?_ | refine U1 _ (U3 tok rfl rfl rfl rfl rfl) rfl ?_) | (refine M4 ?_; first | refine M6 ?_ | refine U6 rfl (by kernel_rfl) ?_ | refine U7 (by kernel_rfl) ?_) | (refine M5 ?_; first | exact M7 | refine U8 rfl ?_ | refine U9 rfl rfl ?_ ?_))
  rename_i g1 hg1 gr hgr
  obtain ⟨rs1, hrs1⟩ : ∃ rs1 : List RuleI, rs1 = [⟨104, [.pointer (some ⟨g1, 0, none⟩)], 7, outB m (-20000) 20000⟩, ⟨106, [.pointer (some ⟨g1, 0, none⟩)], 3, decide ((12 : Int) < (cs.length : Int))⟩] := ⟨_, rfl⟩
  refine XL.step _ (Ev.call (f := 103) (ck rfl) rfl (fun w5 S5 => (first_any (r := ⟨some ⟨gr, 0, none⟩, 2, 2⟩) (rs := [⟨104, [.pointer (some ⟨g1, 0, none⟩)], 7, outB m (-20000) 20000⟩, ⟨106, [.pointer (some ⟨g1, 0, none⟩)], 3, decide ((12 : Int) < (cs.length : Int))⟩]) ⟨(ReadsP.block (S5.own _ List.mem_cons_self).2 (Nat.zero_le _) rfl).mono fun j hj => hj.2, by simp, fun a ha x hx => by cases hx⟩ (by simp) (fun k hk hb => by
    have h1 := fun (w' : World) (hb : Below w5.heap.size w5 w') => (hb.block g1 (S5.lt (e := (g1, _)) (.tail _ (.head _)))).trans (S5.own (g1, _) (.tail _ (.head _))).2
    match k, hk with
    | 0, _ => exact ⟨ck rfl, fun w' hb => check1_any (r := ⟨A, cs.length, c⟩) (h1 w' hb)⟩
    | 1, _ => exact ⟨ck rfl, fun w' hb => check2_any (r := ⟨A, cs.length, c⟩) (m := m) (h1 w' hb)⟩)))) rfl ?_
  rw [← hrs1]
  repeat (first | (refine M0 ?_; first | refine O0 ?_ | refine z1 tok rfl ?_ | refine O1 rfl ?_ rfl | refine O2 rfl ?_ | refine O3 rfl ?_ rfl | refine O4 rfl rfl rfl (fun _ _ => ?_) | refine O5 tok rfl rfl rfl (fun _ _ => ?_) | refine U0 _ (U2 rfl) rfl ?_ | refine U0 _ (U3 tok rfl rfl rfl rfl rfl) rfl ?_ | refine z3 tok rfl ?_ | refine U0 _ (U4 rfl rfl) rfl ?_ | refine U0 _ (U5 rfl rfl) rfl ?_) | (refine M1 ?_; first | refine J0 ?_ | refine J1 ?_ | refine J4 ?_ | refine J5 ?_ | refine J6 ?_ | refine J7 ?_ | refine J8 rfl ?_ | refine J9 rfl ?_) | (refine M2 ?_; first | refine I0 ?_ | refine I1 ?_ | refine I2 ?_ | refine I3 ?_ | refine I4 ?_ | refine I5 ?_ | refine I6 rfl ?_ | refine I7 ?_ | refine I8 ?_ | refine z4 ?_) | (refine M3 ?_; first | refine O6 ?_ | refine z2 tok rfl ?_ | refine O8 rfl ?_ | refine O7 rfl ?_ rfl | refine O9 rfl ?_ rfl | refine U1 _ (U4 rfl rfl) rfl ?_ | refine U1 _ (U5 rfl rfl) rfl ?_ | refine U1 _ (U2 rfl) rfl ?_ | refine U1 _ (U3 tok rfl rfl rfl rfl rfl) rfl ?_) | (refine M4 ?_; first | refine M6 ?_ | refine U6 rfl (by kernel_rfl) ?_ | refine U7 (by kernel_rfl) ?_) | (refine M5 ?_; first | exact M7 | refine U8 rfl ?_ | refine U9 rfl rfl ?_ ?_))
  refine XC.cond _ rfl (fun h0 => ?_) (fun h0 => ?_)
  · repeat (first | (refine M0 ?_; first | refine O0 ?_ | refine z1 tok rfl ?_ | refine O1 rfl ?_ rfl | refine O2 rfl ?_ | refine O3 rfl ?_ rfl | refine O4 rfl rfl rfl (fun _ _ => ?_) | refine O5 tok rfl rfl rfl (fun _ _ => ?_) | refine U0 _ (U2 rfl) rfl ?_ | refine U0 _ (U3 tok rfl rfl rfl rfl rfl) rfl ?_ | refine z3 tok rfl ?_ | refine U0 _ (U4 rfl rfl) rfl ?_ | refine U0 _ (U5 rfl rfl) rfl ?_) | (refine M1 ?_; first | refine J0 ?_ | refine J1 ?_ | refine J4 ?_ | refine J5 ?_ | refine J6 ?_ | refine J7 ?_ | refine J8 rfl ?_ | refine J9 rfl ?_) | (refine M2 ?_; first | refine I0 ?_ | refine I1 ?_ | refine I2 ?_ | refine I3 ?_ | refine I4 ?_ | refine I5 ?_ | refine I6 rfl ?_ | refine I7 ?_ | refine I8 ?_ | refine z4 ?_) | (refine M3 ?_; first | refine O6 ?_ | refine z2 tok rfl ?_ | refine O8 rfl ?_ | refine O7 rfl ?_ rfl | refine O9 rfl ?_ rfl | refine U1 _ (U4 rfl rfl) rfl ?_ | refine U1 _ (U5 rfl rfl) rfl ?_ | refine U1 _ (U2 rfl) rfl ?_ | refine U1 _ (U3 tok rfl rfl rfl rfl rfl) rfl ?_) | (refine M4 ?_; first | refine M6 ?_ | refine U6 rfl (by kernel_rfl) ?_ | refine U7 (by kernel_rfl) ?_) | (refine M5 ?_; first | exact M7 | refine U8 rfl ?_ | refine U9 rfl rfl ?_ ?_))
    refine XE.retg tok Tryd.results82 rfl (by simp only [and_self, and_true]) (fun w' S => ?_)
    exact ⟨_, [], rfl, ⟨-1, _, rfl, fun h => absurd h (by simpa using h0), rfl⟩, (fun x hx => by cases hx), S.toBelow⟩
  have hE0 : firstE rs1 = 0 := by simpa using h0
  have hB := firstE_0 (by rw [hrs1]; intro a ha; simp only [List.mem_cons, List.not_mem_nil, or_false] at ha; rcases ha with rfl | rfl <;> simp) hE0
  rw [hrs1] at hB
  have hB1 : outB m (-20000) 20000 = false := hB _ (.head _)
  have hB2 : decide ((12 : Int) < (cs.length : Int)) = false := hB _ (.tail _ (.head _))
  have hmap := Tryd.underlying109
  have hstr := Tryd.underlying9
  repeat (first | (refine M0 ?_; first | refine O0 ?_ | refine z1 tok rfl ?_ | refine O1 rfl ?_ rfl | refine O2 rfl ?_ | refine O3 rfl ?_ rfl | refine O4 rfl rfl rfl (fun _ _ => ?_) | refine O5 tok rfl rfl rfl (fun _ _ => ?_) | refine U0 _ (U2 rfl) rfl ?_ | refine U0 _ (U3 tok rfl rfl rfl rfl rfl) rfl ?_ | refine z3 tok rfl ?_ | refine U0 _ (U4 rfl rfl) rfl ?_ | refine U0 _ (U5 rfl rfl) rfl ?_ | refine XL.makeMap rfl (fun _ _ => ?_)) | (refine M1 ?_; first | refine J0 ?_ | refine J1 ?_ | refine J4 ?_ | refine J5 ?_ | refine J6 ?_ | refine J7 ?_ | refine J8 rfl ?_ | refine J9 rfl ?_) | (refine M2 ?_; first | refine I0 ?_ | refine I1 ?_ | refine I2 ?_ | refine I3 ?_ | refine I4 ?_ | refine I5 ?_ | refine I6 rfl ?_ | refine I7 ?_ | refine I8 ?_ | refine z4 ?_) | (refine M3 ?_; first | refine O6 ?_ | refine z2 tok rfl ?_ | refine O8 rfl ?_ | refine O7 rfl ?_ rfl | refine O9 rfl ?_ rfl | refine U1 _ (U4 rfl rfl) rfl ?_ | refine U1 _ (U5 rfl rfl) rfl ?_ | refine U1 _ (U2 rfl) rfl ?_ | refine U1 _ (U3 tok rfl rfl rfl rfl rfl) rfl ?_) | (refine M4 ?_; first | refine M6 ?_ | refine U6 rfl (by kernel_rfl) ?_ | refine U7 (by kernel_rfl) ?_) | (refine M5 ?_; first | exact M7 | refine U8 rfl ?_ | refine U9 rfl rfl ?_ ?_))
  rename_i gm hgm g4 hg4
  refine XC.loopk [4, 20, 21] rfl (fun k : Nat => [(22, .int .i64 (k : Nat))]) (fun k => [(g4, cel 109 [.map (some gm)]), (gm, mapS (nmKV cs k)), _, _]) (fun _ => w) (fun k => k ≤ cs.length ∧ ∀ j, (h : j < cs.length) → j < k → ConOk cs[j].c) (fun k => cs.length - k) 0 ⟨Nat.zero_le _, fun j h hj => absurd hj (by omega)⟩ (by repeat (first | exact Sub.nil | refine Sub.cons rfl ?_)) (fun _ h => h) ?_
  rintro k ⟨hk, hok⟩
  dsimp only [List.cons_append, List.nil_append]
  repeat (first | (refine M0 ?_; first | refine O0 ?_ | refine z1 tok rfl ?_ | refine O1 rfl ?_ rfl | refine O2 rfl ?_ | refine O3 rfl ?_ rfl | refine O4 rfl rfl rfl (fun _ _ => ?_) | refine O5 tok rfl rfl rfl (fun _ _ => ?_) | refine U0 _ (U2 rfl) rfl ?_ | refine U0 _ (U3 tok rfl rfl rfl rfl rfl) rfl ?_ | refine z3 tok rfl ?_ | refine U0 _ (U4 rfl rfl) rfl ?_ | refine U0 _ (U5 rfl rfl) rfl ?_) | (refine M1 ?_; first | refine J0 ?_ | refine J1 ?_ | refine J4 ?_ | refine J5 ?_ | refine J6 ?_ | refine J7 ?_ | refine J8 rfl ?_ | refine J9 rfl ?_) | (refine M2 ?_; first | refine I0 ?_ | refine I1 ?_ | refine I2 ?_ | refine I3 ?_ | refine I4 ?_ | refine I5 ?_ | refine I6 rfl ?_ | refine I7 ?_ | refine I8 ?_ | refine z4 ?_) | (refine M3 ?_; first | refine O6 ?_ | refine z2 tok rfl ?_ | refine O8 rfl ?_ | refine O7 rfl ?_ rfl | refine O9 rfl ?_ rfl | refine U1 _ (U4 rfl rfl) rfl ?_ | refine U1 _ (U5 rfl rfl) rfl ?_ | refine U1 _ (U2 rfl) rfl ?_ | refine U1 _ (U3 tok rfl rfl rfl rfl rfl) rfl ?_) | (refine M4 ?_; first | refine M6 ?_ | refine U6 rfl (by kernel_rfl) ?_ | refine U7 (by kernel_rfl) ?_) | (refine M5 ?_; first | exact M7 | refine U8 rfl ?_ | refine U9 rfl rfl ?_ ?_))
  refine XC.cond _ rfl (fun h1 => ?_) (fun h1 => ?_)
  rotate_left
  · have hkn : k = cs.length := by have : ¬ (k < cs.length) := by simpa using h1
                                   omega
    subst hkn
    repeat (first | (refine M0 ?_; first | refine O0 ?_ | refine z1 tok rfl ?_ | refine O1 rfl ?_ rfl | refine O2 rfl ?_ | refine O3 rfl ?_ rfl | refine O4 rfl rfl rfl (fun _ _ => ?_) | refine O5 tok rfl rfl rfl (fun _ _ => ?_) | refine U0 _ (U2 rfl) rfl ?_ | refine U0 _ (U3 tok rfl rfl rfl rfl rfl) rfl ?_ | refine z3 tok rfl ?_ | refine U0 _ (U4 rfl rfl) rfl ?_ | refine U0 _ (U5 rfl rfl) rfl ?_) | (refine M1 ?_; first | refine J0 ?_ | refine J1 ?_ | refine J4 ?_ | refine J5 ?_ | refine J6 ?_ | refine J7 ?_ | refine J8 rfl ?_ | refine J9 rfl ?_) | (refine M2 ?_; first | refine I0 ?_ | refine I1 ?_ | refine I2 ?_ | refine I3 ?_ | refine I4 ?_ | refine I5 ?_ | refine I6 rfl ?_ | refine I7 ?_ | refine I8 ?_ | refine z4 ?_) | (refine M3 ?_; first | refine O6 ?_ | refine z2 tok rfl ?_ | refine O8 rfl ?_ | refine O7 rfl ?_ rfl | refine O9 rfl ?_ rfl | refine U1 _ (U4 rfl rfl) rfl ?_ | refine U1 _ (U5 rfl rfl) rfl ?_ | refine U1 _ (U2 rfl) rfl ?_ | refine U1 _ (U3 tok rfl rfl rfl rfl rfl) rfl ?_) | (refine M4 ?_; first | refine M6 ?_ | refine U6 rfl (by kernel_rfl) ?_ | refine U7 (by kernel_rfl) ?_) | (refine M5 ?_; first | exact M7 | refine U8 rfl ?_ | refine U9 rfl rfl ?_ ?_))
    refine XE.retg tok Tryd.results82 rfl (by simp only [and_self, and_true]) (fun w' S => ?_)
    refine ⟨_, [], rfl, ⟨0, 0, rfl, fun _ => ⟨outB_f.1 hB1, by have := of_decide_eq_false hB2; omega, fun a ha => ?_⟩, rfl⟩, (fun x hx => by cases hx), S.toBelow⟩
    obtain ⟨j, hj, rfl⟩ := List.mem_iff_getElem.1 ha
    exact hok j hj hj
  have hkn : k < cs.length := by simpa using h1
  obtain ⟨ad, rfl, hlt⟩ := hr.ls.addr (by decide) (by omega)
  have hcell : ∀ j u, cs[k].v[j]? = some u → w.cell? ((ad.add (k * 6)).add j) = some u := hr.ls.elem (List.getElem?_eq_getElem hkn)
  have hq : IntsAt w (Lt w.heap.size) cs[k].q cs[k].c.hs := hr.ls.ins _ (List.getElem_mem hkn) (hInts _ _) (.head _)
  have hnm := hr.nm _ (List.getElem_mem hkn)
  have hsu := nmKV_succ hkn
  have hokk : ∀ j, (h : j < cs.length) → j < k + 1 → ConOk cs[k].c → ConOk cs[j].c := fun j h hj ho => by
    by_cases e : j = k
    · subst e; exact ho
    · exact hok j h (by omega)
  obtain ⟨a, haa⟩ : ∃ a, a = cs[k] := ⟨_, rfl⟩
  rw [← haa] at hcell hq hnm hsu
  simp only [← haa] at hokk
  obtain ⟨cn, ⟨Aq, nq, cq⟩⟩ := a
  have hcell' : ∀ j u, (conC ⟨Aq, nq, cq⟩ cn)[j]? = some u → w.cell? ((ad.add (k * 6)).add j) = some u := hcell
  simp only at hq hnm hsu hokk
  have hnq := hq.len
  simp only at hnq
  repeat (first | (refine M0 ?_; first | refine O0 ?_ | refine z1 tok rfl ?_ | refine O1 rfl ?_ rfl | refine O2 rfl ?_ | refine O3 rfl ?_ rfl | refine U0 _ (Ev.load_old_agg tok (conC ⟨Aq, nq, cq⟩ cn) rfl rfl rfl (add_lt hlt) hcell') rfl ?_ | refine U0 _ (Ev.makeFunc rfl rfl) rfl ?_ | refine O4 rfl rfl rfl (fun _ _ => ?_) | refine O5 tok rfl rfl rfl (fun _ _ => ?_) | refine U0 _ (U2 rfl) rfl ?_ | refine U0 _ (U3 tok rfl rfl rfl rfl rfl) rfl ?_ | refine z3 tok rfl ?_ | refine U0 _ (U4 rfl rfl) rfl ?_ | refine U0 _ (U5 rfl rfl) rfl ?_ | refine XL.buildSlice tok rfl rfl rfl rfl rfl rfl rfl rfl rfl (fun _ _ => ?_)) | (refine M1 ?_; first | refine J0 ?_ | refine J1 ?_ | refine J4 ?_ | refine J5 ?_ | refine J6 ?_ | refine J7 ?_ | refine J8 rfl ?_ | refine J9 rfl ?_) | (refine M2 ?_; first | refine I0 ?_ | refine I1 ?_ | refine I2 ?_ | refine I3 ?_ | refine I4 ?_ | refine I5 ?_ | refine I6 rfl ?_ | refine I7 ?_ | refine I8 ?_ | refine z4 ?_) | (refine M3 ?_; first | refine O6 ?_ | refine z2 tok rfl ?_ | refine O8 rfl ?_ | refine O7 rfl ?_ rfl | refine O9 rfl ?_ rfl | refine U1 _ (Ev.load_old_agg tok (conC ⟨Aq, nq, cq⟩ cn) rfl rfl rfl (add_lt hlt) hcell') rfl ?_ | refine U1 _ (Ev.makeFunc rfl rfl) rfl ?_ | refine U1 _ (U4 rfl rfl) rfl ?_ | refine U1 _ (U5 rfl rfl) rfl ?_ | refine U1 _ (U2 rfl) rfl ?_ | refine U1 _ (U3 tok rfl rfl rfl rfl rfl) rfl ?_) | (refine M4 ?_; first | refine M6 ?_ | refine U6 rfl (by kernel_rfl) ?_ | refine U7 (by kernel_rfl) ?_) | (refine M5 ?_; first | exact M7 | refine U8 rfl ?_ | refine U9 rfl rfl ?_ ?_))
  rename_i g6 hg6 g7 hg7 gr2 hgr2
  obtain ⟨rs2, hrs2⟩ : ∃ rs2 : List RuleI, rs2 = [⟨108, [.pointer (some ⟨g6, 0, none⟩)], 6, !nameB cn.name⟩, ⟨109, [.pointer (some ⟨g4, 0, none⟩), .pointer (some ⟨g6, 0, none⟩)], 5, seenC cs k cn.name⟩, ⟨110, [.pointer (some ⟨g6, 0, none⟩)], 3, outB cn.hs.length 2 48⟩, ⟨111, [.pointer (some ⟨g6, 0, none⟩), .pointer (some ⟨g7, 0, none⟩)], 7, badC cn⟩] := ⟨_, rfl⟩
  refine XL.step _ (Ev.call (f := 103) (ck rfl) rfl (fun w5 S5 => (first_any (r := ⟨some ⟨gr2, 0, none⟩, 4, 4⟩) (rs := [⟨108, [.pointer (some ⟨g6, 0, none⟩)], 6, !nameB cn.name⟩, ⟨109, [.pointer (some ⟨g4, 0, none⟩), .pointer (some ⟨g6, 0, none⟩)], 5, seenC cs k cn.name⟩, ⟨110, [.pointer (some ⟨g6, 0, none⟩)], 3, outB cn.hs.length 2 48⟩, ⟨111, [.pointer (some ⟨g6, 0, none⟩), .pointer (some ⟨g7, 0, none⟩)], 7, badC cn⟩]) ⟨(ReadsP.block (S5.own _ List.mem_cons_self).2 (Nat.zero_le _) rfl).mono fun j hj => hj.2, by simp, fun a ha x hx => by cases hx⟩ (by simp) (fun k hk hb => by
    have h6 := fun (w' : World) (hb : Below w5.heap.size w5 w') => (hb.block g6 (S5.lt (e := (g6, _)) (.tail _ (.tail _ (.head _))))).trans (S5.own (g6, _) (.tail _ (.tail _ (.head _)))).2
    have h7 := fun (w' : World) (hb : Below w5.heap.size w5 w') => (hb.block g7 (S5.lt (e := (g7, _)) (.tail _ (.head _)))).trans (S5.own (g7, _) (.tail _ (.head _))).2
    have h4 := fun (w' : World) (hb : Below w5.heap.size w5 w') => (hb.block g4 (S5.lt (e := (g4, _)) (.tail _ (.tail _ (.tail _ (.head _)))))).trans (S5.own (g4, _) (.tail _ (.tail _ (.tail _ (.head _))))).2
    have hm := fun (w' : World) (hb : Below w5.heap.size w5 w') => (hb.block gm (S5.lt (e := (gm, _)) (.tail _ (.tail _ (.tail _ (.tail _ (.head _))))))).trans (S5.own (gm, _) (.tail _ (.tail _ (.tail _ (.tail _ (.head _)))))).2
    match k, hk with
    | 0, _ => exact ⟨ck rfl, fun w' hb => check4_any (q := ⟨Aq, nq, cq⟩) (h6 w' hb) hnm⟩
    | 1, _ => exact ⟨ck rfl, fun w' hb => check5_any (q := ⟨Aq, nq, cq⟩) (h4 w' hb) (hm w' hb) (h6 w' hb)⟩
    | 2, _ => exact ⟨ck rfl, fun w' hb => check6_any (q := ⟨Aq, nq, cq⟩) (h6 w' hb) hnq⟩
    | 3, _ =>
      have h48 : outB cn.hs.length 2 48 = false := hb 2 (by omega)
      exact ⟨ck rfl, fun w' hb => check7_any (q := ⟨Aq, nq, cq⟩) (h6 w' hb) (h7 w' hb) (((hq.arg S5).below hb).mono fun j hj => Nat.lt_of_lt_of_le hj hb.size) (by have := outB_f.1 h48; omega)⟩)))) rfl ?_
  rw [← hrs2]
  repeat (first | (refine M0 ?_; first | refine O0 ?_ | refine z1 tok rfl ?_ | refine O1 rfl ?_ rfl | refine O2 rfl ?_ | refine O3 rfl ?_ rfl | refine O4 rfl rfl rfl (fun _ _ => ?_) | refine O5 tok rfl rfl rfl (fun _ _ => ?_) | refine U0 _ (U2 rfl) rfl ?_ | refine U0 _ (U3 tok rfl rfl rfl rfl rfl) rfl ?_ | refine z3 tok rfl ?_ | refine U0 _ (U4 rfl rfl) rfl ?_ | refine U0 _ (U5 rfl rfl) rfl ?_) | (refine M1 ?_; first | refine J0 ?_ | refine J1 ?_ | refine J4 ?_ | refine J5 ?_ | refine J6 ?_ | refine J7 ?_ | refine J8 rfl ?_ | refine J9 rfl ?_) | (refine M2 ?_; first | refine I0 ?_ | refine I1 ?_ | refine I2 ?_ | refine I3 ?_ | refine I4 ?_ | refine I5 ?_ | refine I6 rfl ?_ | refine I7 ?_ | refine I8 ?_ | refine z4 ?_) | (refine M3 ?_; first | refine O6 ?_ | refine z2 tok rfl ?_ | refine O8 rfl ?_ | refine O7 rfl ?_ rfl | refine O9 rfl ?_ rfl | refine U1 _ (U4 rfl rfl) rfl ?_ | refine U1 _ (U5 rfl rfl) rfl ?_ | refine U1 _ (U2 rfl) rfl ?_ | refine U1 _ (U3 tok rfl rfl rfl rfl rfl) rfl ?_) | (refine M4 ?_; first | refine M6 ?_ | refine U6 rfl (by kernel_rfl) ?_ | refine U7 (by kernel_rfl) ?_) | (refine M5 ?_; first | exact M7 | refine U8 rfl ?_ | refine U9 rfl rfl ?_ ?_))
  refine XC.cond _ rfl (fun h2 => ?_) (fun h2 => ?_)
  · repeat (first | (refine M0 ?_; first | refine O0 ?_ | refine z1 tok rfl ?_ | refine O1 rfl ?_ rfl | refine O2 rfl ?_ | refine O3 rfl ?_ rfl | refine O4 rfl rfl rfl (fun _ _ => ?_) | refine O5 tok rfl rfl rfl (fun _ _ => ?_) | refine U0 _ (U2 rfl) rfl ?_ | refine U0 _ (U3 tok rfl rfl rfl rfl rfl) rfl ?_ | refine z3 tok rfl ?_ | refine U0 _ (U4 rfl rfl) rfl ?_ | refine U0 _ (U5 rfl rfl) rfl ?_) | (refine M1 ?_; first | refine J0 ?_ | refine J1 ?_ | refine J4 ?_ | refine J5 ?_ | refine J6 ?_ | refine J7 ?_ | refine J8 rfl ?_ | refine J9 rfl ?_) | (refine M2 ?_; first | refine I0 ?_ | refine I1 ?_ | refine I2 ?_ | refine I3 ?_ | refine I4 ?_ | refine I5 ?_ | refine I6 rfl ?_ | refine I7 ?_ | refine I8 ?_ | refine z4 ?_) | (refine M3 ?_; first | refine O6 ?_ | refine z2 tok rfl ?_ | refine O8 rfl ?_ | refine O7 rfl ?_ rfl | refine O9 rfl ?_ rfl | refine U1 _ (U4 rfl rfl) rfl ?_ | refine U1 _ (U5 rfl rfl) rfl ?_ | refine U1 _ (U2 rfl) rfl ?_ | refine U1 _ (U3 tok rfl rfl rfl rfl rfl) rfl ?_) | (refine M4 ?_; first | refine M6 ?_ | refine U6 rfl (by kernel_rfl) ?_ | refine U7 (by kernel_rfl) ?_) | (refine M5 ?_; first | exact M7 | refine U8 rfl ?_ | refine U9 rfl rfl ?_ ?_))
    refine XE.retg tok Tryd.results82 rfl (by simp only [and_self, and_true]) (fun w' S => ?_)
    exact ⟨_, [], rfl, ⟨(k : Nat), _, rfl, fun h => absurd h (by simpa using h2), rfl⟩, (fun x hx => by cases hx), S.toBelow⟩
  have hE2 : firstE rs2 = 0 := by simpa using h2
  have hC := firstE_0 (by rw [hrs2]; intro a ha; simp only [List.mem_cons, List.not_mem_nil, or_false] at ha; rcases ha with rfl | rfl | rfl | rfl <;> simp) hE2
  rw [hrs2] at hC
  have c2 : seenC cs k cn.name = false := hC _ (.tail _ (.head _))
  have c3 : outB cn.hs.length 2 48 = false := hC _ (.tail _ (.tail _ (.head _)))
  have c4 : badC cn = false := hC _ (.tail _ (.tail _ (.tail _ (.head _))))
  have hcon : ConOk cn := by
    simp only [badC, Bool.or_eq_false_iff, List.any_eq_false] at c4
    obtain ⟨d1, d2, d3, d4, d5⟩ := c4
    refine ⟨by have := outB_f.1 c3; omega, fun i hi => ?_, outB_f.1 d4, outB_f.1 d2, outB_f.1 d1, outB_f.1 d3⟩
    have := d5 cn.hs[i] (List.getElem_mem hi)
    rw [List.getElem?_eq_getElem hi]
    exact outB_f.1 (by simpa using this)
  have hnone : findS (nmKV cs k) cn.name = none := by
    unfold seenC at c2
    cases h : findS (nmKV cs k) cn.name with
    | none => rfl
    | some v => rw [h] at c2; cases c2
  repeat (first | (refine M0 ?_; first | refine O0 ?_ | refine z1 tok rfl ?_ | refine O1 rfl ?_ rfl | refine O2 rfl ?_ | refine O3 rfl ?_ rfl | refine O4 rfl rfl rfl (fun _ _ => ?_) | refine O5 tok rfl rfl rfl (fun _ _ => ?_) | refine U0 _ (U2 rfl) rfl ?_ | refine U0 _ (U3 tok rfl rfl rfl rfl rfl) rfl ?_ | refine z3 tok rfl ?_ | refine U0 _ (U4 rfl rfl) rfl ?_ | refine U0 _ (U5 rfl rfl) rfl ?_) | (refine M1 ?_; first | refine J0 ?_ | refine J1 ?_ | refine J4 ?_ | refine J5 ?_ | refine J6 ?_ | refine J7 ?_ | refine J8 rfl ?_ | refine J9 rfl ?_) | (refine M2 ?_; first | refine I0 ?_ | refine I1 ?_ | refine I2 ?_ | refine I3 ?_ | refine I4 ?_ | refine I5 ?_ | refine I6 rfl ?_ | refine I7 ?_ | refine I8 ?_ | refine z4 ?_) | (refine M3 ?_; first | refine O6 ?_ | refine z2 tok rfl ?_ | refine O8 rfl ?_ | refine O7 rfl ?_ rfl | refine O9 rfl ?_ rfl | refine U1 _ (U4 rfl rfl) rfl ?_ | refine U1 _ (U5 rfl rfl) rfl ?_ | refine U1 _ (U2 rfl) rfl ?_ | refine U1 _ (U3 tok rfl rfl rfl rfl rfl) rfl ?_) | (refine M4 ?_; first | refine M6 ?_ | refine U6 rfl (by kernel_rfl) ?_ | refine U7 (by kernel_rfl) ?_) | (refine M5 ?_; first | exact M7 | refine U8 rfl ?_ | refine U9 rfl rfl ?_ ?_))
  refine XL.updateS 4 (nmKV cs k) rfl rfl rfl rfl hmap hstr hnone rfl ?_
  rw [← hsu]
  repeat (first | (refine M0 ?_; first | refine O0 ?_ | refine z1 tok rfl ?_ | refine O1 rfl ?_ rfl | refine O2 rfl ?_ | refine O3 rfl ?_ rfl | refine O4 rfl rfl rfl (fun _ _ => ?_) | refine O5 tok rfl rfl rfl (fun _ _ => ?_) | refine U0 _ (U2 rfl) rfl ?_ | refine U0 _ (U3 tok rfl rfl rfl rfl rfl) rfl ?_ | refine z3 tok rfl ?_ | refine U0 _ (U4 rfl rfl) rfl ?_ | refine U0 _ (U5 rfl rfl) rfl ?_) | (refine M1 ?_; first | refine J0 ?_ | refine J1 ?_ | refine J4 ?_ | refine J5 ?_ | refine J6 ?_ | refine J7 ?_ | refine J8 rfl ?_ | refine J9 rfl ?_) | (refine M2 ?_; first | refine I0 ?_ | refine I1 ?_ | refine I2 ?_ | refine I3 ?_ | refine I4 ?_ | refine I5 ?_ | refine I6 rfl ?_ | refine I7 ?_ | refine I8 ?_ | refine z4 ?_) | (refine M3 ?_; first | refine O6 ?_ | refine z2 tok rfl ?_ | refine O8 rfl ?_ | refine O7 rfl ?_ rfl | refine O9 rfl ?_ rfl | refine U1 _ (U4 rfl rfl) rfl ?_ | refine U1 _ (U5 rfl rfl) rfl ?_ | refine U1 _ (U2 rfl) rfl ?_ | refine U1 _ (U3 tok rfl rfl rfl rfl rfl) rfl ?_) | (refine M4 ?_; first | refine M6 ?_ | refine U6 rfl (by kernel_rfl) ?_ | refine U7 (by kernel_rfl) ?_) | (refine M5 ?_; first | exact M7 | refine U8 rfl ?_ | refine U9 rfl rfl ?_ ?_))
  exact XE.round (k + 1) ⟨hkn, fun j h hj => hokk j h hj hcon⟩ (by omega) (by repeat (first | exact Sub.nil | refine Sub.cons rfl ?_)) (fun _ h => ((h.pop hgr2).pop hg7).pop hg6)
end Go.Proofs.YtoiepgcjinccpaaDoor.X
