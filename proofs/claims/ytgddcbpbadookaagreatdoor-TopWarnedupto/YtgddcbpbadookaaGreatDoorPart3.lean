/-
  Rows of the call's own that grow, and what else was made in the call: one word for all of it.
-/
import Derived.Test.YtgddcbpbadookaaGreatDoorPart2
import Derived.Test.YtgddcbpbadookaaGreatDoorPart1
import Derived.Laws.MakeOwn
import Derived.Scope
import Derived.Laws.Small
import Derived.DeepKeys3
import Derived.Laws.CopyRow
import Derived.Laws.IdiomCopy
import Derived.OrdersIn
import Derived.Test.YtgddcbpbadookaaGreatDoorProg
import Derived.WalkKit
import Derived.LaidEql
import Derived.Stop.Asserts
import Derived.RowKitTokens
import Derived.KernelRfl
import Derived.Laws.StructEq
namespace Go.Proofs.YtgddcbpbadookaaGreatDoor
set_option linter.unusedVariables false
set_option linter.unusedSimpArgs false
namespace X
open Go Go.RowKit
structure Held where
  p : World → (Nat → Prop) → Prop
  keep : ∀ {w w' : World} {ok : Nat → Prop}, p w ok → (∀ k, ok k → w'.heap[k]? = w.heap[k]?) → p w' ok
  mono : ∀ {w : World} {ok ok' : Nat → Prop}, p w ok → (∀ k, ok k → ok' k) → p w ok'
structure Kind (α : Type) where
  ty : TypeId
  m : Nat
  c : α → List Value
  sl : α → List Held
  len : ∀ a, (c a).length = m
structure ListAt {α : Type} (K : Kind α) (W : World) (ok : Nat → Prop) (r : SV) (l : List α) : Prop where
  rd : ReadsP W ok K.m r.A r.n (l.flatMap K.c)
  max : r.n ≤ 9223372036854775807
  ins : ∀ a, a ∈ l → ∀ h, h ∈ K.sl a → h.p W ok
section
variable {α : Type} {K : Kind α} {w w' w0 W : World} {ok ok' : Nat → Prop} {B : Nat} {r : SV} {l : List α} {L : Lo}
theorem ListAt.keep (h : ListAt K w ok r l) (hk : ∀ k, ok k → w'.heap[k]? = w.heap[k]?) : ListAt K w' ok r l := ⟨h.rd.keep hk, h.max, fun a ha x hx => x.keep (h.ins a ha x hx) hk⟩
theorem ListAt.mono (h : ListAt K w ok r l) (hk : ∀ k, ok k → ok' k) : ListAt K w ok' r l := ⟨h.rd.mono hk, h.max, fun a ha x hx => x.mono (h.ins a ha x hx) hk⟩
theorem ListAt.below (h : ListAt K w (Lt B) r l) (hb : Below B w w') : ListAt K w' (Lt B) r l := h.keep fun k hk => hb.block k hk
theorem ListAt.len (h : ListAt K w ok r l) (h0 : 0 < K.m) : r.n = l.length := by
  have := h.rd.len
  rw [flat_len K.c K.m K.len] at this
  exact (Nat.eq_of_mul_eq_mul_right h0 this).symm
theorem ListAt.nil : ListAt K w ok ⟨none, 0, 0⟩ [] := ⟨ReadsP.nil, Nat.zero_le _, fun a ha => by cases ha⟩
theorem ListAt.elem {ad : Addr} {n c : Nat} (h : ListAt K w ok ⟨some ad, n, c⟩ l) {k : Nat} {a : α} (hk : l[k]? = some a) : ∀ j u, (K.c a)[j]? = some u → w.cell? ((ad.add (k * K.m)).add j) = some u := fun j u hj => by
  have hj3 : j < K.m := by have := (List.getElem?_eq_some_iff.1 hj).1; rwa [K.len] at this
  have hn := h.len (by omega)
  have hkl := (List.getElem?_eq_some_iff.1 hk).1
  obtain ⟨ad', e, _, h1⟩ := h.rd.at_ (by simp only at hn ⊢; omega)
  cases e
  have e2 := flat_at K.c K.m K.len l k j a hk hj3
  have := h1 (k * K.m + j) u (e2.trans hj)
  rw [add_add]
  exact this
theorem ListAt.addr {A : Option Addr} {n c : Nat} (h : ListAt K w ok ⟨A, n, c⟩ l) (h0 : 0 < K.m) (hn : 0 < l.length) : ∃ ad, A = some ad ∧ ok ad.block := by
  have := h.len h0
  obtain ⟨ad, e, h1, _⟩ := h.rd.at_ (by simp only at this ⊢; omega)
  exact ⟨ad, e, h1⟩
end
theorem owns_move' {W W' : World} {v : Value} {base e size n : Nat} {xs : List Value} (h : W.ownsRow base e size v n xs) (hk : ∀ k, v.ownBlock = some k → W'.heap[k]? = W.heap[k]?) : W'.ownsRow base e size v n xs := by
  refine ⟨h.1, ?_⟩
  rcases h.2 with h1 | ⟨g, cap, cur, rfl, hb, hg, h1⟩
  · exact .inl h1
  · exact .inr ⟨g, cap, cur, rfl, hb, by rw [hk g rfl]; exact hg, h1⟩
def hList {α : Type} (K : Kind α) (r : SV) (l : List α) : Held := ⟨fun w ok => ListAt K w ok r l, ListAt.keep, ListAt.mono⟩
def hInts (q : SV) (l : List Int) : Held := ⟨fun w ok => IntsAt w ok q l, IntsAt.keep, IntsAt.mono⟩
structure RowX where
  α : Type
  K : Kind α
  v : Value
  l : List α
def Free (W : World) (b0 : Nat) (ks : List Nat) (rs : List RowX) (j : Nat) : Prop := b0 ≤ j ∧ j < W.heap.size ∧ j ∉ ks ∧ ∀ r, r ∈ rs → r.v.ownBlock ≠ some j
structure Fam (W : World) (b0 : Nat) (ks : List Nat) (rs : List RowX) (hs : List Held) : Prop where
  base : b0 ≤ W.heap.size
  row : ∀ r, r ∈ rs → W.ownsRow b0 r.K.ty r.K.m r.v r.l.length (r.l.flatMap r.K.c)
  sep : ∀ r, r ∈ rs → ∀ k, r.v.ownBlock = some k → k ∉ ks
  two : rs.Pairwise fun r s => ∀ k, r.v.ownBlock = some k → s.v.ownBlock ≠ some k
  ins : ∀ r, r ∈ rs → ∀ a, a ∈ r.l → ∀ h, h ∈ r.K.sl a → h.p W (Free W b0 ks rs)
  held : ∀ h, h ∈ hs → h.p W (Free W b0 ks rs)
section
variable {W W' w w0 w1 w2 : World} {b0 B : Nat} {ks ks' : List Nat} {rs : List RowX} {hs hs' : List Held} {L : Lo}
theorem Fam.start (h : b0 ≤ W.heap.size) : Fam W b0 ks [] [] := ⟨h, fun _ h => (by cases h), fun _ h => (by cases h), .nil, fun _ h => (by cases h), fun _ h => (by cases h)⟩
theorem Fam.lt (h : Fam W b0 ks rs hs) {r : RowX} (hr : r ∈ rs) {k : Nat} (hk : r.v.ownBlock = some k) : b0 ≤ k ∧ k < W.heap.size := (h.row r hr).lt k hk
theorem Fam.nil {α : Type} (K : Kind α) (h : Fam W b0 ks rs hs) : Fam W b0 ks (⟨α, K, .slice none 0 0, []⟩ :: rs) hs := by
  have hf : ∀ j, Free W b0 ks rs j → Free W b0 ks (⟨α, K, .slice none 0 0, []⟩ :: rs) j := fun j hj => ⟨hj.1, hj.2.1, hj.2.2.1, fun r hr => by
    rcases List.mem_cons.1 hr with rfl | hr
    · simp [Value.ownBlock]
    · exact hj.2.2.2 r hr⟩
  refine ⟨h.base, fun r hr => ?_, fun r hr k hk => ?_, .cons (fun s hs k hk => by cases hk) h.two, fun r hr a ha x hx => ?_, fun x hx => x.mono (h.held x hx) hf⟩
  · rcases List.mem_cons.1 hr with rfl | hr
    · exact World.ownsRow_nil _ _ _ _
    · exact h.row r hr
  · rcases List.mem_cons.1 hr with rfl | hr
    · cases hk
    · exact h.sep r hr k hk
  · rcases List.mem_cons.1 hr with rfl | hr
    · cases ha
    · exact x.mono (h.ins r hr a ha x hx) hf
theorem Fam.hold (h : Fam W b0 ks rs hs) {x : Held} {ok : Nat → Prop} (hx : x.p W ok) (hk : ∀ j, ok j → Free W b0 ks rs j) : Fam W b0 ks rs (x :: hs) :=
  ⟨h.base, h.row, h.sep, h.two, h.ins, fun y hy => by
    rcases List.mem_cons.1 hy with rfl | hy
    · exact y.mono hx hk
    · exact h.held y hy⟩
theorem Fam.forget (h : Fam W b0 ks rs hs) (hh : ∀ x, x ∈ hs' → x ∈ hs) : Fam W b0 ks rs hs' := ⟨h.base, h.row, h.sep, h.two, h.ins, fun y hy => h.held y (hh y hy)⟩
theorem Fam.add (h : Fam W b0 ks rs hs) (hk : ∀ k, k ∈ ks' → k ∈ ks ∨ W.heap.size ≤ k) : Fam W b0 ks' rs hs := by
  have hf : ∀ j, Free W b0 ks rs j → Free W b0 ks' rs j := fun j hj => ⟨hj.1, hj.2.1, fun h1 => by
    rcases hk j h1 with h2 | h2
    · exact hj.2.2.1 h2
    · have := hj.2.1; omega, hj.2.2.2⟩
  exact ⟨h.base, h.row, fun r hr k h1 h2 => by
    rcases hk k h2 with h3 | h3
    · exact h.sep r hr k h1 h3
    · have := (h.lt hr h1).2; omega, h.two, fun r hr a ha x hx => x.mono (h.ins r hr a ha x hx) hf, fun x hx => x.mono (h.held x hx) hf⟩
theorem Fam.move (h : Fam W b0 ks rs hs) (hsz : W.heap.size ≤ W'.heap.size) (ho : ∀ j, j < W.heap.size → j ∉ ks → W'.heap[j]? = W.heap[j]?) : Fam W' b0 ks rs hs := by
  have hf : ∀ j, Free W b0 ks rs j → Free W' b0 ks rs j := fun j hj => ⟨hj.1, by have := hj.2.1; omega, hj.2.2⟩
  have hk : ∀ j, Free W b0 ks rs j → W'.heap[j]? = W.heap[j]? := fun j hj => ho j hj.2.1 hj.2.2.1
  exact ⟨Nat.le_trans h.base hsz, fun r hr => owns_move' (h.row r hr) fun k h1 => ho k (h.lt hr h1).2 (h.sep r hr k h1), h.sep, h.two, fun r hr a ha x hx => x.mono (x.keep (h.ins r hr a ha x hx) hk) hf, fun x hx => x.mono (x.keep (h.held x hx) hk) hf⟩
theorem Fam.sys (h : Fam w0 b0 ks rs hs) (S : Sys B w0 L w) (hL : ∀ e, e ∈ L → e.1 ∈ ks ∨ w0.heap.size ≤ e.1) : Fam w b0 ks rs hs :=
  h.move S.size fun j hj hn => S.old j hj fun e he e1 => by
    rcases hL e he with h2 | h2
    · exact hn (e1 ▸ h2)
    · omega
theorem Fam.below (h : Fam w b0 ks rs hs) (hb : Below w.heap.size w w2) : Fam w2 b0 ks rs hs := h.move hb.size fun j hj _ => hb.block j hj
theorem Fam.made (h : Fam w1 b0 ks rs hs) (hb : Below w1.heap.size w1 w2) {x : Held} (hx : x.p w2 (Btw w1.heap.size w2.heap.size)) (hk : ∀ k, k ∈ ks → k < w1.heap.size) : Fam w2 b0 ks rs (x :: hs) :=
  (h.below hb).hold hx fun j hj => ⟨Nat.le_trans h.base hj.1, hj.2, fun h1 => by have := hk j h1; have := hj.1; omega, fun r hr h1 => by have := (h.lt hr h1).2; have := hj.1; omega⟩
theorem Fam.push {α : Type} {K : Kind α} {v v' : Value} {l : List α} {a : α} {i : Nat} (h : Fam W b0 ks rs hs) (hi : rs[i]? = some ⟨α, K, v, l⟩) (ha : ∀ x, x ∈ K.sl a → x ∈ hs) (hrow : W'.ownsRow b0 K.ty K.m v' (l.length + 1) (l.flatMap K.c ++ K.c a))
    (hsz : W.heap.size ≤ W'.heap.size) (ho : ∀ j, j < W.heap.size → j ∉ ks → v.ownBlock ≠ some j → W'.heap[j]? = W.heap[j]?) (hfr : ∀ k, v'.ownBlock = some k → v.ownBlock = some k ∨ (W.heap.size ≤ k ∧ k ∉ ks)) :
    Fam W' b0 ks (rs.set i ⟨α, K, v', l ++ [a]⟩) hs := by
  have hm : ∀ r, r ∈ rs.set i ⟨α, K, v', l ++ [a]⟩ → r = ⟨α, K, v', l ++ [a]⟩ ∨ (r ∈ rs ∧ ∀ k, r.v.ownBlock = some k → v.ownBlock ≠ some k) := fun r hr => by
    obtain ⟨j, hj, rfl⟩ := List.mem_iff_getElem.1 hr
    by_cases hij : i = j
    · subst hij; left; simp
    · right
      rw [List.getElem_set_ne hij]
      simp at hj
      refine ⟨List.getElem_mem _, fun k hk h2 => ?_⟩
      obtain ⟨hil, hie⟩ := List.getElem?_eq_some_iff.1 hi
      have hp := List.pairwise_iff_getElem.1 h.two
      rcases Nat.lt_or_gt_of_ne hij with h3 | h3
      · have := hp i j hil hj h3 k (by rw [hie]; exact h2)
        exact this hk
      · have := hp j i hj hil h3 k hk
        rw [hie] at this
        exact this h2
  have hri : (⟨α, K, v, l⟩ : RowX) ∈ rs := List.mem_of_getElem? hi
  have hf : ∀ j, Free W b0 ks rs j → Free W' b0 ks (rs.set i ⟨α, K, v', l ++ [a]⟩) j := fun j hj => ⟨hj.1, by have := hj.2.1; omega, hj.2.2.1, fun r hr h1 => by
    rcases hm r hr with rfl | ⟨h2, _⟩
    · rcases hfr j h1 with h3 | h3
      · exact hj.2.2.2 _ hri h3
      · have := hj.2.1; omega
    · exact hj.2.2.2 r h2 h1⟩
  have hk : ∀ j, Free W b0 ks rs j → W'.heap[j]? = W.heap[j]? := fun j hj => ho j hj.2.1 hj.2.2.1 fun h1 => hj.2.2.2 _ hri h1
  refine ⟨Nat.le_trans h.base hsz, fun r hr => ?_, fun r hr k h1 => ?_, ?_, fun r hr b hb x hx => ?_, fun x hx => x.mono (x.keep (h.held x hx) hk) hf⟩
  · rcases hm r hr with rfl | ⟨h2, h3⟩
    · simpa using hrow
    · exact owns_move' (h.row r h2) fun k h4 => ho k (h.lt h2 h4).2 (h.sep r h2 k h4) (h3 k h4)
  · rcases hm r hr with rfl | ⟨h2, h3⟩
    · rcases hfr k h1 with h4 | h4
      · exact h.sep _ hri k h4
      · exact h4.2
    · exact h.sep r h2 k h1
  · rw [List.pairwise_iff_getElem]
    have hp := List.pairwise_iff_getElem.1 h.two
    obtain ⟨hil, hie⟩ := List.getElem?_eq_some_iff.1 hi
    intro p q hpl hql hpq k hk1 hk2
    simp at hpl hql
    by_cases h1 : i = p
    · subst h1
      have h2 : i ≠ q := by omega
      rw [List.getElem_set_ne h2] at hk2
      simp at hk1
      rcases hfr k hk1 with h4 | h4
      · exact hp i q hpl hql hpq k (by rw [hie]; exact h4) hk2
      · have := (h.lt (List.getElem_mem hql) hk2).2; omega
    · by_cases h2 : i = q
      · subst h2
        rw [List.getElem_set_ne h1] at hk1
        simp at hk2
        rcases hfr k hk2 with h4 | h4
        · have := hp p i hpl hql hpq k hk1
          rw [hie] at this
          exact this h4
        · have := (h.lt (List.getElem_mem hpl) hk1).2; omega
      · rw [List.getElem_set_ne h1] at hk1
        rw [List.getElem_set_ne h2] at hk2
        exact hp p q hpl hql hpq k hk1 hk2
  · rcases hm r hr with rfl | ⟨h2, h3⟩
    · rcases List.mem_append.1 hb with h4 | h4
      · exact x.mono (x.keep (h.ins _ hri b h4 x hx) hk) hf
      · have h5 : b = a := List.mem_singleton.1 h4
        have h6 : x ∈ K.sl b := hx
        rw [h5] at h6
        exact x.mono (x.keep (h.held x (ha x h6)) hk) hf
    · exact x.mono (x.keep (h.ins r h2 b hb x hx) hk) hf
theorem Fam.list {α : Type} {K : Kind α} {v : Value} {l : List α} (h : Fam W b0 ks rs hs) (hr : (⟨α, K, v, l⟩ : RowX) ∈ rs) : ∃ r : SV, v = svV r ∧ ListAt K W (Btw b0 W.heap.size) r l := by
  have h1 := h.row _ hr
  obtain ⟨r, rfl, hrn⟩ := owns_sv h1
  obtain ⟨a1, a2, _, a4⟩ := ReadsP.own h1
  refine ⟨r, rfl, by rw [a2]; exact a1, by simp only [maxLen] at a4 hrn; omega, fun a ha x hx => x.mono (h.ins _ hr a ha x hx) fun j hj => ⟨hj.1, hj.2.1⟩⟩
theorem Fam.get {x : Held} (h : Fam W b0 ks rs hs) (hx : x ∈ hs) : x.p W (Btw b0 W.heap.size) := x.mono (h.held x hx) fun j hj => ⟨hj.1, hj.2.1⟩
end
section
variable {P : Program} {T : TT} {N : Nat} {B : Nat} {w0 : World} {ds : List Deferred} {Q : Exit → Act → World → Prop} {F : Fr} {L : Lo} {ops : Array Oper} {rest : List Oper} {ty : TypeId} {p : String} {af : Array Edge}
theorem XL.at_push {N : Nat} {ds : List Deferred} {F : Fr} {d : Nat} (t : TypeId) {args : Array Operand} (k : XL P N B w0 ds Q ops ({ dst := some d, op := .call { callee := .builtin .append, args := args, argTypes := #[t, t] }, type := ty, pos := p, after := af, guard := none } :: rest) F L) :
    XL P N B w0 ds Q ops ({ dst := some d, op := .call { callee := .builtin .append, args := args, argTypes := #[t, t] }, type := ty, pos := p, after := af, guard := none } :: rest) F L := k
theorem XL.push {α : Type} {K : Kind α} {d : Nat} {t : TypeId} {x y : Operand} {v : Value} {l : List α} {a : α} {c bytes b0 : Nat} {A : Addr} {ks : List Nat} {rs : List RowX} {hs : List Held} {wE : World} (i : Nat) (he : elemOk P t K.ty K.m bytes = true) (h0 : 0 < K.m)
    (hx : evo F x = some v) (hy : evo F y = some (.slice (some A) 1 c)) (hd : Nat.blt d N = true) (hF : Fam w0 b0 ks rs hs) (hi : rs[i]? = some ⟨α, K, v, l⟩) (hks : ∀ k, k ∈ ks → k < w0.heap.size) (hbl : Below B wE w0) (hB : B ≤ b0) (h1 : (K.c a).all Value.oneCell' = true) (h63 : l.length + 1 ≤ 10000000) (hb : bytes ≤ 10000000) (ha : ∀ x, x ∈ K.sl a → x ∈ hs)
    (k : ∀ w' v', Fam w' b0 (L.map (·.1) ++ ks) (rs.set i ⟨α, K, v', l ++ [a]⟩) hs → Below B wE w' → (∀ k, k ∈ L.map (·.1) ++ ks → k < w'.heap.size) → XL P N B w' ds Q ops rest ((d, v') :: F) L)
    (hL : ∀ e, e ∈ L → e.1 ∈ ks ∨ w0.heap.size ≤ e.1 := by (intro e he; repeat (first | (cases he; done) | (rcases List.mem_cons.1 he with rfl | he; · first | (right; assumption) | (left; simp <;> fail)))) <;> fail) (hnews : ∀ w, Sys B w0 L w → ∀ j u, (K.c a)[j]? = some u → w.cell? (A.add j) = some u := by (intro w S j u hj; first | (rw [add_off, Nat.zero_add, S.cell List.mem_cons_self j]; exact hj) | (rw [add_off, Nat.zero_add, S.cell (List.mem_cons_of_mem _ List.mem_cons_self) j]; exact hj) | (rw [add_off, Nat.zero_add, S.cell (List.mem_cons_of_mem _ (List.mem_cons_of_mem _ List.mem_cons_self)) j]; exact hj))) :
    XL P N B w0 ds Q ops ({ dst := some d, op := .call { callee := .builtin .append, args := #[x, y], argTypes := #[t, t] }, type := ty, pos := p, after := af, guard := none } :: rest) F L := by
  have hri : (⟨α, K, v, l⟩ : RowX) ∈ rs := List.mem_of_getElem? hi
  have hk2 : ∀ k, k ∈ L.map (·.1) ++ ks → k ∈ ks ∨ w0.heap.size ≤ k := fun k hk => by
    rcases List.mem_append.1 hk with h | h
    · obtain ⟨e, he, rfl⟩ := List.mem_map.1 h
      exact hL e he
    · exact .inl h
  have hk3 : ∀ w, Sys B w0 L w → ∀ k, k ∈ L.map (·.1) ++ ks → k < w.heap.size := fun w S k hk => by
    rcases List.mem_append.1 hk with h | h
    · obtain ⟨e, he, rfl⟩ := List.mem_map.1 h
      exact S.lt he
    · exact Nat.lt_of_lt_of_le (hks k h) S.size
  refine XL.append2 (v := v) (m := 1) (n := l.length) (size := K.m) (bytes := bytes) (base := b0) (A := A) (xs := l.flatMap K.c) (news := K.c a) (L' := L) he h0 hx hy hd (hF.row _ hri) (fun k hk e he e1 => ?_) (by rw [K.len]; omega) hnews h1 (by unfold maxLen; omega)
    (Nat.le_trans (Nat.mul_le_mul h63 hb) (by decide)) hF.base (List.Sublist.refl _) (fun w v' w' S ho hg _ hfr => ?_)
  · rcases hL e he with h | h
    · exact hF.sep _ hri k hk (e1 ▸ h)
    · have := (hF.lt hri hk).2; omega
  · have hsz := hg.size
    have hS := S.size
    refine k w' v' ?_ (hbl.trans (grown_below S hg fun k hk => Nat.le_trans hB (hF.lt hri hk).1)) fun q hq => Nat.lt_of_lt_of_le (hk3 w S q hq) hsz
    refine (hF.add (ks' := L.map (·.1) ++ ks) hk2).push hi ha ho (Nat.le_trans hS hsz) (fun j hj hn hv => ?_) (fun k hk => ?_)
    · exact grown_old S hg hj (fun e he e1 => hn (List.mem_append_left _ (List.mem_map.2 ⟨e, he, e1⟩))) fun e1 => hv e1.symm
    · rcases hfr k hk with h | h
      · exact .inl h
      · exact .inr ⟨Nat.le_trans hS h, fun h2 => by have := hk3 w S k h2; omega⟩
def Made (w : World) (R : Value → List Held → Prop) (e : Ending) (w' : World) : Prop := ∃ v new, e = .returned v ∧ R v new ∧ (∀ x, x ∈ new → x.p w' (Btw w.heap.size w'.heap.size)) ∧ Below w.heap.size w w'
theorem Fam.call {w0 w1 w2 : World} {b0 : Nat} {ks : List Nat} {rs : List RowX} {hs new : List Held} (hF : Fam w0 b0 ks rs hs) (S : Sys B w0 L w1) (hb : Below w1.heap.size w1 w2) (hL : ∀ e, e ∈ L → e.1 ∈ ks ∨ w0.heap.size ≤ e.1) (hks : ∀ k, k ∈ ks → k < w0.heap.size)
    (hx : ∀ x, x ∈ new → x.p w2 (Btw w1.heap.size w2.heap.size)) : Fam w2 b0 (L.map (·.1) ++ ks) rs (new ++ hs) ∧ ∀ k, k ∈ L.map (·.1) ++ ks → k < w2.heap.size := by
  have hk3 : ∀ k, k ∈ L.map (·.1) ++ ks → k < w1.heap.size := fun k hk => by
    rcases List.mem_append.1 hk with h | h
    · obtain ⟨e, he, rfl⟩ := List.mem_map.1 h
      exact S.lt he
    · exact Nat.lt_of_lt_of_le (hks k h) S.size
  have h1 : Fam w0 b0 (L.map (·.1) ++ ks) rs hs := hF.add fun k hk => by
    rcases List.mem_append.1 hk with h | h
    · obtain ⟨e, he, rfl⟩ := List.mem_map.1 h
      exact hL e he
    · exact .inl h
  have h2 : Fam w1 b0 (L.map (·.1) ++ ks) rs hs := h1.sys S fun e he => .inl (List.mem_append_left _ (List.mem_map.2 ⟨e, he, rfl⟩))
  refine ⟨?_, fun k hk => Nat.lt_of_lt_of_le (hk3 k hk) hb.size⟩
  clear hL hks h1
  induction new with
  | nil => exact h2.below hb
  | cons x new ih =>
    have := ih fun y hy => hx y (List.mem_cons_of_mem _ hy)
    exact this.hold (hx x List.mem_cons_self) fun j hj => ⟨Nat.le_trans h2.base hj.1, hj.2, fun h3 => by have := hk3 j h3; have := hj.1; omega, fun r hr h3 => by have := (h2.lt hr h3).2; have := hj.1; omega⟩
theorem XL.callF {f : FuncId} {d : Nat} {args : Array Operand} {vs : List Value} {ats : Array TypeId} {b0 : Nat} {ks : List Nat} {rs : List RowX} {hs : List Held} {wE : World} (R : Value → List Held → Prop) (h : callOk P f = true)
    (ha : evos F args.toList = some vs) (hd : Nat.blt d N = true) (hF : Fam w0 b0 ks rs hs) (hks : ∀ k, k ∈ ks → k < w0.heap.size) (hbl : Below B wE w0)
    (hc : ∀ w, Sys B w0 L w → Fam w b0 (L.map (·.1) ++ ks) rs hs → Below B wE w → Calls P f vs.toArray w (Made w R))
    (k : ∀ w' v new, R v new → Fam w' b0 (L.map (·.1) ++ ks) rs (new ++ hs) → Below B wE w' → (∀ k, k ∈ L.map (·.1) ++ ks → k < w'.heap.size) → XL P N B w' ds Q ops rest ((d, v) :: F) L)
    (hL : ∀ e, e ∈ L → e.1 ∈ ks ∨ w0.heap.size ≤ e.1 := by (intro e he; repeat (first | (cases he; done) | (rcases List.mem_cons.1 he with rfl | he; · first | (right; assumption) | (left; simp <;> fail)))) <;> fail) :
    XL P N B w0 ds Q ops ({ dst := some d, op := .call { callee := .value (.func f), args := args, argTypes := ats }, type := ty, pos := p, after := af, guard := none } :: rest) F L := by
  refine XL.call (fst := []) (cap := []) (vs := vs) h rfl ha hd (List.Sublist.refl _) (fun w v w' => ∃ new, R v new ∧ (∀ x, x ∈ new → x.p w' (Btw w.heap.size w'.heap.size)) ∧ Below w.heap.size w w') (fun w S => ?_) (fun w v w' S hR hb S' => ?_)
  · have h1 := hF.call S (Below.refl _ _) hL hks (new := []) fun _ h => by cases h
    simp only [List.nil_append, List.append_nil] at h1 ⊢
    exact (hc w S h1.1 (hbl.trans S.toBelow)).mono fun e w' ⟨v, new, e1, e2, e3, e4⟩ => ⟨v, e1, ⟨new, e2, e3, e4⟩, e4⟩
  · obtain ⟨new, e2, e3, e4⟩ := hR
    have h1 := hF.call S hb hL hks e3
    exact k w' v new e2 h1.1 (hbl.trans S'.toBelow) h1.2
end
theorem Held.lt {x : Held} {w : World} {b0 : Nat} (h : x.p w (Btw b0 w.heap.size)) : x.p w (Lt w.heap.size) := x.mono h fun k hk => hk.2
end X
namespace X
open Go Go.RowKit
section
variable {W W' w w0 w1 w2 : World} {b0 B : Nat} {ks ks' : List Nat} {rs : List RowX} {hs hs' : List Held} {L : Lo}
theorem Fam.pushL {α : Type} {K : Kind α} {v v' : Value} {l l2 : List α} {i : Nat} (h : Fam W b0 ks rs hs) (hi : rs[i]? = some ⟨α, K, v, l⟩) (ha : ∀ a, a ∈ l2 → ∀ x, x ∈ K.sl a → x.p W (Free W b0 ks rs)) (hrow : W'.ownsRow b0 K.ty K.m v' (l.length + l2.length) (l.flatMap K.c ++ l2.flatMap K.c))
    (hsz : W.heap.size ≤ W'.heap.size) (ho : ∀ j, j < W.heap.size → j ∉ ks → v.ownBlock ≠ some j → W'.heap[j]? = W.heap[j]?) (hfr : ∀ k, v'.ownBlock = some k → v.ownBlock = some k ∨ (W.heap.size ≤ k ∧ k ∉ ks)) :
    Fam W' b0 ks (rs.set i ⟨α, K, v', l ++ l2⟩) hs := by
  have hm : ∀ r, r ∈ rs.set i ⟨α, K, v', l ++ l2⟩ → r = ⟨α, K, v', l ++ l2⟩ ∨ (r ∈ rs ∧ ∀ k, r.v.ownBlock = some k → v.ownBlock ≠ some k) := fun r hr => by
    obtain ⟨j, hj, rfl⟩ := List.mem_iff_getElem.1 hr
    by_cases hij : i = j
    · subst hij; left; simp
    · right
      rw [List.getElem_set_ne hij]
      simp at hj
      refine ⟨List.getElem_mem _, fun k hk h2 => ?_⟩
      obtain ⟨hil, hie⟩ := List.getElem?_eq_some_iff.1 hi
      have hp := List.pairwise_iff_getElem.1 h.two
      rcases Nat.lt_or_gt_of_ne hij with h3 | h3
      · have := hp i j hil hj h3 k (by rw [hie]; exact h2)
        exact this hk
      · have := hp j i hj hil h3 k hk
        rw [hie] at this
        exact this h2
  have hri : (⟨α, K, v, l⟩ : RowX) ∈ rs := List.mem_of_getElem? hi
  have hf : ∀ j, Free W b0 ks rs j → Free W' b0 ks (rs.set i ⟨α, K, v', l ++ l2⟩) j := fun j hj => ⟨hj.1, by have := hj.2.1; omega, hj.2.2.1, fun r hr h1 => by
    rcases hm r hr with rfl | ⟨h2, _⟩
    · rcases hfr j h1 with h3 | h3
      · exact hj.2.2.2 _ hri h3
      · have := hj.2.1; omega
    · exact hj.2.2.2 r h2 h1⟩
  have hk : ∀ j, Free W b0 ks rs j → W'.heap[j]? = W.heap[j]? := fun j hj => ho j hj.2.1 hj.2.2.1 fun h1 => hj.2.2.2 _ hri h1
  refine ⟨Nat.le_trans h.base hsz, fun r hr => ?_, fun r hr k h1 => ?_, ?_, fun r hr b hb x hx => ?_, fun x hx => x.mono (x.keep (h.held x hx) hk) hf⟩
  · rcases hm r hr with rfl | ⟨h2, h3⟩
    · simpa using hrow
    · exact owns_move' (h.row r h2) fun k h4 => ho k (h.lt h2 h4).2 (h.sep r h2 k h4) (h3 k h4)
  · rcases hm r hr with rfl | ⟨h2, h3⟩
    · rcases hfr k h1 with h4 | h4
      · exact h.sep _ hri k h4
      · exact h4.2
    · exact h.sep r h2 k h1
  · rw [List.pairwise_iff_getElem]
    have hp := List.pairwise_iff_getElem.1 h.two
    obtain ⟨hil, hie⟩ := List.getElem?_eq_some_iff.1 hi
    intro p q hpl hql hpq k hk1 hk2
    simp at hpl hql
    by_cases h1 : i = p
    · subst h1
      have h2 : i ≠ q := by omega
      rw [List.getElem_set_ne h2] at hk2
      simp at hk1
      rcases hfr k hk1 with h4 | h4
      · exact hp i q hpl hql hpq k (by rw [hie]; exact h4) hk2
      · have := (h.lt (List.getElem_mem hql) hk2).2; omega
    · by_cases h2 : i = q
      · subst h2
        rw [List.getElem_set_ne h1] at hk1
        simp at hk2
        rcases hfr k hk2 with h4 | h4
        · have := hp p i hpl hql hpq k hk1
          rw [hie] at this
          exact this h4
        · have := (h.lt (List.getElem_mem hpl) hk1).2; omega
      · rw [List.getElem_set_ne h1] at hk1
        rw [List.getElem_set_ne h2] at hk2
        exact hp p q hpl hql hpq k hk1 hk2
  · rcases hm r hr with rfl | ⟨h2, h3⟩
    · rcases List.mem_append.1 hb with h4 | h4
      · exact x.mono (x.keep (h.ins _ hri b h4 x hx) hk) hf
      · exact x.mono (x.keep (ha b h4 x hx) hk) hf
    · exact x.mono (x.keep (h.ins r h2 b hb x hx) hk) hf
theorem svV_inj {r q : SV} (h : svV r = svV q) : r = q := by
  obtain ⟨a, b, c⟩ := r
  obtain ⟨a', b', c'⟩ := q
  simp only [svV, Value.slice.injEq] at h
  obtain ⟨rfl, rfl, rfl⟩ := h
  rfl
theorem Fam.listOf {α : Type} {K : Kind α} {r : SV} {l : List α} (h : Fam W b0 ks rs hs) (hr : (⟨α, K, svV r, l⟩ : RowX) ∈ rs) : ListAt K W (Btw b0 W.heap.size) r l := by
  obtain ⟨q, e, h1⟩ := h.list hr
  rw [svV_inj e]
  exact h1
theorem Fam.fresh {α : Type} {K : Kind α} {v : Value} {l : List α} (h : Fam W b0 ks rs hs) (hsz : W.heap.size ≤ W'.heap.size) (ho : ∀ j, j < W.heap.size → j ∉ ks → W'.heap[j]? = W.heap[j]?) (hrow : W'.ownsRow b0 K.ty K.m v l.length (l.flatMap K.c))
    (hv : ∀ k, v.ownBlock = some k → W.heap.size ≤ k ∧ k ∉ ks) (ha : ∀ a, a ∈ l → ∀ x, x ∈ K.sl a → x.p W (Free W b0 ks rs)) : Fam W' b0 ks (⟨α, K, v, l⟩ :: rs) hs := by
  have h1 := h.move hsz ho
  have hf : ∀ j, Free W b0 ks rs j → Free W' b0 ks (⟨α, K, v, l⟩ :: rs) j := fun j hj => ⟨hj.1, by have := hj.2.1; omega, hj.2.2.1, fun r hr h2 => by
    rcases List.mem_cons.1 hr with rfl | hr
    · have := (hv j h2).1; have := hj.2.1; omega
    · exact hj.2.2.2 r hr h2⟩
  have hk : ∀ j, Free W b0 ks rs j → W'.heap[j]? = W.heap[j]? := fun j hj => ho j hj.2.1 hj.2.2.1
  refine ⟨h1.base, fun r hr => ?_, fun r hr k h2 => ?_, .cons (fun r hr k h2 h3 => ?_) h.two, fun r hr a hb x hx => ?_, fun x hx => x.mono (x.keep (h.held x hx) hk) hf⟩
  · rcases List.mem_cons.1 hr with rfl | hr
    · exact hrow
    · exact h1.row r hr
  · rcases List.mem_cons.1 hr with rfl | hr
    · exact (hv k h2).2
    · exact h.sep r hr k h2
  · have := (hv k h2).1; have := (h.lt hr h3).2; omega
  · rcases List.mem_cons.1 hr with rfl | hr
    · exact x.mono (x.keep (ha a hb x hx) hk) hf
    · exact x.mono (x.keep (h.ins r hr a hb x hx) hk) hf
end
section
variable {P : Program} {T : TT} {N : Nat} {B : Nat} {w0 : World} {ds : List Deferred} {Q : Exit → Act → World → Prop} {F : Fr} {L : Lo} {pu : Prop} {ops : Array Oper} {rest : List Oper} {ty : TypeId} {p : String} {af : Array Edge}
variable {dst : Option Tmp} {gd : Option (Nat × Bool)}
theorem append_none_run {w : World} {base t e size bytes n c : Nat} {v : Value} {xs : List Value} (he : elemOk P t e size bytes = true) (hown : w.ownsRow base e size v n xs) : (Builtin.append_ #[t, t] ty #[v, .slice none 0 c]).run P w = .ok v w := by
  obtain ⟨hu, i, z, hi, hz, e1, e2, e3⟩ := elemOk_spec he
  rcases hown.2 with ⟨rfl, rfl⟩ | ⟨g, cap, cur, rfl, hb, hg, hc, hm, h⟩
  · simp [Builtin.append_, run_underlying hu, sizeOf_run hi, Builtin.lenOf, Builtin.firstCells]
  · have : ¬ cap < n := by omega
    simp [Builtin.append_, run_underlying hu, sizeOf_run hi, Builtin.lenOf, Builtin.firstCells, storeCells, hc, this]
theorem XL.pushL {α : Type} {K : Kind α} {d : Nat} {t : TypeId} {x y : Operand} {v : Value} {l l2 : List α} {r2 : SV} {bytes b0 : Nat} {ks : List Nat} {rs : List RowX} {hs : List Held} {wE : World} (i : Nat) (he : elemOk P t K.ty K.m bytes = true) (h0 : 0 < K.m)
    (hx : evo F x = some v) (hy : evo F y = some (.slice r2.A r2.n r2.c)) (hd : Nat.blt d N = true) (hF : Fam w0 b0 ks rs hs) (hi : rs[i]? = some ⟨α, K, v, l⟩) (hks : ∀ k, k ∈ ks → k < w0.heap.size) (hbl : Below B wE w0) (hB : B ≤ b0)
    (hr : ∀ w, Sys B w0 L w → ListAt K w (Lt w.heap.size) r2 l2) (ha : ∀ a, a ∈ l2 → ∀ x, x ∈ K.sl a → x.p w0 (Free w0 b0 ks rs)) (h1 : ∀ a : α, (K.c a).all Value.oneCell' = true) (h63 : l.length + l2.length ≤ 10000000) (hb : bytes ≤ 10000000)
    (k : ∀ w' v', Fam w' b0 (L.map (·.1) ++ ks) (rs.set i ⟨α, K, v', l ++ l2⟩) hs → Below B wE w' → (∀ k, k ∈ L.map (·.1) ++ ks → k < w'.heap.size) → XL P N B w' ds Q ops rest ((d, v') :: F) L)
    (hL : ∀ e, e ∈ L → e.1 ∈ ks ∨ w0.heap.size ≤ e.1 := by (intro e he; repeat (first | (cases he; done) | (rcases List.mem_cons.1 he with rfl | he; · first | (right; assumption) | (left; simp <;> fail)))) <;> fail) :
    XL P N B w0 ds Q ops ({ dst := some d, op := .call { callee := .builtin .append, args := #[x, y], argTypes := #[t, t] }, type := ty, pos := p, after := af, guard := none } :: rest) F L := by
  obtain ⟨A, m, c⟩ := r2
  have hri : (⟨α, K, v, l⟩ : RowX) ∈ rs := List.mem_of_getElem? hi
  have hk2 : ∀ k, k ∈ L.map (·.1) ++ ks → k ∈ ks ∨ w0.heap.size ≤ k := fun k hk => by
    rcases List.mem_append.1 hk with h | h
    · obtain ⟨e, he, rfl⟩ := List.mem_map.1 h
      exact hL e he
    · exact .inl h
  have hk3 : ∀ w, Sys B w0 L w → ∀ k, k ∈ L.map (·.1) ++ ks → k < w.heap.size := fun w S k hk => by
    rcases List.mem_append.1 hk with h | h
    · obtain ⟨e, he, rfl⟩ := List.mem_map.1 h
      exact S.lt he
    · exact Nat.lt_of_lt_of_le (hks k h) S.size
  have hsepL : ∀ k, v.ownBlock = some k → ∀ e, e ∈ L → e.1 ≠ k := fun k hk e he e1 => by
    rcases hL e he with h | h
    · exact hF.sep _ hri k hk (e1 ▸ h)
    · have := (hF.lt hri hk).2; omega
  cases A with
  | none =>
    refine ⟨fun a w hf S => ?_⟩
    refine wpList_plain rfl fun Kk hK => ?_
    unfold Oper.wp
    have hl := hr w S
    have hm := hl.len h0
    simp only at hm
    have hm0 : m = 0 := by
      rcases Nat.eq_zero_or_pos m with h | h
      · exact h
      · obtain ⟨ad, e, _⟩ := hl.rd.at_ (by simpa using h)
        cases e
    subst hm0
    have hl2 : l2 = [] := List.length_eq_zero_iff.1 hm.symm
    subst hl2
    have hrun := append_none_run (ty := ty) (c := c) he (owns_sys (hF.row _ hri) S hsepL)
    have : (execOp a.eval { dst := some d, op := .call { callee := .builtin .append, args := #[x, y], argTypes := #[t, t] }, type := ty, pos := p, after := af, guard := none }).run P w = .ok (.value v) w := by
      have hm : (#[x, y] : Array Operand).map a.eval = #[v, .slice none 0 c] := by simp [hf.eval hx, hf.eval hy]
      simp only [execOp, resolve, Sem.run_bind, Sem.run_pure, Result.andThen_ok, invoke, builtin, hm, hrun]
    rw [this]
    refine hK _ _ ((k w v ?_ (hbl.trans S.toBelow) (hk3 w S)).run _ _ (hf.put hd) (S.rebase (List.Sublist.refl _)))
    have h2 := (hF.add (ks' := L.map (·.1) ++ ks) hk2).sys S fun e he => .inl (List.mem_append_left _ (List.mem_map.2 ⟨e, he, rfl⟩))
    obtain ⟨hil, hie⟩ := List.getElem?_eq_some_iff.1 hi
    have h3 : rs.set i ⟨α, K, v, l ++ []⟩ = rs := by
      rw [List.append_nil, ← hie]
      exact List.set_getElem_self hil
    rw [h3]
    exact h2
  | some A =>
    by_cases hex : ∃ w, Sys B w0 L w
    · obtain ⟨wx, Sx⟩ := hex
      have hm := (hr wx Sx).len h0
      simp only at hm
      subst hm
      refine XL.append2 (v := v) (m := l2.length) (n := l.length) (size := K.m) (bytes := bytes) (base := b0) (A := A) (xs := l.flatMap K.c) (news := l2.flatMap K.c) (L' := L) he h0 hx hy hd (hF.row _ hri) hsepL (by rw [flat_len K.c K.m K.len])
        (fun w S j u hj => ?_) ?_ (by unfold maxLen; omega) (Nat.le_trans (Nat.mul_le_mul h63 hb) (by decide)) hF.base (List.Sublist.refl _) (fun w v' w' S ho hg _ hfr => ?_)
      · have h2 := hr w S
        have hjl := (List.getElem?_eq_some_iff.1 hj).1
        rw [flat_len K.c K.m K.len] at hjl
        have hpos : 0 < l2.length := by
          rcases Nat.eq_zero_or_pos l2.length with h | h
          · rw [h] at hjl; omega
          · exact h
        obtain ⟨ad, e, _, h3⟩ := h2.rd.at_ hpos
        cases e
        exact h3 j u hj
      · rw [List.all_eq_true]
        intro u hu
        obtain ⟨a, ha', hu'⟩ := List.mem_flatMap.1 hu
        exact List.all_eq_true.1 (h1 a) u hu'
      · have hsz := hg.size
        have hS := S.size
        refine k w' v' ?_ (hbl.trans (grown_below S hg fun k hk => Nat.le_trans hB (hF.lt hri hk).1)) fun q hq => Nat.lt_of_lt_of_le (hk3 w S q hq) hsz
        have hfa : ∀ j, Free w0 b0 ks rs j → Free w0 b0 (L.map (·.1) ++ ks) rs j := fun j hj => ⟨hj.1, hj.2.1, fun h => by
          rcases hk2 j h with h4 | h4
          · exact hj.2.2.1 h4
          · have := hj.2.1; omega, hj.2.2.2⟩
        refine (hF.add (ks' := L.map (·.1) ++ ks) hk2).pushL hi (fun a h4 x hx => x.mono (ha a h4 x hx) hfa) ho (Nat.le_trans hS hsz) (fun j hj hn hv => ?_) (fun k hk => ?_)
        · exact grown_old S hg hj (fun e he e1 => hn (List.mem_append_left _ (List.mem_map.2 ⟨e, he, e1⟩))) fun e1 => hv e1.symm
        · rcases hfr k hk with h | h
          · exact .inl h
          · exact .inr ⟨Nat.le_trans hS h, fun h2 => by have := hk3 w S k h2; omega⟩
    · exact ⟨fun a w hf S => absurd ⟨w, S⟩ hex⟩
theorem XL.makeInts {d : Nat} {t e : TypeId} {x y : Operand} {n : Nat} (he : elemOk P t e 1 8 = true) (hz : (P.info? e).bind (·.zero) = some (.int .i64 0)) (hx : evo F x = some (.int .i64 (n : Nat))) (hy : evo F y = some (.int .i64 (n : Nat))) (hd : Nat.blt d N = true) (hn : n ≤ 1000000)
    (k : ∀ g, w0.heap.size ≤ g → XL P N B w0 ds Q ops rest ((1000000 + d, .slice none L.length 0) :: (d, .slice (some ⟨g, 0, none⟩) n n) :: F) ((g, cel e (ints (List.replicate n 0))) :: L)) :
    XL P N B w0 ds Q ops ({ dst := some d, op := .makeSlice t x y, type := ty, pos := p, after := af, guard := none } :: rest) F L := by
  refine ⟨fun a w hf hw => ?_⟩
  refine wpList_plain rfl fun Kk hK => ?_
  unfold Oper.wp
  obtain ⟨hu, i, z, hi, hz', e1, e2, e3⟩ := elemOk_spec he
  rw [hi] at hz
  simp only [Option.bind_some] at hz
  have hz2 : z = .int .i64 0 := by rw [hz'] at hz; exact Option.some.inj hz
  subst hz2
  have hrun := run_makeSlice (P := P) w t e i (.int .i64 0) hu hi hz' .i64 .i64 (n : Int) (n : Int) (by omega) (Int.le_refl _) (by rw [e1]; simp; omega) (by rw [e2]; omega) (by omega)
  have hmc : madeCells (Value.int .i64 0).cells ((n : Int).toNat * i.size) = ⟨ints (List.replicate n 0)⟩ := by
    rw [e1]
    apply Array.ext
    · simp [madeCells, ints]
    · intro j h1 h2
      simp [madeCells, ints, Value.cells]
      rw [show j % 1 = 0 from by omega]
      rfl
  rw [hmc] at hrun
  simp only [Int.toNat_natCast] at hrun
  have : (execOp a.eval { dst := some d, op := .makeSlice t x y, type := ty, pos := p, after := af, guard := none }).run P w = .ok (.value (.slice (some ⟨w.heap.size, 0, none⟩) n n)) (w.alloc (cel e (ints (List.replicate n 0)))) := by
    simp [execOp, hf.eval hx, hf.eval hy, hrun]
  rw [this]
  exact hK _ _ ((k w.heap.size hw.size).run _ _ ((hf.put hd).hint d _) (hw.box _))
end
end X
namespace X
open Go
section
variable {P : Program} {T : TT} {N : Nat} {B : Nat} {w0 : World} {ds : List Deferred} {Q : Exit → Act → World → Prop} {F : Fr} {L : Lo} {pu : Prop} {ops : Array Oper} {rest : List Oper}
variable {dst : Option Tmp} {ty : TypeId} {p : String} {af : Array Edge} {gd : Option (Nat × Bool)}
theorem Ev.shrN {x y : Operand} {t u : TypeId} {j : IntKind} {m n : Nat} (hx : evo F x = some (.int .i64 (m : Nat))) (hy : evo F y = some (.int j (n : Nat))) (hn : n ≤ 64) :
    Ev P N B w0 ds pu F L ⟨dst, .binOp .shr t x y u, ty, p, af, gd⟩ (.int .i64 ((m >>> n : Nat) : Int)) := by
  refine Ev.shr hx hy (by omega) ?_
  have h1 : Nat.min (n : Int).toNat IntKind.i64.bits = n := by
    show Min.min n 64 = n
    omega
  rw [h1, Nat.shiftRight_eq_div_pow, Int.fdiv_eq_ediv_of_nonneg _ (by exact Int.le_of_lt (Int.pow_pos (by decide)))]
  rw [Int.natCast_ediv, Int.natCast_pow]
  rfl
theorem eqGuard_int {op : BinOp} {t : TypeId} {x y : Operand} {k j : IntKind} {a b : Int} (w : World) (h : op = .and ∨ op = .or ∨ op = .shl) : (eqGuard op t x y (.int k a) (.int j b)).run P w = .ok () w := by
  unfold eqGuard
  rcases h with rfl | rfl | rfl <;> simp
theorem Ev.and1 {x : Operand} {t u : TypeId} {m : Nat} (hx : evo F x = some (.int .i64 (m : Nat))) (hm : m < 4611686018427387904) :
    Ev P N B w0 ds pu F L ⟨dst, .binOp .and t x (.const (.int .i64 1)) u, ty, p, af, gd⟩ (.int .i64 ((m % 2 : Nat) : Int)) :=
  .of_run fun c w hf hw => by
    have h1 : (BitVec.ofInt 64 (m : Int) &&& BitVec.ofInt 64 1).toNat = m % 2 := by
      rw [BitVec.toNat_and]
      have a1 : (BitVec.ofInt 64 (m : Int)).toNat = m := by
        rw [BitVec.toNat_ofInt, Int.emod_eq_of_lt (by omega) (by omega)]; simp
      rw [a1, show (BitVec.ofInt 64 1).toNat = 1 by decide, Nat.and_one_is_mod]
    have h2 : IntKind.i64.wrap ((m % 2 : Nat) : Int) = ((m % 2 : Nat) : Int) := wrap_in (by unfold i64in; omega)
    have h3 : (Op.intBits .and .i64 (m : Int) 1).run P w = .ok (.int .i64 ((m % 2 : Nat) : Int)) w := by
      show (pure (.int .i64 (IntKind.i64.wrap ((BitVec.ofInt 64 (m : Int) &&& BitVec.ofInt 64 1).toNat : Int))) : Sem Value).run P w = _
      rw [h1, h2]; simp
    simp only [execOp, hf.eval hx, hf.eval (x := .const (.int .i64 1)) rfl, Sem.run_bind, eqGuard_int w (.inl rfl), Result.andThen_ok, binOp, ne_eq, not_true_eq_false, if_false, h3, Sem.run_pure]
theorem Ev.shl1 {y : Operand} {t u : TypeId} {j : IntKind} {n : Nat} (hy : evo F y = some (.int j (n : Nat))) (hn : n ≤ 60) :
    Ev P N B w0 ds pu F L ⟨dst, .binOp .shl t (.const (.int .i64 1)) y u, ty, p, af, gd⟩ (.int .i64 ((2 ^ n : Nat) : Int)) :=
  .of_run fun c w hf hw => by
    have h4 : (2 : Nat) ^ n ≤ 2 ^ 60 := Nat.pow_le_pow_right (by decide) hn
    have h2 : IntKind.i64.wrap ((2 ^ n : Nat) : Int) = ((2 ^ n : Nat) : Int) := by
      generalize (2 : Nat) ^ n = q at h4
      exact wrap_in (by unfold i64in; omega)
    have h3 : (Op.shift .shl .i64 1 j (n : Int)).run P w = .ok (.int .i64 ((2 ^ n : Nat) : Int)) w := by
      unfold Op.shift
      rw [if_neg (by omega)]
      show (pure (.int .i64 (IntKind.i64.wrap (1 * 2 ^ (Min.min (n : Int).toNat 64)))) : Sem Value).run P w = _
      rw [Int.toNat_natCast, show Min.min n 64 = n by omega, Int.one_mul, show ((2 : Int) ^ n) = ((2 ^ n : Nat) : Int) by rw [Int.natCast_pow]; rfl, h2]
      simp
    simp only [execOp, hf.eval hy, hf.eval (x := .const (.int .i64 1)) rfl, Sem.run_bind, eqGuard_int w (.inr (.inr rfl)), Result.andThen_ok, binOp, ne_eq, not_true_eq_false, if_false, h3, Sem.run_pure]
theorem XC.scope {c : Code} (h : XC P N B w0 ds (Exit.noGoto Q) c F L) : XC P N B w0 ds Q (.scope c) F L := ⟨fun a w hf hw => wp_scope_straight (h.run a w hf hw)⟩
theorem XC.label {l : Nat} (h : XE N B w0 ds Q .normal F L) : XC P N B w0 ds Q (.label l) F L := ⟨fun a w hf hw => wp_label (h.run a w hf hw)⟩
theorem XE.noGoto_ret (h : XE N B w0 ds Q .ret F L) : XE N B w0 ds (Exit.noGoto Q) .ret F L := ⟨fun a w hf hw => h.run a w hf hw⟩
end
end X
namespace X
open Go Go.RowKit
def idxL {α : Type} (l : List α) (P : α → Bool) : Int := match l.findIdx? P with
  | some i => ((i : Nat) : Int)
  | none => -1
theorem idxL_any {α : Type} (l : List α) (P : α → Bool) : decide (0 ≤ idxL l P) = l.any P := by
  unfold idxL
  cases h : l.findIdx? P with
  | none =>
    rw [List.findIdx?_eq_none_iff] at h
    have : l.any P = false := List.any_eq_false.2 fun x hx => by simp [h x hx]
    rw [this]; rfl
  | some i =>
    obtain ⟨hi, h1, _⟩ := List.findIdx?_eq_some_iff_getElem.1 h
    have : l.any P = true := List.any_eq_true.2 ⟨_, List.getElem_mem hi, h1⟩
    rw [this]
    simp
theorem Sys.keyLt {B : Nat} {w0 w : World} {L : Lo} (S : Sys B w0 L w) : ∀ j, j ∈ L.map (·.1) → j < w.heap.size := fun j hj => by
  obtain ⟨e, he, rfl⟩ := List.mem_map.1 hj
  exact S.lt he
theorem Sys.join {B : Nat} {w0 w w' : World} {L L2 L3 : Lo} (S : Sys B w0 L w) (S' : Sys w.heap.size w L2 w') (hs : List.Sublist L3 L) : Sys B w (L2 ++ L3) w' := by
  have hlt : ∀ e, e ∈ L3 → e.1 < w.heap.size := fun e he => S.lt (hs.subset he)
  refine ⟨S'.os, S'.tape, S'.output, S'.size, Nat.le_trans S.base S.size, fun k hk hn => S'.old k hk fun e he => hn e (List.mem_append_left _ he), fun e he => ?_, ?_⟩
  · rcases List.mem_append.1 he with h | h
    · exact ⟨Nat.le_trans (Nat.le_trans S.base S.size) (S'.own e h).1, (S'.own e h).2⟩
    · refine ⟨(S.own e (hs.subset h)).1, ?_⟩
      rw [S'.old e.1 (hlt e h) fun e' he' e1 => by have := (S'.own e' he').1; have := hlt e h; omega]
      exact (S.own e (hs.subset h)).2
  · rw [List.map_append]
    refine List.nodup_append.2 ⟨S'.nd, S.nd.sublist (hs.map _), fun x hx y hy e => ?_⟩
    obtain ⟨e1, he1, rfl⟩ := List.mem_map.1 hx
    obtain ⟨e2, he2, rfl⟩ := List.mem_map.1 hy
    have := (S'.own e1 he1).1
    have := hlt e2 he2
    omega
theorem Sys.ofBelow {w w1 : World} (h : Below w.heap.size w w1) : Sys w.heap.size w [] w1 := ⟨h.os, h.tape, h.output, h.size, Nat.le_refl _, fun k hk _ => h.block k hk, (fun e he => (by cases he)), List.nodup_nil⟩
theorem Free.tail {W : World} {b0 : Nat} {ks : List Nat} {x : RowX} {rs : List RowX} {j : Nat} (h : Free W b0 ks (x :: rs) j) : Free W b0 ks rs j := ⟨h.1, h.2.1, h.2.2.1, fun r hr => h.2.2.2 r (.tail _ hr)⟩
theorem Fam.freeze {W : World} {b0 : Nat} {ks : List Nat} {rs : List RowX} {hs : List Held} {α : Type} {K : Kind α} {r : SV} {l : List α} (h : Fam W b0 ks (⟨α, K, svV r, l⟩ :: rs) hs) : Fam W b0 ks rs (hList K r l :: hs) := by
  refine ⟨h.base, fun x hx => h.row x (.tail _ hx), fun x hx => h.sep x (.tail _ hx), (List.pairwise_cons.1 h.two).2, fun x hx a ha y hy => y.mono (h.ins x (.tail _ hx) a ha y hy) fun j hj => hj.tail, fun y hy => ?_⟩
  rcases List.mem_cons.1 hy with rfl | hy
  · obtain ⟨A, n, c⟩ := r
    have h1 := h.row _ (.head _)
    obtain ⟨a1, a2, a3, a4⟩ := ReadsP.own h1
    simp only at a2 a4
    subst a2
    refine ⟨⟨a1.1, fun h0 => ?_⟩, by simp only [maxLen] at a4; exact a4, fun a ha x hx => x.mono (h.ins _ (.head _) a ha x hx) fun j hj => hj.tail⟩
    obtain ⟨ad, rfl, hb, hc⟩ := a1.2 h0
    exact ⟨ad, rfl, ⟨hb.1, hb.2, h.sep _ (.head _) _ rfl, fun x hx e => (List.pairwise_cons.1 h.two).1 x hx _ rfl e⟩, hc⟩
  · exact y.mono (h.held y hy) fun j hj => hj.tail
theorem Fam.sv {W : World} {b0 : Nat} {ks : List Nat} {rs : List RowX} {hs : List Held} {α : Type} {K : Kind α} {v : Value} {l : List α} (h : Fam W b0 ks rs hs) (hr : (⟨α, K, v, l⟩ : RowX) ∈ rs) : ∃ r : SV, v = svV r ∧ r.n = l.length := owns_sv (h.row _ hr)
section
variable {α : Type} {C : α → List Value} {m : Nat} (hC : ∀ a, (C a).length = m)
include hC
theorem fget {l : List α} {k : Nat} {t : α} {j : Nat} (sp : List Value) (h : l[k]? = some t) (hj : j < m) : (l.flatMap C ++ sp)[k * m + j]? = (C t)[j]? := by
  have e := flat_at C m hC l k j t h hj
  have h1 := (List.getElem?_eq_some_iff.1 h).1
  have h2 : (k + 1) * m ≤ l.length * m := Nat.mul_le_mul_right m h1
  rw [← e, List.getElem?_append_left]
  rw [flat_len C m hC]
  rw [Nat.add_mul] at h2
  omega
theorem fset {l : List α} : ∀ {k : Nat} {t t' : α} {j : Nat} {v : Value} (sp : List Value), l[k]? = some t → (C t).set j v = C t' → j < m → (l.flatMap C ++ sp).set (k * m + j) v = (l.set k t').flatMap C ++ sp := by
  induction l with
  | nil => intro k t t' j v sp h; cases h
  | cons a l ih =>
    intro k t t' j v sp h h1 h2
    cases k with
    | zero =>
      simp only [List.getElem?_cons_zero, Option.some.injEq] at h
      subst h
      rw [List.flatMap_cons, List.append_assoc, List.set_cons_zero, List.flatMap_cons, List.append_assoc, ← h1, Nat.zero_mul, Nat.zero_add]
      rw [List.set_append_left _ _ (by rw [hC]; exact h2)]
    | succ k =>
      simp only [List.getElem?_cons_succ] at h
      rw [List.flatMap_cons, List.append_assoc, List.set_cons_succ, List.flatMap_cons, List.append_assoc]
      rw [List.set_append_right _ _ (by rw [hC, Nat.add_mul]; omega)]
      congr 1
      rw [← ih sp h h1 h2]
      congr 1
      rw [hC, Nat.add_mul]; omega
end
section
variable {P : Program} {T : TT} {N B : Nat} {w0 : World} {ds : List Deferred} {Q : Exit → Act → World → Prop} {F : Fr} {L : Lo} {ops : Array Oper} {rest : List Oper} {ty : TypeId} {p : String} {af : Array Edge}
theorem XC.grab {c : Code} {g : Nat} {o : Obj} (hg : w0.heap[g]? = some o) (hB : B ≤ g) (hn : ∀ e, e ∈ L → e.1 ≠ g) (k : ∀ w1, Sys B w0 L w1 → XC P N B w1 ds Q c F ((g, o) :: L)) : XC P N B w0 ds Q c F L :=
  ⟨fun a w hf h => (k w h).run a w hf (Sys.start (Nat.le_trans h.base h.size) (fun e he => by
    rcases List.mem_cons.1 he with rfl | he
    · exact ⟨hB, (h.old g (Array.getElem?_eq_some_iff.1 hg).1 hn).trans hg⟩
    · exact h.own e he) (by
    rw [List.map_cons, List.nodup_cons]
    exact ⟨fun hm => by obtain ⟨e, he, e1⟩ := List.mem_map.1 hm; exact hn e he e1, h.nd⟩))⟩
end
end X
namespace X
open Go Go.RowKit
theorem ReadsP.block {w : World} {g lo n size : Nat} {ty : TypeId} {cs : List Value} (h : w.heap[g]? = some (cel ty cs)) (hg : lo ≤ g) (hl : cs.length = n * size) : ReadsP w (Btw lo w.heap.size) size (some ⟨g, 0, none⟩) n cs :=
  ⟨hl, fun _ => ⟨_, rfl, ⟨hg, (Array.getElem?_eq_some_iff.1 h).1⟩, fun j u hj => by rw [add_off]; simpa [World.cell?, h] using hj⟩⟩
structure KeysOk (P : Program) (kt : TypeId) (kvs : List (Value × Value)) : Prop where
  key : ∀ e, e ∈ kvs → ∃ l, keyOf P kt e.1 = some l
  one : ∀ a b c, (a, b) ∈ kvs → (a, c) ∈ kvs → b = c
theorem KeysOk.nil {P : Program} {kt : TypeId} : KeysOk P kt [] := ⟨fun _ h => (by cases h), fun _ _ _ h => (by cases h)⟩
section
variable {P : Program} {T : TT} {N : Nat} {B : Nat} {w0 : World} {ds : List Deferred} {Q : Exit → Act → World → Prop} {F : Fr} {L : Lo} {pu : Prop}
variable {dst : Option Tmp} {ty : TypeId} {p : String} {af : Array Edge} {gd : Option (Nat × Bool)}
theorem setRow_obj {w : World} {g : Nat} {cs vs : List Value} {t : TypeId} (h : w.heap[g]? = some (cel t cs)) : w.setRow g vs.toArray = { w with heap := w.heap.setIfInBounds g (cel t vs) } := by
  unfold World.setRow
  congr 1
  obtain ⟨hlt, he⟩ := Array.getElem?_eq_some_iff.1 h
  apply Array.ext (by simp)
  intro j h1 h2
  rw [Array.getElem_modify, Array.getElem_setIfInBounds (by simpa using h2)]
  by_cases e : g = j
  · subst e
    simp [he]
  · simp [e]
end
end X
namespace X
open Go Go.RowKit
section
variable {P : Program} {T : TT} {N : Nat} {B : Nat} {w0 : World} {ds : List Deferred} {Q : Exit → Act → World → Prop} {F : Fr} {L L' : Lo}
theorem enterML {f : FuncId} {fn : Func} {c : Code} {vs : List Value} {w : World} {R : Ending → World → Prop} {n : Nat} (hf : P.funcs[f]? = some fn) (hb : fn.body = some c) (hN : fn.ntmps = n)
    (hn : Nat.ble vs.length n = true) (S : Sys B w L w) (h : XC P n B w [] (bodyPostM Fence.wide 0 P fn R) c (frame 0 vs) L) : Calls P f vs.toArray w R := by
  subst hN
  have hn' := Nat.le_of_ble_eq_true hn
  refine (callsIn_wide (n := 0)).1 (callsIn_of_wp_marks (F := Fence.wide) hf hb trivial ((wpIn_wide (n := 0)).2 (h.run _ w ⟨?_, rfl, fun t v _ hv => ?_⟩ S)))
  · simp; omega
  · obtain ⟨_, h2⟩ := lk_frame vs 0 t v hv
    have hlt : t < vs.length := (List.getElem?_eq_some_iff.1 h2).1
    simp only [Array.getD_eq_getD_getElem?]
    rw [Array.getElem?_append_left (by simpa using hlt)]
    simp at h2 ⊢
    rw [h2]; rfl
theorem XE.retM0 (hT : TOK P T) {fn : Func} {R : Ending → World → Prop} {rs : List ResultVar} {vs : List Value} {c : Prop} (h : fn.results = ⟨rs⟩) (hv : resO T F L rs = some (vs, c)) (hc : c)
    (hR : ∀ w, Sys B w0 L w → R (.returned (tupV vs)) w) : XE N B w0 [] (bodyPostM Fence.wide 0 P fn R) .ret F L :=
  ⟨fun a w hf hw => by
    show LeavesInM Fence.wide 0 P fn a.tmps R a.defers .returning w
    rw [hf.defers]
    exact ⟨_, by
      have h1 := resO_run hT hf hw hv hc
      have h2 : (results fn a.tmps).run P w = .ok (tupV vs) w := by
        unfold results
        rw [h, Array.mapM_eq_mapM_toList]
        simp only [Sem.run_bind, Sem.run_map]
        refine (congrArg (fun r : Result (List Value) => (r.andThen fun a w' => Result.ok a.toArray w').andThen fun a w' => Sem.run P (pure (if h : a.size = 1 then a[0] else Value.tuple a)) w') h1).trans ?_
        simp only [Result.andThen_ok, Sem.run_pure]
        cases vs with
        | nil => rfl
        | cons v vs => cases vs with
          | nil => rfl
          | cons u vs => simp [tupV]
      exact h2, hR w hw⟩⟩
def Ng' (gm : Nat) (w : World) : Nat → Prop := fun j => j < w.heap.size ∧ j ≠ gm
structure Kp (gm : Nat) (w W : World) : Prop where
  below : Below gm w W
  old : ∀ j, Ng' gm w j → W.heap[j]? = w.heap[j]?
def trunc (w : World) (n : Nat) : World := { w with heap := w.heap.extract 0 n }
theorem Sys.anchorT {wE W w' : World} {L' : Lo} (hB : Below B wE W) (S : Sys B W L w') (hs : ∀ e, e ∈ L' → e ∈ L) (hn : (L'.map (·.1)).Nodup) (hle : B ≤ wE.heap.size) : Sys B (trunc wE B) L' w' := by
  have hsz : (trunc wE B).heap.size = B := by simp [trunc]; omega
  refine ⟨S.os.trans hB.os, S.tape.trans hB.tape, S.output.trans hB.output, ?_, ?_, fun k hk _ => ?_, fun e he => S.own e (hs e he), hn⟩
  · rw [hsz]; exact Nat.le_trans S.base S.size
  · rw [hsz]; exact Nat.le_refl _
  · rw [hsz] at hk
    have h1 := S.toBelow.block k hk
    have h2 := hB.block k hk
    rw [h1, h2]
    simp [trunc, Array.getElem?_extract]
    omega
theorem Sys.made {w w' : World} (S : Sys B w0 L w) (hb : Below w.heap.size w w') : Sys B w' L w' :=
  ⟨rfl, rfl, rfl, Nat.le_refl _, Nat.le_trans S.base (Nat.le_trans S.size hb.size), fun _ _ _ => rfl, fun e he => ⟨(S.own e he).1, (hb.block e.1 (S.lt he)).trans (S.own e he).2⟩, S.nd⟩
end
section
variable {P : Program} {T : TT} {N : Nat} {B : Nat} {w0 : World} {ds : List Deferred} {Q : Exit → Act → World → Prop} {F : Fr} {L : Lo} {pu : Prop} {ops : Array Oper} {rest : List Oper} {ty : TypeId} {p : String} {af : Array Edge}
end
section
variable {P : Program} {N B : Nat} {wS w0 : World} {ds : List Deferred} {Q : Exit → Act → World → Prop} {F : Fr} {L Ls : Lo} {ops : Array Oper} {rem : List (Nat × Oper)} {r : Option Nat} {n : Nat}
theorem XH.ofRS {l : List Oper} (wS : World) (Ls : Lo) (p q : List Nat) (hr : pickR l q = some rem)
    (hp : (pureOk l.toArray (Array.replicate l.length false) p && partB l.length p q) = true)
    (h : Fw P N B wS ds False (fun F' => XR P N B wS w0 ds Q Ls l.toArray rem F' L) l.toArray Ls (pickO l.toArray p) F) : XH P N B wS w0 ds Q Ls l.toArray (Array.replicate l.toArray.size false) F L := by
  simp only [Bool.and_eq_true] at hp
  refine XH.pure p (by simpa using hp.1) ?_
  have key : ∀ F', XR P N B wS w0 ds Q Ls l.toArray rem F' L → XH P N B wS w0 ds Q Ls l.toArray (setAll (Array.replicate l.toArray.size false) p) F' L := by
    intro F' hx
    have hset : ∀ (p : List Nat) (D : Array Bool) (i : Nat), i < D.size → on (setAll D p) i = (on D i || p.contains i) := by
      intro p
      induction p with
      | nil => intro D i _; simp [setAll]
      | cons j r ih =>
        intro D i hi
        rw [setAll, ih _ _ (by simpa using hi)]
        by_cases hj : j < D.size
        · rw [on_set hj]
          simp only [List.contains_cons]
          cases on D i <;> simp
        · have : D.setIfInBounds j true = D := Array.setIfInBounds_eq_of_size_le (by omega)
          rw [this]
          have hne : ¬ i = j := by omega
          simp [List.contains_cons, hne]
    have hsz : ∀ (p : List Nat) (D : Array Bool), (setAll D p).size = D.size := by
      intro p
      induction p with
      | nil => intro D; rfl
      | cons j r ih => intro D; rw [setAll, ih]; simp
    obtain ⟨h1, h2⟩ := pickR_spec hr
    have hpart := hp.2
    unfold partB at hpart
    simp only [Bool.and_eq_true, List.all_eq_true, List.mem_range, decide_eq_true_eq] at hpart
    obtain ⟨⟨h3, h4⟩, h5⟩ := hpart
    have hD : RemOk l.toArray (setAll (Array.replicate l.toArray.size false) p) rem := by
      refine ⟨by rw [hsz]; simp, fun e he => by simpa using h2 e he, fun i hi => ?_, by rw [h1]; exact h5⟩
      have hi' : i < l.length := by simpa using hi
      rw [hset _ _ _ (by simpa using hi')]
      have h6 : on (Array.replicate l.toArray.size false) i = false := by unfold on; simp [hi']
      rw [h6, Bool.false_or]
      have h7 := h3 i hi'
      have h8 : inRem rem i = q.contains i := by
        rw [Bool.eq_iff_iff, inRem_iff, List.contains_iff_mem, ← h1]
        simp only [List.mem_map, Prod.exists, exists_and_right, exists_eq_right]
      rw [h8]
      cases h9 : p.contains i <;> cases h10 : q.contains i <;> rw [h9, h10] at h7 <;> simp_all
    exact ⟨fun fuel a w hc hf hs hS => hx.run _ fuel a w hD hc hf hs hS⟩
  exact ⟨by
    have := h.run
    exact (show ∀ (ops : List Oper) (F : Fr) (K K' : Fr → Prop), (∀ F', K F' → K' F') → Fw0 P N B wS ds False l.toArray Ls K ops F → Fw0 P N B wS ds False l.toArray Ls K' ops F from by
      intro ops
      induction ops with
      | nil => intro F K K' hk h; exact hk _ h
      | cons o r ih => rintro F K K' hk ⟨v, h1, h2⟩; exact ⟨v, h1, ih _ _ _ hk h2⟩) _ _ _ _ (fun F' ⟨G', h1, h2⟩ => ⟨G', h1, key _ h2⟩) this⟩
theorem wpAnyIn_of {md : Region.Mode} {K : Act → World → Prop} {Q' : Exit → Act → World → Prop} (hd : ∀ (i : Nat) (o : Oper), ops[i]? = some o → notDefer o = true) (hK : ∀ a w, K a w → Q' .normal a w) : ∀ (fuel : Nat) (listed : Array Bool) (a : Act) (w : World), wpAny P md ops (only K) fuel listed a w → wpAnyIn (fen r) n P md ops Q' fuel listed a w := by
  intro fuel
  induction fuel with
  | zero => intro listed a w h; exact ⟨h.1, hK _ _ h.2⟩
  | succ fuel ih =>
    intro listed a w h
    refine ⟨fun h0 => hK _ _ (h.1 h0), fun i hi => ?_⟩
    have h1 := h.2 i hi
    unfold wpOp at h1
    unfold wpOpIn
    split
    · rename_i ho
      rw [ho] at h1
      exact ih _ _ _ h1
    · rename_i o ho
      rw [ho] at h1
      simp only at h1
      split
      · rename_i hw
        rw [if_pos hw] at h1
        rcases h1 with h1 | ⟨_, a0, w0, q⟩
        · refine ⟨fun f _ => fen_fn r f, ?_⟩
          rw [fen_round]
          rw [Oper.semAt_eq r a.eval o (fun c e => by have := hd i o ho; simp [notDefer, e] at this)]
          refine upon_in (Q := only K) only_normal ?_
          have h2 : o.wp P a w (wpAnyIn (fen r) n P md ops Q' fuel (listed.setIfInBounds i true)) (only K) := Oper.wp_mono (fun a w h => ih _ _ _ h) h1
          exact h2
        · exact q.elim
      · rename_i hw
        rw [if_neg hw] at h1
        exact ⟨fun f _ => fen_fn r f, ih _ _ _ h1⟩
theorem XR'.drawRS {id : Nat} {l : List Oper} (wS : World) (Ls : Lo) (p q : List Nat) (hm : P.follows .mixedOrders = true) (hL : ∀ w, Sys B w0 L w → Sys B wS Ls w) (hr : pickR l q = some rem) (hnd : l.all notDefer = true)
    (hp : (pureOk l.toArray (Array.replicate l.length false) p && partB l.length p q) = true)
    (h : Fw P N B wS ds False (fun F' => XR P N B wS w0 ds (only fun a w => Q .normal a w) Ls l.toArray rem F' L) l.toArray Ls (pickO l.toArray p) F) : XR' P N B w0 ds Q r n (.region id l.toArray true) F L :=
  ⟨fun a w hf hs => by
    have h1 := (XH.ofRS (Q := only fun a w => Q .normal a w) wS Ls p q hr hp h).run l.toArray.size a { w with drawn := w.drawn + 1 } (by simp) hf hs.drew (hL _ hs.drew)
    refine wpIn_region_any hm (wpAnyIn_of (K := fun a w => Q .normal a w) (fun i o ho => ?_) (fun _ _ h => h) _ _ _ _ (wpAny_of_held _ _ _ _ h1))
    exact List.all_eq_true.1 hnd o (List.mem_of_getElem? (by simpa using ho))⟩
theorem XR'.exit {id : Nat} (h : XE N B w0 ds Q (.exit id) F L) : XR' P N B w0 ds Q r n (.exit id) F L := ⟨fun a w hf hs => wpIn_exit (h.run a w hf hs)⟩
theorem XE.onlyN (h : XE N B w0 ds Q .normal F L) : XE N B w0 ds (only fun a w => Q .normal a w) .normal F L := ⟨h.run⟩
end
end X
namespace X
open Go Go.RowKit
section
variable {P : Program} {T : TT} {N : Nat} {B : Nat} {wS w0 : World} {ds : List Deferred} {Q : Exit → Act → World → Prop} {F : Fr} {L L' Ls : Lo} {ops : Array Oper} {rest : List Oper} {rem : List (Nat × Oper)} {ty : TypeId} {p : String} {af : Array Edge}
theorem XL.callFW {f : FuncId} {d : Nat} {args : Array Operand} {vs : List Value} {ats : Array TypeId} {b0 : Nat} {ks : List Nat} {rs : List RowX} {hs : List Held} {wE : World} (R : Value → List Held → Prop) (h : callOk P f = true)
    (ha : evos F args.toList = some vs) (hd : Nat.blt d N = true) (hF : Fam w0 b0 ks rs hs) (hks : ∀ k, k ∈ ks → k < w0.heap.size) (hbl : Below B wE w0)
    (hc : ∀ w, Sys B w0 L w → Fam w b0 (L.map (·.1) ++ ks) rs hs → Below B wE w → Calls P f vs.toArray w (Made w R))
    (k : ∀ w' v new, R v new → Fam w' b0 (L.map (·.1) ++ ks) rs (new ++ hs) → Below B wE w' → (∀ k, k ∈ L.map (·.1) ++ ks → k < w'.heap.size) → Sys B w0 L w' → XL P N B w' ds Q ops rest ((d, v) :: F) L)
    (hL : ∀ e, e ∈ L → e.1 ∈ ks ∨ w0.heap.size ≤ e.1 := by (intro e he; repeat (first | (cases he; done) | (rcases List.mem_cons.1 he with rfl | he; · first | (right; assumption) | (left; simp <;> fail)))) <;> fail) :
    XL P N B w0 ds Q ops ({ dst := some d, op := .call { callee := .value (.func f), args := args, argTypes := ats }, type := ty, pos := p, after := af, guard := none } :: rest) F L := by
  refine XL.call (fst := []) (cap := []) (vs := vs) h rfl ha hd (List.Sublist.refl _) (fun w v w' => ∃ new, R v new ∧ (∀ x, x ∈ new → x.p w' (Btw w.heap.size w'.heap.size)) ∧ Below w.heap.size w w') (fun w S => ?_) (fun w v w' S hR hb S' => ?_)
  · have h1 := hF.call S (Below.refl _ _) hL hks (new := []) fun _ h => by cases h
    simp only [List.nil_append, List.append_nil] at h1 ⊢
    exact (hc w S h1.1 (hbl.trans S.toBelow)).mono fun e w' ⟨v, new, e1, e2, e3, e4⟩ => ⟨v, e1, ⟨new, e2, e3, e4⟩, e4⟩
  · obtain ⟨new, e2, e3, e4⟩ := hR
    have h1 := hF.call S hb hL hks e3
    exact k w' v new e2 h1.1 (hbl.trans S'.toBelow) h1.2 S'
theorem Sys.anchor3 {W w2 w : World} {L2 : Lo} (S' : Sys B W L w2) (h : Sys B w2 L2 w) (hs : List.Sublist L L2) (hn : ∀ e, e ∈ L2 → e.1 ∈ L.map (·.1) ∨ W.heap.size ≤ e.1) : Sys B W L w :=
  ⟨h.os.trans S'.os, h.tape.trans S'.tape, h.output.trans S'.output, Nat.le_trans S'.size h.size, S'.base, fun k hk hk2 => by
    rw [h.old k (Nat.lt_of_lt_of_le hk S'.size) (fun e he e1 => by
      rcases hn e he with h1 | h1
      · obtain ⟨e', h3, h4⟩ := List.mem_map.1 h1
        exact hk2 e' h3 (by rw [h4, e1])
      · omega), S'.old k hk hk2], fun e he => ⟨(S'.own e he).1, (h.own e (hs.subset he)).2⟩, h.nd.sublist (hs.map _)⟩
theorem z5 {W w0 : World} (k : XR P N B W w0 ds Q Ls ops rem F L) (S' : Sys B W Ls w0 := by assumption) (hs : List.Sublist Ls L := by (repeat (first | exact List.Sublist.refl _ | exact List.nil_sublist _ | refine List.Sublist.cons_cons _ ?_ | refine List.Sublist.cons _ ?_)) <;> fail)
    (hn : ∀ e, e ∈ L → e.1 ∈ Ls.map (·.1) ∨ W.heap.size ≤ e.1 := by (intro e he; repeat (first | (cases he; done) | (rcases List.mem_cons.1 he with rfl | he; · first | (left; simp <;> fail) | (right; simp only; omega)))) <;> fail) :
    XE N B w0 ds (heldR P B W Q Ls ops rem) .normal F L := XE.heldR (fun _ h => Sys.anchor3 S' h hs hn) k
structure Since (W0 : World) (g : Nat) (W : World) : Prop where
  os : W.os = W0.os
  tape : W.tape = W0.tape
  output : W.output = W0.output
  size : W0.heap.size ≤ W.heap.size
  old : ∀ k, k < W0.heap.size → k ≠ g → W.heap[k]? = W0.heap[k]?
theorem Sys.anchor4 {W0 W w : World} {g : Nat} {o : Obj} (hS : Since W0 g W) (hB : B ≤ W0.heap.size) (h : Sys B W L w) (hs : List.Sublist [(g, o)] L) (hn : ∀ e, e ∈ L → e.1 = g ∨ W0.heap.size ≤ e.1) : Sys B W0 [(g, o)] w :=
  ⟨h.os.trans hS.os, h.tape.trans hS.tape, h.output.trans hS.output, Nat.le_trans hS.size h.size, hB, fun k hk hk2 => by
    have hkg : k ≠ g := fun e => hk2 (g, o) (.head _) e.symm
    rw [h.old k (Nat.lt_of_lt_of_le hk hS.size) (fun e he e1 => by
      rcases hn e he with h1 | h1
      · exact hkg (e1.symm.trans h1)
      · omega), hS.old k hk hkg], fun e he => h.own e (hs.subset he), h.nd.sublist (hs.map _)⟩
theorem z6 {W0 w0 : World} {g : Nat} {o : Obj} (k : XR P N B W0 w0 ds Q [(g, o)] ops rem F L) (hS : Since W0 g w0 := by assumption) (hB : B ≤ W0.heap.size := by assumption) (hs : List.Sublist [(g, o)] L := by (repeat (first | exact List.Sublist.refl _ | exact List.nil_sublist _ | refine List.Sublist.cons_cons _ ?_ | refine List.Sublist.cons _ ?_)) <;> fail)
    (hn : ∀ e, e ∈ L → e.1 = g ∨ W0.heap.size ≤ e.1 := by (intro e he; repeat (first | (cases he; done) | (rcases List.mem_cons.1 he with rfl | he; · first | (left; rfl) | (right; simp only; omega)))) <;> fail) :
    XE N B w0 ds (heldR P B W0 Q [(g, o)] ops rem) .normal F L := XE.heldR (fun _ h => Sys.anchor4 hS hB h hs hn) k
variable {dst : Option Tmp} {gd : Option (Nat × Bool)} {pu : Prop}
end
end X
namespace X
open Go Go.RowKit Bs
section
variable {base B : Nat} {ks : List Nat} {row : Option Nat} {W W' W2 : World} {v : Value} {ms : List Mom} {L : Lo}
theorem Grew.sys {w : World} (S : Sys B W L w) (hL : ∀ e, e ∈ L → e.1 ∈ ks ∨ W.heap.size ≤ e.1) : Grew ks row W w := ⟨S.size, fun j h1 h2 h3 => S.old j h1 fun e he e1 => by
  rcases hL e he with h | h
  · exact h2 (e1 ▸ h)
  · omega⟩
theorem Own.move (h : Grew ks row W W') : ∀ j, Own base ks row W j → W'.heap[j]? = W.heap[j]? := fun j hj => h.old j hj.2.1 hj.2.2.1 hj.2.2.2
theorem Own.le (h : W.heap.size ≤ W'.heap.size) : ∀ j, Own base ks row W j → Own base ks row W' j := fun j hj => ⟨hj.1, Nat.lt_of_lt_of_le hj.2.1 h, hj.2.2⟩
theorem MomsAt.move (hm : MomsAt W base ks v ms) (h : Grew ks none W W') : MomsAt W' base ks v ms := by
  have h' : Grew ks v.ownBlock W W' := ⟨h.size, fun j h1 h2 _ => h.old j h1 h2 (by simp)⟩
  refine ⟨⟨hm.row.1, ?_⟩, hm.sep, fun k hk => ⟨(hm.lt k hk).1, Nat.lt_of_lt_of_le (hm.lt k hk).2 h.size⟩, fun m hmm => ?_⟩
  · rcases hm.row.2 with h1 | ⟨g, cap, cur, rfl, hb, hg, h1⟩
    · exact .inl h1
    · refine .inr ⟨g, cap, cur, rfl, hb, ?_, h1⟩
      rw [h.old g (Array.getElem?_eq_some_iff.1 hg).1 (hm.sep g rfl) (by simp)]
      exact hg
  · obtain ⟨h1, h2⟩ := hm.ins m hmm
    exact ⟨(h1.keep (Own.move h')).mono (Own.le h.size), (h2.keep (Own.move h')).mono (Own.le h.size)⟩
theorem MomsAt.nil : MomsAt W base ks (.slice none 0 0) [] := ⟨World.ownsRow_nil _ _ _ _, fun k hk => by simp [Value.ownBlock] at hk, fun k hk => by simp [Value.ownBlock] at hk, fun m hm => by cases hm⟩
theorem MomsAt.more {v' : Value} {m : Mom} (hm : MomsAt W base ks v ms) (hb : base ≤ W.heap.size) (hrow : W'.ownsRow base 117 7 v' (ms.length + 1) (ms.flatMap Mom.c ++ m.c)) (hv : ∀ k, v'.ownBlock = some k → v.ownBlock = some k ∨ W.heap.size ≤ k ∧ k ∉ ks)
    (h : Grew ks v.ownBlock W W') (h1 : IntsAt W (Own base ks v.ownBlock W) m.q m.s.fil) (h2 : IntsAt W (Own base ks v.ownBlock W) m.r m.f.taken) : MomsAt W' base ks v' (ms ++ [m]) := by
  have hcl : ∀ j, Own base ks v.ownBlock W j → Own base ks v'.ownBlock W' j := fun j hj => ⟨hj.1, Nat.lt_of_lt_of_le hj.2.1 h.size, hj.2.2.1, fun e => by
    rcases hv j e with h3 | h3
    · exact hj.2.2.2 h3
    · have := hj.2.1; omega⟩
  refine ⟨by simpa using hrow, fun k hk => ?_, fun k hk => hrow.lt k hk, fun m' hm' => ?_⟩
  · rcases hv k hk with h3 | h3
    · exact hm.sep k h3
    · exact h3.2
  · rcases List.mem_append.1 hm' with h3 | h3
    · obtain ⟨a1, a2⟩ := hm.ins m' h3
      exact ⟨(a1.keep (Own.move h)).mono hcl, (a2.keep (Own.move h)).mono hcl⟩
    · rw [List.mem_singleton] at h3
      subst h3
      exact ⟨(h1.keep (Own.move h)).mono hcl, (h2.keep (Own.move h)).mono hcl⟩
end
theorem grew3 {B : Nat} {ks : List Nat} {row : Option Nat} {W w1 w2 w3 : World} {L1 L3 : Lo} (S1 : Sys B W L1 w1) (hB : Below w1.heap.size w1 w2) (S3 : Sys B w2 L3 w3) (h1 : ∀ k, k ∈ L1.map (·.1) → k ∈ ks ∨ W.heap.size ≤ k) (h3 : ∀ k, k ∈ L3.map (·.1) → k ∈ ks ∨ W.heap.size ≤ k) : Grew ks row W w3 :=
  ⟨Nat.le_trans S1.size (Nat.le_trans hB.size S3.size), fun j hj hk _ => by
    have a1 : w1.heap[j]? = W.heap[j]? := S1.old j hj fun e he e1 => by
      rcases h1 e.1 (List.mem_map.2 ⟨e, he, rfl⟩) with h | h
      · exact hk (e1 ▸ h)
      · omega
    have hj1 := Nat.lt_of_lt_of_le hj S1.size
    rw [S3.old j (Nat.lt_of_lt_of_le hj1 hB.size) fun e he e1 => by
      rcases h3 e.1 (List.mem_map.2 ⟨e, he, rfl⟩) with h | h
      · exact hk (e1 ▸ h)
      · omega, hB.block j hj1, a1]⟩
theorem fail_con : conB (Tryz.prog.underlying 150) = true := by kernel_rfl
def IterR (B l D gl gs gb g8 g7 g6 : Nat) (r1 r2 : Loop) (ol ob : Obj) (b : Bas) (s : Sta) (ts : List Tick) (e x : Value) (w w' : World) : Prop :=
  (badAt b s ts = none ∧ ∃ W v ms os, Sys B W (L8 l D gl gs gb g8 g7 g6 r1 ol os ob v e x) w' ∧ Below B w W ∧ MomsAt W B (K8 l D gl gs gb g8 g7 g6) v ms ∧ ms.map Mom.p = momsAt b s ts ts.length) ∨
  (∃ k, badAt b s ts = some k ∧ ∃ W v os gf, Sys B W (L8 l D gl gs gb g8 g7 g6 r2 ol os ob v (.iface 150 (.pointer (some ⟨gf, 0, none⟩))) (.slice none 0 0)) w' ∧ Below B w W ∧ B ≤ gf ∧ gf ∉ K8 l D gl gs gb g8 g7 g6 ∧ W.heap[gf]? = some (cel 154 [.int .i64 (k : Nat), .int .i64 (errAt b s ts k)]))
set_option maxHeartbeats 8000000 in
theorem iter_any {B l D gl gs gb g8 g7 g6 : Nat} {w : World} {fn : FuncId} {a : Act} {assign body : Code} {c : Code} {e x : Value} {p : BV} {b : Bas} {q r : SV} {s : Sta} {ts : List Tick}
    (hc : Tryz.f54.body = some c) (hr : rfOf c = some (assign, body))
    (hf : Fits 25 [] [(6, .pointer (some ⟨g6, 0, none⟩)), (7, .pointer (some ⟨g7, 0, none⟩)), (8, .pointer (some ⟨g8, 0, none⟩))] a)
    (S0 : Sys B w (L8 l D gl gs gb g8 g7 g6 (recO fn a.tmps #[15, 16] assign body D .ready none) (cel 49 [svV r]) (cel 47 (staC q s)) (cel 25 (basC p b)) (.slice none 0 0) e x) w)
    (hb : BasAt w B p b) (hq : IntsAt w (Lt B) q s.fil) (ht : TksAt w (Lt B) r ts) (ho : Ok b) (hs : StaOk b s) (hn : ts.length ≤ 300) :
    Calls Tryz.prog 88 #[.func (.yield l) #[] #[], .pointer (some ⟨gl, 0, none⟩), .pointer (some ⟨gb, 0, none⟩), .pointer (some ⟨gs, 0, none⟩)] w fun e1 w' => ∃ u, e1 = .returned u ∧
      IterR B l D gl gs gb g8 g7 g6 (recO fn a.tmps #[15, 16] assign body D .ready none) (recO fn a.tmps #[15, 16] assign body D .done (some .ret)) (cel 49 [svV r]) (cel 25 (basC p b)) b s ts e x w w' := by
  obtain ⟨A, n, cc⟩ := r
  have hn1 := ht.len
  simp only at hn1
  subst hn1
  simp only [staC, basC, svV] at S0 ⊢
  have hlits : ∃ r1, recO fn a.tmps #[15, 16] assign body D .ready none = r1 ∧ ∃ r2, recO fn a.tmps #[15, 16] assign body D .done (some .ret) = r2 := ⟨_, rfl, _, rfl⟩
  obtain ⟨r1, hr1, r2, hr2⟩ := hlits
  rw [hr1] at S0
  rw [hr1, hr2]
  refine enterL Tryz.func88 rfl Tryz.ntmps88 rfl (S0) ?_; simp only [frame, Nat.zero_add, Nat.reduceAdd]
  refine XC.hint 1 5 ?_
  refine XC.hint 2 3 ?_
  refine XC.hint 3 4 ?_
  repeat (first | (refine M0 ?_; first | refine SL ?_ | refine SB fun _ _ => ?_) | (refine M1 ?_; first | refine SC ?_ | refine SD ?_) | (refine M2 ?_; refine SE ?_) | (refine M3 ?_; first | refine SG ?_ | refine SF ?_) | (refine M4 ?_; refine SR ?_) | (refine M5 ?_; first | exact M7 | refine YM ?_ | refine YN ?_ ?_))
  refine XC.loopk [0, 2, 3, 10, 11] rfl (fun s' : Nat × World × Value × List Mom × SV => [(12, .int .i64 (s'.1 : Nat))])
    (fun s' => L8 l D gl gs gb g8 g7 g6 r1 (cel 49 [.slice A ts.length cc]) (cel 47 (staC s'.2.2.2.2 (staAt b s ts s'.1))) (cel 25 (basC p b)) s'.2.2.1 e x) (fun s' => s'.2.1)
    (fun s' => s'.1 ≤ ts.length ∧ (∀ j, j < s'.1 → errAt b s ts j = 0) ∧ Below B w s'.2.1 ∧ B ≤ s'.2.1.heap.size ∧ MomsAt s'.2.1 B (K8 l D gl gs gb g8 g7 g6) s'.2.2.1 s'.2.2.2.1 ∧ s'.2.2.2.1.map Mom.p = momsAt b s ts s'.1 ∧
      IntsAt s'.2.1 (Own 0 (K8 l D gl gs gb g8 g7 g6) s'.2.2.1.ownBlock s'.2.1) s'.2.2.2.2 (staAt b s ts s'.1).fil)
    (fun s' => ts.length - s'.1) (0, w, .slice none 0 0, [], q) ⟨Nat.zero_le _, fun j hj => absurd hj (by simp), Below.refl _ _, S0.base, MomsAt.nil, rfl, ?_⟩ ZZSUB (fun _ h => h) ?_
  · refine hq.mono fun j hj => ⟨Nat.zero_le _, Nat.lt_of_lt_of_le hj S0.base, fun hk => ?_, by simp [Value.ownBlock]⟩
    have hj' : j < B := hj
    have : ∀ e', e' ∈ L8 l D gl gs gb g8 g7 g6 r1 (cel 49 [.slice A ts.length cc]) (cel 47 (staC q s)) (cel 25 (basC p b)) (.slice none 0 0) e x → B ≤ e'.1 := fun e' he' => (S0.own e' he').1
    obtain ⟨e', he', e2⟩ := List.mem_map.1 (show j ∈ (L8 l D gl gs gb g8 g7 g6 r1 (cel 49 [.slice A ts.length cc]) (cel 47 (staC q s)) (cel 25 (basC p b)) (.slice none 0 0) e x).map (·.1) from hk)
    have := this e' he'
    omega
  rintro ⟨k, W, v, ms, qk⟩ ⟨hk, h0, hBW, hBsz, hm, hmp, hqk⟩
  simp only at hk h0 hBW hBsz hm hmp hqk
  simp only [staC, basC]
  dsimp only [List.cons_append, List.nil_append]
  repeat (first | (refine M0 ?_; first | refine SL ?_ | refine SB fun _ _ => ?_) | (refine M1 ?_; first | refine SC ?_ | refine SD ?_) | (refine M2 ?_; refine SE ?_) | (refine M3 ?_; first | refine SG ?_ | refine SF ?_) | (refine M4 ?_; refine SR ?_) | (refine M5 ?_; first | exact M7 | refine YM ?_ | refine YN ?_ ?_))
  refine XC.cond _ rfl (fun h1 => ?_) (fun h1 => ?_)
  · have hkn : k < ts.length := by simpa using h1
    obtain ⟨ad, rfl, hlt, _⟩ := ht.rd.at_ (by simp only; omega)
    have hcell := (ht.below hBW).tick hkn
    have hbW := hb.below hBW
    have hsk := staAt_ok ho hs k h0
    repeat (first | (refine M0 ?_; first | refine SL ?_ | refine SB fun _ _ => ?_ | refine Y4 (Ev.load_old_agg tok (tickC (tk ts k)) rfl rfl rfl (add_lt hlt) hcell) ?_) | (refine M1 ?_; first | refine SC ?_ | refine SD ?_) | (refine M2 ?_; refine SE ?_) | (refine M3 ?_; first | refine SG ?_ | refine SF ?_ | refine YF (Ev.load_old_agg tok (tickC (tk ts k)) rfl rfl rfl (add_lt hlt) hcell) ?_) | (refine M4 ?_; refine SR ?_) | (refine M5 ?_; first | exact M7 | refine YM ?_ | refine YN ?_ ?_))
    rename_i gt hgt
    have hk1 : ∀ j, j ∈ (gt :: K8 l D gl gs gb g8 g7 g6) → j ∈ K8 l D gl gs gb g8 g7 g6 ∨ W.heap.size ≤ j := fun j hj => by
      rcases List.mem_cons.1 hj with rfl | hj
      · exact .inr hgt
      · exact .inl hj
    refine XL.call (fst := []) (cap := []) (ck rfl) rfl rfl rfl (List.Sublist.refl _) (fun w1 v w2 => StepR b (staAt b s ts k) (tk ts k) w1 v w2)
      (fun w1 S1 => (step_any (p := p) (q := qk) (hbW.sys S1) (hqk.sys S1 ?_) ho hsk).mono fun e w' ⟨v, h, h4⟩ => ⟨v, h, h4, h4.choose_spec.choose_spec.2.2.2⟩) (fun w1 v2 w2 S1 hR hB S2 => ?_)
    · exact fun j hj => ⟨hj.2.1, fun e' he' e2 => by
        rcases hk1 e'.1 (List.mem_map.2 ⟨e', he', rfl⟩) with h | h
        · exact hj.2.2.1 (e2 ▸ h)
        · have := hj.2.1; omega⟩
    obtain ⟨q2, rf, rfl, hq2, hrf, _⟩ := hR
    simp only [staV, staC, floV, floC]
    repeat (first | (refine M0 ?_; first | refine SL ?_ | refine SB fun _ _ => ?_) | (refine M1 ?_; first | refine SC ?_ | refine SD ?_) | (refine M2 ?_; refine SE ?_) | (refine M3 ?_; first | refine SG ?_ | refine SF ?_) | (refine M4 ?_; refine SR ?_) | (refine M5 ?_; first | exact M7 | refine YM ?_ | refine YN ?_ ?_))
    rename_i gc hgc ga hga
    have hBB : Below B w w2 := hBW.trans S2.toBelow
    refine XC.cond _ rfl (fun h2 => ?_) (fun h2 => ?_)
    · repeat (first | (refine M0 ?_; first | refine SL ?_ | refine SB fun _ _ => ?_ | refine Y4 (Ev.makeI fail_con rfl) ?_) | (refine XI.id ?_; first | refine XI.done ?_ | refine XI.one1 rfl ?_) | (refine XR'.id ?_; first | refine XR'.seq ?_ | refine XR'.region ?_ | refine XR'.block ?_ | refine XR'.skip ?_ | refine XR'.ret ?_ | refine XR'.cond_t rfl ?_ | refine XR'.cond_f rfl ?_ | refine XR'.exit ?_) | (refine M1 ?_; first | refine XC.regionI (id := 5) 1 ?_ | refine SC ?_ | refine SD ?_) | (refine M2 ?_; first | refine XE.nextI ?_ | refine XE.nextR ?_ | refine SE ?_))
      refine XI.rebase (L' := L8 l D gl gs gb g8 g7 g6 r1 (cel 49 [.slice (some ad) ts.length cc]) (cel 47 (staC qk (staAt b s ts k))) (cel 25 (basC p b)) v e x) ?_ (fun w3 S3 => ?_)
      · simp only [staC, basC]
        repeat (first | exact List.Sublist.refl _ | refine List.Sublist.cons _ ?_)
      rename_i gf hgf
      have hgfK : gf ∉ K8 l D gl gs gb g8 g7 g6 := fun h => by
        have := S1.keyLt gf (List.mem_cons_of_mem gt h)
        have := hB.size
        omega
      have hgfo := (S3.own _ List.mem_cons_self).2
      refine XI.yield (vs := [.agg ⟨zmC⟩, .iface 150 (.pointer (some ⟨gf, 0, none⟩))]) rfl rfl rfl (fun _ v5 w5 => v5 = .bool false ∧ Sys B w3 (L8 l D gl gs gb g8 g7 g6 r2 (cel 49 [.slice (some ad) ts.length cc]) (cel 47 (staC qk (staAt b s ts k))) (cel 25 (basC p b)) v (.iface 150 (.pointer (some ⟨gf, 0, none⟩))) (.slice none 0 0)) w5)
        (fun w4 S4 => ?_) (fun w4 v5 w5 S4 ⟨e5, S5⟩ => ⟨_, _, S5, ?_⟩)
      · rw [← hr1] at S4
        obtain ⟨a1, a2⟩ := round_err (n := 0) (gf := gf) hc hr hf S4
        rw [hr2] at a2
        exact ⟨_, _, _, _, a1, a2⟩
      subst e5
      repeat (first | (refine M0 ?_; first | refine SL ?_ | refine SB fun _ _ => ?_) | (refine XI.id ?_; first | refine XI.done ?_ | refine XI.one1 rfl ?_) | (refine XR'.id ?_; first | refine XR'.seq ?_ | refine XR'.region ?_ | refine XR'.block ?_ | refine XR'.skip ?_ | refine XR'.ret ?_ | refine XR'.cond_t rfl ?_ | refine XR'.cond_f rfl ?_ | refine XR'.exit ?_) | (refine M1 ?_; first | refine SC ?_ | refine SD ?_) | (refine M2 ?_; first | refine XE.nextI ?_ | refine XE.nextR ?_ | refine SE ?_))
      refine XE.ret0 Tryz.results88 (fun w' S => ?_)
      exact ⟨_, rfl, .inr ⟨k, badAt_some hkn h0 (of_decide_eq_true h2), w3, v, _, gf, S, hBB.trans S3.toBelow, (S3.own _ List.mem_cons_self).1, hgfK, hgfo⟩⟩
    · repeat (first | (refine M0 ?_; first | refine SL ?_ | refine SB fun _ _ => ?_) | (refine XI.id ?_; first | refine XI.done ?_ | refine XI.one1 rfl ?_) | (refine XR'.id ?_; first | refine XR'.seq ?_ | refine XR'.region ?_ | refine XR'.block ?_ | refine XR'.skip ?_ | refine XR'.ret ?_ | refine XR'.cond_t rfl ?_ | refine XR'.cond_f rfl ?_ | refine XR'.exit ?_) | (refine M1 ?_; first | refine XC.regionI (id := 7) 1 ?_ | refine SC ?_ | refine SD ?_) | (refine M2 ?_; first | refine XE.nextI ?_ | refine XE.nextR ?_ | refine SE ?_))
      refine XI.rebase (L' := L8 l D gl gs gb g8 g7 g6 r1 (cel 49 [.slice (some ad) ts.length cc]) (cel 47 (staC q2 (outS b (staAt b s ts k) (tk ts k)))) (cel 25 (basC p b)) v e x) ?_ (fun w3 S3 => ?_)
      · simp only [staC, basC]
        repeat (first | exact List.Sublist.refl _ | refine List.Sublist.cons _ ?_)
      have hk3 : ∀ j, j ∈ (ga :: gc :: gt :: K8 l D gl gs gb g8 g7 g6) → j ∈ K8 l D gl gs gb g8 g7 g6 ∨ W.heap.size ≤ j := fun j hj => by
        have := S1.size
        have := hB.size
        rcases List.mem_cons.1 hj with rfl | hj
        · exact .inr (by omega)
        rcases List.mem_cons.1 hj with rfl | hj
        · exact .inr (by omega)
        exact hk1 j hj
      have hE : errAt b s ts k = 0 := show stepE b (staAt b s ts k) (tk ts k) = 0 by simpa using h2
      have hG : Grew (K8 l D gl gs gb g8 g7 g6) none W w3 := grew3 S1 hB S3 hk1 hk3
      have hm3 := hm.move hG
      have hmade : ∀ j, Btw w1.heap.size w2.heap.size j → Own B (K8 l D gl gs gb g8 g7 g6) v.ownBlock w3 j ∧ w3.heap[j]? = w2.heap[j]? := fun j hj => by
        have a1 := S1.size
        have a3 := S3.size
        refine ⟨⟨Nat.le_trans hBsz (Nat.le_trans a1 hj.1), Nat.lt_of_lt_of_le hj.2 a3, fun h => ?_, fun h => ?_⟩, S3.old j hj.2 fun e' he' e2 => ?_⟩
        · have := S1.keyLt j (List.mem_cons_of_mem gt h)
          have := hj.1
          omega
        · have := (hm.lt j h).2
          have := hj.1
          omega
        · have hj3 : j ∈ (ga :: gc :: gt :: K8 l D gl gs gb g8 g7 g6) := List.mem_map.2 ⟨e', he', e2⟩
          have := hj.1
          have := hj.2
          rcases List.mem_cons.1 hj3 with rfl | hj3
          · omega
          rcases List.mem_cons.1 hj3 with rfl | hj3
          · omega
          have := S1.keyLt j hj3
          omega
      have hq3 : IntsAt w3 (Own B (K8 l D gl gs gb g8 g7 g6) v.ownBlock w3) q2 (outS b (staAt b s ts k) (tk ts k)).fil := (hq2.keep fun j hj => (hmade j hj).2).mono fun j hj => (hmade j hj).1
      have hf3 : IntsAt w3 (Own B (K8 l D gl gs gb g8 g7 g6) v.ownBlock w3) rf (outF b (staAt b s ts k) (tk ts k)).taken := (hrf.keep fun j hj => (hmade j hj).2).mono fun j hj => (hmade j hj).1
      have hml : ms.length = k := by
        have := congrArg List.length hmp
        simpa [momsAt] using this
      have hB3 : B ≤ w3.heap.size := Nat.le_trans hBsz hG.size
      obtain ⟨m, hmd⟩ : ∃ m : Mom, m = ⟨outS b (staAt b s ts k) (tk ts k), outF b (staAt b s ts k) (tk ts k), q2, rf⟩ := ⟨_, rfl⟩
      refine XI.yield (vs := [.agg ⟨m.c⟩, .nilIface]) rfl (by subst hmd; rfl) rfl (fun _ v5 w5 => v5 = .bool true ∧ ∃ v' W', Sys B W' (L8 l D gl gs gb g8 g7 g6 r1 (cel 49 [.slice (some ad) ts.length cc]) (cel 47 (staC q2 (outS b (staAt b s ts k) (tk ts k)))) (cel 25 (basC p b)) v' e x) w5 ∧
          W'.ownsRow B 117 7 v' (ms.length + 1) (ms.flatMap Mom.c ++ m.c) ∧ (∀ k, v'.ownBlock = some k → v.ownBlock = some k ∨ w3.heap.size ≤ k ∧ k ∉ K8 l D gl gs gb g8 g7 g6) ∧ Grew (K8 l D gl gs gb g8 g7 g6) v.ownBlock w3 W' ∧ Below B w3 W')
        (fun w4 S4 => ?_) (fun w4 v5 w5 S4 ⟨e5, v', W', S5, hrow, hv', hG', hBel⟩ => ⟨_, _, S5, ?_⟩)
      · rw [← hr1] at S4 ⊢
        obtain ⟨a1, a2⟩ := round_ok (n := 0) (m := m) hc hr hf S4 hm3 hB3 (Nat.le_refl _) (by omega)
        exact ⟨_, _, _, _, a1, a2⟩
      subst e5
      repeat (first | (refine M0 ?_; first | refine SL ?_ | refine SB fun _ _ => ?_) | (refine XI.id ?_; first | refine XI.done ?_ | refine XI.one1 rfl ?_) | (refine XR'.id ?_; first | refine XR'.seq ?_ | refine XR'.region ?_ | refine XR'.block ?_ | refine XR'.skip ?_ | refine XR'.ret ?_ | refine XR'.cond_t rfl ?_ | refine XR'.cond_f rfl ?_ | refine XR'.exit ?_) | (refine M1 ?_; first | refine SC ?_ | refine SD ?_) | (refine M2 ?_; first | refine XE.nextI ?_ | refine XE.nextR ?_ | refine SE ?_))
      refine XE.roundW (s := (k, W, v, ms, qk)) (fun w6 S6 => ⟨(k + 1, W', v', ms ++ [m], q2), ⟨hkn, fun j hj => ?_, hBB.trans (S3.toBelow.trans hBel), Nat.le_trans hB3 hG'.size, ?_, ?_, ?_⟩, ?_, ZZSUB, S6⟩)
      · rcases Nat.lt_or_ge j k with h | h
        · exact h0 j h
        · have : j = k := by omega
          rw [this]; exact hE
      · subst hmd
        exact hm3.more hB3 hrow hv' hG' hq3 hf3
      · subst hmd
        rw [List.map_append, hmp, momsAt_succ]
        rfl
      · refine (hq3.keep (Own.move hG')).mono fun j hj => ⟨Nat.zero_le _, Nat.lt_of_lt_of_le hj.2.1 hG'.size, hj.2.2.1, fun h => ?_⟩
        rcases hv' j h with h3 | h3
        · exact hj.2.2.2 h3
        · have := hj.2.1; omega
      · simp only
        omega
  · repeat (first | (refine M0 ?_; first | refine SL ?_ | refine SB fun _ _ => ?_) | (refine M1 ?_; first | refine SC ?_ | refine SD ?_) | (refine M2 ?_; refine SE ?_) | (refine M3 ?_; first | refine SG ?_ | refine SF ?_) | (refine M4 ?_; refine SR ?_) | (refine M5 ?_; first | exact M7 | refine YM ?_ | refine YN ?_ ?_))
    have hkn : k = ts.length := by have : ¬ (k < ts.length) := by simpa using h1
                                   omega
    subst hkn
    refine XE.end0 Tryz.results88 (fun w' S => ?_)
    refine ⟨_, rfl, .inl ⟨badAt_none h0, W, v, ms, _, S, hBW, hm, hmp⟩⟩
end X
namespace X
open Go Go.RowKit Bs
structure MomRow (w : World) (ok : Nat → Prop) (r : SV) (ms : List Mom) : Prop where
  rd : ReadsP w ok 7 r.A r.n (ms.flatMap Mom.c)
  max : r.n ≤ 1000
  ins : ∀ m, m ∈ ms → IntsAt w ok m.q m.s.fil ∧ IntsAt w ok m.r m.f.taken
def AllR (b : Bas) (s : Sta) (ts : List Tick) (w : World) (v : Value) (w' : World) : Prop :=
  ((badAt b s ts = none ∧ ∃ r ms, v = .tuple ⟨[svV r, .nilIface]⟩ ∧ MomRow w' (Btw w.heap.size w'.heap.size) r ms ∧ ms.map Mom.p = momsAt b s ts ts.length) ∨
   (∃ k gf, badAt b s ts = some k ∧ v = .tuple ⟨[.slice none 0 0, .iface 150 (.pointer (some ⟨gf, 0, none⟩))]⟩ ∧ w.heap.size ≤ gf ∧ w'.heap[gf]? = some (cel 154 [.int .i64 (k : Nat), .int .i64 (errAt b s ts k)]))) ∧ Below w.heap.size w w'
set_option maxHeartbeats 8000000 in
set_option maxRecDepth 10000 in
theorem all_any {p : BV} {b : Bas} {q r : SV} {s : Sta} {ts : List Tick} {w : World} (hb : BasAt w w.heap.size p b) (hq : IntsAt w (Lt w.heap.size) q s.fil) (ht : TksAt w (Lt w.heap.size) r ts) (ho : Ok b) (hs : StaOk b s) (hn : ts.length ≤ 300) :
    Calls Tryz.prog 54 #[basV p b, staV q s, svV r] w fun e w' => ∃ v, e = .returned v ∧ AllR b s ts w v w' := by
  simp only [basV, basC, staV, staC, svV]
  refine enterM Tryz.func54 rfl Tryz.ntmps54 rfl ?_; simp only [frame, Nat.zero_add, Nat.reduceAdd]
  repeat (first | (refine M0 ?_; first | refine SL ?_ | refine SB fun _ _ => ?_) | (refine M1 ?_; first | refine SC ?_ | refine SD ?_) | (refine M2 ?_; refine SE ?_) | (refine M3 ?_; first | refine SG ?_ | refine SF ?_) | (refine M4 ?_; refine SR ?_) | (refine M5 ?_; first | exact M7 | refine YM ?_ | refine YN ?_ ?_))
  rename_i g3 hg3 g4 hg4 g6 hg6 g7 hg7 g8 hg8
  refine XL.callr (fst := []) (cap := []) (fun w1 v w2 => ∃ gb gs gl, v = .func (.func 88) #[] #[.pointer (some ⟨gl, 0, none⟩), .pointer (some ⟨gb, 0, none⟩), .pointer (some ⟨gs, 0, none⟩)] ∧
      Sys w1.heap.size w1 [(gl, cel 49 [svV r]), (gs, cel 47 (staC q s)), (gb, cel 25 (basC p b))] w2) (ck rfl) rfl rfl rfl
    (fun w1 S1 => moments_any (p := p) (b := b) (q := q) (r := r) (s := s) (x := .nilIface) (y := .nilIface) (z := .nilIface)) (fun w1 v w2 S1 hR => ?_)
  obtain ⟨gb, gs, gl, rfl, S2⟩ := hR
  refine ⟨[(gl, cel 49 [svV r]), (gs, cel 47 (staC q s)), (gb, cel 25 (basC p b)), (g8, cel 113 [.slice none 0 0]), (g7, cel 147 [.nilIface]), (g6, cel 113 [.slice none 0 0])], w1, ?_, ?_⟩
  · exact S1.join (L3 := [(g8, cel 113 [.slice none 0 0]), (g7, cel 147 [.nilIface]), (g6, cel 113 [.slice none 0 0])]) S2 (by repeat (first | exact List.nil_sublist _ | refine List.Sublist.cons_cons _ ?_))
  refine XL.done (XE.next (XC.hint 6 0 (XC.hint 7 1 (XC.hint 8 2 ?_))))
  refine XC.block ?_
  have hB1 := S1.toBelow
  refine XC.rangeFunc (cap := [.pointer (some ⟨gl, 0, none⟩), .pointer (some ⟨gb, 0, none⟩), .pointer (some ⟨gs, 0, none⟩)]) rfl (ck rfl) (fun fn a D w3 hD hf S3 => ?_)
  have hB3 : Below w.heap.size w w3 := hB1.trans S3.toBelow
  have hf3 : Fits 25 [] [(6, .pointer (some ⟨g6, 0, none⟩)), (7, .pointer (some ⟨g7, 0, none⟩)), (8, .pointer (some ⟨g8, 0, none⟩))] a := Sub.fits ZZSUB hf
  refine (iter_any (p := p) (b := b) (q := q) (r := r) (s := s) (ts := ts) (c := _) rfl rfl hf3 (S3.rebase (List.Sublist.refl _)) (hb.below hB3) (hq.below hB3) (ht.below hB3) ho hs hn).mono fun e w4 ⟨u, hu, hI⟩ => ⟨u, hu, ?_⟩
  rcases hI with ⟨hbad, W, v, ms, os, S4, hBW, hm, hmp⟩ | ⟨k, hbad, W, v, os, gf, S4, hBW, hgB, hgK, hgf⟩
  · refine .inl ⟨_, W, S4, ?_⟩
    obtain ⟨rv, rfl, hrn⟩ := owns_sv hm.row
    simp only [svV]
    repeat (first | (refine M0 ?_; first | refine SL ?_ | refine SB fun _ _ => ?_) | (refine M1 ?_; first | refine SC ?_ | refine SD ?_) | (refine M2 ?_; refine SE ?_) | (refine M3 ?_; first | refine SG ?_ | refine SF ?_) | (refine M4 ?_; refine SR ?_) | (refine M5 ?_; first | exact M7 | refine YM ?_ | refine YN ?_ ?_))
    refine XE.retM tok (D := D) (i := 1) Tryz.results54 rfl rfl rfl (by simp only [and_self, and_true]) (fun w' S => ?_)
    have hm' := hm.move (Grew.sys S fun e' he' => .inl (show e'.1 ∈ K8 (D + 1) D gl gs gb g8 g7 g6 from List.mem_map.2 ⟨e', he', rfl⟩))
    obtain ⟨a1, a2, _, _⟩ := ReadsP.own hm'.row
    have hml : ms.length = ts.length := by
      have := congrArg List.length hmp
      simpa [momsAt] using this
    refine ⟨_, rfl, .inl ⟨hbad, rv, ms, rfl, ⟨by rw [a2]; exact a1, by omega, fun m hmm => ?_⟩, hmp⟩, hB3.trans (hBW.trans S.toBelow)⟩
    obtain ⟨i1, i2⟩ := hm'.ins m hmm
    exact ⟨i1.mono fun j hj => ⟨hj.1, hj.2.1⟩, i2.mono fun j hj => ⟨hj.1, hj.2.1⟩⟩
  · refine .inr ⟨_, W, S4, ?_⟩
    repeat (first | (refine M0 ?_; first | refine SL ?_ | refine SB fun _ _ => ?_) | (refine M1 ?_; first | refine SC ?_ | refine SD ?_) | (refine M2 ?_; refine SE ?_) | (refine M3 ?_; first | refine SG ?_ | refine SF ?_) | (refine M4 ?_; refine SR ?_) | (refine M5 ?_; first | exact M7 | refine YM ?_ | refine YN ?_ ?_))
    refine XE.retM tok (D := D) (i := 1) Tryz.results54 rfl rfl rfl (by simp only [and_self, and_true]) (fun w' S => ?_)
    refine ⟨_, rfl, .inr ⟨k, gf, hbad, rfl, hgB, ?_⟩, hB3.trans (hBW.trans S.toBelow)⟩
    rw [S.old gf (Array.getElem?_eq_some_iff.1 hgf).1 fun e' he' e2 => hgK (e2 ▸ (show e'.1 ∈ K8 (D + 1) D gl gs gb g8 g7 g6 from List.mem_map.2 ⟨e', he', rfl⟩))]
    exact hgf
end X
namespace As
open Go Go.RowKit Go.Extern.Stop Go.Stop Go.Extern
theorem as_nil (t : Value) (w : World) :
    Calls Tryz.prog 55 #[.nilIface, t] w fun e w' => e = .returned (.bool false) ∧ w' = w := by
  go_enter Tryz.func55, Tryz.ntmps55
  go_wp2
  go_ret
  exact ⟨rfl, rfl⟩
theorem Fa.valueOf27 (t : Addr) (w : World) : (ReflectliteValue.unpack (.iface 152 (.pointer (some t)))).run Tryz.prog w
    = .ok (.agg #[.pointer (some ⟨1, 152, none⟩), .pointer (some ⟨w.heap.size, 0, none⟩), .int .u64 150]) (w.alloc (.cells #[.pointer (some t)] 152)) := by kernel_rfl
theorem Fa.type27 (a : Addr) (w : World) : (ReflectliteValue.methodAny (ReflectliteValue.valueError "reflectlite.Value.Type" 0) (fun t _ _ _ => ReflectliteType.toType t) #[.agg #[.pointer (some ⟨1, 152, none⟩), .pointer (some a), .int .u64 150]]).run Tryz.prog w
    = .ok (.iface 201 (.agg #[.pointer (some ⟨1, 152, none⟩)])) w := by kernel_rfl
theorem Fa.methodKind (n : Nat) (h : Value) (w : World) : (Go.method (n + 1) 201 (.agg #[h]) "Kind").run Tryz.prog w = .ok (145, h) w := by kernel_rfl
theorem Fa.kind27 (w : World) : ((ReflectliteType.abiMethod fun t => (fun a : Nat => Value.int IntKind.u8 (a : Int)) <$> Rtype.kind t) #[.pointer (some ⟨1, 152, none⟩)]).run Tryz.prog w = .ok (.int .u8 22) w := by kernel_rfl
theorem Fa.kind25 (w : World) : ((ReflectliteType.abiMethod fun t => (fun a : Nat => Value.int IntKind.u8 (a : Int)) <$> Rtype.kind t) #[.pointer (some ⟨1, 150, none⟩)]).run Tryz.prog w = .ok (.int .u8 22) w := by kernel_rfl
theorem rlm (z : Sem Value) (f : TypeId → Addr → Nat → Nat → Sem Value) (v : Value) :
    ReflectliteValue.method z f #[v] = (do match ← ReflectliteValue.parts v with | none => z | some (t, a, fl) => f t a fl (fl % 32)) := rfl
theorem Fa.parts27 (a : Addr) (w : World) : (ReflectliteValue.parts (.agg #[.pointer (some ⟨1, 152, none⟩), .pointer (some a), .int .u64 150])).run Tryz.prog w = .ok (some (152, a, 150)) w := by kernel_rfl
theorem Fa.isNil27 (a p : Addr) (W : World) (ha : W.cell? a = some (.pointer (some p))) :
    (ReflectliteValue.method (ReflectliteValue.valueError "reflectlite.Value.IsNil" 0) ReflectliteValue.isNil #[.agg #[.pointer (some ⟨1, 152, none⟩), .pointer (some a), .int .u64 150]]).run Tryz.prog W = .ok (.bool false) W := by
  rw [rlm]
  simp only [Sem.run_bind, Fa.parts27, Result.andThen]
  simp [ReflectliteValue.isNil, loadVar, isAgg, underlying, Tryz.underlying152, ha, Result.andThen]
theorem Fa.methodElem (n : Nat) (h : Value) (w : World) : (Go.method (n + 1) 201 (.agg #[h]) "Elem").run Tryz.prog w = .ok (156, .agg #[h]) w := by kernel_rfl
theorem Fa.methodImplements (n : Nat) (h : Value) (w : World) : (Go.method (n + 1) 201 (.agg #[h]) "Implements").run Tryz.prog w = .ok (157, .agg #[h]) w := by kernel_rfl
theorem Fa.methodAssignableTo (n : Nat) (h : Value) (w : World) : (Go.method (n + 1) 201 (.agg #[h]) "AssignableTo").run Tryz.prog w = .ok (154, .agg #[h]) w := by kernel_rfl
theorem Fa.elem27 (w : World) : (ReflectliteType.method ReflectliteType.elem #[.agg #[.pointer (some ⟨1, 152, none⟩)]]).run Tryz.prog w = .ok (.iface 201 (.agg #[.pointer (some ⟨1, 150, none⟩)])) w := by kernel_rfl
theorem Fa.implements25 (w : World) : (ReflectliteType.relation "Implements" ReflectliteType.implements_ #[.agg #[.pointer (some ⟨1, 150, none⟩)], .iface 201 (.agg #[.pointer (some ⟨1, 147, none⟩)])]).run Tryz.prog w = .ok (.bool true) w := by kernel_rfl
theorem Fa.typeOf25 (v : Value) (w : World) : (ReflectliteType.typeOf #[.iface 150 v]).run Tryz.prog w = .ok (.iface 201 (.agg #[.pointer (some ⟨1, 150, none⟩)])) w := by kernel_rfl
theorem Fa.assignable25 (w : World) : (ReflectliteType.relation "AssignableTo" ReflectliteType.assignableTo #[.agg #[.pointer (some ⟨1, 150, none⟩)], .iface 201 (.agg #[.pointer (some ⟨1, 150, none⟩)])]).run Tryz.prog w = .ok (.bool true) w := by kernel_rfl
theorem Fa.valueOf25 (e : Addr) (w : World) : (ReflectliteValue.unpack (.iface 150 (.pointer (some e)))).run Tryz.prog w
    = .ok (.agg #[.pointer (some ⟨1, 150, none⟩), .pointer (some ⟨w.heap.size, 0, none⟩), .int .u64 150]) (w.alloc (.cells #[.pointer (some e)] 150)) := by kernel_rfl
theorem Fa.elemOf27 (w : World) : (Rtype.elem? 152).run Tryz.prog w = .ok (some 150) w := by kernel_rfl
theorem Fa.mk25 (p : Addr) (w : World) : (ReflectliteValue.mk 150 p ReflectliteValue.flagAddr).run Tryz.prog w = .ok (.agg #[.pointer (some ⟨1, 150, none⟩), .pointer (some p), .int .u64 406]) w := by kernel_rfl
theorem Fa.elemV27 (a p : Addr) (W : World) (ha : W.cell? a = some (.pointer (some p))) :
    (ReflectliteValue.method (ReflectliteValue.valueError "reflectlite.Value.Elem" 0) ReflectliteValue.elem #[.agg #[.pointer (some ⟨1, 152, none⟩), .pointer (some a), .int .u64 150]]).run Tryz.prog W
      = .ok (.agg #[.pointer (some ⟨1, 150, none⟩), .pointer (some p), .int .u64 406]) W := by
  rw [rlm]
  simp only [Sem.run_bind, Fa.parts27, Result.andThen]
  simp [ReflectliteValue.elem, loadVar, isAgg, underlying, Tryz.underlying152, ha, Result.andThen, Fa.elemOf27, Fa.mk25]
theorem rls (v x : Value) : ReflectliteValue.set #[v, x] = (do
    let (some (dst, a, fl), some (src, b, _)) := (← ReflectliteValue.parts v, ← ReflectliteValue.parts x)
      | unsupported (.noEntry "extern/(internal/reflectlite.Value).Set.zeroValue")
    if fl / ReflectliteValue.flagAddr % 2 == 0 then unsupported (.noEntry "extern/(internal/reflectlite.Value).Set.unaddressable")
    let val ← loadVar src b
    if ← Rtype.directlyAssignable dst src then storeVar dst a val
    else if ← Rtype.implements dst src then
      if (← Rtype.kind src) == 20 then
        match val with
        | .nilIface => unsupported (.noEntry "extern/reflectlite: a nil value of one interface type handed on as a value of another")
        | _ => storeVar dst a val
      else storeVar dst a (.iface src val)
    else panicString ("reflectlite.Set: value of type " ++ (← Rtype.spelt src) ++ " is not assignable to type " ++ (← Rtype.spelt dst))
    pure (.tuple #[])) := rfl
theorem Fa.parts25a (a : Addr) (w : World) : (ReflectliteValue.parts (.agg #[.pointer (some ⟨1, 150, none⟩), .pointer (some a), .int .u64 406])).run Tryz.prog w = .ok (some (150, a, 406)) w := by kernel_rfl
theorem Fa.parts25 (a : Addr) (w : World) : (ReflectliteValue.parts (.agg #[.pointer (some ⟨1, 150, none⟩), .pointer (some a), .int .u64 150])).run Tryz.prog w = .ok (some (150, a, 150)) w := by kernel_rfl
theorem Fa.direct25 (w : World) : (Rtype.directlyAssignable 150 150).run Tryz.prog w = .ok true w := by kernel_rfl
theorem Fa.set25 (ta b e : Addr) (old : Value) (W : World) (hb : W.cell? b = some (.pointer (some e))) (ht : W.cell? ta = some old) (hf : W.frozen? ta = false) :
    (ReflectliteValue.set #[.agg #[.pointer (some ⟨1, 150, none⟩), .pointer (some ta), .int .u64 406], .agg #[.pointer (some ⟨1, 150, none⟩), .pointer (some b), .int .u64 150]]).run Tryz.prog W
      = .ok (.tuple #[]) (W.setCell ta (.pointer (some e))) := by
  rw [rls]
  simp only [Sem.run_bind, Fa.parts25a, Fa.parts25, Result.andThen]
  simp [ReflectliteValue.flagAddr, loadVar, isAgg, underlying, Tryz.underlying150, hb, Result.andThen, Fa.direct25, storeVar, Value.cells, storeCells, Addr.add]
  rw [run_store Tryz.prog W ta _ _ (by rfl)]
  simp [ht, hf]
set_option maxHeartbeats 4000000 in
theorem as_hit (e t : Addr) (old : Value) (w : World) (hg : w.cell? ⟨0, 0, none⟩ = some (.iface 201 (.agg #[.pointer (some ⟨1, 147, none⟩)]))) (ht0 : w.cell? t = some old) (hf0 : w.frozen? t = false) :
    Calls Tryz.prog 55 #[.iface 150 (.pointer (some e)), .iface 152 (.pointer (some t))] w fun ev w' => ev = .returned (.bool true) ∧ w' = ((((w.alloc (.cells #[.pointer (some t)] 152)).alloc (.cells #[.pointer (some ⟨1, 152, none⟩), .pointer (some ⟨w.heap.size, 0, none⟩), .int .u64 150] 173)).alloc (.cells #[.pointer (some ⟨1, 152, none⟩), .pointer (some ⟨w.heap.size, 0, none⟩), .int .u64 150] 173)).alloc (.cells #[.pointer (some e)] 150)).setCell t (.pointer (some e)) := by
  have h6 := @run_callFunc_extern Tryz.prog 72 _ (fun args => ReflectliteValue.unpack (args.getD 0 (.tuple #[]))) Tryz.func72 (by kernel_rfl) (by kernel_rfl) (by kernel_rfl) (by kernel_rfl)
  have h7 := @run_callFunc_extern Tryz.prog 73 _ (ReflectliteValue.methodAny (ReflectliteValue.valueError "reflectlite.Value.Type" 0) (fun t _ _ _ => ReflectliteType.toType t)) Tryz.func73 (by kernel_rfl) (by kernel_rfl) (by kernel_rfl) (by kernel_rfl)
  have h8 := @run_callFunc_extern Tryz.prog 74 _ (ReflectliteValue.method (ReflectliteValue.valueError "reflectlite.Value.IsNil" 0) ReflectliteValue.isNil) Tryz.func74 (by kernel_rfl) (by kernel_rfl) (by kernel_rfl) (by kernel_rfl)
  have h27 := @run_callFunc_extern Tryz.prog 145 _ (ReflectliteType.abiMethod fun t => do pure (.int .u8 (← Rtype.kind t))) Tryz.func145 (by kernel_rfl) (by kernel_rfl) (by kernel_rfl) (by kernel_rfl)
  have h37 := @run_callFunc_extern Tryz.prog 156 _ (ReflectliteType.method ReflectliteType.elem) Tryz.func156 (by kernel_rfl) (by kernel_rfl) (by kernel_rfl) (by kernel_rfl)
  have h38 := @run_callFunc_extern Tryz.prog 157 _ (ReflectliteType.relation "Implements" ReflectliteType.implements_) Tryz.func157 (by kernel_rfl) (by kernel_rfl) (by kernel_rfl) (by kernel_rfl)
  have h10 := @run_callFunc_extern Tryz.prog 90 _ ReflectliteType.typeOf Tryz.func90 (by kernel_rfl) (by kernel_rfl) (by kernel_rfl) (by kernel_rfl)
  have h35 := @run_callFunc_extern Tryz.prog 154 _ (ReflectliteType.relation "AssignableTo" ReflectliteType.assignableTo) Tryz.func154 (by kernel_rfl) (by kernel_rfl) (by kernel_rfl) (by kernel_rfl)
  have h11 := @run_callFunc_extern Tryz.prog 91 _ (ReflectliteValue.method (ReflectliteValue.valueError "reflectlite.Value.Elem" 0) ReflectliteValue.elem) Tryz.func91 (by kernel_rfl) (by kernel_rfl) (by kernel_rfl) (by kernel_rfl)
  have h12 := @run_callFunc_extern Tryz.prog 92 _ ReflectliteValue.set Tryz.func92 (by kernel_rfl) (by kernel_rfl) (by kernel_rfl) (by kernel_rfl)
  have tO := Fa.typeOf25
  have mA := Fa.methodAssignableTo
  have a25 := Fa.assignable25
  have v25 := Fa.valueOf25
  have f6 := Fa.valueOf27
  have f7 := Fa.type27
  have mK := Fa.methodKind
  have mE := Fa.methodElem
  have mI := Fa.methodImplements
  have k27 := Fa.kind27
  have k25 := Fa.kind25
  have e27 := Fa.elem27
  have i25 := Fa.implements25
  have n8 := Fa.isNil27 ⟨w.heap.size, 0, none⟩ t ((w.alloc (.cells #[.pointer (some t)] 152)).alloc (.cells #[.pointer (some ⟨1, 152, none⟩), .pointer (some ⟨w.heap.size, 0, none⟩), .int .u64 150] 173)) (by simp)
  have hlt : 0 < w.heap.size := by
    rcases Nat.eq_zero_or_pos w.heap.size with h0 | h
    · simp [World.cell?, h0] at hg
    · exact h
  have hg2 : ((w.alloc (.cells #[.pointer (some t)] 152)).alloc (.cells #[.pointer (some ⟨1, 152, none⟩), .pointer (some ⟨w.heap.size, 0, none⟩), .int .u64 150] 173)).cell? ⟨0, 0, none⟩ = some (.iface 201 (.agg #[.pointer (some ⟨1, 147, none⟩)])) := by
    rw [World.cell?_alloc_lt _ _ ⟨0, 0, none⟩ (by simp), World.cell?_alloc_lt _ _ ⟨0, 0, none⟩ hlt]; exact hg
  have htl : t.block < w.heap.size := by
    rcases Nat.lt_or_ge t.block w.heap.size with h | h
    · exact h
    · simp [World.cell?, Array.getElem?_eq_none h] at ht0
  have el := Fa.elemV27 ⟨w.heap.size, 0, none⟩ t (((w.alloc (.cells #[.pointer (some t)] 152)).alloc (.cells #[.pointer (some ⟨1, 152, none⟩), .pointer (some ⟨w.heap.size, 0, none⟩), .int .u64 150] 173)).alloc (.cells #[.pointer (some ⟨1, 152, none⟩), .pointer (some ⟨w.heap.size, 0, none⟩), .int .u64 150] 173)) (by rw [World.cell?_alloc_lt _ _ ⟨w.heap.size, 0, none⟩ (by simp; omega)]; simp)
  have st := Fa.set25 t ⟨w.heap.size + 1 + 1 + 1, 0, none⟩ e old ((((w.alloc (.cells #[.pointer (some t)] 152)).alloc (.cells #[.pointer (some ⟨1, 152, none⟩), .pointer (some ⟨w.heap.size, 0, none⟩), .int .u64 150] 173)).alloc (.cells #[.pointer (some ⟨1, 152, none⟩), .pointer (some ⟨w.heap.size, 0, none⟩), .int .u64 150] 173)).alloc (.cells #[.pointer (some e)] 150))
    (by rw [World.cell?_alloc_at _ _ _ _ (by simp)]; rfl)
    (by rw [World.cell?_alloc_lt _ _ t (by simp; omega), World.cell?_alloc_lt _ _ t (by simp; omega), World.cell?_alloc_lt _ _ t (by simp; omega), World.cell?_alloc_lt _ _ t htl]; exact ht0)
    (by rw [World.frozen?_alloc_old _ _ t (by simp; omega), World.frozen?_alloc_old _ _ t (by simp; omega), World.frozen?_alloc_old _ _ t (by simp; omega), World.frozen?_alloc_old _ _ t (Nat.ne_of_lt htl)]; exact hf0)
  go_enter Tryz.func55, Tryz.ntmps55
  go_wp2
  refine wp_loop_rounds 1 ?_
  rw [rounds_succ]
  go_wp2
  go_ret
  exact ⟨rfl, rfl⟩
end As
namespace X
open Go Go.RowKit Bs
def Laid (w : World) : Prop := w.cell? ⟨0, 0, none⟩ = some (.iface 201 (.agg #[.pointer (some ⟨1, 147, none⟩)]))
theorem Laid.pos {w : World} (h : Laid w) : 0 < w.heap.size := by
  rcases Nat.eq_zero_or_pos w.heap.size with h0 | h1
  · unfold Laid at h; simp [World.cell?, h0] at h
  · exact h1
theorem Laid.below {w w' : World} (h : Laid w) (hb : Below w.heap.size w w') : Laid w' := (World.cell?_of_block (a := ⟨0, 0, none⟩) (hb.block 0 h.pos)).trans h
theorem Laid.sys {B : Nat} {w0 w : World} {L : Lo} (h : Laid w0) (S : Sys B w0 L w) (hB : 0 < B) : Laid w := (World.cell?_of_block (a := ⟨0, 0, none⟩) (S.toBelow.block 0 hB)).trans h
theorem asNil_any (t : Value) (w : World) : Calls Tryz.prog 55 #[.nilIface, t] w fun e w' => e = .returned (.bool false) ∧ Below w.heap.size w w' :=
  (As.as_nil t w).mono fun e w' ⟨h1, h2⟩ => ⟨h1, by subst h2; exact Below.refl _ _⟩
theorem asHit_any {gf gt : Nat} {v0 : Value} {w : World} (hg : Laid w) (ht : w.heap[gt]? = some (cel 150 [v0])) :
    Calls Tryz.prog 55 #[.iface 150 (.pointer (some ⟨gf, 0, none⟩)), .iface 152 (.pointer (some ⟨gt, 0, none⟩))] w fun e w' => e = .returned (.bool true) ∧ Sys gt w [(gt, cel 150 [.pointer (some ⟨gf, 0, none⟩)])] w' := by
  have hlt := (Array.getElem?_eq_some_iff.1 ht).1
  refine (As.as_hit ⟨gf, 0, none⟩ ⟨gt, 0, none⟩ v0 w hg (by simp [World.cell?, ht]) (by simp [World.frozen?, ht])).mono fun e w' ⟨h1, h2⟩ => ⟨h1, ?_⟩
  subst h2
  have S0 := Sys.start1 (Nat.le_refl gt) ht
  have S1 := S0.box (.cells #[.pointer (some ⟨gt, 0, none⟩)] 152)
  have S2 := S1.box (.cells #[.pointer (some ⟨1, 152, none⟩), .pointer (some ⟨w.heap.size, 0, none⟩), .int .u64 150] 173)
  have S3 := S2.box (.cells #[.pointer (some ⟨1, 152, none⟩), .pointer (some ⟨w.heap.size, 0, none⟩), .int .u64 150] 173)
  have S4 := S3.box (.cells #[.pointer (some ⟨gf, 0, none⟩)] 150)
  generalize hW : (((w.alloc (.cells #[.pointer (some ⟨gt, 0, none⟩)] 152)).alloc (.cells #[.pointer (some ⟨1, 152, none⟩), .pointer (some ⟨w.heap.size, 0, none⟩), .int .u64 150] 173)).alloc (.cells #[.pointer (some ⟨1, 152, none⟩), .pointer (some ⟨w.heap.size, 0, none⟩), .int .u64 150] 173)).alloc (.cells #[.pointer (some ⟨gf, 0, none⟩)] 150) = W at S4 ⊢
  have hWg : W.heap[gt]? = some (cel 150 [v0]) := (S4.own (gt, cel 150 [v0]) (by simp)).2
  have S5 := S4.drop (L' := [(gt, cel 150 [v0])]) (by repeat (first | exact List.Sublist.refl _ | refine List.Sublist.cons _ ?_)) (fun e he => by
    simp only [List.mem_cons, List.not_mem_nil, or_false] at he ⊢
    rcases he with rfl | rfl | rfl | rfl | rfl <;> first | (left; rfl) | (right; simp; done) | (right; simp; omega))
  refine S5.turn (i := 0) (o := cel 150 [v0]) rfl rfl rfl rfl rfl ?_ ?_ ?_
  · simp [World.setCell]
  · simp [World.setCell, Array.getElem?_modify, hWg]
  · intro k hk hne
    exact Below.heap_setCell _ _ _ _ hne
def RunR (b : Bas) (s : Sta) (ts : List Tick) (w : World) (v : Value) (w' : World) : Prop :=
  ((runE b s ts ≠ 0 ∧ v = .tuple ⟨[.slice none 0 0, .int .i64 (runE b s ts)]⟩) ∨
   (runE b s ts = 0 ∧ staErr b s = 0 ∧ ts.length ≤ 300 ∧ (∀ k, k < ts.length → errAt b s ts k = 0) ∧ ∃ r ms, v = .tuple ⟨[svV r, .int .i64 0]⟩ ∧ MomRow w' (Btw w.heap.size w'.heap.size) r ms ∧ ms.map Mom.p = momsAt b s ts ts.length)) ∧ Below w.heap.size w w'
theorem badAt_errs {b : Bas} {s : Sta} {ts : List Tick} (h : badAt b s ts = none) : ∀ k, k < ts.length → errAt b s ts k = 0 := by
  unfold badAt at h
  rw [List.find?_eq_none] at h
  intro k hk
  simpa using h k (by simpa using hk)
theorem badAt_err {b : Bas} {s : Sta} {ts : List Tick} {k : Nat} (h : badAt b s ts = some k) : errAt b s ts k ≠ 0 := by
  unfold badAt at h
  rw [List.find?_range_eq_some] at h
  simpa using h.1
theorem runE_bad {b : Bas} {s : Sta} {ts : List Tick} (h : staErr b s ≠ 0) : runE b s ts = staErr b s := by unfold runE; rw [if_pos h]
theorem runE_long {b : Bas} {s : Sta} {ts : List Tick} (h : staErr b s = 0) (h1 : 300 < ts.length) : runE b s ts = 3 := by unfold runE; rw [if_neg (by simp [h]), if_pos h1]
theorem runE_some {b : Bas} {s : Sta} {ts : List Tick} {k : Nat} (h : staErr b s = 0) (h1 : ¬ 300 < ts.length) (h2 : badAt b s ts = some k) : runE b s ts = errAt b s ts k := by unfold runE; rw [if_neg (by simp [h]), if_neg h1, h2]
theorem runE_none {b : Bas} {s : Sta} {ts : List Tick} (h : staErr b s = 0) (h1 : ¬ 300 < ts.length) (h2 : badAt b s ts = none) : runE b s ts = 0 := by unfold runE; rw [if_neg (by simp [h]), if_neg h1, h2]
theorem targ_con : conB (Tryz.prog.underlying 152) = true := by kernel_rfl
set_option maxHeartbeats 8000000 in
theorem run_any {p : BV} {b : Bas} {q r : SV} {s : Sta} {ts : List Tick} {w : World} (hL : Laid w) (hb : BasAt w w.heap.size p b) (hq : IntsAt w (Lt w.heap.size) q s.fil) (ht : TksAt w (Lt w.heap.size) r ts) :
    Calls Tryz.prog 32 #[basV p b, staV q s, svV r] w fun e w' => ∃ v, e = .returned v ∧ RunR b s ts w v w' := by
  obtain ⟨A, n, c⟩ := r
  have hn := ht.len
  have hmax := ht.max
  simp only at hn hmax
  subst hn
  simp only [basV, basC, staV, staC, svV]
  refine enter Tryz.func32 rfl Tryz.ntmps32 rfl ?_; simp only [frame, Nat.zero_add, Nat.reduceAdd]
  repeat (first | (refine M0 ?_; first | refine SL ?_ | refine SB fun _ _ => ?_ | refine Y4 (Ev.call (f := 22) (ck rfl) rfl (fun w S => (checkState_any (hb.sys S) (hq.arg S) :))) ?_) | (refine M1 ?_; first | refine SC ?_ | refine SD ?_) | (refine M2 ?_; refine SE ?_) | (refine M3 ?_; first | refine SG ?_ | refine SF ?_ | refine YF (Ev.call (f := 22) (ck rfl) rfl (fun w S => (checkState_any (hb.sys S) (hq.arg S) :))) ?_) | (refine M4 ?_; refine SR ?_) | (refine M5 ?_; first | exact M7 | refine YM ?_ | refine YN ?_ ?_))
  rename_i g3 hg3 g4 hg4
  refine XL.split _ _ rfl (fun h0 => ?_) (fun h0 => ?_) <;> rw [h0]
  rotate_left
  · have hE : staErr b s ≠ 0 := by simpa using h0
    repeat (first | (refine M0 ?_; first | refine SL ?_ | refine SB fun _ _ => ?_) | (refine M1 ?_; first | refine SC ?_ | refine SD ?_) | (refine M2 ?_; refine SE ?_) | (refine M3 ?_; first | refine SG ?_ | refine SF ?_) | (refine M4 ?_; refine SR ?_) | (refine M5 ?_; first | exact M7 | refine YM ?_ | refine YN ?_ ?_))
    refine XC.cond _ rfl (fun h1 => ?_) (fun h1 => absurd hE (by simpa using h1))
    repeat (first | (refine M0 ?_; first | refine SL ?_ | refine SB fun _ _ => ?_) | (refine M1 ?_; first | refine SC ?_ | refine SD ?_) | (refine M2 ?_; refine SE ?_) | (refine M3 ?_; first | refine SG ?_ | refine SF ?_) | (refine M4 ?_; refine SR ?_) | (refine M5 ?_; first | exact M7 | refine YM ?_ | refine YN ?_ ?_))
    refine XE.retg tok Tryz.results32 rfl (by simp only [and_self, and_true]) (fun w' S => ?_)
    exact ⟨_, rfl, .inl ⟨by rw [runE_bad hE]; exact hE, by rw [runE_bad hE]; rfl⟩, S.toBelow⟩
  have hE : staErr b s = 0 := by simpa using h0
  obtain ⟨ho, hs⟩ := staOk_of hE
  repeat (first | (refine M0 ?_; first | refine SL ?_ | refine SB fun _ _ => ?_) | (refine M1 ?_; first | refine SC ?_ | refine SD ?_) | (refine M2 ?_; refine SE ?_) | (refine M3 ?_; first | refine SG ?_ | refine SF ?_) | (refine M4 ?_; refine SR ?_) | (refine M5 ?_; first | exact M7 | refine YM ?_ | refine YN ?_ ?_))
  refine XC.cond _ rfl (fun h1 => ?_) (fun h1 => ?_)
  · have h3 : 300 < ts.length := by
      have : (300 : Int) < ts.length := by simpa using h1
      omega
    repeat (first | (refine M0 ?_; first | refine SL ?_ | refine SB fun _ _ => ?_) | (refine M1 ?_; first | refine SC ?_ | refine SD ?_) | (refine M2 ?_; refine SE ?_) | (refine M3 ?_; first | refine SG ?_ | refine SF ?_) | (refine M4 ?_; refine SR ?_) | (refine M5 ?_; first | exact M7 | refine YM ?_ | refine YN ?_ ?_))
    refine XE.retg tok Tryz.results32 rfl (by simp only [and_self, and_true]) (fun w' S => ?_)
    exact ⟨_, rfl, .inl ⟨by rw [runE_long hE h3]; decide, by rw [runE_long hE h3]; rfl⟩, S.toBelow⟩
  have h3 : ¬ 300 < ts.length := by
    have : ¬ (300 : Int) < ts.length := by simpa using h1
    omega
  repeat (first | (refine M0 ?_; first | refine SL ?_ | refine SB fun _ _ => ?_) | (refine M1 ?_; first | refine SC ?_ | refine SD ?_) | (refine M2 ?_; refine SE ?_) | (refine M3 ?_; first | refine SG ?_ | refine SF ?_) | (refine M4 ?_; refine SR ?_) | (refine M5 ?_; first | exact M7 | refine YM ?_ | refine YN ?_ ?_))
  refine XC.cond _ rfl (fun h2 => absurd hE (by simpa using h2)) (fun h2 => ?_)
  repeat (first | (refine M0 ?_; first | refine SL ?_ | refine SB fun _ _ => ?_) | (refine M1 ?_; first | refine SC ?_ | refine SD ?_) | (refine M2 ?_; refine SE ?_) | (refine M3 ?_; first | refine SG ?_ | refine SF ?_) | (refine M4 ?_; refine SR ?_) | (refine M5 ?_; first | exact M7 | refine YM ?_ | refine YN ?_ ?_))
  refine XL.call (fst := []) (cap := []) (ck rfl) rfl rfl rfl (List.Sublist.refl _) (fun w1 v w2 => AllR b s ts w1 v w2)
    (fun w1 S1 => (all_any (p := p) (q := q) (r := ⟨A, ts.length, c⟩) (hb.sys S1) (hq.arg S1) (ht.arg S1) ho hs (by omega)).mono fun e w' ⟨v, h, h4⟩ => ⟨v, h, h4, h4.2⟩) (fun w1 v w2 S1 hR hB S2 => ?_)
  rcases hR.1 with ⟨hbad, rm, ms, rfl, hrow, hms⟩ | ⟨k, gf, hbad, rfl, hgf, hcell⟩
  · simp only [svV]
    repeat (first | (refine M0 ?_; first | refine SL ?_ | refine SB fun _ _ => ?_ | refine Y4 (Ev.makeI targ_con rfl) ?_ | refine Y4 (Ev.call (f := 55) (ck rfl) rfl (fun w S => asNil_any _ w)) ?_) | (refine M1 ?_; first | refine SC ?_ | refine SD ?_) | (refine M2 ?_; refine SE ?_) | (refine M3 ?_; first | refine SG ?_ | refine SF ?_ | refine YF (Ev.makeI targ_con rfl) ?_ | refine YF (Ev.call (f := 55) (ck rfl) rfl (fun w S => asNil_any _ w)) ?_) | (refine M4 ?_; refine SR ?_) | (refine M5 ?_; first | exact M7 | refine YM ?_ | refine YN ?_ ?_))
    refine XE.retg tok Tryz.results32 rfl (by simp only [and_self, and_true]) (fun w' S => ?_)
    have hk : Keep (Btw w1.heap.size w2.heap.size) w2 _ := Keep.made S1 (Nat.le_refl _)
    have hcl : ∀ j, Btw w1.heap.size w2.heap.size j → Btw w.heap.size w'.heap.size j := fun j hj => ⟨Nat.le_trans S1.size hj.1, Nat.lt_of_lt_of_le hj.2 S.size⟩
    have hkk := (hk.new (g := _) (o := _) (by assumption)).sysT S rfl
    refine ⟨_, rfl, .inr ⟨runE_none hE h3 hbad, hE, by omega, badAt_errs hbad, rm, ms, rfl, ⟨(hrow.rd.keep hkk).mono hcl, hrow.max, fun m hm => ?_⟩, hms⟩, S2.toBelow.trans S.toBelow⟩
    obtain ⟨i1, i2⟩ := hrow.ins m hm
    exact ⟨(i1.keep hkk).mono hcl, (i2.keep hkk).mono hcl⟩
  · repeat (first | (refine M0 ?_; first | refine SL ?_ | refine SB fun _ _ => ?_ | refine Y4 (Ev.makeI targ_con rfl) ?_) | (refine M1 ?_; first | refine SC ?_ | refine SD ?_) | (refine M2 ?_; refine SE ?_) | (refine M3 ?_; first | refine SG ?_ | refine SF ?_ | refine YF (Ev.makeI targ_con rfl) ?_) | (refine M4 ?_; refine SR ?_) | (refine M5 ?_; first | exact M7 | refine YM ?_ | refine YN ?_ ?_))
    rename_i gt hgt
    have hgf2 : gf < w2.heap.size := (Array.getElem?_eq_some_iff.1 hcell).1
    have hL2 : Laid w2 := hL.below S2.toBelow
    refine XL.callT (fst := []) (cap := []) (B' := gt) 0 (ck rfl) rfl rfl rfl rfl rfl (fun w3 S3 => asHit_any (gf := gf) (hL2.sys S3 hL.pos) (S3.own _ List.mem_cons_self).2) ?_
    have hnk : ∀ j, j ∈ [gt, g4, g3] → j ≠ gf := fun j hj e2 => by
      rcases List.mem_cons.1 hj with rfl | hj
      · omega
      · have := S1.keyLt j hj
        omega
    have hcv : w2.cell? ((⟨gf, 0, none⟩ : Addr).add 1) = some (.int .i64 (errAt b s ts k)) := by
      rw [add_off]; simp [World.cell?, hcell]
    repeat (first | (refine M0 ?_; first | refine SL ?_ | refine SB fun _ _ => ?_ | refine Y4 (Ev.load_far tok (ad := (⟨gf, 0, none⟩ : Addr).add 1) rfl rfl hgf2 (fun e he => hnk e.1 (List.mem_map.2 ⟨e, he, rfl⟩)) hcv) ?_) | (refine M1 ?_; first | refine SC ?_ | refine SD ?_) | (refine M2 ?_; refine SE ?_) | (refine M3 ?_; first | refine SG ?_ | refine SF ?_ | refine YF (Ev.load_far tok (ad := (⟨gf, 0, none⟩ : Addr).add 1) rfl rfl hgf2 (fun e he => hnk e.1 (List.mem_map.2 ⟨e, he, rfl⟩)) hcv) ?_) | (refine M4 ?_; refine SR ?_) | (refine M5 ?_; first | exact M7 | refine YM ?_ | refine YN ?_ ?_))
    refine XE.retg tok Tryz.results32 rfl (by simp only [and_self, and_true]) (fun w' S => ?_)
    exact ⟨_, rfl, .inl ⟨by rw [runE_some hE h3 hbad]; exact badAt_err hbad, by rw [runE_some hE h3 hbad]; rfl⟩, S2.toBelow.trans S.toBelow⟩
end X
namespace X
open Go Go.RowKit Bs
section
variable {p : BV} {b : Bas} {lim : Int} {w : World} {gb gl : Nat}
end
end X
namespace Bs
open X
end Bs
namespace X
open Go Go.RowKit Bs
structure BasAtP (w : World) (ok : Nat → Prop) (p : BV) (b : Bas) : Prop where
  rows : ReadsP w ok 2 p.A p.n (b.rows.flatMap rowC)
  pols : ReadsP w ok 4 p.A2 p.n2 (b.pols.flatMap polC)
  cap : p.n ≤ p.c
  len : p.n ≤ 9223372036854775807
  len2 : p.n2 ≤ 9223372036854775807
  names : ∀ q, q ∈ b.pols → q.name.size ≤ 9223372036854775807
section
variable {w w' w0 : World} {ok ok' : Nat → Prop} {B : Nat} {p : BV} {b : Bas} {L : Lo}
end
end X
namespace X
open Go Go.RowKit Bs
end X
namespace Bs
noncomputable def runS (b : Bas) (s : Sta) (ts : List Tick) : List Sta := if runE b s ts ≠ 0 then [] else (List.range ts.length).map fun i => staAt b s ts (i + 1)
noncomputable def runF (b : Bas) (s : Sta) (ts : List Tick) : List Flo := if runE b s ts ≠ 0 then [] else (List.range ts.length).map fun i => floAt b s ts i
theorem run_n {b : Bas} {s : Sta} {ts : List Tick} (h : runE b s ts ≠ 0) : runS b s ts = [] ∧ runF b s ts = [] := by simp [runS, runF, h]
theorem run_0 {b : Bas} {s : Sta} {ts : List Tick} (h : runE b s ts = 0) : runS b s ts = (momsAt b s ts ts.length).map (·.1) ∧ runF b s ts = (momsAt b s ts ts.length).map (·.2) := by
  simp [runS, runF, h, momsAt]
end Bs
namespace X
open Go Go.RowKit Bs
structure StaI where
  s : Sta
  q : SV
structure FloI where
  f : Flo
  r : SV
def StaI.c (a : StaI) : List Value := staC a.q a.s
def FloI.c (a : FloI) : List Value := floC a.r a.f
def staK : Kind StaI := ⟨47, 2, StaI.c, fun a => [hInts a.q a.s.fil], fun _ => rfl⟩
def floK : Kind FloI := ⟨69, 5, FloI.c, fun a => [hInts a.r a.f.taken], fun _ => rfl⟩
def momK : Kind Mom := ⟨117, 7, Mom.c, fun m => [hInts m.q m.s.fil, hInts m.r m.f.taken], Mom.c_len⟩
theorem sta_el : elemOk Tryz.prog 62 staK.ty staK.m 32 = true := by kernel_rfl
theorem flo_el : elemOk Tryz.prog 63 floK.ty floK.m 56 = true := by kernel_rfl
def Mom.a (m : Mom) : StaI := ⟨m.s, m.q⟩
def Mom.b (m : Mom) : FloI := ⟨m.f, m.r⟩
theorem MomRow.list {w : World} {ok : Nat → Prop} {r : SV} {ms : List Mom} (h : MomRow w ok r ms) : ListAt momK w ok r ms := ⟨h.rd, Nat.le_trans h.max (by decide), fun m hm x hx => by
  have := h.ins m hm
  simp only [momK, List.mem_cons, List.not_mem_nil, or_false] at hx
  rcases hx with rfl | rfl
  · exact this.1
  · exact this.2⟩
def RunsR (b : Bas) (s : Sta) (ts : List Tick) (w : World) (v : Value) (w' : World) : Prop :=
  ∃ (r1 r2 : SV) (l1 : List StaI) (l2 : List FloI), v = .tuple ⟨[svV r1, svV r2, .int .i64 (runE b s ts)]⟩ ∧ ListAt staK w' (Btw w.heap.size w'.heap.size) r1 l1 ∧ ListAt floK w' (Btw w.heap.size w'.heap.size) r2 l2 ∧
    l1.map (·.s) = runS b s ts ∧ l2.map (·.f) = runF b s ts ∧ Below w.heap.size w w'
theorem take_add {α : Type} {l : List α} {k : Nat} (h : k < l.length) : l.take (k + 1) = l.take k ++ [l[k]] := by simp
set_option maxHeartbeats 8000000 in
theorem Run_any {p : BV} {b : Bas} {q r : SV} {s : Sta} {ts : List Tick} {w : World} (hL : Laid w) (hb : BasAt w w.heap.size p b) (hq : IntsAt w (Lt w.heap.size) q s.fil) (ht : TksAt w (Lt w.heap.size) r ts) :
    Calls Tryz.prog 10 #[basV p b, staV q s, svV r] w fun e w' => ∃ v, e = .returned v ∧ RunsR b s ts w v w' := by
  simp only [basV, basC, staV, staC, svV]
  refine enter Tryz.func10 rfl Tryz.ntmps10 rfl ?_; simp only [frame, Nat.zero_add, Nat.reduceAdd]
  repeat (first | (refine M0 ?_; first | refine SL ?_ | refine SB fun _ _ => ?_) | (refine M1 ?_; first | refine SC ?_ | refine SD ?_) | (refine M2 ?_; refine SE ?_) | (refine M3 ?_; first | refine SG ?_ | refine SF ?_) | (refine M4 ?_; refine SR ?_) | (refine M5 ?_; first | exact M7 | refine YM ?_ | refine YN ?_ ?_))
  refine XL.call (fst := []) (cap := []) (ck rfl) rfl rfl rfl (List.nil_sublist _) (fun w1 v w2 => RunR b s ts w1 v w2)
    (fun w1 S1 => (run_any (p := p) (q := q) (r := r) (hL.below S1.toBelow) (hb.sys S1) (hq.arg S1) (ht.arg S1)).mono fun e w' ⟨v, h, h4⟩ => ⟨v, h, h4, h4.2⟩) (fun w1 v w2 S1 hR hB S2 => ?_)
  have hrow : ∃ rm ms, v = .tuple ⟨[svV rm, .int .i64 (runE b s ts)]⟩ ∧ ListAt momK w2 (Btw w1.heap.size w2.heap.size) rm ms ∧ ms.length ≤ 300 ∧ ms.map (·.s) = runS b s ts ∧ ms.map (·.f) = runF b s ts := by
    rcases hR.1 with ⟨h1, rfl⟩ | ⟨h1, hE, h3, h4, rm, ms, rfl, hrow, hms⟩
    · obtain ⟨e1, e2⟩ := run_n h1
      exact ⟨⟨none, 0, 0⟩, [], rfl, ListAt.nil, by simp, e1.symm, e2.symm⟩
    · obtain ⟨e1, e2⟩ := run_0 h1
      have hl := congrArg List.length hms
      simp [momsAt] at hl
      refine ⟨rm, ms, by rw [h1], hrow.list, by omega, ?_, ?_⟩
      · rw [e1, ← hms, List.map_map]; rfl
      · rw [e2, ← hms, List.map_map]; rfl
  obtain ⟨⟨A, n, c⟩, ms, rfl, hrow, hlen, e1, e2⟩ := hrow
  have hn := hrow.len (by decide)
  simp only at hn
  subst hn
  have hF0 : Fam w2 w.heap.size [] [⟨StaI, staK, .slice none 0 0, []⟩, ⟨FloI, floK, .slice none 0 0, []⟩] [hList momK ⟨A, ms.length, c⟩ ms] := ((((Fam.start S1.size).nil floK).nil staK).made hB hrow fun k hk => by cases hk)
  have hB0 : Below w.heap.size w w2 := S2.toBelow
  simp only [svV]
  repeat (first | (refine M0 ?_; first | refine SL ?_ | refine SB fun _ _ => ?_) | (refine M1 ?_; first | refine SC ?_ | refine SD ?_) | (refine M2 ?_; refine SE ?_) | (refine M3 ?_; first | refine SG ?_ | refine SF ?_) | (refine M4 ?_; refine SR ?_) | (refine M5 ?_; first | exact M7 | refine YM ?_ | refine YN ?_ ?_))
  refine XC.loopk [8, 19, 20] rfl (fun s' : Nat × World × Value × Value => [(6, s'.2.2.1), (7, s'.2.2.2), (21, .int .i64 (s'.1 : Nat))]) (fun _ => []) (fun s' => s'.2.1)
    (fun s' => s'.1 ≤ ms.length ∧ Fam s'.2.1 w.heap.size [] [⟨StaI, staK, s'.2.2.1, (ms.take s'.1).map Mom.a⟩, ⟨FloI, floK, s'.2.2.2, (ms.take s'.1).map Mom.b⟩] [hList momK ⟨A, ms.length, c⟩ ms] ∧ Below w.heap.size w s'.2.1)
    (fun s' => ms.length - s'.1) (0, w2, .slice none 0 0, .slice none 0 0) ⟨Nat.zero_le _, hF0, hB0⟩ ZZSUB (fun _ h => h) ?_
  rintro ⟨k, W, v1, v2⟩ ⟨hk, hF, hBW⟩
  simp only at hk hF hBW
  dsimp only [List.cons_append, List.nil_append]
  repeat (first | (refine M0 ?_; first | refine SL ?_ | refine SB fun _ _ => ?_) | (refine M1 ?_; first | refine SC ?_ | refine SD ?_) | (refine M2 ?_; refine SE ?_) | (refine M3 ?_; first | refine SG ?_ | refine SF ?_) | (refine M4 ?_; refine SR ?_) | (refine M5 ?_; first | exact M7 | refine YM ?_ | refine YN ?_ ?_))
  refine XC.cond _ rfl (fun h1 => ?_) (fun h1 => ?_)
  · have hkn : k < ms.length := by simpa using h1
    have hls : ListAt momK W (Free W w.heap.size [] _) ⟨A, ms.length, c⟩ ms := hF.held (hList momK _ ms) List.mem_cons_self
    obtain ⟨ad, rfl, hfr⟩ := hls.addr (by decide) (by omega)
    have hlt := hfr.2.1
    have hmk : ms[k]? = some ms[k] := List.getElem?_eq_getElem hkn
    have hcell := hls.elem hmk
    have hi1 : IntsAt W (Free W w.heap.size [] _) ms[k].q ms[k].s.fil := hls.ins _ (List.getElem_mem hkn) (hInts _ _) List.mem_cons_self
    have hi2 : IntsAt W (Free W w.heap.size [] _) ms[k].r ms[k].f.taken := hls.ins _ (List.getElem_mem hkn) (hInts _ _) (List.mem_cons_of_mem _ List.mem_cons_self)
    have hF1 := (hF.hold (x := hInts ms[k].q ms[k].s.fil) hi1 fun _ h => h).hold (x := hInts ms[k].r ms[k].f.taken) hi2 fun _ h => h
    have hks : ∀ k, k ∈ ([] : List Nat) → k < W.heap.size := fun k hk => by cases hk
    have e3 : (ms.take (k + 1)).map Mom.a = (ms.take k).map Mom.a ++ [ms[k].a] := by rw [take_add hkn, List.map_append]; rfl
    have e4 : (ms.take (k + 1)).map Mom.b = (ms.take k).map Mom.b ++ [ms[k].b] := by rw [take_add hkn, List.map_append]; rfl
    clear hF
    have hl1 : ((ms.take k).map Mom.a).length + 1 ≤ 10000000 := by simp; omega
    have hl2 : ((ms.take k).map Mom.b).length + 1 ≤ 10000000 := by simp; omega
    have ha1 : ∀ x, x ∈ staK.sl ms[k].a → x ∈ [hInts ms[k].r ms[k].f.taken, hInts ms[k].q ms[k].s.fil, hList momK ⟨some ad, ms.length, c⟩ ms] := fun x hx => by
      rw [List.mem_singleton.1 hx]; exact List.mem_cons_of_mem _ List.mem_cons_self
    have ha2 : ∀ x, x ∈ floK.sl ms[k].b → x ∈ [hInts ms[k].r ms[k].f.taken, hInts ms[k].q ms[k].s.fil, hList momK ⟨some ad, ms.length, c⟩ ms] := fun x hx => by
      rw [List.mem_singleton.1 hx]; exact List.mem_cons_self
    repeat (first | (refine M0 ?_; first | refine SL ?_ | refine SB fun _ _ => ?_ | refine Y4 (Ev.load_far_agg tok ms[k].c rfl rfl rfl (by rw [add_block]; exact hlt) (fun e he => by cases he) hcell) ?_) | (refine M1 ?_; first | refine SC ?_ | refine SD ?_) | (refine M2 ?_; refine SE ?_) | (refine M3 ?_; first | refine SG ?_ | refine SF ?_ | refine YF (Ev.load_far_agg tok ms[k].c rfl rfl rfl (by rw [add_block]; exact hlt) (fun e he => by cases he) hcell) ?_) | (refine M4 ?_; refine SR ?_) | (refine M5 ?_; first | exact M7 | refine YM ?_ | refine YN ?_ ?_))
    rename_i g11 hg11
    refine XC.drawRS _ [(g11, cel 117 [.int .i64 ms[k].s.vol, .slice ms[k].q.A ms[k].q.n ms[k].q.c, .int .i64 ms[k].f.river, .int .i64 ms[k].f.over, .int .i64 ms[k].f.leak, .int .i64 ms[k].f.out, .slice ms[k].r.A ms[k].r.n ms[k].r.c])] [0, 1, 2, 5, 6, 7] [3, 4, 8, 9, 10, 11] mixed (fun _ h => Sys.anchor (by assumption) h (by simp) (by simp)) rfl (by kernel_rfl) ?_
    repeat (any_goals (first | (refine M0 ?_; first | refine SL ?_ | refine SB fun _ _ => ?_ | (refine XL.split _ _ rfl (fun h => ?_) (fun h => ?_) <;> rw [h]) | refine XL.buildSlice tok rfl rfl rfl rfl rfl rfl rfl rfl rfl (fun _ _ => ?_) | (refine XL.at_push 62 ?_; refine XL.push (K := staK) (a := ms[k].a) (wE := w) 0 sta_el (by decide) rfl rfl rfl (by assumption) rfl (by assumption) (by assumption) (Nat.le_refl _) rfl hl1 (by decide) ha1 (fun _ _ _ _ _ => ?_)) | (refine XL.at_push 63 ?_; refine XL.push (K := floK) (a := ms[k].b) (wE := w) 1 flo_el (by decide) rfl rfl rfl (by assumption) rfl (by assumption) (by assumption) (Nat.le_refl _) rfl hl2 (by decide) ha2 (fun _ _ _ _ _ => ?_))) | (refine M1 ?_; first | refine SC ?_ | refine SD ?_ | refine XC.cond _ rfl (fun h => ?_) (fun h => ?_)) | (refine M2 ?_; refine SE ?_) | (refine M3 ?_; first | refine SG ?_ | refine SF ?_ | (refine Fw.split _ _ rfl (fun h => ?_) (fun h => ?_) <;> rw [h])) | (refine M4 ?_; refine SR ?_) | (refine M5 ?_; first | exact M7 | refine YM ?_ | refine YN ?_ ?_)))
    all_goals
      refine XE.roundW (s := (k, W, v1, v2)) (fun w6 S6 => ⟨(k + 1, w6, _, _), ⟨hkn, ?_, ?_⟩, by simp only; omega, ZZSUB, S6.rebase (List.nil_sublist _)⟩)
      · rw [e3, e4]
        refine Fam.forget (Fam.add (Fam.sys (by assumption) S6 ZZHL) fun k hk => by cases hk) fun x hx => List.mem_cons_of_mem _ (List.mem_cons_of_mem _ hx)
      · exact Below.trans (by assumption) S6.toBelow
  · have hkn : k = ms.length := by have : ¬ (k < ms.length) := by simpa using h1
                                   omega
    subst hkn
    rw [List.take_length] at hF
    repeat (first | (refine M0 ?_; first | refine SL ?_ | refine SB fun _ _ => ?_) | (refine M1 ?_; first | refine SC ?_ | refine SD ?_) | (refine M2 ?_; refine SE ?_) | (refine M3 ?_; first | refine SG ?_ | refine SF ?_) | (refine M4 ?_; refine SR ?_) | (refine M5 ?_; first | exact M7 | refine YM ?_ | refine YN ?_ ?_))
    refine XE.retg tok Tryz.results10 rfl (by simp only [and_self, and_true]) (fun w' S => ?_)
    have hF6 := hF.sys S (fun e he => by cases he)
    obtain ⟨r1, rfl, h1⟩ := hF6.list List.mem_cons_self
    obtain ⟨r2, rfl, h2⟩ := hF6.list (List.mem_cons_of_mem _ List.mem_cons_self)
    exact ⟨_, rfl, r1, r2, _, _, rfl, h1, h2, by rw [← e1, List.map_map]; rfl, by rw [← e2, List.map_map]; rfl, hBW.trans S.toBelow⟩
end X
namespace X
open Go Go.RowKit Bs
theorem range_add {α : Type} {f : Nat → α} {k : Nat} : (List.range (k + 1)).map f = (List.range k).map f ++ [f k] := by simp [List.range_succ]
end X
namespace X
open Go Go.RowKit Bs
end X
namespace Bs
def Flo.t (f : Flo) (i : Nat) : Int := f.taken[i]?.getD 0
def firstF (fs : List Flo) (i : Nat) : Int := match fs.findIdx? fun f => decide (0 < f.t i) with
  | some k => ((k : Nat) : Int)
  | none => -1
noncomputable def floods (b : Bas) (s : Sta) (ts : List Tick) : List Int := if runE b s ts ≠ 0 then [] else (List.range b.pols.length).map (firstF (runF b s ts))
end Bs
namespace X
open Go Go.RowKit Bs
theorem runE_0 {b : Bas} {s : Sta} {ts : List Tick} (h : runE b s ts = 0) : staErr b s = 0 ∧ ts.length ≤ 300 ∧ ∀ k, k < ts.length → errAt b s ts k = 0 := by
  unfold runE at h
  split at h
  · rename_i h1; exact absurd h h1
  · rename_i h1
    split at h
    · cases h
    · rename_i h2
      split at h
      · rename_i h3; exact ⟨by simpa using h1, by omega, badAt_errs h3⟩
      · rename_i k h3; exact absurd h (badAt_err h3)
end X
namespace Bs
theorem flo_len {b : Bas} {s : Sta} {ts : List Tick} {f : Flo} (h : f ∈ runF b s ts) : f.taken.length = b.pols.length := by
  unfold runF at h
  split at h
  · cases h
  · rename_i h0
    have h1 := X.runE_0 (by simpa using h0 : runE b s ts = 0)
    obtain ⟨i, hi, rfl⟩ := List.mem_map.1 h
    have h2 : stepE b (staAt b s ts i) (tk ts i) = 0 := h1.2.2 i (List.mem_range.1 hi)
    show (outF b (staAt b s ts i) (tk ts i)).taken.length = _
    rw [outF_0 h2]
    simp [stepF, rg_len]
def firstG (fs : List Flo) (i m : Nat) : Int := match (fs.drop m).findIdx? fun f => decide (0 < f.t i) with
  | some k => (((m + k : Nat)) : Int)
  | none => -1
end Bs
namespace X
open Go Go.RowKit Bs
def intK : Kind Int := ⟨3, 1, fun k => [.int .i64 k], fun _ => [], fun _ => rfl⟩
theorem intK_el : elemOk Tryz.prog 26 intK.ty intK.m 8 = true := by kernel_rfl
theorem ints_flat' (l : List Int) : l.flatMap intK.c = ints l := by
  unfold ints
  induction l with
  | nil => rfl
  | cons a l ih => rw [List.flatMap_cons, ih]; rfl
theorem ListAt.ints {w : World} {ok : Nat → Prop} {r : SV} {l : List Int} (h : ListAt intK w ok r l) : IntsAt w ok r l := ⟨by have := h.rd; rw [ints_flat'] at this; exact this, h.max⟩
def MomV (b : Bas) (s : Sta) (ts : List Tick) (v : Value) (new : List Held) : Prop :=
  ∃ (rm : SV) (ms : List Mom), v = .tuple ⟨[svV rm, .int .i64 (runE b s ts)]⟩ ∧ new = [hList momK rm ms] ∧ ms.length ≤ 300 ∧ ms.map (·.s) = runS b s ts ∧ ms.map (·.f) = runF b s ts
theorem run_made {p : BV} {b : Bas} {q r : SV} {s : Sta} {ts : List Tick} {w : World} (hL : Laid w) (hb : BasAt w w.heap.size p b) (hq : IntsAt w (Lt w.heap.size) q s.fil) (ht : TksAt w (Lt w.heap.size) r ts) :
    Calls Tryz.prog 32 #[basV p b, staV q s, svV r] w (Made w (MomV b s ts)) := by
  refine (run_any hL hb hq ht).mono fun e w' ⟨v, h1, h2, h3⟩ => ?_
  rcases h2 with ⟨h4, rfl⟩ | ⟨h4, hE, h5, h6, rm, ms, rfl, hrow, hms⟩
  · obtain ⟨e1, e2⟩ := run_n h4
    refine ⟨_, _, h1, ⟨⟨none, 0, 0⟩, [], rfl, rfl, by simp, e1.symm, e2.symm⟩, fun x hx => ?_, h3⟩
    rw [List.mem_singleton] at hx
    subst hx
    exact ListAt.nil
  · obtain ⟨e1, e2⟩ := run_0 h4
    have hl := congrArg List.length hms
    simp [momsAt] at hl
    refine ⟨_, _, h1, ⟨rm, ms, by rw [h4], rfl, by omega, ?_, ?_⟩, fun x hx => ?_, h3⟩
    · rw [e1, ← hms, List.map_map]; rfl
    · rw [e2, ← hms, List.map_map]; rfl
    · rw [List.mem_singleton] at hx
      subst hx
      exact hrow.list
theorem floods_n {b : Bas} {s : Sta} {ts : List Tick} (h : runE b s ts ≠ 0) : floods b s ts = [] := by simp [floods, h]
theorem floods_0 {b : Bas} {s : Sta} {ts : List Tick} (h : runE b s ts = 0) : floods b s ts = (List.range b.pols.length).map (firstF (runF b s ts)) := by simp [floods, h]
set_option maxHeartbeats 4000000 in
theorem floods1_any {m : Mom} {gi i : Nat} {w : World} (h1 : w.heap[gi]? = some (cel 3 [.int .i64 (i : Nat)])) (hr : IntsAt w (Lt w.heap.size) m.r m.f.taken) (hi : i < m.f.taken.length) :
    Calls Tryz.prog 47 #[.agg ⟨m.c⟩, .pointer (some ⟨gi, 0, none⟩)] w fun e w' => e = .returned (.bool (decide (0 < m.f.t i))) ∧ Below w.heap.size w w' := by
  obtain ⟨s, f, q, ⟨A, n, c⟩⟩ := m
  simp only at hr hi ⊢
  have hn := hr.len
  have hmax := hr.max
  simp only at hn hmax
  subst hn
  obtain ⟨ad, rfl, hlt, hcells⟩ := hr.at_ (by omega)
  have hcell := hcells i hi
  have hl1 := (Array.getElem?_eq_some_iff.1 h1).1
  have hc1 : w.cell? ⟨gi, 0, none⟩ = some (.int .i64 (i : Nat)) := by simp [World.cell?, h1]
  simp only [Mom.c, momC, staC, floC, List.cons_append, List.nil_append]
  refine enter Tryz.func47 rfl Tryz.ntmps47 rfl ?_; simp only [frame, Nat.zero_add, Nat.reduceAdd]
  repeat (first | (refine M0 ?_; first | refine SL ?_ | refine SB fun _ _ => ?_ | refine Y4 (Ev.load_old tok rfl rfl hl1 hc1) ?_ | refine Y4 (Ev.load_old tok rfl rfl (add_lt hlt) hcell) ?_) | (refine M1 ?_; first | refine SC ?_ | refine SD ?_) | (refine M2 ?_; refine SE ?_) | (refine M3 ?_; first | refine SG ?_ | refine SF ?_ | refine YF (Ev.load_old tok rfl rfl hl1 hc1) ?_ | refine YF (Ev.load_old tok rfl rfl (add_lt hlt) hcell) ?_) | (refine M4 ?_; refine SR ?_) | (refine M5 ?_; first | exact M7 | refine YM ?_ | refine YN ?_ ?_))
  refine XE.retg tok Tryz.results47 rfl (by simp only [and_self, and_true]) (fun w' S => ?_)
  exact ⟨rfl, S.toBelow⟩
def idxV (ms : List Mom) (P : Mom → Bool) : Int := match ms.findIdx? P with
  | some i => ((i : Nat) : Int)
  | none => -1
theorem idxV_first {b : Bas} {s : Sta} {ts : List Tick} {ms : List Mom} (h : ms.map (·.f) = runF b s ts) (k : Nat) : idxV ms (fun m => decide (0 < m.f.t k)) = firstF (runF b s ts) k := by
  rw [← h]
  unfold idxV firstF
  rw [List.findIdx?_map]
  rfl
set_option maxHeartbeats 4000000 in
theorem index_gen {f : FuncId} {cap : List Value} {P : Mom → Bool} {r : SV} {ms : List Mom} {w : World} (hck : callOk Tryz.prog f = true) (hr : ListAt momK w (Lt w.heap.size) r ms) (hn : ms.length ≤ 1000)
    (hc : ∀ m, m ∈ ms → ∀ w', Below w.heap.size w w' → Calls Tryz.prog f ([] ++ [Value.agg ⟨m.c⟩] ++ cap).toArray w' fun e w'' => e = .returned (.bool (P m)) ∧ Below w'.heap.size w' w'') :
    Calls Tryz.prog 46 #[svV r, .func (.func f) #[] cap.toArray] w fun e w' => e = .returned (.int .i64 (idxV ms P)) ∧ Below w.heap.size w w' := by
  obtain ⟨A, n, c⟩ := r
  have hln := hr.len (by decide)
  simp only at hln
  subst hln
  simp only [svV]
  refine enter Tryz.func46 rfl Tryz.ntmps46 rfl ?_; simp only [frame, Nat.zero_add, Nat.reduceAdd]
  repeat (first | (refine M0 ?_; first | refine SL ?_ | refine SB fun _ _ => ?_) | (refine M1 ?_; first | refine SC ?_ | refine SD ?_) | (refine M2 ?_; refine SE ?_) | (refine M3 ?_; first | refine SG ?_ | refine SF ?_) | (refine M4 ?_; refine SR ?_) | (refine M5 ?_; first | exact M7 | refine YM ?_ | refine YN ?_ ?_))
  refine XC.loopk [0, 1, 7] rfl (fun k : Nat => [(8, .int .i64 (k : Nat))]) (fun _ => []) (fun _ => w) (fun k => k ≤ ms.length ∧ ∀ j m, j < k → ms[j]? = some m → P m = false) (fun k => ms.length - k) 0 ⟨Nat.zero_le _, fun j m h => absurd h (by omega)⟩ ZZSUB (fun _ h => h) ?_
  rintro k ⟨hk, h0⟩
  dsimp only [List.cons_append, List.nil_append]
  repeat (first | (refine M0 ?_; first | refine SL ?_ | refine SB fun _ _ => ?_) | (refine M1 ?_; first | refine SC ?_ | refine SD ?_) | (refine M2 ?_; refine SE ?_) | (refine M3 ?_; first | refine SG ?_ | refine SF ?_) | (refine M4 ?_; refine SR ?_) | (refine M5 ?_; first | exact M7 | refine YM ?_ | refine YN ?_ ?_))
  refine XC.cond _ rfl (fun h3 => ?_) (fun h3 => ?_)
  · have hkn : k < ms.length := by simpa using h3
    obtain ⟨ad, rfl, hlt⟩ := hr.addr (by decide) (by omega)
    have hmk : ms[k]? = some ms[k] := List.getElem?_eq_getElem hkn
    have hcell : ∀ j u, ms[k].c[j]? = some u → w.cell? ((ad.add (k * 7)).add j) = some u := hr.elem hmk
    repeat (first | (refine M0 ?_; first | refine SL ?_ | refine SB fun _ _ => ?_ | refine Y4 (Ev.load_old_agg tok ms[k].c rfl rfl rfl (add_lt hlt) hcell) ?_ | refine Y4 (Ev.callv (f := f) (fst := []) (cap := cap) hck rfl rfl (fun w S => hc _ (List.getElem_mem hkn) w S.toBelow)) ?_) | (refine M1 ?_; first | refine SC ?_ | refine SD ?_) | (refine M2 ?_; refine SE ?_) | (refine M3 ?_; first | refine SG ?_ | refine SF ?_ | refine YF (Ev.load_old_agg tok ms[k].c rfl rfl rfl (add_lt hlt) hcell) ?_ | refine YF (Ev.callv (f := f) (fst := []) (cap := cap) hck rfl rfl (fun w S => hc _ (List.getElem_mem hkn) w S.toBelow)) ?_) | (refine M4 ?_; refine SR ?_) | (refine M5 ?_; first | exact M7 | refine YM ?_ | refine YN ?_ ?_))
    refine XC.cond _ rfl (fun h4 => ?_) (fun h4 => ?_)
    · repeat (first | (refine M0 ?_; first | refine SL ?_ | refine SB fun _ _ => ?_) | (refine M1 ?_; first | refine SC ?_ | refine SD ?_) | (refine M2 ?_; refine SE ?_) | (refine M3 ?_; first | refine SG ?_ | refine SF ?_) | (refine M4 ?_; refine SR ?_) | (refine M5 ?_; first | exact M7 | refine YM ?_ | refine YN ?_ ?_))
      refine XE.retg tok Tryz.results46 rfl (by simp only [and_self, and_true]) (fun w' S => ?_)
      have : ms.findIdx? P = some k := by
        rw [List.findIdx?_eq_some_iff_getElem]
        exact ⟨hkn, h4, fun j hj => by simpa using h0 j _ hj (List.getElem?_eq_getElem (by omega))⟩
      unfold idxV
      rw [this]
      exact ⟨rfl, S.toBelow⟩
    · repeat (first | (refine M0 ?_; first | refine SL ?_ | refine SB fun _ _ => ?_) | (refine M1 ?_; first | refine SC ?_ | refine SD ?_) | (refine M2 ?_; refine SE ?_) | (refine M3 ?_; first | refine SG ?_ | refine SF ?_) | (refine M4 ?_; refine SR ?_) | (refine M5 ?_; first | exact M7 | refine YM ?_ | refine YN ?_ ?_))
      refine XE.round (k + 1) ⟨hkn, fun j m hj hm => ?_⟩ (by omega) ZZSUB (fun _ h => h)
      rcases Nat.lt_or_ge j k with h5 | h5
      · exact h0 j m h5 hm
      · have : j = k := by omega
        subst this
        rw [hmk] at hm
        cases hm
        exact h4
  · have hkn : ¬ k < ms.length := by simpa using h3
    repeat (first | (refine M0 ?_; first | refine SL ?_ | refine SB fun _ _ => ?_) | (refine M1 ?_; first | refine SC ?_ | refine SD ?_) | (refine M2 ?_; refine SE ?_) | (refine M3 ?_; first | refine SG ?_ | refine SF ?_) | (refine M4 ?_; refine SR ?_) | (refine M5 ?_; first | exact M7 | refine YM ?_ | refine YN ?_ ?_))
    refine XE.retg tok Tryz.results46 rfl (by simp only [and_self, and_true]) (fun w' S => ?_)
    have : ms.findIdx? P = none := by
      rw [List.findIdx?_eq_none_iff]
      intro m hm
      obtain ⟨j, hj, e⟩ := List.mem_iff_getElem.1 hm
      exact h0 j m (by omega) (by rw [List.getElem?_eq_getElem hj, e])
    unfold idxV
    rw [this]
    exact ⟨rfl, S.toBelow⟩
end X
namespace X
open Go Go.RowKit Bs
structure CV where
  q : SV
  r : SV
structure Cas where
  s : Sta
  ts : List Tick
  lim : Int
structure CaseAt (w : World) (ok : Nat → Prop) (x : CV) (c : Cas) : Prop where
  fil : IntsAt w ok x.q c.s.fil
  tks : TksAt w ok x.r c.ts
end X
namespace Bs
def lsegTo (b : Bas) (l : Int) : Nat → Nat
  | 0 => 0
  | k + 1 => if (b.row (k + 1)).level ≤ l then k + 1 else lsegTo b l k
def lseg (b : Bas) (l : Int) : Nat := lsegTo b l (b.rows.length - 2)
theorem lsegTo_spec {b : Bas} {v : Int} : ∀ (n : Nat), lsegTo b v n ≤ n ∧ (lsegTo b v n = 0 ∨ (b.row (lsegTo b v n)).level ≤ v) ∧ (∀ j, lsegTo b v n < j → j ≤ n → v < (b.row j).level) := by
  intro n
  induction n with
  | zero => exact ⟨by simp [lsegTo], .inl rfl, fun j h1 h2 => by omega⟩
  | succ n ih =>
    unfold lsegTo
    by_cases h : (b.row (n + 1)).level ≤ v
    · rw [if_pos h]; exact ⟨by omega, .inr h, fun j h1 h2 => by omega⟩
    · rw [if_neg h]
      refine ⟨by omega, ih.2.1, fun j h1 h2 => ?_⟩
      by_cases e : j = n + 1
      · subst e; omega
      · exact ih.2.2 j h1 (by omega)
def volAt (b : Bas) (l : Int) : Int := (b.row (lseg b l)).vol + (l - (b.row (lseg b l)).level) * ((b.row (lseg b l + 1)).vol - (b.row (lseg b l)).vol) / ((b.row (lseg b l + 1)).level - (b.row (lseg b l)).level)
def volOf (b : Bas) (l : Int) : Int := min 1000000000 (volAt b l)
section
variable {b : Bas} (h : RowsOk b)
include h
theorem lseg_spec {l : Int} (hl : (b.row 0).level ≤ l) : lseg b l + 1 < b.rows.length ∧ (b.row (lseg b l)).level ≤ l ∧ ∀ j, lseg b l < j → j + 1 < b.rows.length → l < (b.row j).level := by
  obtain ⟨h1, h2, h3⟩ := lsegTo_spec (b := b) (v := l) (b.rows.length - 2)
  have hn := h.n2
  unfold lseg
  refine ⟨by omega, ?_, fun j h4 h5 => h3 j h4 (by omega)⟩
  rcases h2 with h2 | h2
  · rw [h2]; exact hl
  · exact h2
end
end Bs
namespace Bs
noncomputable def volE (b : Bas) (l : Int) : Int := if chkE b ≠ 0 then chkE b else if outB l (b.row 0).level 20000 = true then 7 else 0
noncomputable def volN (b : Bas) (l : Int) : Int := if volE b l ≠ 0 then 0 else volOf b l
theorem vol_c {b : Bas} {v : Int} (h : chkE b ≠ 0) : volE b v = chkE b ∧ volN b v = 0 := by
  have : volE b v = chkE b := by unfold volE; rw [if_pos h]
  unfold volN
  rw [this, if_pos h]
  exact ⟨rfl, rfl⟩
theorem vol_7 {b : Bas} {v : Int} (h : chkE b = 0) (h1 : outB v (b.row 0).level 20000 = true) : volE b v = 7 ∧ volN b v = 0 := by
  have : volE b v = 7 := by unfold volE; rw [if_neg (by simp [h]), if_pos h1]
  unfold volN
  rw [this, if_pos (by decide)]
  exact ⟨rfl, rfl⟩
theorem vol_0 {b : Bas} {v : Int} (h : chkE b = 0) (h1 : outB v (b.row 0).level 20000 = false) : volE b v = 0 ∧ volN b v = volOf b v := by
  have : volE b v = 0 := by unfold volE; rw [if_neg (by simp [h]), if_neg (by simp [h1])]
  unfold volN
  rw [this, if_neg (by decide)]
  exact ⟨rfl, rfl⟩
end Bs
namespace X
open Go Go.RowKit Bs
section
variable {N : Nat} {B : Nat} {w0 : World} {ds : List Deferred} {F : Fr} {L : Lo} {pu : Prop} {dst : Option Tmp} {ty : TypeId} {p : String} {af : Array Edge} {gd : Option (Nat × Bool)}
end
set_option maxHeartbeats 8000000 in
theorem Volume_any {p : BV} {b : Bas} {l : Int} {w : World} (hb : BasAt w w.heap.size p b) :
    Calls Tryz.prog 6 #[basV p b, .int .i64 l] w fun e w' => e = .returned (.tuple ⟨[.int .i64 (volN b l), .int .i64 (volE b l)]⟩) ∧ Below w.heap.size w w' := by
  obtain ⟨A, n, c, A2, n2, c2⟩ := p
  have hn := hb.n_eq
  simp only at hn
  subst hn
  have hmax := hb.len
  simp only at hmax
  simp only [basV, basC]
  refine enter Tryz.func6 rfl Tryz.ntmps6 rfl ?_; simp only [frame, Nat.zero_add, Nat.reduceAdd]
  repeat (first | (refine M0 ?_; first | refine SL ?_ | refine SB fun _ _ => ?_ | refine Y4 (Ev.call (f := 20) (ck rfl) rfl (fun w S => (valid_any (hb.sys S) :))) ?_) | (refine M1 ?_; first | refine SC ?_ | refine SD ?_) | (refine M2 ?_; refine SE ?_) | (refine M3 ?_; first | refine SG ?_ | refine SF ?_ | refine YF (Ev.call (f := 20) (ck rfl) rfl (fun w S => (valid_any (hb.sys S) :))) ?_) | (refine M4 ?_; refine SR ?_) | (refine M5 ?_; first | exact M7 | refine YM ?_ | refine YN ?_ ?_))
  refine XC.cond _ rfl (fun h => ?_) (fun h => ?_)
  · have hE : chkE b ≠ 0 := by simpa using h
    obtain ⟨e1, e2⟩ := vol_c (v := l) hE
    repeat (first | (refine M0 ?_; first | refine SL ?_ | refine SB fun _ _ => ?_) | (refine M1 ?_; first | refine SC ?_ | refine SD ?_) | (refine M2 ?_; refine SE ?_) | (refine M3 ?_; first | refine SG ?_ | refine SF ?_) | (refine M4 ?_; refine SR ?_) | (refine M5 ?_; first | exact M7 | refine YM ?_ | refine YN ?_ ?_))
    refine XE.retg tok Tryz.results6 rfl (by simp only [and_self, and_true]) (fun w' S => ?_)
    rw [e1, e2]
    exact ⟨rfl, S.toBelow⟩
  have hE : chkE b = 0 := by simpa using h
  have ho := (ok_of hE).rowsOk
  have h2 := ho.n2
  have h12 := ho.n12
  obtain ⟨ad, rfl, hlt⟩ := hb.rows.addr (by simp only; omega)
  repeat (first | (refine M0 ?_; first | refine SL ?_ | refine SB fun _ _ => ?_ | refine Y4 (Ev.load_old tok rfl rfl (add_lt2 hlt) (hb.rowLevel (i := 0) (by omega))) ?_ | refine Y4 (Ev.call (f := 21) (ck rfl) rfl (fun w S => out_any _ _ _ w)) ?_) | (refine M1 ?_; first | refine SC ?_ | refine SD ?_) | (refine M2 ?_; refine SE ?_) | (refine M3 ?_; first | refine SG ?_ | refine SF ?_ | refine YF (Ev.load_old tok rfl rfl (add_lt2 hlt) (hb.rowLevel (i := 0) (by omega))) ?_ | refine YF (Ev.call (f := 21) (ck rfl) rfl (fun w S => out_any _ _ _ w)) ?_) | (refine M4 ?_; refine SR ?_) | (refine M5 ?_; first | exact M7 | refine YM ?_ | refine YN ?_ ?_))
  refine XC.cond _ rfl (fun h4 => ?_) (fun h4 => ?_)
  · obtain ⟨e1, e2⟩ := vol_7 hE h4
    repeat (first | (refine M0 ?_; first | refine SL ?_ | refine SB fun _ _ => ?_) | (refine M1 ?_; first | refine SC ?_ | refine SD ?_) | (refine M2 ?_; refine SE ?_) | (refine M3 ?_; first | refine SG ?_ | refine SF ?_) | (refine M4 ?_; refine SR ?_) | (refine M5 ?_; first | exact M7 | refine YM ?_ | refine YN ?_ ?_))
    refine XE.retg tok Tryz.results6 rfl (by simp only [and_self, and_true]) (fun w' S => ?_)
    rw [e1, e2]
    exact ⟨rfl, S.toBelow⟩
  obtain ⟨e1, e2⟩ := vol_0 hE h4
  have hl := outB_f.1 h4
  obtain ⟨i1, i2, i3⟩ := lseg_spec ho hl.1
  repeat (first | (refine M0 ?_; first | refine SL ?_ | refine SB fun _ _ => ?_) | (refine M1 ?_; first | refine SC ?_ | refine SD ?_) | (refine M2 ?_; refine SE ?_) | (refine M3 ?_; first | refine SG ?_ | refine SF ?_) | (refine M4 ?_; refine SR ?_) | (refine M5 ?_; first | exact M7 | refine YM ?_ | refine YN ?_ ?_))
  refine XC.loopk [1, 2] rfl (fun i : Int => [(7, .int .i64 i)]) (fun _ => [_]) (fun _ => w)
    (fun i => (lseg b l : Int) ≤ i ∧ i ≤ (b.rows.length : Int) - 2 ∧ ∀ j : Nat, i < j → (j : Int) ≤ (b.rows.length : Int) - 2 → l < (b.row j).level) (fun i => i.toNat) ((b.rows.length : Int) - 2)
    ⟨by omega, Int.le_refl _, fun j h5 h6 => by omega⟩ ZZSUB (fun _ h => h) ?_
  rintro i ⟨h5, h6, h7⟩
  obtain ⟨k, rfl⟩ : ∃ k : Nat, i = (k : Int) := ⟨i.toNat, by omega⟩
  have hk : k + 1 < b.rows.length := by omega
  dsimp only [List.cons_append, List.nil_append]
  repeat (first | (refine M0 ?_; first | refine SL ?_ | refine SB fun _ _ => ?_ | refine Y4 (Ev.load_old tok rfl rfl (add_lt2 hlt) (hb.rowLevel (i := k) (by omega))) ?_) | (refine M1 ?_; first | refine SC ?_ | refine SD ?_) | (refine M2 ?_; refine SE ?_) | (refine M3 ?_; first | refine SG ?_ | refine SF ?_ | refine YF (Ev.load_old tok rfl rfl (add_lt2 hlt) (hb.rowLevel (i := k) (by omega))) ?_) | (refine M4 ?_; refine SR ?_) | (refine M5 ?_; first | exact M7 | refine YM ?_ | refine YN ?_ ?_))
  refine XC.cond _ rfl (fun h8 => ?_) (fun h8 => ?_)
  · have h9 : l < (b.row k).level := by simpa using h8
    have h10 : lseg b l ≠ k := fun e => by rw [← e] at h9; omega
    repeat (first | (refine M0 ?_; first | refine SL ?_ | refine SB fun _ _ => ?_) | (refine M1 ?_; first | refine SC ?_ | refine SD ?_) | (refine M2 ?_; refine SE ?_) | (refine M3 ?_; first | refine SG ?_ | refine SF ?_) | (refine M4 ?_; refine SR ?_) | (refine M5 ?_; first | exact M7 | refine YM ?_ | refine YN ?_ ?_))
    refine XE.round (s := (k : Int)) ((k : Int) - 1) ⟨by omega, by omega, fun j hj hj2 => ?_⟩ (by omega) ZZSUB (fun _ h => h)
    by_cases e : j = k
    · subst e; exact h9
    · exact h7 j (by omega) hj2
  · have h9 : (b.row k).level ≤ l := by
      have : ¬ l < (b.row k).level := by simpa using h8
      omega
    have hki : lseg b l = k := by
      rcases Nat.lt_or_ge (lseg b l) k with h10 | h10
      · have := i3 k h10 hk; omega
      · omega
    have hup := ho.levelUp k hk
    have hvp := ho.volUp k hk
    have v1 := ho.vol k (by omega)
    have v2 := ho.vol (k + 1) hk
    have l1 := ho.level k (by omega)
    have l2 := ho.level (k + 1) hk
    have hmul := mul_bd (X := 40000) (Y := 1000000000) (x := l - (b.row k).level) (y := (b.row (k + 1)).vol - (b.row k).vol) (by omega) (by omega)
    have hnn : 0 ≤ (l - (b.row k).level) * ((b.row (k + 1)).vol - (b.row k).vol) := Int.mul_nonneg (by omega) (by omega)
    have hdiv : ((l - (b.row k).level) * ((b.row (k + 1)).vol - (b.row k).vol)).tdiv ((b.row (k + 1)).level - (b.row k).level) = (l - (b.row k).level) * ((b.row (k + 1)).vol - (b.row k).vol) / ((b.row (k + 1)).level - (b.row k).level) := Int.tdiv_eq_ediv_of_nonneg hnn
    have hd0 : 0 ≤ (l - (b.row k).level) * ((b.row (k + 1)).vol - (b.row k).vol) / ((b.row (k + 1)).level - (b.row k).level) := Int.ediv_nonneg hnn (by omega)
    have hd1 : (l - (b.row k).level) * ((b.row (k + 1)).vol - (b.row k).vol) / ((b.row (k + 1)).level - (b.row k).level) ≤ (l - (b.row k).level) * ((b.row (k + 1)).vol - (b.row k).vol) := Int.ediv_le_self _ hnn
    repeat (first | (refine M0 ?_; first | refine SL ?_ | refine SB fun _ _ => ?_) | (refine M1 ?_; first | refine SC ?_ | refine SD ?_) | (refine M2 ?_; refine SE ?_) | (refine M3 ?_; first | refine SG ?_ | refine SF ?_) | (refine M4 ?_; refine SR ?_) | (refine M5 ?_; first | exact M7 | refine YM ?_ | refine YN ?_ ?_))
    refine XC.cutln [1] rfl (fun s : Nat × Nat => [(8, .pointer (some ⟨s.1, 0, none⟩)), (9, .pointer (some ⟨s.2, 0, none⟩))]) (fun s => [(s.1, cel 43 (rowC (b.row k))), (s.2, cel 43 (rowC (b.row (k + 1))))]) (fun s => w.heap.size ≤ s.1 ∧ w.heap.size ≤ s.2) ?_ ?_
    · refine XC.drawR _ [0, 1, 2, 3, 4, 5, 6, 7, 8, 9, 10] [11, 12, 13, 14] mixed (fun _ h => h) rfl (by kernel_rfl) ?_
      repeat (any_goals (first | (refine M0 ?_; first | refine SL ?_ | refine SB fun _ _ => ?_ | (refine XL.split _ _ rfl (fun h => ?_) (fun h => ?_) <;> rw [h]) | refine Y4 (Ev.load_old_agg tok (rowC (b.row k)) rfl rfl rfl (add_lt hlt) (hb.row (by omega))) ?_ | refine Y4 (Ev.load_old_agg tok (rowC (b.row (k + 1))) rfl rfl rfl (add_lt hlt) (hb.row hk)) ?_) | (refine M1 ?_; first | refine SC ?_ | refine SD ?_ | refine XC.cond _ rfl (fun h => ?_) (fun h => ?_)) | (refine M2 ?_; refine SE ?_) | (refine M3 ?_; first | refine SG ?_ | refine SF ?_ | (refine Fw.split _ _ rfl (fun h => ?_) (fun h => ?_) <;> rw [h]) | refine YF (Ev.load_old_agg tok (rowC (b.row k)) rfl rfl rfl (add_lt hlt) (hb.row (by omega))) ?_ | refine YF (Ev.load_old_agg tok (rowC (b.row (k + 1))) rfl rfl rfl (add_lt hlt) (hb.row hk)) ?_) | (refine M4 ?_; refine SR ?_) | (refine M5 ?_; first | exact M7 | refine YM ?_ | refine YN ?_ ?_)))
      all_goals
        refine XE.leaf (_, _) ZZSUB (fun _ S' => by first | exact S' | exact S'.perm (by repeat (first | exact List.Perm.refl _ | refine perm1 ?_ | refine List.Perm.cons _ ?_ | refine perm2 ?_)) | exact (S'.pop (by assumption)) | exact (S'.pop2 (by assumption))) ?_
        exact ⟨by assumption, by assumption⟩
    rintro ⟨g8, g9⟩ ⟨hg8, hg9⟩
    simp only at hg8 hg9
    simp only [rowC]
    dsimp only [List.cons_append, List.nil_append]
    refine XC.hint 8 2 (XC.hint 9 1 ?_)
    have hm1 : i64in ((l - (b.row k).level) * ((b.row (k + 1)).vol - (b.row k).vol)) := by unfold i64in; omega
    have hm2 : i64in ((b.row k).vol + ((l - (b.row k).level) * ((b.row (k + 1)).vol - (b.row k).vol)).tdiv ((b.row (k + 1)).level - (b.row k).level)) := by rw [hdiv]; unfold i64in; omega
    repeat (first | (refine M0 ?_; first | refine SL ?_ | refine SB fun _ _ => ?_) | (refine M1 ?_; first | refine SC ?_ | refine SD ?_) | (refine M2 ?_; refine SE ?_) | (refine M3 ?_; first | refine SG ?_ | refine SF ?_) | (refine M4 ?_; refine SR ?_) | (refine M5 ?_; first | exact M7 | refine YM ?_ | refine YN ?_ ?_))
    refine XE.retg tok Tryz.results6 rfl (by simp only [and_self, and_true]) (fun w' S => ?_)
    rw [e1, e2]
    refine ⟨?_, S.toBelow⟩
    unfold volOf volAt
    rw [hki, hdiv]
    rfl
end X
namespace Bs
section
variable {b : Bas} (h : Ok b)
include h
structure StaLe (b : Bas) (s s' : Sta) : Prop where
  vol : s.vol ≤ s'.vol
  fil : ∀ i, i < b.pols.length → s.f i ≤ s'.f i
structure TickLe (t t' : Tick) : Prop where
  outer : t.outer ≤ t'.outer
  river : t.river ≤ t'.river
  out : t'.out ≤ t.out
end
end Bs
namespace Bs
open Go X
structure His where
  from_ : Int
  vals : List Int
structure CTk where
  b : Bas
  fil : List Int
  his : List His
  river : List Int
  out : Int
  limit : Int
  delay : Int
structure CPl where
  close : Int
  open_ : Int
deriving DecidableEq
def hs0 : His := ⟨0, []⟩
def CTk.h (t : CTk) (k : Nat) : His := t.his[k]?.getD hs0
def CTk.m (t : CTk) : Nat := t.his.length
def CTk.n (t : CTk) : Nat := (t.h 0).vals.length
def CTk.from_ (t : CTk) : Int := (t.h 0).from_
def CTk.v (t : CTk) (k i : Nat) : Int := at0 (t.h k).vals i
def hisErr (t : CTk) (k : Nat) : Int :=
  if (t.h k).from_ ≠ t.from_ ∨ (t.h k).vals.length ≠ t.n then 2
  else if outB (t.h k).from_ 0 (200000 - t.n + 1) || (t.h k).vals.any highB then 7 else 0
def filBad (t : CTk) : Bool := (List.range t.fil.length).any fun i => outB (at0 t.fil i) 0 (t.b.pol i).room
noncomputable def chkC (t : CTk) : Int × Int × Int :=
  if chkE t.b ≠ 0 then (1, 0, chkE t.b) else
  if outB t.m 1 8 || outB t.n 1 60 then (2, 0, 3) else
  match firstN (hisErr t) t.m with
  | some i => (2, i, hisErr t i)
  | none =>
    if t.river.length ≠ t.n then (3, 0, 2) else
    if (t.river.any fun v => outB v 0 10000000) = true then (3, 0, 7) else
    if t.fil.length ≠ t.b.pols.length then (4, 0, 2) else
    if outB t.out 0 10000000 || (outB t.limit (t.b.row 0).level 20000 || outB t.delay 0 30) then (4, 0, 7) else
    if filBad t = true then (4, 0, 7) else (0, 0, 0)
noncomputable def ctE (t : CTk) : Int := (chkC t).2.2
structure CtOk (t : CTk) : Prop where
  ok : Ok t.b
  chk : chkE t.b = 0
  m1 : 1 ≤ t.m
  m8 : t.m ≤ 8
  n1 : 1 ≤ t.n
  n60 : t.n ≤ 60
  from_ : ∀ k, k < t.m → (t.h k).from_ = t.from_
  len : ∀ k, k < t.m → (t.h k).vals.length = t.n
  frm : 0 ≤ t.from_ ∧ t.from_ ≤ 200000 - t.n + 1
  val : ∀ k i, k < t.m → i < t.n → -20000 ≤ t.v k i ∧ t.v k i ≤ 20000
  river : t.river.length = t.n
  riv : ∀ i, i < t.n → 0 ≤ at0 t.river i ∧ at0 t.river i ≤ 10000000
  filn : t.fil.length = t.b.pols.length
  fil : ∀ i, i < t.fil.length → 0 ≤ at0 t.fil i ∧ at0 t.fil i ≤ (t.b.pol i).room
  out : 0 ≤ t.out ∧ t.out ≤ 10000000
  lim : (t.b.row 0).level ≤ t.limit ∧ t.limit ≤ 20000
  dly : 0 ≤ t.delay ∧ t.delay ≤ 30
theorem any_at {l : List Int} {p : Int → Bool} (h : l.any p = false) {i : Nat} (hi : i < l.length) : p (at0 l i) = false := by
  rw [List.any_eq_false] at h
  have := h l[i] (List.getElem_mem hi)
  unfold at0
  rw [List.getElem?_eq_getElem hi]
  simpa using this
theorem firstC_val {f : Nat → Int} {n i : Nat} (h : firstN f n = some i) : i < n ∧ f i ≠ 0 ∧ ∀ j, j < i → f j = 0 := by
  induction n with
  | zero => cases h
  | succ n ih =>
    simp only [firstN] at h
    cases hx : firstN f n with
    | some j =>
      rw [hx] at h
      cases h
      obtain ⟨a, b, c⟩ := ih hx
      exact ⟨by omega, b, c⟩
    | none =>
      rw [hx] at h
      simp only at h
      by_cases hf : f n = 0
      · rw [if_pos hf] at h; cases h
      · rw [if_neg hf] at h
        cases h
        exact ⟨by omega, hf, firstN_none_iff hx⟩
theorem hisErr_0 {t : CTk} {k : Nat} (h : hisErr t k = 0) : (t.h k).from_ = t.from_ ∧ (t.h k).vals.length = t.n ∧ (0 ≤ t.from_ ∧ t.from_ ≤ 200000 - t.n + 1) ∧ ∀ i, i < t.n → -20000 ≤ t.v k i ∧ t.v k i ≤ 20000 := by
  unfold hisErr at h
  split at h
  · cases h
  rename_i h1
  split at h
  · cases h
  rename_i h2
  simp only [Bool.or_eq_true, not_or, Bool.not_eq_true] at h2
  have h3 : (t.h k).from_ = t.from_ ∧ (t.h k).vals.length = t.n := ⟨Decidable.byContradiction fun h => h1 (.inl h), Decidable.byContradiction fun h => h1 (.inr h)⟩
  have h4 := outB_f.1 h2.1
  rw [h3.1] at h4
  exact ⟨h3.1, h3.2, h4, fun i hi => outB_f.1 (any_at h2.2 (by rw [h3.2]; exact hi))⟩
theorem ctOk_of {t : CTk} (h : ctE t = 0) : CtOk t := by
  unfold ctE chkC at h
  split at h
  · rename_i h1; exact absurd h h1
  rename_i h1
  have hc : chkE t.b = 0 := by simpa using h1
  split at h
  · cases h
  rename_i h2
  simp only [Bool.or_eq_true, not_or, Bool.not_eq_true] at h2
  have a1 := outB_f.1 h2.1
  have a2 := outB_f.1 h2.2
  split at h
  · rename_i i hi
    exact absurd h (firstC_val hi).2.1
  rename_i h3
  have h3' := firstN_none_iff h3
  split at h
  · cases h
  rename_i h4
  split at h
  · cases h
  rename_i h5
  split at h
  · cases h
  rename_i h6
  split at h
  · cases h
  rename_i h7
  split at h
  · cases h
  rename_i h8
  simp only [Bool.or_eq_true, not_or, Bool.not_eq_true] at h7
  have hr : t.river.length = t.n := by simpa using h4
  refine ⟨ok_of hc, hc, by omega, by omega, by omega, by omega, fun k hk => (hisErr_0 (h3' k hk)).1, fun k hk => (hisErr_0 (h3' k hk)).2.1, (hisErr_0 (h3' 0 (by omega))).2.2.1, fun k i hk hi => (hisErr_0 (h3' k hk)).2.2.2 i hi, hr,
    fun i hi => outB_f.1 (any_at (p := fun v => outB v 0 10000000) (by simpa using h5) (by rw [hr]; exact hi)), by simpa using h6, fun i hi => ?_, outB_f.1 h7.1, outB_f.1 h7.2.1, outB_f.1 h7.2.2⟩
  unfold filBad at h8
  rw [Bool.not_eq_true, List.any_eq_false] at h8
  exact outB_f.1 (by simpa using h8 i (by simpa using hi))
def CTk.highAt (t : CTk) (i : Nat) : Bool := (List.range t.m).any fun k => decide (t.limit < t.v k i)
def CTk.qTo (t : CTk) : Nat → Nat
  | 0 => 0
  | i + 1 => if t.highAt i = true then i + 1 else t.qTo i
def CTk.q (t : CTk) : Nat := t.qTo t.n
theorem qTo_spec (t : CTk) : ∀ n, t.qTo n ≤ n ∧ (t.qTo n = 0 ∨ ∃ i, t.qTo n = i + 1 ∧ t.highAt i = true) ∧ ∀ i, t.qTo n ≤ i → i < n → t.highAt i = false := by
  intro n
  induction n with
  | zero => exact ⟨Nat.le_refl _, .inl rfl, fun i _ h => by omega⟩
  | succ n ih =>
    unfold CTk.qTo
    split
    · rename_i h
      exact ⟨Nat.le_refl _, .inr ⟨n, rfl, h⟩, fun i h1 h2 => by omega⟩
    · rename_i h
      refine ⟨by omega, ih.2.1, fun i h1 h2 => ?_⟩
      rcases Nat.lt_or_ge i n with h3 | h3
      · exact ih.2.2 i h1 h3
      · have : i = n := by omega
        subst this
        simpa using h
theorem q_eq {t : CTk} {q : Nat} (h1 : q ≤ t.n) (h2 : q = 0 ∨ ∃ i, q = i + 1 ∧ t.highAt i = true) (h3 : ∀ i, q ≤ i → i < t.n → t.highAt i = false) : q = t.q := by
  obtain ⟨a1, a2, a3⟩ := qTo_spec t t.n
  show q = t.qTo t.n
  rcases Nat.lt_trichotomy q (t.qTo t.n) with h | h | h
  · rcases a2 with a2 | ⟨i, a2, a4⟩
    · omega
    · rw [h3 i (by omega) (by omega)] at a4; cases a4
  · exact h
  · rcases h2 with h2 | ⟨i, h2, h4⟩
    · omega
    · rw [a3 i (by omega) (by omega)] at h4; cases h4
theorem high_f {t : CTk} {i : Nat} : t.highAt i = false ↔ ∀ k, k < t.m → t.v k i ≤ t.limit := by
  unfold CTk.highAt
  rw [List.any_eq_false]
  simp
theorem high_t {t : CTk} {i : Nat} : t.highAt i = true ↔ ∃ k, k < t.m ∧ t.limit < t.v k i := by
  unfold CTk.highAt
  rw [List.any_eq_true]
  simp
def CTk.last (t : CTk) : Int := t.n - 1 - t.delay
def CTk.plan (t : CTk) (i : Int) : CPl := ⟨t.from_ + i, t.from_ + max (t.q : Int) (i + t.delay + 1)⟩
def CTk.tick (t : CTk) (k i : Nat) : Tick := ⟨t.v k i, at0 t.river i, t.out⟩
def CTk.vol0 (t : CTk) (k s : Nat) : Int := volOf t.b (max (t.v k s) (t.b.row 0).level)
def CTk.rs (t : CTk) (k s : Nat) : Nat → Option Sta
  | 0 => some ⟨t.vol0 k s, t.fil⟩
  | j + 1 => match t.rs k s j with
    | none => none
    | some st => if stepE t.b st (t.tick k (s + j)) = 0 then some (outS t.b st (t.tick k (s + j))) else none
def CTk.vols (t : CTk) (k s m : Nat) : List Int := (List.range m).filterMap fun j => (t.rs k s j).map (·.vol)
theorem rs_none {t : CTk} {k s : Nat} {i j : Nat} (hij : i ≤ j) (h : t.rs k s i = none) : t.rs k s j = none := by
  induction j with
  | zero => have : i = 0 := by omega
            subst this; exact h
  | succ j ih =>
    rcases Nat.lt_or_ge i (j + 1) with h1 | h1
    · unfold CTk.rs; rw [ih (by omega)]
    · have : i = j + 1 := by omega
      subst this; exact h
theorem vols_succ (t : CTk) (k s m : Nat) : t.vols k s (m + 1) = t.vols k s m ++ ((t.rs k s m).map (·.vol)).toList := by
  unfold CTk.vols
  rw [List.range_succ, List.filterMap_append]
  cases h : t.rs k s m <;> simp [h]
theorem vols_len {t : CTk} {k s : Nat} : ∀ {m j : Nat} {st : Sta}, j ≤ m → t.rs k s j = some st → j ≤ (t.vols k s m).length := by
  intro m
  induction m with
  | zero => intro j st hj _; omega
  | succ m ih =>
    intro j st hj h
    rw [vols_succ, List.length_append]
    rcases Nat.lt_or_ge m j with h1 | h1
    · have : j = m + 1 := by omega
      subst this
      cases hm : t.rs k s m with
      | none => rw [rs_none (by omega) hm] at h; cases h
      | some x => have := ih (Nat.le_refl m) hm; simp; omega
    · have := ih h1 h; omega
theorem vols_le {t : CTk} {k s : Nat} : ∀ {m : Nat}, (t.vols k s m).length ≤ m := by
  intro m
  induction m with
  | zero => simp [CTk.vols]
  | succ m ih =>
    rw [vols_succ, List.length_append]
    have : ((t.rs k s m).map (·.vol)).toList.length ≤ 1 := by cases t.rs k s m <;> simp
    omega
theorem vols_full {t : CTk} {k s m : Nat} {st : Sta} (h : t.rs k s m = some st) : (t.vols k s m).length = m := by
  have := vols_len (Nat.le_refl m) h
  have := @vols_le t k s m
  omega
theorem vols_at {t : CTk} {k s : Nat} : ∀ {m j : Nat}, j < m → (t.vols k s m)[j]? = (t.rs k s j).map (·.vol) := by
  intro m
  induction m with
  | zero => intro j h; omega
  | succ m ih =>
    intro j hj
    rw [vols_succ]
    rcases Nat.lt_or_ge j m with h | h
    · cases hr : t.rs k s j with
      | none =>
        have h1 := ih h
        rw [hr] at h1
        have h2 : (t.vols k s m).length ≤ j := by simpa using h1
        have h3 : t.rs k s m = none := rs_none (by omega) hr
        rw [h3]
        simpa using h2
      | some st =>
        have h1 := ih h
        rw [hr] at h1
        rw [List.getElem?_append_left (List.getElem?_eq_some_iff.1 h1).1, h1]
    · have : j = m := by omega
      subst this
      cases hr : t.rs k s j with
      | none =>
        have h2 := @vols_le t k s j
        simp only [Option.map_none, Option.toList_none, List.append_nil]
        exact List.getElem?_eq_none h2
      | some st =>
        have h2 := vols_full hr
        rw [List.getElem?_append_right (by omega), h2]
        simp
structure Lv where
  shut : Bool
  n : Int
def firstB (f : Nat → Bool) : Nat → Option Nat
  | 0 => none
  | n + 1 => match firstB f n with
    | some i => some i
    | none => if f n = true then some n else none
theorem firstB_none {f : Nat → Bool} : ∀ {n : Nat}, firstB f n = none ↔ ∀ j, j < n → f j = false := by
  intro n
  induction n with
  | zero => simp [firstB]
  | succ n ih =>
    unfold firstB
    cases hx : firstB f n with
    | some i =>
      constructor
      · intro h; cases h
      · intro h
        rw [ih.2 fun j hj => h j (by omega)] at hx; cases hx
    | none =>
      simp only
      have h0 := ih.1 hx
      constructor
      · intro h j hj
        rcases Nat.lt_or_ge j n with h1 | h1
        · exact h0 j h1
        · have : j = n := by omega
          subst this
          by_cases h2 : f j = true
          · rw [if_pos h2] at h; cases h
          · simpa using h2
      · intro h
        rw [if_neg (by simp [h n (by omega)])]
theorem firstB_some {f : Nat → Bool} : ∀ {n i : Nat}, firstB f n = some i ↔ i < n ∧ f i = true ∧ ∀ j, j < i → f j = false := by
  intro n
  induction n with
  | zero => intro i; simp [firstB]
  | succ n ih =>
    intro i
    unfold firstB
    cases hx : firstB f n with
    | some i' =>
      obtain ⟨a1, a2, a3⟩ := ih.1 hx
      constructor
      · intro h; cases h; exact ⟨by omega, a2, a3⟩
      · rintro ⟨b1, b2, b3⟩
        show some i' = some i
        congr 1
        rcases Nat.lt_trichotomy i' i with h | h | h
        · rw [b3 i' h] at a2; cases a2
        · exact h
        · rw [a3 i h] at b2; cases b2
    | none =>
      have h0 := firstB_none.1 hx
      simp only
      constructor
      · intro h
        by_cases h2 : f n = true
        · rw [if_pos h2] at h; cases h; exact ⟨by omega, h2, h0⟩
        · rw [if_neg h2] at h; cases h
      · rintro ⟨b1, b2, b3⟩
        have : i = n := by
          rcases Nat.lt_or_ge i n with h1 | h1
          · rw [h0 i h1] at b2; cases b2
          · omega
        subst this
        rw [if_pos b2]
def lastB (f : Nat → Bool) : Nat → Option Nat
  | 0 => none
  | n + 1 => if f n = true then some n else lastB f n
theorem lastB_none {f : Nat → Bool} : ∀ {n : Nat}, lastB f n = none ↔ ∀ j, j < n → f j = false := by
  intro n
  induction n with
  | zero => simp [lastB]
  | succ n ih =>
    unfold lastB
    by_cases h : f n = true
    · rw [if_pos h]
      constructor
      · intro h1; cases h1
      · intro h1; rw [h1 n (by omega)] at h; cases h
    · rw [if_neg h, ih]
      constructor
      · intro h1 j hj
        rcases Nat.lt_or_ge j n with h2 | h2
        · exact h1 j h2
        · have : j = n := by omega
          subst this; simpa using h
      · intro h1 j hj; exact h1 j (by omega)
theorem lastB_some {f : Nat → Bool} : ∀ {n i : Nat}, lastB f n = some i ↔ i < n ∧ f i = true ∧ ∀ j, i < j → j < n → f j = false := by
  intro n
  induction n with
  | zero => intro i; simp [lastB]
  | succ n ih =>
    intro i
    unfold lastB
    by_cases h : f n = true
    · rw [if_pos h]
      constructor
      · intro h1; cases h1; exact ⟨by omega, h, fun j h2 h3 => by omega⟩
      · rintro ⟨b1, b2, b3⟩
        congr 1
        rcases Nat.lt_or_ge i n with h2 | h2
        · rw [b3 n h2 (by omega)] at h; cases h
        · omega
    · rw [if_neg h, ih]
      constructor
      · rintro ⟨b1, b2, b3⟩
        refine ⟨by omega, b2, fun j h2 h3 => ?_⟩
        rcases Nat.lt_or_ge j n with h4 | h4
        · exact b3 j h2 h4
        · have : j = n := by omega
          subst this; simpa using h
      · rintro ⟨b1, b2, b3⟩
        have : i < n := by
          rcases Nat.lt_or_ge i n with h2 | h2
          · exact h2
          · have : i = n := by omega
            subst this; exact absurd b2 h
        exact ⟨this, b2, fun j h2 h3 => b3 j h2 (by omega)⟩
end Bs
namespace Bs
open Go X
structure CRu where
  count : Int
  early : Int
structure RuOk (r : CRu) : Prop where
  count : 1 ≤ r.count ∧ r.count ≤ 8
  early : 0 ≤ r.early ∧ r.early ≤ 60
abbrev II := Int × Int
structure CDe where
  plan : CPl
  peaks : List II
  later : List II
end Bs
namespace Bs
open Go X
structure Same5 (t u : CTk) : Prop where
  b : u.b = t.b
  fil : u.fil = t.fil
  river : u.river = t.river
  out : u.out = t.out
  delay : u.delay = t.delay
  n : u.n = t.n
  from_ : u.from_ = t.from_
end Bs
namespace Bs
open Go X
end Bs
namespace Bs
open Go X
structure Sub5 (t u : CTk) : Prop extends Same5 t u where
  lim : u.limit = t.limit
  m1 : 1 ≤ u.m
  m : u.m ≤ t.m
  h : ∀ j, j < u.m → ∃ k, k < t.m ∧ u.h j = t.h k
end Bs
namespace X
open Go Go.RowKit Bs
def hisC (q : SV) (h : His) : List Value := [.int .i64 h.from_, svV q]
def hisK : Kind (SV × His) := ⟨41, 2, fun e => hisC e.1 e.2, fun e => [hInts e.1 e.2.vals], fun _ => rfl⟩
structure CTV where
  p : BV
  f : SV
  h : SV
  r : SV
def ctkC (v : CTV) (t : CTk) : List Value :=
  [.slice v.p.A v.p.n v.p.c, .int .i64 t.b.leak, .int .i64 t.b.crest, .int .i64 t.b.over, .slice v.p.A2 v.p.n2 v.p.c2, .slice v.f.A v.f.n v.f.c, .slice v.h.A v.h.n v.h.c, .slice v.r.A v.r.n v.r.c, .int .i64 t.out, .int .i64 t.limit, .int .i64 t.delay]
def ctkV (v : CTV) (t : CTk) : Value := .agg ⟨ctkC v t⟩
structure CtAt (w : World) (B : Nat) (v : CTV) (t : CTk) : Prop where
  bas : BasAt w B v.p t.b
  fil : IntsAt w (Lt B) v.f t.fil
  his : ∃ es : List (SV × His), ListAt hisK w (Lt B) v.h es ∧ es.map (·.2) = t.his
  river : IntsAt w (Lt B) v.r t.river
  cap : v.h.n ≤ v.h.c
section
variable {w w' w0 : World} {B B' : Nat} {v : CTV} {t : CTk} {L : Lo}
theorem CtAt.below (h : CtAt w B v t) (hb : Below B w w') : CtAt w' B v t := by
  obtain ⟨es, h1, h2⟩ := h.his
  exact ⟨h.bas.below hb, h.fil.keep fun k hk => hb.block k hk, ⟨es, h1.below hb, h2⟩, h.river.keep fun k hk => hb.block k hk, h.cap⟩
theorem CtAt.more (h : CtAt w B v t) (hB : B ≤ B') : CtAt w B' v t := by
  obtain ⟨es, h1, h2⟩ := h.his
  exact ⟨h.bas.more hB, h.fil.mono fun k hk => Nat.lt_of_lt_of_le hk hB, ⟨es, h1.mono fun k hk => Nat.lt_of_lt_of_le hk hB, h2⟩, h.river.mono fun k hk => Nat.lt_of_lt_of_le hk hB, h.cap⟩
theorem CtAt.sys (h : CtAt w0 B v t) (S : Sys B w0 L w) : CtAt w w.heap.size v t := (h.below S.toBelow).more (Nat.le_trans S.base S.size)
theorem CtAt.hn (h : CtAt w B v t) : v.h.n = t.m := by
  obtain ⟨es, h1, h2⟩ := h.his
  rw [h1.len (by decide)]
  show es.length = t.his.length
  rw [← h2]; simp
theorem CtAt.hmax (h : CtAt w B v t) : v.h.n ≤ 9223372036854775807 := by
  obtain ⟨es, h1, h2⟩ := h.his
  exact h1.max
theorem CtAt.hisAt (h : CtAt w B v t) {k : Nat} (hk : k < t.m) : ∃ (ad : Addr) (q : SV), v.h.A = some ad ∧ ad.block < B ∧ (∀ j u, (hisC q (t.h k))[j]? = some u → w.cell? ((ad.add (k * 2)).add j) = some u) ∧ IntsAt w (Lt B) q (t.h k).vals := by
  obtain ⟨es, h1, h2⟩ := h.his
  have hl : k < es.length := by
    have : es.length = t.his.length := by rw [← h2]; simp
    rw [this]; exact hk
  obtain ⟨ad, e1, e2⟩ := ListAt.addr (A := v.h.A) (n := v.h.n) (c := v.h.c) h1 (by decide) (by omega)
  have hek : es[k]? = some es[k] := List.getElem?_eq_getElem hl
  have eh : t.h k = es[k].2 := by
    unfold CTk.h
    rw [← h2, List.getElem?_map, hek]; rfl
  refine ⟨ad, es[k].1, e1, e2, fun j u hj => ?_, ?_⟩
  · have h1' : ListAt hisK w (Lt B) ⟨some ad, v.h.n, v.h.c⟩ es := by rw [← e1]; exact h1
    rw [eh] at hj
    exact h1'.elem hek j u hj
  · rw [eh]
    exact h1.ins es[k] (List.getElem_mem hl) (hInts es[k].1 es[k].2.vals) (List.mem_singleton.2 rfl)
end
def keyC (k s : Nat) : List Value := [.int .i64 (k : Nat), .int .i64 (s : Nat)]
def keyV (k s : Nat) : Value := .agg ⟨keyC k s⟩
theorem run_fuel : ∃ d, Tryz.prog.types.size + 1 = d + 3 := by
  have h : Nat.ble 2 Tryz.prog.types.size = true := by kernel_rfl
  have := Nat.le_of_ble_eq_true h
  exact ⟨Tryz.prog.types.size - 2, by omega⟩
def intT5 (P : Program) (t : TypeId) : Bool := match P.underlying t with
  | some (.int .i64) => P.cellsOf t == 1
  | _ => false
theorem keyLits_int5 {P : Program} {t : TypeId} (ht : intT5 P t = true) (d : Nat) {n : Int} (h : i64in n) : P.keyLits (d + 1) t [.int .i64 n] = some [.int .i64 n] := by
  unfold intT5 at ht
  split at ht
  · rename_i hu
    have h1 : (Lit.int .i64 n).wf = true := by
      have e1 : IntKind.i64.min = -9223372036854775808 := rfl
      have e2 : IntKind.i64.max = 9223372036854775807 := rfl
      unfold i64in at h
      simp only [Lit.wf, e1, e2, Bool.and_eq_true, decide_eq_true_eq]
      omega
    simp [Program.keyLits, hu, h1]
  · cases ht
theorem intT5_1 {P : Program} {t : TypeId} (ht : intT5 P t = true) : P.cellsOf t = 1 := by
  unfold intT5 at ht
  split at ht
  · simpa using ht
  · cases ht
theorem keyLits_str5 {P : Program} {t : TypeId} {fs : Array Field} {d : Nat} {cs : List Value} (hu : P.underlying t = some (.struct fs)) : P.keyLits (d + 1) t cs = if cs.length = P.cellsOf t ∧ fs.all (·.name != "_") = true then (fs.toList.mapM fun f => P.keyLits d f.type ((cs.drop f.offset).take (P.cellsOf f.type))).map List.flatten else none := by
  conv => lhs; unfold Program.keyLits
  simp only [hu]
def gamC (v : CTV) (t : CTk) (gm : Nat) : List Value :=
  [.slice v.p.A v.p.n v.p.c, .int .i64 t.b.leak, .int .i64 t.b.crest, .int .i64 t.b.over, .slice v.p.A2 v.p.n2 v.p.c2, .slice v.f.A v.f.n v.f.c, .slice v.h.A v.h.n v.h.c, .slice v.r.A v.r.n v.r.c, .int .i64 t.out, .int .i64 t.limit, .int .i64 t.delay,
   .int .i64 t.from_, .int .i64 (t.n : Nat), .int .i64 (t.q : Nat), .map (some gm)]
abbrev gamO (v : CTV) (t : CTk) (gm : Nat) : Obj := cel 81 (gamC v t gm)
def RunE (t : CTk) (w : World) (ok : Nat → Prop) (e : Value × Value) : Prop := ∃ (k s : Nat) (q : SV), e.1 = keyV k s ∧ e.2 = svV q ∧ k < t.m ∧ s < t.n ∧ IntsAt w ok q (t.vols k s (t.n - s))
def Mem5 (t : CTk) (gm : Nat) (w : World) (ok : Nat → Prop) : Prop := ∃ kvs : List (Value × Value), w.heap[gm]? = some (mapO kvs) ∧ KeysOk Tryz.prog 269 kvs ∧ ∀ e, e ∈ kvs → RunE t w ok e
theorem Mem5.mono {t : CTk} {gm : Nat} {w : World} {ok ok' : Nat → Prop} (h : Mem5 t gm w ok) (hk : ∀ k, ok k → ok' k) : Mem5 t gm w ok' := by
  obtain ⟨kvs, h1, h2, h3⟩ := h
  refine ⟨kvs, h1, h2, fun e he => ?_⟩
  obtain ⟨k, s, q, a1, a2, a3, a4, a5⟩ := h3 e he
  exact ⟨k, s, q, a1, a2, a3, a4, a5.mono hk⟩
structure Gam (t : CTk) (v : CTV) (b0 g gm : Nat) (ks : List Nat) (rs : List RowX) (hs : List Held) (w : World) : Prop where
  fam : Fam w b0 (gm :: ks) rs hs
  nin : gm ∉ ks
  gin : g ∈ ks
  lt : ∀ k, k ∈ gm :: ks → k < w.heap.size
  bg : b0 ≤ g
  bm : b0 ≤ gm
  game : w.heap[g]? = some (gamO v t gm)
  task : CtAt w b0 v t
  memo : Mem5 t gm w (Free w b0 (gm :: ks) rs)
section
variable {t : CTk} {v : CTV} {b0 g gm : Nat} {ks ks' : List Nat} {rs : List RowX} {hs hs' new : List Held} {w w' wE w0 w1 w2 : World} {L : Lo} {B : Nat}
variable {P : Program} {N : Nat} {ds : List Deferred} {Q : Exit → Act → World → Prop} {F : Fr} {ops : Array Oper} {rest : List Oper} {ty : TypeId} {p : String} {af : Array Edge}
end
end X
namespace X
open Go Go.RowKit Bs
theorem trunc_cell {w : World} {n : Nat} {a : Addr} (h : a.block < n) : (trunc w n).cell? a = w.cell? a := by
  unfold World.cell? trunc
  have : (w.heap.extract 0 n)[a.block]? = w.heap[a.block]? := by
    rw [Array.getElem?_extract]
    simp
    omega
  simp only [this]
section
variable {P : Program} {N : Nat} {B : Nat} {w0 wE : World} {ds : List Deferred} {Q : Exit → Act → World → Prop} {F : Fr} {L Ls : Lo} {ops : Array Oper} {rem : List (Nat × Oper)}
theorem z7 (k : XR P N B (trunc wE B) w0 ds Q Ls ops rem F L) (hB : Below B wE w0 := by assumption) (hle : B ≤ wE.heap.size := by assumption)
    (hs : ∀ e, e ∈ Ls → e ∈ L := by (intro e he; repeat (first | (cases he; done) | (rcases List.mem_cons.1 he with rfl | he; · repeat (first | exact List.mem_cons_self | apply List.mem_cons_of_mem)))) <;> fail)
    (hn : (Ls.map (·.1)).Nodup := by (simp; try omega) <;> fail) : XE N B w0 ds (heldR P B (trunc wE B) Q Ls ops rem) .normal F L :=
  XE.heldR (fun _ h => Sys.anchorT hB h hs hn hle) k
end
section
variable {t : CTk} {v : CTV} {b0 g gm : Nat} {ks ks' : List Nat} {rs : List RowX} {hs hs' new : List Held} {w w' wE w0 w1 w2 : World} {L : Lo} {B : Nat}
variable {P : Program} {N : Nat} {ds : List Deferred} {Q : Exit → Act → World → Prop} {F : Fr} {ops : Array Oper} {rest : List Oper} {ty : TypeId} {p : String} {af : Array Edge}
end
end X
namespace X
open Go Go.RowKit
section
variable {P : Program} {T : TT} {N : Nat} {B : Nat} {w0 : World} {ds : List Deferred} {Q : Exit → Act → World → Prop} {F : Fr} {L L' : Lo} {r : Option Nat} {n : Nat}
theorem XI.guard_y {ops : Array Oper} {rest : List Oper} {d j : Nat} {wb : Bool} {op : Op} {ty : TypeId} {p : String} {af : Array Edge} (hj : asked ops F j = some wb)
    (h : XI P N B w0 ds Q r n ops ({ dst := some d, op := op, type := ty, pos := p, after := af, guard := none } :: rest) F L) :
    XI P N B w0 ds Q r n ops ({ dst := some d, op := op, type := ty, pos := p, after := af, guard := some (j, wb) } :: rest) F L := by
  refine ⟨fun a w hf hs => ?_⟩
  have hw : Region.wanted { dst := some d, op := op, type := ty, pos := p, after := af, guard := some (j, wb) } (yielded ops a.tmps) = true := by
    simp [Region.wanted, asked_spec hj hf]
  have h1 := h.run a w hf hs
  unfold wpListIn at h1 ⊢
  rw [if_pos (by simp [Region.wanted])] at h1
  rw [hw, if_pos rfl]
  exact h1
theorem XI.guard_n {ops : Array Oper} {rest : List Oper} {d j : Nat} {wb : Bool} {op : Op} {ty : TypeId} {p : String} {af : Array Edge} (hj : asked ops F j = some (!wb))
    (h : XI P N B w0 ds Q r n ops rest ((d, undef) :: F) L) (hd : Nat.blt d N = true) :
    XI P N B w0 ds Q r n ops ({ dst := some d, op := op, type := ty, pos := p, after := af, guard := some (j, wb) } :: rest) F L := by
  refine ⟨fun a w hf hs => ?_⟩
  have hw : Region.wanted { dst := some d, op := op, type := ty, pos := p, after := af, guard := some (j, wb) } (yielded ops a.tmps) = false := by
    simp [Region.wanted, asked_spec hj hf]
  unfold wpListIn
  rw [hw, if_neg (by simp)]
  exact ⟨fun f _ => fen_fn r f, h.run _ w (hf.put hd) hs⟩
theorem XC.loopD {c : Code} {σ : Type} (ts : List Nat) {G0 : Fr} (hk : keepO F ts = some G0) (G : σ → Fr) (M : σ → Lo) (W : σ → World) (D : σ → List Deferred) (pre : σ → Prop) (μ : σ → Nat) (s0 : σ)
    (h0 : pre s0) (hD : D s0 = ds) (hG : Sub (G s0) F) (hM : ∀ w, Sys B w0 L w → Sys B (W s0) (M s0) w)
    (round : ∀ s, pre s → XC P N B (W s) (D s) (Exit.then (fun a w => ∃ s', pre s' ∧ μ s' < μ s ∧ Fits N (D s') (G s' ++ G0) a ∧ Sys B (W s') (M s') w) Q) c (G s ++ G0) (M s)) :
    XC P N B w0 ds Q (.loop c) F L := by
  subst hD
  refine ⟨fun a w hf hs => ?_⟩
  refine wp_loop_ghost (fun n a w => ∃ s, μ s = n ∧ pre s ∧ Fits N (D s) (G s ++ G0) a ∧ Sys B (W s) (M s) w) (μ s0) ⟨s0, rfl, h0, (hG.append (keepO_sub ts G0 hk)).fits hf, hM w hs⟩ ?_
  rintro n a w ⟨s, rfl, hp, hf, hs⟩
  refine wp_mono ((round s hp).run a w hf hs) fun e a' w' q => ?_
  cases e with
  | normal =>
    obtain ⟨s', hp', hlt, hf', hs'⟩ := q
    exact ⟨μ s', hlt, s', rfl, hp', hf', hs'⟩
  | exit id => exact q
  | goto l => exact q
  | ret => exact q
  | panic ch => exact q
  | outgrown => exact q
theorem XE.roundD {σ : Type} {G : σ → Fr} {M : σ → Lo} {W : σ → World} {D : σ → List Deferred} {pre : σ → Prop} {μ : σ → Nat} {s : σ}
    (h : ∀ w, Sys B w0 L w → ∃ s', pre s' ∧ μ s' < μ s ∧ D s' = ds ∧ Sub (G s') F ∧ Sys B (W s') (M s') w) :
    XE N B w0 ds (Exit.then (fun a w => ∃ s', pre s' ∧ μ s' < μ s ∧ Fits N (D s') (G s') a ∧ Sys B (W s') (M s') w) Q) .normal F L :=
  ⟨fun a w hf hs => by
    obtain ⟨s', h1, h2, h3, h4, h5⟩ := h w hs
    exact ⟨s', h1, h2, by rw [h3]; exact h4.fits hf, h5⟩⟩
def RFEnd (P : Program) (N B : Nat) (w1 : World) (ds : List Deferred) (Q : Exit → Act → World → Prop) (F : Fr) (L : Lo) : Option Code → Prop
  | none => XE N B w1 ds Q .normal F L
  | some .ret => XE N B w1 ds Q .ret F L
  | some (.exit id) => XE N B w1 ds Q (.exit id) F L
  | some _ => False
theorem XC.rangeFuncD {g : Operand} {ps : Array Tmp} {assign body : Code} {gf : FuncId} {cap : List Value} (hg : evo F g = some (.func (.func gf) #[] ⟨cap⟩)) (hk : callOk P gf = true)
    (hc : ∀ (fn : FuncId) (a : Act) (D : Nat) (w : World), w0.heap.size ≤ D → Fits N ds F a → Sys B w0 ((D + 1, .loop (recO fn a.tmps ps assign body D .ready none)) :: (D, .deferred (some [])) :: L) w →
      Calls P gf (Value.func (.yield (D + 1)) #[] #[] :: cap).toArray w fun e w3 => ∃ v, e = .returned v ∧
        ∃ st pe L3 w1, st ≠ .busy ∧ Sys B w1 ((D + 1, .loop (recO fn a.tmps ps assign body D st pe)) :: L3) w3 ∧ RFEnd P N B w1 (markD D :: ds) Q F ((D + 1, .loop (recO fn a.tmps ps assign body D .exhausted pe)) :: L3) pe) :
    XC P N B w0 ds Q (.rangeFunc g ps assign body) F L := by
  refine ⟨fun a w hf hs => (wpIn_wide (n := 1)).1 (wpIn_rangeFunc (F := Fence.wide) fun fn _ => ?_)⟩
  have S1 := (hs.box (.deferred (some []))).box (.loop (recO fn a.tmps ps assign body w.heap.size .ready none))
  have hsz : (w.alloc (.deferred (some []))).heap.size = w.heap.size + 1 := by simp
  rw [hsz] at S1
  obtain ⟨W1, hW1⟩ : ∃ W1, (w.alloc (.deferred (some []))).alloc (.loop (recO fn a.tmps ps assign body w.heap.size .ready none)) = W1 := ⟨_, rfl⟩
  rw [hW1] at S1
  have hcall := hc fn a w.heap.size W1 hs.size hf S1
  refine ⟨w.heap.size + 1, [markD w.heap.size], W1, { target := .fn (.func gf) ⟨cap⟩, args := #[.func (.yield (w.heap.size + 1)) #[] #[]] }, W1, gf, (Value.func (.yield (w.heap.size + 1)) #[] #[] :: cap).toArray, W1,
    by rw [← hW1]; exact run_enterLoop_outer _ _ _ _ _, ?_, fun f' _ => trivial, ?_, fun h => (by cases h), ?_⟩
  · have : evo F g = some (.func (.func gf) ⟨[]⟩ ⟨cap⟩) := hg
    have e := hf.eval this
    simp only [resolve, rangeCall, e, Deferred.ofValue]
    simp [Act.eval]
  · have : (#[Value.func (.yield (w.heap.size + 1)) #[] #[]] ++ (⟨cap⟩ : Array Value)) = (Value.func (.yield (w.heap.size + 1)) #[] #[] :: cap).toArray := by simp
    simp only [invoke, this]
    exact callFunc_run hk _ _
  · refine callsIn_wide.2 (hcall.mono fun e w3 he => ?_)
    obtain ⟨v, rfl, st, pe, L3, w1, hst, hS, hx⟩ := he
    have hf' : Fits N (markD w.heap.size :: ds) F { a with defers := [markD w.heap.size] ++ a.defers } := ⟨hf.size, by simp [hf.defers], hf.get⟩
    have hl := (hS.own _ List.mem_cons_self).2
    refine ⟨pe, _, run_endLoop hl hst, ?_⟩
    have hS' := hS.setObj (i := 0) (o' := .loop (recO fn a.tmps ps assign body w.heap.size .exhausted pe)) rfl rfl
    match pe, hx with
    | none, hx => exact hx.run _ _ hf' hS'
    | some .ret, hx => exact wpIn_ret (hx.run _ _ hf' hS')
    | some (.exit id), hx => exact wpIn_exit (hx.run _ _ hf' hS')
theorem XE.endExit {l i id : Nat} {r : Loop} {R : Ending → World → Prop} (hL : L[i]? = some (l, .loop r)) (hL' : setN L i (l, .loop { r with state := .done, pending := some (.exit id) }) = some L')
    (h : ∀ w, Sys B w0 L' w → R (.returned (.bool false)) w) : XE N B w0 ds (roundPost P l R) (.exit id) F L :=
  ⟨fun a w hf hs => by
    obtain ⟨e, _⟩ := setN_spec _ _ _ _ hL'
    exact ⟨_, _, run_endRound (some (.exit id)) (hs.own _ (List.mem_of_getElem? hL)).2, h _ (hs.setObj hL e)⟩⟩
structure Marked (Ds : List Nat) (w w' : World) : Prop where
  os : w'.os = w.os
  tape : w'.tape = w.tape
  output : w'.output = w.output
  size : w'.heap.size = w.heap.size
  old : ∀ j, j ∉ Ds → w'.heap[j]? = w.heap[j]?
theorem leaves_marks {fn : Func} {tmps : Array Value} {R : Ending → World → Prop} : ∀ (Ds : List Nat) (w : World), (∀ D, D ∈ Ds → w.heap[D]? = some (.deferred (some []))) → Ds.Nodup →
    (∀ w', Marked Ds w w' → LeavesIn Fence.wide 0 P fn tmps R [] .returning w') → LeavesInM Fence.wide 0 P fn tmps R (Ds.map markD) .returning w
  | [], w, _, _, h => h w ⟨rfl, rfl, rfl, rfl, fun _ _ => rfl⟩
  | D :: Ds, w, hD, hn, h => by
    have hD0 := hD D (.head _)
    refine ⟨by simp, .inl ⟨D, w.putObj D (.deferred none), rfl, run_takeDeferred hD0, leaves_marks Ds _ (fun D' h' => ?_) (List.nodup_cons.1 hn).2 (fun w' hm => h w' ?_)⟩⟩
    · have hne : D' ≠ D := fun e => (List.nodup_cons.1 hn).1 (e ▸ h')
      rw [show (w.putObj D (.deferred none)).heap[D']? = w.heap[D']? by unfold World.putObj; simp [Array.getElem?_setIfInBounds, Ne.symm hne]]
      exact hD D' (.tail _ h')
    · refine ⟨hm.os, hm.tape, hm.output, by rw [hm.size]; simp [World.putObj], fun j hj => ?_⟩
      rw [hm.old j (fun h => hj (.tail _ h))]
      have hne : j ≠ D := fun e => hj (e ▸ .head _)
      unfold World.putObj
      simp [Array.getElem?_setIfInBounds, Ne.symm hne]
theorem XE.retMs (hT : TOK P T) {fn : Func} {R : Ending → World → Prop} {rs : List ResultVar} {vs : List Value} {c : Prop} {Ds : List Nat} (hds : ds = Ds.map markD) (h : fn.results = ⟨rs⟩) (hv : resO T F L rs = some (vs, c)) (hc : c)
    (hD : ∀ w, Sys B w0 L w → ∀ D, D ∈ Ds → w.heap[D]? = some (.deferred (some []))) (hn : Ds.Nodup) (hLD : ∀ e, e ∈ L → e.1 ∉ Ds)
    (hR : ∀ w w', Sys B w0 L w → Marked Ds w w' → R (.returned (tupV vs)) w') : XE N B w0 ds (bodyPostM Fence.wide 0 P fn R) .ret F L := by
  subst hds
  refine ⟨fun a w hf hw => ?_⟩
  show LeavesInM Fence.wide 0 P fn a.tmps R a.defers .returning w
  rw [hf.defers]
  refine leaves_marks Ds w (hD w hw) hn fun w' hm => ?_
  have hsys : Sys B w' L w' := Sys.start (by rw [hm.size]; exact Nat.le_trans hw.base hw.size) (fun e he => ⟨(hw.own e he).1, by rw [hm.old e.1 (hLD e he)]; exact (hw.own e he).2⟩) hw.nd
  have hf' : Fits N [] F { a with defers := [] } := ⟨hf.size, rfl, hf.get⟩
  have h1 := resO_run hT hf' hsys hv hc
  have h2 : (results fn a.tmps).run P w' = .ok (tupV vs) w' := by
    unfold results
    rw [h, Array.mapM_eq_mapM_toList]
    simp only [Sem.run_bind, Sem.run_map]
    refine (congrArg (fun r : Result (List Value) => (r.andThen fun a w' => Result.ok a.toArray w').andThen fun a w' => Sem.run P (pure (if h : a.size = 1 then a[0] else Value.tuple a)) w') h1).trans ?_
    simp only [Result.andThen_ok, Sem.run_pure]
    cases vs with
    | nil => rfl
    | cons v vs => cases vs with
      | nil => rfl
      | cons u vs => simp [tupV]
  show LeavesIn Fence.wide 0 P fn a.tmps R [] .returning w'
  exact ⟨_, h2, hR _ _ hw hm⟩
end
end X
namespace Bs
def idxB (f : Nat → Bool) (n : Nat) : Int := match firstB f n with
  | some i => ((i : Nat) : Int)
  | none => -1
theorem idxB_any {f : Nat → Bool} {n : Nat} : decide (0 ≤ idxB f n) = (firstB f n).isSome := by
  unfold idxB
  cases firstB f n <;> simp
end Bs
namespace X
open Go Go.RowKit Bs
theorem cout_any (n lo hi : Int) (w : World) :
    Calls Tryz.prog 12 #[.int .i64 n, .int .i64 lo, .int .i64 hi] w fun e w' => e = .returned (.bool (outB n lo hi)) ∧ Below w.heap.size w w' := by
  refine enter Tryz.func12 rfl Tryz.ntmps12 rfl ?_; simp only [frame, Nat.zero_add, Nat.reduceAdd]
  repeat (any_goals (first | (refine M0 ?_; first | refine SL ?_ | refine SB fun _ _ => ?_ | (refine XL.split _ _ rfl (fun h => ?_) (fun h => ?_) <;> rw [h])) | (refine M1 ?_; first | refine SC ?_ | refine SD ?_ | refine XC.cond _ rfl (fun h => ?_) (fun h => ?_)) | (refine M2 ?_; refine SE ?_) | (refine M3 ?_; first | refine SG ?_ | refine SF ?_ | (refine Fw.split _ _ rfl (fun h => ?_) (fun h => ?_) <;> rw [h])) | (refine M4 ?_; refine SR ?_) | (refine M5 ?_; first | exact M7 | refine YM ?_ | refine YN ?_ ?_)))
  all_goals
    refine XE.ret1 Tryz.results12 rfl (fun w' S => ?_)
    exact ⟨by simp only [outB, h, Bool.true_or, Bool.false_or], S.toBelow⟩
theorem cchk1_any (n : Int) (w : World) :
    Calls Tryz.prog 56 #[.int .i64 n] w fun e w' => e = .returned (.bool (highB n)) ∧ Below w.heap.size w w' := by
  refine enter Tryz.func56 rfl Tryz.ntmps56 rfl ?_; simp only [frame, Nat.zero_add, Nat.reduceAdd]
  repeat (first | (refine M0 ?_; first | refine SL ?_ | refine SB fun _ _ => ?_ | refine Y4 (Ev.call (f := 12) (ck rfl) rfl (fun w S => cout_any _ _ _ w)) ?_) | (refine M1 ?_; first | refine SC ?_ | refine SD ?_) | (refine M2 ?_; refine SE ?_) | (refine M3 ?_; first | refine SG ?_ | refine SF ?_ | refine YF (Ev.call (f := 12) (ck rfl) rfl (fun w S => cout_any _ _ _ w)) ?_) | (refine M4 ?_; refine SR ?_) | (refine M5 ?_; first | exact M7 | refine YM ?_ | refine YN ?_ ?_))
  refine XE.retg tok Tryz.results56 rfl (by simp only [and_self, and_true]) (fun w' S => ?_)
  exact ⟨rfl, S.toBelow⟩
theorem cchk2_any (n : Int) (w : World) :
    Calls Tryz.prog 58 #[.int .i64 n] w fun e w' => e = .returned (.bool (outB n 0 10000000)) ∧ Below w.heap.size w w' := by
  refine enter Tryz.func58 rfl Tryz.ntmps58 rfl ?_; simp only [frame, Nat.zero_add, Nat.reduceAdd]
  repeat (first | (refine M0 ?_; first | refine SL ?_ | refine SB fun _ _ => ?_ | refine Y4 (Ev.call (f := 12) (ck rfl) rfl (fun w S => cout_any _ _ _ w)) ?_) | (refine M1 ?_; first | refine SC ?_ | refine SD ?_) | (refine M2 ?_; refine SE ?_) | (refine M3 ?_; first | refine SG ?_ | refine SF ?_ | refine YF (Ev.call (f := 12) (ck rfl) rfl (fun w S => cout_any _ _ _ w)) ?_) | (refine M4 ?_; refine SR ?_) | (refine M5 ?_; first | exact M7 | refine YM ?_ | refine YN ?_ ?_))
  refine XE.retg tok Tryz.results58 rfl (by simp only [and_self, and_true]) (fun w' S => ?_)
  exact ⟨rfl, S.toBelow⟩
theorem cchk3_any {gt i : Nat} {n : Int} {v : CTV} {t : CTk} {w : World} (hg : w.heap[gt]? = some (cel 29 (ctkC v t))) (hb : BasAt w w.heap.size v.p t.b) (hi : i < t.b.pols.length) :
    Calls Tryz.prog 60 #[.int .i64 (i : Nat), .int .i64 n, .pointer (some ⟨gt, 0, none⟩)] w fun e w' => e = .returned (.bool (outB n 0 (t.b.pol i).room)) ∧ Below w.heap.size w w' := by
  have hl := (Array.getElem?_eq_some_iff.1 hg).1
  have hn2 := hb.n2_eq
  obtain ⟨⟨A1, n1, c1, A2, n2, c2⟩, vf, vh, vr⟩ := v
  simp only at hn2
  subst hn2
  obtain ⟨ad, rfl, had⟩ := hb.pols.addr (by simp only; omega)
  have hc4 : w.cell? ⟨gt, 4, none⟩ = some (.slice (some ad) t.b.pols.length c2) := by simp [World.cell?, hg, ctkC]
  have hroom : w.cell? ((ad.add (i * 4)).add 3) = some (.int .i64 (t.b.pol i).room) := hb.pol hi 3 _ rfl
  refine enter Tryz.func60 rfl Tryz.ntmps60 rfl ?_; simp only [frame, Nat.zero_add, Nat.reduceAdd]
  repeat (first | (refine M0 ?_; first | refine SL ?_ | refine SB fun _ _ => ?_ | refine Y4 (Ev.load_old tok rfl rfl hl hc4) ?_ | refine Y4 (Ev.load_old tok rfl rfl (add_lt2 had) hroom) ?_ | refine Y4 (Ev.call (f := 12) (ck rfl) rfl (fun w S => cout_any _ _ _ w)) ?_) | (refine M1 ?_; first | refine SC ?_ | refine SD ?_) | (refine M2 ?_; refine SE ?_) | (refine M3 ?_; first | refine SG ?_ | refine SF ?_ | refine YF (Ev.load_old tok rfl rfl hl hc4) ?_ | refine YF (Ev.load_old tok rfl rfl (add_lt2 had) hroom) ?_ | refine YF (Ev.call (f := 12) (ck rfl) rfl (fun w S => cout_any _ _ _ w)) ?_) | (refine M4 ?_; refine SR ?_) | (refine M5 ?_; first | exact M7 | refine YM ?_ | refine YN ?_ ?_))
  refine XE.retg tok Tryz.results60 rfl (by simp only [and_self, and_true]) (fun w' S => ?_)
  exact ⟨rfl, S.toBelow⟩
set_option maxHeartbeats 4000000 in
theorem where_pure {f : FuncId} {cap : List Value} {P : Nat → Bool} {r : SV} {ms : List Int} {w : World} (hck : callOk Tryz.prog f = true) (hr : IntsAt w (Lt w.heap.size) r ms) (hn : ms.length ≤ 1000)
    (hc : ∀ k, k < ms.length → ∀ w', Below w.heap.size w w' → Calls Tryz.prog f ([] ++ [Value.int .i64 (k : Nat), Value.int .i64 (at0 ms k)] ++ cap).toArray w' fun e w'' => e = .returned (.bool (P k)) ∧ Below w'.heap.size w' w'') :
    Calls Tryz.prog 59 #[svV r, .func (.func f) #[] cap.toArray] w fun e w' => e = .returned (.int .i64 (idxB P ms.length)) ∧ Below w.heap.size w w' := by
  obtain ⟨A, n, c⟩ := r
  have hln := hr.len
  simp only at hln
  subst hln
  simp only [svV]
  refine enter Tryz.func59 rfl Tryz.ntmps59 rfl ?_; simp only [frame, Nat.zero_add, Nat.reduceAdd]
  repeat (first | (refine M0 ?_; first | refine SL ?_ | refine SB fun _ _ => ?_) | (refine M1 ?_; first | refine SC ?_ | refine SD ?_) | (refine M2 ?_; refine SE ?_) | (refine M3 ?_; first | refine SG ?_ | refine SF ?_) | (refine M4 ?_; refine SR ?_) | (refine M5 ?_; first | exact M7 | refine YM ?_ | refine YN ?_ ?_))
  refine XC.loopk [1, 7, 8] rfl (fun k : Nat => [(9, .int .i64 (k : Nat))]) (fun _ => []) (fun _ => w) (fun k => k ≤ ms.length ∧ ∀ j, j < k → P j = false) (fun k => ms.length - k) 0 ⟨Nat.zero_le _, fun j h => absurd h (by omega)⟩ ZZSUB (fun _ h => h) ?_
  rintro k ⟨hk, h0⟩
  dsimp only [List.cons_append, List.nil_append]
  repeat (first | (refine M0 ?_; first | refine SL ?_ | refine SB fun _ _ => ?_) | (refine M1 ?_; first | refine SC ?_ | refine SD ?_) | (refine M2 ?_; refine SE ?_) | (refine M3 ?_; first | refine SG ?_ | refine SF ?_) | (refine M4 ?_; refine SR ?_) | (refine M5 ?_; first | exact M7 | refine YM ?_ | refine YN ?_ ?_))
  refine XC.cond _ rfl (fun h3 => ?_) (fun h3 => ?_)
  · have hkn : k < ms.length := by simpa using h3
    obtain ⟨ad, rfl, hlt, hcells⟩ := hr.at_ (by omega)
    have hcell := hcells k hkn
    repeat (first | (refine M0 ?_; first | refine SL ?_ | refine SB fun _ _ => ?_ | refine Y4 (Ev.load_old tok rfl rfl (add_lt hlt) hcell) ?_ | refine Y4 (Ev.callv (f := f) (fst := []) (cap := cap) hck rfl rfl (fun w S => hc k hkn w S.toBelow)) ?_) | (refine M1 ?_; first | refine SC ?_ | refine SD ?_) | (refine M2 ?_; refine SE ?_) | (refine M3 ?_; first | refine SG ?_ | refine SF ?_ | refine YF (Ev.load_old tok rfl rfl (add_lt hlt) hcell) ?_ | refine YF (Ev.callv (f := f) (fst := []) (cap := cap) hck rfl rfl (fun w S => hc k hkn w S.toBelow)) ?_) | (refine M4 ?_; refine SR ?_) | (refine M5 ?_; first | exact M7 | refine YM ?_ | refine YN ?_ ?_))
    refine XC.cond _ rfl (fun h4 => ?_) (fun h4 => ?_)
    · repeat (first | (refine M0 ?_; first | refine SL ?_ | refine SB fun _ _ => ?_) | (refine M1 ?_; first | refine SC ?_ | refine SD ?_) | (refine M2 ?_; refine SE ?_) | (refine M3 ?_; first | refine SG ?_ | refine SF ?_) | (refine M4 ?_; refine SR ?_) | (refine M5 ?_; first | exact M7 | refine YM ?_ | refine YN ?_ ?_))
      refine XE.retg tok Tryz.results59 rfl (by simp only [and_self, and_true]) (fun w' S => ?_)
      unfold idxB
      rw [firstB_some.2 ⟨hkn, h4, h0⟩]
      exact ⟨rfl, S.toBelow⟩
    · repeat (first | (refine M0 ?_; first | refine SL ?_ | refine SB fun _ _ => ?_) | (refine M1 ?_; first | refine SC ?_ | refine SD ?_) | (refine M2 ?_; refine SE ?_) | (refine M3 ?_; first | refine SG ?_ | refine SF ?_) | (refine M4 ?_; refine SR ?_) | (refine M5 ?_; first | exact M7 | refine YM ?_ | refine YN ?_ ?_))
      refine XE.round (k + 1) ⟨hkn, fun j hj => ?_⟩ (by omega) ZZSUB (fun _ h => h)
      rcases Nat.lt_or_ge j k with h5 | h5
      · exact h0 j h5
      · have : j = k := by omega
        subst this
        exact h4
  · have hkn : ¬ k < ms.length := by simpa using h3
    repeat (first | (refine M0 ?_; first | refine SL ?_ | refine SB fun _ _ => ?_) | (refine M1 ?_; first | refine SC ?_ | refine SD ?_) | (refine M2 ?_; refine SE ?_) | (refine M3 ?_; first | refine SG ?_ | refine SF ?_) | (refine M4 ?_; refine SR ?_) | (refine M5 ?_; first | exact M7 | refine YM ?_ | refine YN ?_ ?_))
    refine XE.retg tok Tryz.results59 rfl (by simp only [and_self, and_true]) (fun w' S => ?_)
    unfold idxB
    rw [firstB_none.2 fun j hj => h0 j (by omega)]
    exact ⟨rfl, S.toBelow⟩
set_option maxHeartbeats 4000000 in
theorem idxC {f : FuncId} {cap : List Value} {P : Int → Bool} {r : SV} {ms : List Int} {w : World} (hck : callOk Tryz.prog f = true) (hr : IntsAt w (Lt w.heap.size) r ms) (hn : ms.length ≤ 1000)
    (hc : ∀ m, m ∈ ms → ∀ w', Below w.heap.size w w' → Calls Tryz.prog f ([] ++ [Value.int .i64 m] ++ cap).toArray w' fun e w'' => e = .returned (.bool (P m)) ∧ Below w'.heap.size w' w'') :
    Calls Tryz.prog 66 #[svV r, .func (.func f) #[] cap.toArray] w fun e w' => e = .returned (.int .i64 (idxL ms P)) ∧ Below w.heap.size w w' := by
  obtain ⟨A, n, c⟩ := r
  have hln := hr.len
  simp only at hln
  subst hln
  simp only [svV]
  refine enter Tryz.func66 rfl Tryz.ntmps66 rfl ?_; simp only [frame, Nat.zero_add, Nat.reduceAdd]
  repeat (first | (refine M0 ?_; first | refine SL ?_ | refine SB fun _ _ => ?_) | (refine M1 ?_; first | refine SC ?_ | refine SD ?_) | (refine M2 ?_; refine SE ?_) | (refine M3 ?_; first | refine SG ?_ | refine SF ?_) | (refine M4 ?_; refine SR ?_) | (refine M5 ?_; first | exact M7 | refine YM ?_ | refine YN ?_ ?_))
  refine XC.loopk [0, 1, 7] rfl (fun k : Nat => [(8, .int .i64 (k : Nat))]) (fun _ => []) (fun _ => w) (fun k => k ≤ ms.length ∧ ∀ j m, j < k → ms[j]? = some m → P m = false) (fun k => ms.length - k) 0 ⟨Nat.zero_le _, fun j m h => absurd h (by omega)⟩ ZZSUB (fun _ h => h) ?_
  rintro k ⟨hk, h0⟩
  dsimp only [List.cons_append, List.nil_append]
  repeat (first | (refine M0 ?_; first | refine SL ?_ | refine SB fun _ _ => ?_) | (refine M1 ?_; first | refine SC ?_ | refine SD ?_) | (refine M2 ?_; refine SE ?_) | (refine M3 ?_; first | refine SG ?_ | refine SF ?_) | (refine M4 ?_; refine SR ?_) | (refine M5 ?_; first | exact M7 | refine YM ?_ | refine YN ?_ ?_))
  refine XC.cond _ rfl (fun h3 => ?_) (fun h3 => ?_)
  · have hkn : k < ms.length := by simpa using h3
    obtain ⟨ad, rfl, hlt, hcells⟩ := hr.at_ (by omega)
    have hmk : ms[k]? = some ms[k] := List.getElem?_eq_getElem hkn
    have hcell := hcells k hkn
    rw [show at0 ms k = ms[k] by simp [at0, hkn]] at hcell
    repeat (first | (refine M0 ?_; first | refine SL ?_ | refine SB fun _ _ => ?_ | refine Y4 (Ev.load_old tok rfl rfl (add_lt hlt) hcell) ?_ | refine Y4 (Ev.callv (f := f) (fst := []) (cap := cap) hck rfl rfl (fun w S => hc _ (List.getElem_mem hkn) w S.toBelow)) ?_) | (refine M1 ?_; first | refine SC ?_ | refine SD ?_) | (refine M2 ?_; refine SE ?_) | (refine M3 ?_; first | refine SG ?_ | refine SF ?_ | refine YF (Ev.load_old tok rfl rfl (add_lt hlt) hcell) ?_ | refine YF (Ev.callv (f := f) (fst := []) (cap := cap) hck rfl rfl (fun w S => hc _ (List.getElem_mem hkn) w S.toBelow)) ?_) | (refine M4 ?_; refine SR ?_) | (refine M5 ?_; first | exact M7 | refine YM ?_ | refine YN ?_ ?_))
    refine XC.cond _ rfl (fun h4 => ?_) (fun h4 => ?_)
    · repeat (first | (refine M0 ?_; first | refine SL ?_ | refine SB fun _ _ => ?_) | (refine M1 ?_; first | refine SC ?_ | refine SD ?_) | (refine M2 ?_; refine SE ?_) | (refine M3 ?_; first | refine SG ?_ | refine SF ?_) | (refine M4 ?_; refine SR ?_) | (refine M5 ?_; first | exact M7 | refine YM ?_ | refine YN ?_ ?_))
      refine XE.retg tok Tryz.results66 rfl (by simp only [and_self, and_true]) (fun w' S => ?_)
      have : ms.findIdx? P = some k := by
        rw [List.findIdx?_eq_some_iff_getElem]
        exact ⟨hkn, h4, fun j hj => by simpa using h0 j _ hj (List.getElem?_eq_getElem (by omega))⟩
      unfold idxL
      rw [this]
      exact ⟨rfl, S.toBelow⟩
    · repeat (first | (refine M0 ?_; first | refine SL ?_ | refine SB fun _ _ => ?_) | (refine M1 ?_; first | refine SC ?_ | refine SD ?_) | (refine M2 ?_; refine SE ?_) | (refine M3 ?_; first | refine SG ?_ | refine SF ?_) | (refine M4 ?_; refine SR ?_) | (refine M5 ?_; first | exact M7 | refine YM ?_ | refine YN ?_ ?_))
      refine XE.round (k + 1) ⟨hkn, fun j m hj hm => ?_⟩ (by omega) ZZSUB (fun _ h => h)
      rcases Nat.lt_or_ge j k with h5 | h5
      · exact h0 j m h5 hm
      · have : j = k := by omega
        subst this
        rw [hmk] at hm
        cases hm
        exact h4
  · have hkn : ¬ k < ms.length := by simpa using h3
    repeat (first | (refine M0 ?_; first | refine SL ?_ | refine SB fun _ _ => ?_) | (refine M1 ?_; first | refine SC ?_ | refine SD ?_) | (refine M2 ?_; refine SE ?_) | (refine M3 ?_; first | refine SG ?_ | refine SF ?_) | (refine M4 ?_; refine SR ?_) | (refine M5 ?_; first | exact M7 | refine YM ?_ | refine YN ?_ ?_))
    refine XE.retg tok Tryz.results66 rfl (by simp only [and_self, and_true]) (fun w' S => ?_)
    have : ms.findIdx? P = none := by
      rw [List.findIdx?_eq_none_iff]
      intro m hm
      obtain ⟨j, hj, e⟩ := List.mem_iff_getElem.1 hm
      exact h0 j m (by omega) (by rw [List.getElem?_eq_getElem hj, e])
    unfold idxL
    rw [this]
    exact ⟨rfl, S.toBelow⟩
theorem contC {f : FuncId} {cap : List Value} {P : Int → Bool} {r : SV} {ms : List Int} {w : World} (hck : callOk Tryz.prog f = true) (hr : IntsAt w (Lt w.heap.size) r ms) (hn : ms.length ≤ 1000)
    (hc : ∀ m, m ∈ ms → ∀ w', Below w.heap.size w w' → Calls Tryz.prog f ([] ++ [Value.int .i64 m] ++ cap).toArray w' fun e w'' => e = .returned (.bool (P m)) ∧ Below w'.heap.size w' w'') :
    Calls Tryz.prog 57 #[svV r, .func (.func f) #[] cap.toArray] w fun e w' => e = .returned (.bool (ms.any P)) ∧ Below w.heap.size w w' := by
  obtain ⟨A, n, c⟩ := r
  simp only [svV]
  refine enter Tryz.func57 rfl Tryz.ntmps57 rfl ?_; simp only [frame, Nat.zero_add, Nat.reduceAdd]
  repeat (first | (refine M0 ?_; first | refine SL ?_ | refine SB fun _ _ => ?_ | refine Y4 (Ev.call (f := 66) (ck rfl) rfl (fun w5 S5 => (idxC (f := f) (cap := cap) (P := P) (r := ⟨A, n, c⟩) (ms := ms) hck (hr.arg S5) hn (fun m hm w' hb => hc m hm w' (S5.toBelow.trans (hb.mono S5.size))) :))) ?_) | (refine M1 ?_; first | refine SC ?_ | refine SD ?_) | (refine M2 ?_; refine SE ?_) | (refine M3 ?_; first | refine SG ?_ | refine SF ?_ | refine YF (Ev.call (f := 66) (ck rfl) rfl (fun w5 S5 => (idxC (f := f) (cap := cap) (P := P) (r := ⟨A, n, c⟩) (ms := ms) hck (hr.arg S5) hn (fun m hm w' hb => hc m hm w' (S5.toBelow.trans (hb.mono S5.size))) :))) ?_) | (refine M4 ?_; refine SR ?_) | (refine M5 ?_; first | exact M7 | refine YM ?_ | refine YN ?_ ?_))
  refine XE.retg tok Tryz.results57 rfl (by simp only [and_self, and_true]) (fun w' S => ?_)
  exact ⟨by rw [idxL_any]; rfl, S.toBelow⟩
end X
namespace Bs
open X
structure PreA (t : CTk) : Prop where
  c : chkE t.b = 0
  m : outB t.m 1 8 = false
  n : outB t.n 1 60 = false
structure PreB (t : CTk) : Prop extends PreA t where
  h : ∀ j, j < t.m → hisErr t j = 0
section
variable {t : CTk}
theorem chkC_1 (h : chkE t.b ≠ 0) : chkC t = (1, 0, chkE t.b) := by unfold chkC; rw [if_pos h]
theorem chkC_2 (h : chkE t.b = 0) (h2 : (outB t.m 1 8 || outB t.n 1 60) = true) : chkC t = (2, 0, 3) := by unfold chkC; rw [if_neg (by simp [h]), if_pos h2]
theorem chkC_3 (p : PreA t) {i : Nat} (hi : i < t.m) (h0 : ∀ j, j < i → hisErr t j = 0) {e : Int} (h : hisErr t i = e) (he : e ≠ 0) : chkC t = (2, ((i : Nat) : Int), e) := by
  subst h
  unfold chkC
  rw [if_neg (by simp [p.c]), if_neg (by simp [p.m, p.n]), firstN_some hi h0 he]
variable (p : PreB t)
include p
theorem chkC_4 (h : t.river.length ≠ t.n) : chkC t = (3, 0, 2) := by
  unfold chkC
  rw [if_neg (by simp [p.c]), if_neg (by simp [p.m, p.n]), firstN_none p.h]
  simp only
  rw [if_pos h]
variable (h1 : t.river.length = t.n)
include h1
theorem chkC_5 (h : (t.river.any fun v => outB v 0 10000000) = true) : chkC t = (3, 0, 7) := by
  unfold chkC
  rw [if_neg (by simp [p.c]), if_neg (by simp [p.m, p.n]), firstN_none p.h]
  simp only
  rw [if_neg (by simp [h1]), if_pos h]
variable (h2 : (t.river.any fun v => outB v 0 10000000) = false)
include h2
theorem chkC_6 (h : t.fil.length ≠ t.b.pols.length) : chkC t = (4, 0, 2) := by
  unfold chkC
  rw [if_neg (by simp [p.c]), if_neg (by simp [p.m, p.n]), firstN_none p.h]
  simp only
  rw [if_neg (by simp [h1]), if_neg (by simp [h2]), if_pos h]
variable (h3 : t.fil.length = t.b.pols.length)
include h3
theorem chkC_7 (h : (outB t.out 0 10000000 || (outB t.limit (t.b.row 0).level 20000 || outB t.delay 0 30)) = true) : chkC t = (4, 0, 7) := by
  unfold chkC
  rw [if_neg (by simp [p.c]), if_neg (by simp [p.m, p.n]), firstN_none p.h]
  simp only
  rw [if_neg (by simp [h1]), if_neg (by simp [h2]), if_neg (by simp [h3]), if_pos h]
variable (h4 : (outB t.out 0 10000000 || (outB t.limit (t.b.row 0).level 20000 || outB t.delay 0 30)) = false)
include h4
theorem chkC_8 (h : filBad t = true) : chkC t = (4, 0, 7) := by
  unfold chkC
  rw [if_neg (by simp [p.c]), if_neg (by simp [p.m, p.n]), firstN_none p.h]
  simp only
  rw [if_neg (by simp [h1]), if_neg (by simp [h2]), if_neg (by simp [h3]), if_neg (by simp [h4]), if_pos h]
theorem chkC_9 (h : filBad t = false) : chkC t = (0, 0, 0) := by
  unfold chkC
  rw [if_neg (by simp [p.c]), if_neg (by simp [p.m, p.n]), firstN_none p.h]
  simp only
  rw [if_neg (by simp [h1]), if_neg (by simp [h2]), if_neg (by simp [h3]), if_neg (by simp [h4]), if_neg (by simp [h])]
end
theorem filBad_eq (t : CTk) : filBad t = (firstB (fun i => outB (at0 t.fil i) 0 (t.b.pol i).room) t.fil.length).isSome := by
  unfold filBad
  cases h : firstB (fun i => outB (at0 t.fil i) 0 (t.b.pol i).room) t.fil.length with
  | none =>
    have := firstB_none.1 h
    simp only [Option.isSome_none]
    rw [List.any_eq_false]
    intro i hi
    rw [this i (by simpa using hi)]; simp
  | some i =>
    obtain ⟨a1, a2, _⟩ := firstB_some.1 h
    simp only [Option.isSome_some]
    rw [List.any_eq_true]
    exact ⟨i, by simpa using a1, a2⟩
end Bs
namespace X
open Go Go.RowKit Bs
noncomputable def chkCV (t : CTk) : Value := .tuple ⟨[.int .i64 (chkC t).1, .int .i64 (chkC t).2.1, .int .i64 (chkC t).2.2]⟩
theorem chkCV_of {t : CTk} {a b c : Int} (h : chkC t = (a, b, c)) : Ending.returned (.tuple ⟨[.int .i64 a, .int .i64 b, .int .i64 c]⟩) = .returned (chkCV t) := by unfold chkCV; rw [h]
set_option maxHeartbeats 16000000 in
theorem ctCheck_any {v : CTV} {t : CTk} {w : World} (h : CtAt w w.heap.size v t) :
    Calls Tryz.prog 33 #[ctkV v t] w fun e w' => e = .returned (chkCV t) ∧ Below w.heap.size w w' := by
  have hh := h
  have hm := h.hn
  have hmax := h.hmax
  have hrn := h.river.len
  have hfn := h.fil.len
  have hpn := h.bas.n2_eq
  have hrows := h.bas.n_eq
  have hbas := h.bas
  have hhis := fun k hk => h.hisAt (k := k) hk
  have hriv := h.river
  have hfil := h.fil
  obtain ⟨⟨A1, n1, c1, A2, n2, c2⟩, ⟨Af, nf, cf⟩, ⟨Ah, nh, ch⟩, ⟨Ar, nr, cr⟩⟩ := v
  simp only at hm hrn hfn hpn hrows hmax
  subst hm hrn hfn hpn hrows
  simp only [ctkV, ctkC]
  have hchk := fun (w5 : World) (hB : Below w.heap.size w w5) => check_any (p := ⟨A1, t.b.rows.length, c1, A2, t.b.pols.length, c2⟩) (b := t.b) w5 ((hbas.below hB).more hB.size)
  simp only [basV, basC] at hchk
  refine enter Tryz.func33 rfl Tryz.ntmps33 rfl ?_; simp only [frame, Nat.zero_add, Nat.reduceAdd]
  repeat (first | (refine M0 ?_; first | refine SL ?_ | refine SB fun _ _ => ?_ | refine Y4 (Ev.call (f := 45) (ck rfl) rfl (fun w5 S5 => hchk w5 S5.toBelow)) ?_) | (refine M1 ?_; refine SC ?_) | (refine M2 ?_; refine SE ?_))
  by_cases hc : chkE t.b = 0
  rotate_left
  · rw [show decide ((chk t.b).2.2 ≠ 0) = true from decide_eq_true hc]
    repeat (first | (refine M0 ?_; first | refine SL ?_ | refine SB fun _ _ => ?_) | (refine M1 ?_; refine SC ?_) | (refine M2 ?_; refine SE ?_))
    refine XE.retg tok Tryz.results33 rfl (by simp only [and_self, and_true]) (fun w' S => ?_)
    exact ⟨chkCV_of (chkC_1 hc), S.toBelow⟩
  rw [show decide ((chk t.b).2.2 ≠ 0) = false from decide_eq_false (fun h => h hc)]
  repeat (first | (refine M0 ?_; first | refine SL ?_ | refine SB fun _ _ => ?_ | refine Y4 (Ev.call (f := 12) (ck rfl) rfl (fun w S => cout_any _ _ _ w)) ?_) | (refine M1 ?_; refine SC ?_) | (refine M2 ?_; refine SE ?_))
  cases hm1 : outB (t.m : Int) 1 8
  rotate_left
  · repeat (first | (refine M0 ?_; first | refine SL ?_ | refine SB fun _ _ => ?_) | (refine M1 ?_; refine SC ?_) | (refine M2 ?_; refine SE ?_))
    refine XE.retg tok Tryz.results33 rfl (by simp only [and_self, and_true]) (fun w' S => ?_)
    exact ⟨chkCV_of (chkC_2 hc (by rw [hm1]; rfl)), S.toBelow⟩
  have hm2 := outB_f.1 hm1
  obtain ⟨ad, ⟨A0, n0, c0⟩, rfl, hlt, hcell0, hq0⟩ := hhis 0 (by omega)
  have hl0 := hq0.len
  have hn0 : n0 = t.n := hl0
  subst hn0
  have d01 : w.cell? ((ad.add (0 * 2)).add 1) = some (.slice A0 t.n c0) := hcell0 1 _ rfl
  repeat (first | (refine M0 ?_; first | refine SL ?_ | refine SB fun _ _ => ?_ | refine Y4 (Ev.load_old tok rfl rfl (add_lt2 hlt) d01) ?_ | refine Y4 (Ev.call (f := 12) (ck rfl) rfl (fun w S => cout_any _ _ _ w)) ?_) | (refine M1 ?_; refine SC ?_) | (refine M2 ?_; refine SE ?_))
  cases hn1 : outB (t.n : Int) 1 60
  rotate_left
  · repeat (first | (refine M0 ?_; first | refine SL ?_ | refine SB fun _ _ => ?_) | (refine M1 ?_; refine SC ?_) | (refine M2 ?_; refine SE ?_))
    refine XE.retg tok Tryz.results33 rfl (by simp only [and_self, and_true]) (fun w' S => ?_)
    exact ⟨chkCV_of (chkC_2 hc (by rw [hm1, hn1]; rfl)), S.toBelow⟩
  have hn2 := outB_f.1 hn1
  have pA : PreA t := ⟨hc, hm1, hn1⟩
  repeat (first | (refine M0 ?_; first | refine SL ?_ | refine SB fun _ _ => ?_ | refine Y4 (Ev.load_old_agg tok (hisC ⟨A0, t.n, c0⟩ (t.h 0)) rfl rfl rfl (add_lt hlt) hcell0) ?_) | (refine M1 ?_; refine SC ?_) | (refine M2 ?_; refine SE ?_))
  rename_i g1 hg1 g5 hg5
  refine XC.loopk [1, 5, 6, 7, 42, 43] rfl (fun k : Nat => [(44, .int .i64 (k : Nat))]) (fun _ => _) (fun _ => w) (fun k => k ≤ t.m ∧ ∀ j, j < k → hisErr t j = 0) (fun k => t.m - k) 0 ⟨Nat.zero_le _, fun j h => absurd h (by omega)⟩ ZZSUB (fun _ h => h) ?_
  rintro k ⟨hk, h0⟩
  dsimp only [List.cons_append, List.nil_append]
  repeat (first | (refine M0 ?_; first | refine SL ?_ | refine SB fun _ _ => ?_) | (refine M1 ?_; refine SC ?_) | (refine M2 ?_; refine SE ?_))
  refine XC.cond _ rfl (fun h3 => ?_) (fun h3 => ?_)
  · have hkn : k < t.m := by simpa using h3
    obtain ⟨ad', ⟨Ak, nk, ck1⟩, e, _, hck, hqk⟩ := hhis k hkn
    cases e
    have hlk := hqk.len
    simp only at hlk
    subst hlk
    repeat (first | (refine M0 ?_; first | refine SL ?_ | refine SB fun _ _ => ?_ | refine Y4 (Ev.load_old_agg tok (hisC ⟨Ak, (t.h k).vals.length, ck1⟩ (t.h k)) rfl rfl rfl (add_lt hlt) hck) ?_) | (refine M1 ?_; refine SC ?_) | (refine M2 ?_; refine SE ?_))
    rename_i g9 hg9
    by_cases hf : (t.h k).from_ = (t.h 0).from_
    rotate_left
    · rw [show decide ((t.h k).from_ ≠ (t.h 0).from_) = true from decide_eq_true hf]
      repeat (first | (refine M0 ?_; first | refine SL ?_ | refine SB fun _ _ => ?_) | (refine M1 ?_; refine SC ?_) | (refine M2 ?_; refine SE ?_))
      refine XE.retg tok Tryz.results33 rfl (by simp only [and_self, and_true]) (fun w' S => ?_)
      exact ⟨chkCV_of (chkC_3 pA hkn h0 (by unfold hisErr; rw [if_pos (.inl hf)]) (by decide)), S.toBelow⟩
    rw [show decide ((t.h k).from_ ≠ (t.h 0).from_) = false from decide_eq_false (fun h => h hf)]
    repeat (first | (refine M0 ?_; first | refine SL ?_ | refine SB fun _ _ => ?_) | (refine M1 ?_; refine SC ?_) | (refine M2 ?_; refine SE ?_))
    by_cases hl : (t.h k).vals.length = t.n
    rotate_left
    · rw [show decide (((t.h k).vals.length : Int) ≠ (t.n : Int)) = true from decide_eq_true (by omega)]
      repeat (first | (refine M0 ?_; first | refine SL ?_ | refine SB fun _ _ => ?_) | (refine M1 ?_; refine SC ?_) | (refine M2 ?_; refine SE ?_))
      refine XE.retg tok Tryz.results33 rfl (by simp only [and_self, and_true]) (fun w' S => ?_)
      exact ⟨chkCV_of (chkC_3 pA hkn h0 (by unfold hisErr; rw [if_pos (.inr hl)]) (by decide)), S.toBelow⟩
    rw [show decide (((t.h k).vals.length : Int) ≠ (t.n : Int)) = false from decide_eq_false (by omega)]
    repeat (first | (refine M0 ?_; first | refine SL ?_ | refine SB fun _ _ => ?_ | refine Y4 (Ev.call (f := 12) (ck rfl) rfl (fun w S => cout_any _ _ _ w)) ?_) | (refine M1 ?_; refine SC ?_) | (refine M2 ?_; refine SE ?_))
    have hneg : ¬ ((t.h k).from_ ≠ t.from_ ∨ (t.h k).vals.length ≠ t.n) := fun h => h.elim (fun h => h hf) (fun h => h hl)
    cases ho : outB (t.h k).from_ 0 (200000 - (t.n : Int) + 1)
    rotate_left
    · repeat (first | (refine M0 ?_; first | refine SL ?_ | refine SB fun _ _ => ?_) | (refine M1 ?_; refine SC ?_) | (refine M2 ?_; refine SE ?_))
      refine XE.retg tok Tryz.results33 rfl (by simp only [and_self, and_true]) (fun w' S => ?_)
      exact ⟨chkCV_of (chkC_3 pA hkn h0 (e := 7) (by unfold hisErr; rw [if_neg hneg, ho]; rfl) (by decide)), S.toBelow⟩
    repeat (first | (refine M0 ?_; first | refine SL ?_ | refine SB fun _ _ => ?_) | (refine M1 ?_; refine SC ?_) | (refine M2 ?_; refine SE ?_))
    refine XL.step _ (Ev.call (f := 57) (ck rfl) rfl (fun w5 S5 => (contC (f := 56) (cap := []) (P := highB) (r := ⟨Ak, (t.h k).vals.length, ck1⟩) (ms := (t.h k).vals) (ck rfl) (hqk.arg S5) (by omega) (fun m hm w' hb => cchk1_any m w') :))) rfl ?_
    cases ha : (t.h k).vals.any highB
    rotate_left
    · repeat (first | (refine M0 ?_; first | refine SL ?_ | refine SB fun _ _ => ?_) | (refine M1 ?_; refine SC ?_) | (refine M2 ?_; refine SE ?_))
      refine XE.retg tok Tryz.results33 rfl (by simp only [and_self, and_true]) (fun w' S => ?_)
      exact ⟨chkCV_of (chkC_3 pA hkn h0 (e := 7) (by unfold hisErr; rw [if_neg hneg, ho, ha]; rfl) (by decide)), S.toBelow⟩
    repeat (first | (refine M0 ?_; first | refine SL ?_ | refine SB fun _ _ => ?_) | (refine M1 ?_; refine SC ?_) | (refine M2 ?_; refine SE ?_))
    refine XE.round (k + 1) ⟨hkn, fun j hj => ?_⟩ (by omega) ZZSUB (fun _ h => h.pop (by assumption))
    rcases Nat.lt_or_ge j k with h5 | h5
    · exact h0 j h5
    · have : j = k := by omega
      subst this
      unfold hisErr; rw [if_neg hneg, ho, ha]; rfl
  have hkn : k = t.m := by have : ¬ k < t.m := by simpa using h3
                           omega
  subst hkn
  have pB : PreB t := ⟨pA, h0⟩
  repeat (first | (refine M0 ?_; first | refine SL ?_ | refine SB fun _ _ => ?_) | (refine M1 ?_; refine SC ?_) | (refine M2 ?_; refine SE ?_))
  by_cases hr : t.river.length = t.n
  rotate_left
  · rw [show decide ((t.river.length : Int) ≠ (t.n : Int)) = true from decide_eq_true (by omega)]
    repeat (first | (refine M0 ?_; first | refine SL ?_ | refine SB fun _ _ => ?_) | (refine M1 ?_; refine SC ?_) | (refine M2 ?_; refine SE ?_))
    refine XE.retg tok Tryz.results33 rfl (by simp only [and_self, and_true]) (fun w' S => ?_)
    exact ⟨chkCV_of (chkC_4 pB hr), S.toBelow⟩
  rw [show decide ((t.river.length : Int) ≠ (t.n : Int)) = false from decide_eq_false (by omega)]
  repeat (first | (refine M0 ?_; first | refine SL ?_ | refine SB fun _ _ => ?_) | (refine M1 ?_; refine SC ?_) | (refine M2 ?_; refine SE ?_))
  refine XL.step _ (Ev.call (f := 57) (ck rfl) rfl (fun w5 S5 => (contC (f := 58) (cap := []) (P := fun v => outB v 0 10000000) (r := ⟨Ar, t.river.length, cr⟩) (ms := t.river) (ck rfl) (hriv.arg S5) (by omega) (fun m hm w' hb => cchk2_any m w') :))) rfl ?_
  cases ha : t.river.any fun v => outB v 0 10000000
  rotate_left
  · repeat (first | (refine M0 ?_; first | refine SL ?_ | refine SB fun _ _ => ?_) | (refine M1 ?_; refine SC ?_) | (refine M2 ?_; refine SE ?_))
    refine XE.retg tok Tryz.results33 rfl (by simp only [and_self, and_true]) (fun w' S => ?_)
    exact ⟨chkCV_of (chkC_5 pB hr ha), S.toBelow⟩
  repeat (first | (refine M0 ?_; first | refine SL ?_ | refine SB fun _ _ => ?_) | (refine M1 ?_; refine SC ?_) | (refine M2 ?_; refine SE ?_))
  by_cases hfl : t.fil.length = t.b.pols.length
  rotate_left
  · rw [show decide ((t.fil.length : Int) ≠ (t.b.pols.length : Int)) = true from decide_eq_true (by omega)]
    repeat (first | (refine M0 ?_; first | refine SL ?_ | refine SB fun _ _ => ?_) | (refine M1 ?_; refine SC ?_) | (refine M2 ?_; refine SE ?_))
    refine XE.retg tok Tryz.results33 rfl (by simp only [and_self, and_true]) (fun w' S => ?_)
    exact ⟨chkCV_of (chkC_6 pB hr ha hfl), S.toBelow⟩
  rw [show decide ((t.fil.length : Int) ≠ (t.b.pols.length : Int)) = false from decide_eq_false (by omega)]
  repeat (first | (refine M0 ?_; first | refine SL ?_ | refine SB fun _ _ => ?_) | (refine M1 ?_; refine SC ?_) | (refine M2 ?_; refine SE ?_))
  have hOk := ok_of hc
  have hr2 := hOk.n2
  obtain ⟨ar, rfl, hltr⟩ := hbas.rows.addr (by simp only; omega)
  have dlev : w.cell? ((ar.add (0 * 2)).add 0) = some (.int .i64 (t.b.row 0).level) := hbas.rowLevel (by omega)
  obtain ⟨b1, hb1⟩ : ∃ b1, b1 = outB t.out 0 10000000 := ⟨_, rfl⟩
  obtain ⟨b2, hb2⟩ : ∃ b2, b2 = outB t.limit (t.b.row 0).level 20000 := ⟨_, rfl⟩
  obtain ⟨b3, hb3⟩ : ∃ b3, b3 = outB t.delay 0 30 := ⟨_, rfl⟩
  have f1 := fun w => cchk2_any t.out w
  rw [← hb1] at f1
  cases b1
  rotate_left
  · repeat (first | (refine M0 ?_; first | refine SL ?_ | refine SB fun _ _ => ?_) | (refine M1 ?_; refine SC ?_) | (refine M2 ?_; refine SE ?_))
    repeat (first | (refine M0 ?_; first | refine SL ?_ | refine SB fun _ _ => ?_ | refine Y4 (Ev.callv (f := 58) (fst := []) (cap := []) (vs := [.int .i64 t.out]) (ck rfl) rfl rfl (fun w S => f1 w)) ?_ | refine Y4 (Ev.call (f := 12) (ck rfl) rfl (fun w S => cout_any _ _ _ w)) ?_ | refine Y4 (Ev.load_old tok rfl rfl (add_lt2 hltr) dlev) ?_) | (refine M1 ?_; first | refine SC ?_ | refine SD ?_) | (refine M2 ?_; refine SE ?_) | (refine M3 ?_; first | refine SG ?_ | refine SF ?_ | refine YF (Ev.callv (f := 58) (fst := []) (cap := []) (vs := [.int .i64 t.out]) (ck rfl) rfl rfl (fun w S => f1 w)) ?_ | refine YF (Ev.call (f := 12) (ck rfl) rfl (fun w S => cout_any _ _ _ w)) ?_ | refine YF (Ev.load_old tok rfl rfl (add_lt2 hltr) dlev) ?_) | (refine M4 ?_; refine SR ?_) | (refine M5 ?_; first | exact M7 | refine YM ?_ | refine YN ?_ ?_))
    repeat (first | (refine M0 ?_; first | refine SL ?_ | refine SB fun _ _ => ?_) | (refine M1 ?_; refine SC ?_) | (refine M2 ?_; refine SE ?_))
    refine XE.retg tok Tryz.results33 rfl (by simp only [and_self, and_true]) (fun w' S => ?_)
    exact ⟨chkCV_of (chkC_7 pB hr ha hfl (by rw [← hb1]; rfl)), S.toBelow⟩
  cases b2
  rotate_left
  · repeat (first | (refine M0 ?_; first | refine SL ?_ | refine SB fun _ _ => ?_) | (refine M1 ?_; refine SC ?_) | (refine M2 ?_; refine SE ?_))
    repeat (first | (refine M0 ?_; first | refine SL ?_ | refine SB fun _ _ => ?_ | refine Y4 (Ev.callv (f := 58) (fst := []) (cap := []) (vs := [.int .i64 t.out]) (ck rfl) rfl rfl (fun w S => f1 w)) ?_ | refine Y4 (Ev.call (f := 12) (ck rfl) rfl (fun w S => cout_any _ _ _ w)) ?_ | refine Y4 (Ev.load_old tok rfl rfl (add_lt2 hltr) dlev) ?_) | (refine M1 ?_; first | refine SC ?_ | refine SD ?_) | (refine M2 ?_; refine SE ?_) | (refine M3 ?_; first | refine SG ?_ | refine SF ?_ | refine YF (Ev.callv (f := 58) (fst := []) (cap := []) (vs := [.int .i64 t.out]) (ck rfl) rfl rfl (fun w S => f1 w)) ?_ | refine YF (Ev.call (f := 12) (ck rfl) rfl (fun w S => cout_any _ _ _ w)) ?_ | refine YF (Ev.load_old tok rfl rfl (add_lt2 hltr) dlev) ?_) | (refine M4 ?_; refine SR ?_) | (refine M5 ?_; first | exact M7 | refine YM ?_ | refine YN ?_ ?_))
    rw [← hb2]
    repeat (first | (refine M0 ?_; first | refine SL ?_ | refine SB fun _ _ => ?_ | refine Y4 (Ev.callv (f := 58) (fst := []) (cap := []) (vs := [.int .i64 t.out]) (ck rfl) rfl rfl (fun w S => f1 w)) ?_ | refine Y4 (Ev.call (f := 12) (ck rfl) rfl (fun w S => cout_any _ _ _ w)) ?_ | refine Y4 (Ev.load_old tok rfl rfl (add_lt2 hltr) dlev) ?_) | (refine M1 ?_; first | refine SC ?_ | refine SD ?_) | (refine M2 ?_; refine SE ?_) | (refine M3 ?_; first | refine SG ?_ | refine SF ?_ | refine YF (Ev.callv (f := 58) (fst := []) (cap := []) (vs := [.int .i64 t.out]) (ck rfl) rfl rfl (fun w S => f1 w)) ?_ | refine YF (Ev.call (f := 12) (ck rfl) rfl (fun w S => cout_any _ _ _ w)) ?_ | refine YF (Ev.load_old tok rfl rfl (add_lt2 hltr) dlev) ?_) | (refine M4 ?_; refine SR ?_) | (refine M5 ?_; first | exact M7 | refine YM ?_ | refine YN ?_ ?_))
    repeat (first | (refine M0 ?_; first | refine SL ?_ | refine SB fun _ _ => ?_) | (refine M1 ?_; refine SC ?_) | (refine M2 ?_; refine SE ?_))
    refine XE.retg tok Tryz.results33 rfl (by simp only [and_self, and_true]) (fun w' S => ?_)
    exact ⟨chkCV_of (chkC_7 pB hr ha hfl (by rw [← hb1, ← hb2]; rfl)), S.toBelow⟩
  cases b3
  rotate_left
  · repeat (first | (refine M0 ?_; first | refine SL ?_ | refine SB fun _ _ => ?_) | (refine M1 ?_; refine SC ?_) | (refine M2 ?_; refine SE ?_))
    repeat (first | (refine M0 ?_; first | refine SL ?_ | refine SB fun _ _ => ?_ | refine Y4 (Ev.callv (f := 58) (fst := []) (cap := []) (vs := [.int .i64 t.out]) (ck rfl) rfl rfl (fun w S => f1 w)) ?_ | refine Y4 (Ev.call (f := 12) (ck rfl) rfl (fun w S => cout_any _ _ _ w)) ?_ | refine Y4 (Ev.load_old tok rfl rfl (add_lt2 hltr) dlev) ?_) | (refine M1 ?_; first | refine SC ?_ | refine SD ?_) | (refine M2 ?_; refine SE ?_) | (refine M3 ?_; first | refine SG ?_ | refine SF ?_ | refine YF (Ev.callv (f := 58) (fst := []) (cap := []) (vs := [.int .i64 t.out]) (ck rfl) rfl rfl (fun w S => f1 w)) ?_ | refine YF (Ev.call (f := 12) (ck rfl) rfl (fun w S => cout_any _ _ _ w)) ?_ | refine YF (Ev.load_old tok rfl rfl (add_lt2 hltr) dlev) ?_) | (refine M4 ?_; refine SR ?_) | (refine M5 ?_; first | exact M7 | refine YM ?_ | refine YN ?_ ?_))
    rw [← hb2]
    repeat (first | (refine M0 ?_; first | refine SL ?_ | refine SB fun _ _ => ?_ | refine Y4 (Ev.callv (f := 58) (fst := []) (cap := []) (vs := [.int .i64 t.out]) (ck rfl) rfl rfl (fun w S => f1 w)) ?_ | refine Y4 (Ev.call (f := 12) (ck rfl) rfl (fun w S => cout_any _ _ _ w)) ?_ | refine Y4 (Ev.load_old tok rfl rfl (add_lt2 hltr) dlev) ?_) | (refine M1 ?_; first | refine SC ?_ | refine SD ?_) | (refine M2 ?_; refine SE ?_) | (refine M3 ?_; first | refine SG ?_ | refine SF ?_ | refine YF (Ev.callv (f := 58) (fst := []) (cap := []) (vs := [.int .i64 t.out]) (ck rfl) rfl rfl (fun w S => f1 w)) ?_ | refine YF (Ev.call (f := 12) (ck rfl) rfl (fun w S => cout_any _ _ _ w)) ?_ | refine YF (Ev.load_old tok rfl rfl (add_lt2 hltr) dlev) ?_) | (refine M4 ?_; refine SR ?_) | (refine M5 ?_; first | exact M7 | refine YM ?_ | refine YN ?_ ?_))
    rw [← hb3]
    repeat (first | (refine M0 ?_; first | refine SL ?_ | refine SB fun _ _ => ?_) | (refine M1 ?_; refine SC ?_) | (refine M2 ?_; refine SE ?_))
    refine XE.retg tok Tryz.results33 rfl (by simp only [and_self, and_true]) (fun w' S => ?_)
    exact ⟨chkCV_of (chkC_7 pB hr ha hfl (by rw [← hb1, ← hb2, ← hb3]; rfl)), S.toBelow⟩
  have h7 : (outB t.out 0 10000000 || (outB t.limit (t.b.row 0).level 20000 || outB t.delay 0 30)) = false := by rw [← hb1, ← hb2, ← hb3]; rfl
  repeat (first | (refine M0 ?_; first | refine SL ?_ | refine SB fun _ _ => ?_) | (refine M1 ?_; refine SC ?_) | (refine M2 ?_; refine SE ?_))
  repeat (first | (refine M0 ?_; first | refine SL ?_ | refine SB fun _ _ => ?_ | refine Y4 (Ev.callv (f := 58) (fst := []) (cap := []) (vs := [.int .i64 t.out]) (ck rfl) rfl rfl (fun w S => f1 w)) ?_ | refine Y4 (Ev.call (f := 12) (ck rfl) rfl (fun w S => cout_any _ _ _ w)) ?_ | refine Y4 (Ev.load_old tok rfl rfl (add_lt2 hltr) dlev) ?_) | (refine M1 ?_; first | refine SC ?_ | refine SD ?_) | (refine M2 ?_; refine SE ?_) | (refine M3 ?_; first | refine SG ?_ | refine SF ?_ | refine YF (Ev.callv (f := 58) (fst := []) (cap := []) (vs := [.int .i64 t.out]) (ck rfl) rfl rfl (fun w S => f1 w)) ?_ | refine YF (Ev.call (f := 12) (ck rfl) rfl (fun w S => cout_any _ _ _ w)) ?_ | refine YF (Ev.load_old tok rfl rfl (add_lt2 hltr) dlev) ?_) | (refine M4 ?_; refine SR ?_) | (refine M5 ?_; first | exact M7 | refine YM ?_ | refine YN ?_ ?_))
  rw [← hb2]
  repeat (first | (refine M0 ?_; first | refine SL ?_ | refine SB fun _ _ => ?_ | refine Y4 (Ev.callv (f := 58) (fst := []) (cap := []) (vs := [.int .i64 t.out]) (ck rfl) rfl rfl (fun w S => f1 w)) ?_ | refine Y4 (Ev.call (f := 12) (ck rfl) rfl (fun w S => cout_any _ _ _ w)) ?_ | refine Y4 (Ev.load_old tok rfl rfl (add_lt2 hltr) dlev) ?_) | (refine M1 ?_; first | refine SC ?_ | refine SD ?_) | (refine M2 ?_; refine SE ?_) | (refine M3 ?_; first | refine SG ?_ | refine SF ?_ | refine YF (Ev.callv (f := 58) (fst := []) (cap := []) (vs := [.int .i64 t.out]) (ck rfl) rfl rfl (fun w S => f1 w)) ?_ | refine YF (Ev.call (f := 12) (ck rfl) rfl (fun w S => cout_any _ _ _ w)) ?_ | refine YF (Ev.load_old tok rfl rfl (add_lt2 hltr) dlev) ?_) | (refine M4 ?_; refine SR ?_) | (refine M5 ?_; first | exact M7 | refine YM ?_ | refine YN ?_ ?_))
  rw [← hb3]
  repeat (first | (refine M0 ?_; first | refine SL ?_ | refine SB fun _ _ => ?_) | (refine M1 ?_; refine SC ?_) | (refine M2 ?_; refine SE ?_))
  refine XL.step _ (Ev.makeFunc rfl rfl) rfl ?_
  have hwh := fun {L : Lo} (w5 : World) (S5 : Sys w.heap.size w L w5) (hg : (g1, cel 29 (ctkC ⟨⟨some ar, t.b.rows.length, c1, A2, t.b.pols.length, c2⟩, ⟨Af, t.fil.length, cf⟩, ⟨some ad, t.m, ch⟩, ⟨Ar, t.river.length, cr⟩⟩ t)) ∈ L) => where_pure (f := 60) (cap := [.pointer (some ⟨g1, 0, none⟩)]) (P := fun i => outB (at0 t.fil i) 0 (t.b.pol i).room) (r := ⟨Af, t.fil.length, cf⟩) (ms := t.fil) (w := w5) (ck rfl) (hfil.arg S5) (by have := hOk.m6; omega) (fun k hk w' hb => cchk3_any ((hb.block g1 (S5.lt hg)).trans (S5.own _ hg).2) ((hbas.below (S5.toBelow.trans (hb.mono (Nat.le_trans S5.base S5.size)))).more (Nat.le_trans (Nat.le_trans S5.base S5.size) hb.size)) (by omega))
  refine XL.step _ (Ev.call (f := 59) (ck rfl) rfl (fun w5 S5 => (hwh w5 S5 (.tail _ (.head _)) :))) rfl ?_
  repeat (first | (refine M0 ?_; first | refine SL ?_ | refine SB fun _ _ => ?_) | (refine M1 ?_; refine SC ?_) | (refine M2 ?_; refine SE ?_))
  rw [idxB_any, ← filBad_eq]
  cases hfb : filBad t
  · repeat (first | (refine M0 ?_; first | refine SL ?_ | refine SB fun _ _ => ?_) | (refine M1 ?_; refine SC ?_) | (refine M2 ?_; refine SE ?_))
    refine XE.retg tok Tryz.results33 rfl (by simp only [and_self, and_true]) (fun w' S => ?_)
    exact ⟨chkCV_of (chkC_9 pB hr ha hfl h7 hfb), S.toBelow⟩
  · repeat (first | (refine M0 ?_; first | refine SL ?_ | refine SB fun _ _ => ?_) | (refine M1 ?_; refine SC ?_) | (refine M2 ?_; refine SE ?_))
    refine XE.retg tok Tryz.results33 rfl (by simp only [and_self, and_true]) (fun w' S => ?_)
    exact ⟨chkCV_of (chkC_8 pB hr ha hfl h7 hfb), S.toBelow⟩
end X
namespace X
open Go Go.RowKit Bs
section
variable {N : Nat} {B : Nat} {w0 : World} {ds : List Deferred} {F : Fr} {L : Lo} {pu : Prop} {dst : Option Tmp} {ty : TypeId} {p : String} {af : Array Edge} {gd : Option (Nat × Bool)}
theorem part_int5 (w : World) (cs : List Value) (o : Nat) (v : Value) (hv : cs[o]? = some v) : (part 3 ⟨cs⟩ o).run Tryz.prog w = .ok v w := by
  obtain ⟨h1, h2⟩ := isAgg_of_one (tab_ok tok.one (show lkG TB.one 3 = some () by rfl)) w
  simp [part, h2, hv]
end
end X
namespace X
open Go Go.RowKit Bs
theorem Sys.toBelowG {B : Nat} {w0 w : World} {L : Lo} (h : Sys B w0 L w) (hL : ∀ e, e ∈ L → e.1 < w0.heap.size → w0.heap[e.1]? = some e.2) : Below w0.heap.size w0 w :=
  ⟨h.os, h.tape, h.output, h.size, fun k hk => by
    by_cases he : ∃ e, e ∈ L ∧ e.1 = k
    · obtain ⟨e, he, rfl⟩ := he
      rw [(h.own e he).2]
      exact (hL e he hk).symm
    · exact h.old k hk fun e h1 h2 => he ⟨e, h1, h2⟩⟩
theorem own1 {w0 : World} {g : Nat} {o : Obj} {L : Lo} (hg : w0.heap[g]? = some o) (hL : ∀ e, e ∈ L → e = (g, o) ∨ w0.heap.size ≤ e.1) : ∀ e, e ∈ L → e.1 < w0.heap.size → w0.heap[e.1]? = some e.2 := fun e he hlt => by
  rcases hL e he with rfl | h
  · exact hg
  · omega
theorem ZZO1 {p : Prop} (h : p := by (intro e he; repeat (first | (cases he; done) | (rcases List.mem_cons.1 he with rfl | he; · first | (left; rfl) | (right; assumption)))) <;> fail) : p := h
section
variable {v : CTV} {t : CTk} {g gm : Nat} {w : World}
theorem last_any (hg : w.heap[g]? = some (gamO v t gm)) (ho : CtOk t) :
    Calls Tryz.prog 13 #[.pointer (some ⟨g, 0, none⟩)] w fun e w' => e = .returned (.int .i64 t.last) ∧ Below w.heap.size w w' := by
  have h1 := ho.n60
  have h2 := ho.dly
  have S0 := Sys.start1 (B := 0) (Nat.zero_le g) hg
  simp only [gamO, gamC] at S0
  refine enterL Tryz.func13 rfl Tryz.ntmps13 rfl (S0) ?_; simp only [frame, Nat.zero_add, Nat.reduceAdd]
  refine XC.hint 0 0 ?_
  repeat (first | (refine M0 ?_; first | refine SL ?_ | refine SB fun _ _ => ?_) | (refine M1 ?_; first | refine SC ?_ | refine SD ?_) | (refine M2 ?_; refine SE ?_) | (refine M3 ?_; first | refine SG ?_ | refine SF ?_) | (refine M4 ?_; refine SR ?_) | (refine M5 ?_; first | exact M7 | refine YM ?_ | refine YN ?_ ?_))
  refine XE.retg tok Tryz.results13 rfl (by simp only [and_self, and_true]) (fun w' S => ?_)
  exact ⟨rfl, S.toBelowG (own1 hg ZZO1)⟩
theorem plan_any {i : Int} (hg : w.heap[g]? = some (gamO v t gm)) (ho : CtOk t) (hi : 0 ≤ i ∧ i ≤ 1000) :
    Calls Tryz.prog 14 #[.pointer (some ⟨g, 0, none⟩), .int .i64 i] w fun e w' => e = .returned (.agg ⟨[.int .i64 (t.plan i).close, .int .i64 (t.plan i).open_]⟩) ∧ Below w.heap.size w w' := by
  have h1 := ho.n60
  have h2 := ho.dly
  have h3 := ho.frm
  have h4 : t.q ≤ t.n := (qTo_spec t t.n).1
  have S0 := Sys.start1 (B := 0) (Nat.zero_le g) hg
  simp only [gamO, gamC] at S0
  refine enterL Tryz.func14 rfl Tryz.ntmps14 rfl (S0) ?_; simp only [frame, Nat.zero_add, Nat.reduceAdd]
  refine XC.hint 0 0 ?_
  repeat (first | (refine M0 ?_; first | refine SL ?_ | refine SB fun _ _ => ?_) | (refine M1 ?_; first | refine SC ?_ | refine SD ?_) | (refine M2 ?_; refine SE ?_) | (refine M3 ?_; first | refine SG ?_ | refine SF ?_) | (refine M4 ?_; refine SR ?_) | (refine M5 ?_; first | exact M7 | refine YM ?_ | refine YN ?_ ?_))
  refine XE.retg tok Tryz.results14 rfl (by simp only [and_self, and_true]) (fun w' S => ?_)
  exact ⟨rfl, S.toBelowG (own1 hg ZZO1)⟩
def plnV (p : CPl) : Value := .agg ⟨[.int .i64 p.close, .int .i64 p.open_]⟩
end
end X
namespace X
open Go Go.RowKit Bs
theorem below_cell5 {B : Nat} {w w' : World} (h : Below B w w') {ad : Addr} (hb : ad.block < B) : w'.cell? ad = w.cell? ad := by unfold World.cell?; rw [h.block _ hb]
end X
namespace X
open Go Go.RowKit Bs
section
variable {t : CTk} {v : CTV} {b0 g gm : Nat} {kk ks : List Nat} {hs : List Held} {w W w' : World} {L : Lo} {R : Value → List Held → Prop} {x : Value}
end
end X
namespace X
open Go Go.RowKit Bs
end X
namespace Bs
open Go X
def hiL (l : List Int) (lim : Int) (n : Nat) : Nat := match lastB (fun i => decide (lim < at0 l i)) n with
  | none => 0
  | some i => i + 1
theorem hiL_spec (l : List Int) (lim : Int) (n : Nat) : hiL l lim n ≤ n ∧ (hiL l lim n = 0 ∨ ∃ i, hiL l lim n = i + 1 ∧ lim < at0 l i) ∧ ∀ i, hiL l lim n ≤ i → i < n → at0 l i ≤ lim := by
  unfold hiL
  cases h : lastB (fun i => decide (lim < at0 l i)) n with
  | none =>
    have := lastB_none.1 h
    exact ⟨Nat.zero_le _, .inl rfl, fun i _ hi => by have := of_decide_eq_false (this i hi); omega⟩
  | some i =>
    obtain ⟨a1, a2, a3⟩ := lastB_some.1 h
    exact ⟨a1, .inr ⟨i, rfl, of_decide_eq_true a2⟩, fun j h1 h2 => by have := of_decide_eq_false (a3 j h1 h2); omega⟩
def CTk.qH (t : CTk) : Nat → Nat
  | 0 => 0
  | k + 1 => max (t.qH k) (hiL (t.h k).vals t.limit t.n)
theorem qH_spec (t : CTk) : ∀ k, t.qH k ≤ t.n ∧ (t.qH k = 0 ∨ ∃ i j, t.qH k = i + 1 ∧ j < k ∧ t.limit < t.v j i) ∧ ∀ i j, t.qH k ≤ i → i < t.n → j < k → t.v j i ≤ t.limit := by
  intro k
  induction k with
  | zero => exact ⟨Nat.zero_le _, .inl rfl, fun i j _ _ h => by omega⟩
  | succ k ih =>
    obtain ⟨h1, h2, h3⟩ := ih
    obtain ⟨g1, g2, g3⟩ := hiL_spec (t.h k).vals t.limit t.n
    unfold CTk.qH
    refine ⟨by omega, ?_, fun i j hi hn hj => ?_⟩
    · rcases Nat.le_total (t.qH k) (hiL (t.h k).vals t.limit t.n) with hle | hle
      · rw [Nat.max_eq_right hle]
        rcases g2 with g2 | ⟨i, g2, g4⟩
        · exact .inl g2
        · exact .inr ⟨i, k, g2, by omega, g4⟩
      · rw [Nat.max_eq_left hle]
        rcases h2 with h2 | ⟨i, j, h2, h4, h5⟩
        · exact .inl h2
        · exact .inr ⟨i, j, h2, by omega, h5⟩
    · rcases Nat.lt_or_ge j k with h | h
      · exact h3 i j (by omega) hn h
      · have : j = k := by omega
        subst this
        exact g3 i (by omega) hn
theorem qH_q (t : CTk) : t.qH t.m = t.q := by
  obtain ⟨h1, h2, h3⟩ := qH_spec t t.m
  refine q_eq h1 ?_ fun i hi hn => high_f.2 fun k hk => h3 i k hi hn hk
  rcases h2 with h2 | ⟨i, j, h2, h4, h5⟩
  · exact .inl h2
  · exact .inr ⟨i, h2, high_t.2 ⟨j, h4, h5⟩⟩
end Bs
namespace X
open Go Go.RowKit Bs
theorem back0_any {q : SV} {w : World} :
    Calls Tryz.prog 34 #[svV q] w fun e w' => ∃ v, e = .returned v ∧ ∃ gp, v = .func (.func 61) #[] #[.pointer (some ⟨gp, 0, none⟩)] ∧ Sys w.heap.size w [(gp, cel 26 [svV q])] w' := by
  simp only [svV]
  refine enter Tryz.func34 rfl Tryz.ntmps34 rfl ?_; simp only [frame, Nat.zero_add, Nat.reduceAdd]
  repeat (first | (refine M0 ?_; first | refine SL ?_ | refine SB fun _ _ => ?_ | refine Y4 (Ev.makeFunc rfl rfl) ?_) | (refine M1 ?_; first | refine SC ?_ | refine SD ?_) | (refine M2 ?_; refine SE ?_) | (refine M3 ?_; first | refine SG ?_ | refine SF ?_ | refine YF (Ev.makeFunc rfl rfl) ?_) | (refine M4 ?_; refine SR ?_) | (refine M5 ?_; first | exact M7 | refine YM ?_ | refine YN ?_ ?_))
  refine XE.retg tok Tryz.results34 rfl (by simp only [and_self, and_true]) (fun w' S => ?_)
  exact ⟨_, rfl, _, rfl, S⟩
set_option maxHeartbeats 8000000 in
theorem back_any {σ : Type} (Lf : σ → Lo) (W0 : World) (J : Nat → σ → Prop) (Jx : σ → Prop) {B l gp n c : Nat} {A : Option Addr} {ms : List Int} (s0 : σ) (S0 : Sys B W0 (Lf s0) W0) (h0 : J ms.length s0)
    (hgp : W0.cell? ⟨gp, 0, none⟩ = some (.slice A n c)) (hlp : gp < W0.heap.size) (hfp : ∀ s e, e ∈ Lf s → e.1 ≠ gp) (hq : IntsAt W0 (Lt B) ⟨A, n, c⟩ ms) (hn : ms.length ≤ 1000)
    (hy : ∀ i s, i < ms.length → J (i + 1) s → ∀ w1, Sys B W0 (Lf s) w1 → ∃ fn tmps assign body, (Instr.yield l (#[.int .i64 (i : Nat), .int .i64 (at0 ms i)] : Array Value)).run Tryz.prog w1 = .ok (.round l fn tmps assign body) w1 ∧
        RoundIn Fence.wide 0 Tryz.prog l fn tmps assign body w1 fun e w' => ∃ v, e = .returned v ∧ ((v = .bool true ∧ ∃ s', J i s' ∧ Sys B W0 (Lf s') w') ∨ (v = .bool false ∧ ∃ s', Jx s' ∧ Sys B W0 (Lf s') w'))) :
    Calls Tryz.prog 61 #[.func (.yield l) #[] #[], .pointer (some ⟨gp, 0, none⟩)] W0 fun e w' => ∃ v, e = .returned v ∧ ((∃ s, J 0 s ∧ Sys B W0 (Lf s) w') ∨ (∃ s, Jx s ∧ Sys B W0 (Lf s) w')) := by
  have hln := hq.len
  simp only at hln
  subst hln
  refine enterL Tryz.func61 rfl Tryz.ntmps61 rfl (S0) ?_; simp only [frame, Nat.zero_add, Nat.reduceAdd]
  repeat (first | (refine M0 ?_; first | refine SL ?_ | refine SB fun _ _ => ?_ | refine Y4 (Ev.load_far tok rfl rfl hlp (hfp s0) hgp) ?_) | (refine M1 ?_; refine SC ?_) | (refine M2 ?_; refine SE ?_))
  refine XC.loopk [0, 1] rfl (fun z : Nat × σ => [(3, .int .i64 ((z.1 : Int) - 1))]) (fun z => Lf z.2) (fun _ => W0) (fun z => z.1 ≤ ms.length ∧ J z.1 z.2) (fun z => z.1) (ms.length, s0) ⟨Nat.le_refl _, h0⟩ ZZSUB (fun _ h => h) ?_
  rintro ⟨i, s⟩ ⟨hi, hJ⟩
  simp only at hi hJ
  dsimp only [List.cons_append, List.nil_append]
  repeat (first | (refine M0 ?_; first | refine SL ?_ | refine SB fun _ _ => ?_) | (refine M1 ?_; refine SC ?_) | (refine M2 ?_; refine SE ?_))
  refine XC.cond _ rfl (fun h1 => ?_) (fun h1 => ?_)
  rotate_left
  · have him : i = 0 := by have := of_decide_eq_false h1; omega
    subst him
    repeat (first | (refine M0 ?_; first | refine SL ?_ | refine SB fun _ _ => ?_) | (refine M1 ?_; refine SC ?_) | (refine M2 ?_; refine SE ?_))
    refine XE.end0 Tryz.results61 (fun w' S => ?_)
    exact ⟨_, rfl, .inl ⟨s, hJ, S⟩⟩
  obtain ⟨j, rfl⟩ : ∃ j, i = j + 1 := ⟨i - 1, by have := of_decide_eq_true h1; omega⟩
  obtain ⟨ad, rfl, hlt, hcells⟩ := hq.at_ (by omega)
  have hcell := hcells j (by omega)
  have ej : ((j + 1 : Nat) : Int) - 1 = (j : Nat) := by omega
  rw [ej]
  repeat (first | (refine M0 ?_; first | refine SL ?_ | refine SB fun _ _ => ?_ | refine Y4 (Ev.load_far tok rfl rfl hlp (hfp s) hgp) ?_ | refine Y4 (Ev.load_old tok rfl rfl (add_lt hlt) hcell) ?_) | (refine XI.id ?_; first | refine XI.done ?_ | refine XI.one1 rfl ?_) | (refine XR'.id ?_; first | refine XR'.seq ?_ | refine XR'.region ?_ | refine XR'.block ?_ | refine XR'.skip ?_ | refine XR'.ret ?_ | refine XR'.cond_t rfl ?_ | refine XR'.cond_f rfl ?_ | refine XR'.exit ?_) | (refine M1 ?_; first | refine XC.regionI (id := 3) 1 ?_ | refine SC ?_ | refine SD ?_) | (refine M2 ?_; first | refine XE.nextI ?_ | refine XE.nextR ?_ | refine SE ?_))
  refine XI.yield (vs := [.int .i64 (j : Nat), .int .i64 (at0 ms j)]) rfl rfl rfl (fun _ v w' => (v = .bool true ∧ ∃ s', J j s' ∧ Sys B W0 (Lf s') w') ∨ (v = .bool false ∧ ∃ s', Jx s' ∧ Sys B W0 (Lf s') w')) (fun w4 S4 => hy j s (by omega) hJ w4 S4) (fun w4 v5 w5 S4 hR => ?_)
  rcases hR with ⟨rfl, s', hJ', S5⟩ | ⟨rfl, s', hJ', S5⟩
  · refine ⟨_, _, S5, ?_⟩
    repeat (first | (refine M0 ?_; first | refine SL ?_ | refine SB fun _ _ => ?_) | (refine XI.id ?_; first | refine XI.done ?_ | refine XI.one1 rfl ?_) | (refine XR'.id ?_; first | refine XR'.seq ?_ | refine XR'.region ?_ | refine XR'.block ?_ | refine XR'.skip ?_ | refine XR'.ret ?_ | refine XR'.cond_t rfl ?_ | refine XR'.cond_f rfl ?_ | refine XR'.exit ?_) | (refine M1 ?_; first | refine SC ?_ | refine SD ?_) | (refine M2 ?_; first | refine XE.nextI ?_ | refine XE.nextR ?_ | refine SE ?_))
    repeat (first | (refine M0 ?_; first | refine SL ?_ | refine SB fun _ _ => ?_) | (refine M1 ?_; refine SC ?_) | (refine M2 ?_; refine SE ?_))
    exact XE.round (s := (j + 1, s)) (j, s') ⟨by simp only; omega, hJ'⟩ (by simp only; omega) (Sub.cons (by rw [← ej]; rfl) ZZSUB) (fun _ h => h)
  · refine ⟨_, _, S5, ?_⟩
    repeat (first | (refine M0 ?_; first | refine SL ?_ | refine SB fun _ _ => ?_) | (refine XI.id ?_; first | refine XI.done ?_ | refine XI.one1 rfl ?_) | (refine XR'.id ?_; first | refine XR'.seq ?_ | refine XR'.region ?_ | refine XR'.block ?_ | refine XR'.skip ?_ | refine XR'.ret ?_ | refine XR'.cond_t rfl ?_ | refine XR'.cond_f rfl ?_ | refine XR'.exit ?_) | (refine M1 ?_; first | refine SC ?_ | refine SD ?_) | (refine M2 ?_; first | refine XE.nextI ?_ | refine XE.nextR ?_ | refine SE ?_))
    repeat (first | (refine M0 ?_; first | refine SL ?_ | refine SB fun _ _ => ?_) | (refine M1 ?_; refine SC ?_) | (refine M2 ?_; refine SE ?_))
    refine XE.ret0 Tryz.results61 (fun w' S => ?_)
    exact ⟨_, rfl, .inr ⟨s', hJ', S⟩⟩
def hDef (Ds : List Nat) : Held := ⟨fun W ok => ∀ D, D ∈ Ds → ok D ∧ W.heap[D]? = some (.deferred (some [])), fun h hk D hD => ⟨(h D hD).1, (hk D (h D hD).1).trans (h D hD).2⟩, fun h hk D hD => ⟨hk D (h D hD).1, (h D hD).2⟩⟩
def gamQ (v : CTV) (t : CTk) (gm q : Nat) : List Value :=
  [.slice v.p.A v.p.n v.p.c, .int .i64 t.b.leak, .int .i64 t.b.crest, .int .i64 t.b.over, .slice v.p.A2 v.p.n2 v.p.c2, .slice v.f.A v.f.n v.f.c, .slice v.h.A v.h.n v.h.c, .slice v.r.A v.r.n v.r.c, .int .i64 t.out, .int .i64 t.limit, .int .i64 t.delay,
   .int .i64 t.from_, .int .i64 (t.n : Nat), .int .i64 (q : Nat), .map (some gm)]
def BegR (t : CTk) (v : CTV) (w : World) (e : Ending) (w' : World) : Prop :=
  Below w.heap.size w w' ∧ ((ctE t ≠ 0 ∧ e = .returned (.tuple ⟨[.pointer none, .int .i64 (ctE t)]⟩)) ∨
    (ctE t = 0 ∧ ∃ g gm, e = .returned (.tuple ⟨[.pointer (some ⟨g, 0, none⟩), .int .i64 0]⟩) ∧ Gam t v w.heap.size g gm [g] [] [] w'))
set_option maxHeartbeats 16000000 in
theorem begin_any {v : CTV} {t : CTk} {w : World} (h : CtAt w w.heap.size v t) :
    Calls Tryz.prog 11 #[ctkV v t] w (BegR t v w) := by
  have hhn := h.hn
  have hchk := fun (w5 : World) (hB : Below w.heap.size w w5) => ctCheck_any (v := v) (t := t) (w := w5) ((h.below hB).more hB.size)
  have hhis := fun k hk => h.hisAt (k := k) hk
  have hrn := h.river.len
  obtain ⟨vp, vf, ⟨Ah, nh, ch⟩, ⟨Ar, nr, cr⟩⟩ := v
  simp only at hhn hrn hhis
  subst hhn
  simp only [ctkV, ctkC] at hchk ⊢
  refine enterM Tryz.func11 rfl Tryz.ntmps11 rfl ?_; simp only [frame, Nat.zero_add, Nat.reduceAdd]
  repeat (first | (refine M0 ?_; first | refine SL ?_ | refine SB fun _ _ => ?_ | refine Y4 (Ev.call (f := 33) (ck rfl) rfl (fun w5 S5 => hchk w5 S5.toBelow)) ?_) | (refine M1 ?_; refine SC ?_) | (refine M2 ?_; refine SE ?_))
  rename_i g1 hg1
  have hcv : (chkC t).2.2 = ctE t := rfl
  simp only [hcv]
  by_cases hc : ctE t = 0
  rotate_left
  · rw [show decide (ctE t ≠ 0) = true from decide_eq_true hc]
    repeat (first | (refine M0 ?_; first | refine SL ?_ | refine SB fun _ _ => ?_) | (refine M1 ?_; refine SC ?_) | (refine M2 ?_; refine SE ?_))
    refine XE.retM0 tok Tryz.results11 rfl (by simp only [and_self, and_true]) (fun w' S => ?_)
    exact ⟨S.toBelow, .inl ⟨hc, rfl⟩⟩
  rw [show decide (ctE t ≠ 0) = false from decide_eq_false (fun h => h hc)]
  have ho := ctOk_of hc
  have hm1 := ho.m1
  have hm8 := ho.m8
  have hn60 := ho.n60
  obtain ⟨ah, ⟨A0, n0, c0⟩, rfl, hlth, hck0, hq0⟩ := hhis 0 (by omega)
  have d00 : w.cell? ((ah.add (0 * 2)).add 0) = some (.int .i64 t.from_) := hck0 0 _ rfl
  rw [ho.river] at hrn
  subst hrn
  obtain ⟨v, hv⟩ : ∃ v : CTV, v = ⟨vp, vf, ⟨some ah, t.m, ch⟩, ⟨Ar, t.n, cr⟩⟩ := ⟨_, rfl⟩
  repeat (first | (refine M0 ?_; first | refine SL ?_ | refine SB fun _ _ => ?_) | (refine M1 ?_; refine SC ?_) | (refine M2 ?_; refine SE ?_))
  refine XC.cutn [1] rfl (fun z : Nat × Nat × Nat => [(7, .pointer (some ⟨z.2.2, 0, none⟩)), (31, .pointer (some ⟨z.1, 0, none⟩)), (29, .map (some z.2.1))]) (fun z => [(z.2.2, cel 75 [.pointer (some ⟨z.1, 0, none⟩)]), (z.1, cel 81 (gamQ ⟨vp, vf, ⟨some ah, t.m, ch⟩, ⟨Ar, t.n, cr⟩⟩ t z.2.1 0)), (z.2.1, mapO []), (g1, cel 29 (ctkC ⟨vp, vf, ⟨some ah, t.m, ch⟩, ⟨Ar, t.n, cr⟩⟩ t))]) (fun _ => w) (fun z => w.heap.size ≤ z.1 ∧ w.heap.size ≤ z.2.1 ∧ w.heap.size ≤ z.2.2) ?_ ?_
  · refine XC.drawR _ [0, 1, 2, 3, 4, 5, 6, 7, 8] [9, 10, 11, 12, 13] mixed (fun _ h => h) rfl (by kernel_rfl) ?_
    repeat (any_goals (first | (refine M0 ?_; first | refine SL ?_ | refine SB fun _ _ => ?_ | refine Y4 (Ev.load_old tok rfl rfl (add_lt2 hlth) d00) ?_ | refine XL.makeMap rfl (fun _ _ => ?_)) | (refine M1 ?_; refine SC ?_) | (refine M2 ?_; refine SE ?_) | (refine M3 ?_; first | refine SG ?_ | refine SF ?_ | refine YF (Ev.load_old tok rfl rfl (add_lt2 hlth) d00) ?_) | (refine M4 ?_; refine SR ?_) | (refine M5 ?_; first | exact M7 | refine YM ?_ | refine YN ?_ ?_)))
    any_goals (repeat (first | exact AnyR.nil | refine AnyR.skip rfl ?_))
    all_goals
      refine XE.leaf (_, _, _) ZZSUB (fun _ S' => by first | exact S' | exact S'.perm (by repeat (first | exact List.Perm.refl _ | refine perm1 ?_ | refine List.Perm.cons _ ?_ | refine perm2 ?_)) | exact (S'.pop (by assumption)) | exact (S'.pop2 (by assumption))) ⟨?_, ?_, ?_⟩ <;> assumption
  rintro ⟨g, gm, g7⟩ ⟨hg, hgm, hg7⟩
  simp only at hg hgm hg7
  dsimp only [List.cons_append, List.nil_append]
  refine XC.hint 7 3 (XC.hint 1 0 ?_)
  simp only [gamQ, ctkC]
  repeat (first | (refine M0 ?_; first | refine SL ?_ | refine SB fun _ _ => ?_) | (refine M1 ?_; refine SC ?_) | (refine M2 ?_; refine SE ?_))
  refine XC.rebase (List.Sublist.refl _) (fun W0 S0 => ?_)
  have hF0 : Fam W0 w.heap.size [g7, g, gm, g1] [] [hDef []] := (Fam.start S0.size).hold (x := hDef []) (ok := fun _ => False) (fun D hD => by cases hD) (fun j hj => hj.elim)
  refine XC.loopD [1, 7, 33, 34] rfl (fun z : Nat × World × List Nat => [(35, .int .i64 (z.1 : Nat))]) (fun z => [(g7, cel 75 [.pointer (some ⟨g, 0, none⟩)]), (g, cel 81 (gamQ ⟨vp, vf, ⟨some ah, t.m, ch⟩, ⟨Ar, t.n, cr⟩⟩ t gm (t.qH z.1))), (gm, mapO []), (g1, cel 29 (ctkC ⟨vp, vf, ⟨some ah, t.m, ch⟩, ⟨Ar, t.n, cr⟩⟩ t))]) (fun z => z.2.1) (fun z => z.2.2.map markD)
    (fun z => z.1 ≤ t.m ∧ Below w.heap.size w z.2.1 ∧ Fam z.2.1 w.heap.size [g7, g, gm, g1] [] [hDef z.2.2] ∧ (∀ x, x ∈ [g7, g, gm, g1] → x < z.2.1.heap.size) ∧ z.2.2.Nodup) (fun z => t.m - z.1) (0, W0, []) ⟨Nat.zero_le _, S0.toBelow, hF0, fun x hx => S0.keyLt x hx, .nil⟩ rfl ZZSUB (fun _ h => h) ?_
  rintro ⟨k, W, Ds⟩ ⟨hk, hB, hF, hkl, hnd⟩
  simp only at hk hB hF hkl hnd
  simp only [gamQ, ctkC]
  dsimp only [List.cons_append, List.nil_append]
  repeat (first | (refine M0 ?_; first | refine SL ?_ | refine SB fun _ _ => ?_) | (refine M1 ?_; refine SC ?_) | (refine M2 ?_; refine SE ?_))
  refine XC.cond _ rfl (fun h1 => ?_) (fun h1 => ?_)
  rotate_left
  · have hkm : k = t.m := by have := of_decide_eq_false h1; omega
    subst hkm
    rw [qH_q]
    repeat (first | (refine M0 ?_; first | refine SL ?_ | refine SB fun _ _ => ?_) | (refine M1 ?_; refine SC ?_) | (refine M2 ?_; refine SE ?_))
    refine XE.retMs tok rfl Tryz.results11 rfl (by simp only [and_self, and_true]) (fun w9 S9 D hD => ((hF.sys S9 ZZHL).held (hDef Ds) (.head _) D hD).2) hnd (fun e he hm => ?_) (fun w9 w' S9 hM => ?_)
    · have h2 := (hF.held (hDef Ds) (.head _) e.1 hm).1.2.2.1
      exact h2 (List.mem_map.2 ⟨e, he, rfl⟩)
    have hDs : ∀ D, D ∈ Ds → D ∉ [g7, g, gm, g1] ∧ w.heap.size ≤ D := fun D hD => ⟨(hF.held (hDef Ds) (.head _) D hD).1.2.2.1, (hF.held (hDef Ds) (.head _) D hD).1.1⟩
    have hBw : Below w.heap.size w w' := by
      have h3 := hB.trans S9.toBelow
      exact ⟨hM.os.trans h3.os, hM.tape.trans h3.tape, hM.output.trans h3.output, by rw [hM.size]; exact h3.size, fun j hj => by rw [hM.old j fun hD => by have := (hDs j hD).2; omega]; exact h3.block j hj⟩
    have hgw : w'.heap[g]? = some (gamO ⟨vp, vf, ⟨some ah, t.m, ch⟩, ⟨Ar, t.n, cr⟩⟩ t gm) := by
      rw [hM.old g fun hD => (hDs g hD).1 (by simp)]
      exact (S9.own (g, _) (.tail _ (.head _))).2
    have hmw : w'.heap[gm]? = some (mapO []) := by
      rw [hM.old gm fun hD => (hDs gm hD).1 (by simp)]
      exact (S9.own (gm, _) (.tail _ (.tail _ (.head _)))).2
    have hne : g ≠ gm := fun e => by
      subst e
      rw [hmw] at hgw
      simp [mapO, gamO] at hgw
    refine ⟨hBw, .inr ⟨hc, g, gm, rfl, Fam.start hBw.size, by simp; exact fun e => hne e.symm, by simp, fun x hx => ?_, hg, hgm, hgw, h.below hBw, [], hmw, KeysOk.nil, fun e he => by cases he⟩⟩
    rw [hM.size]
    exact Nat.lt_of_lt_of_le (hkl x (by simp only [List.mem_cons, List.not_mem_nil, or_false] at hx ⊢; omega)) S9.size
  have hkm : k < t.m := by have := of_decide_eq_true h1; omega
  obtain ⟨ad', ⟨Ak, nk, ck1⟩, e, _, hck, hqk⟩ := hhis k hkm
  cases e
  have hlk := hqk.len
  simp only at hlk
  rw [ho.len k hkm] at hlk
  subst hlk
  have hckW : ∀ j u, (hisC ⟨Ak, t.n, ck1⟩ (t.h k))[j]? = some u → W.cell? ((ah.add (k * 2)).add j) = some u := fun j u hj => (below_cell5 hB (add_lt2 hlth)).trans (hck j u hj)
  repeat (first | (refine M0 ?_; first | refine SL ?_ | refine SB fun _ _ => ?_ | refine Y4 (Ev.load_old_agg tok (hisC ⟨Ak, t.n, ck1⟩ (t.h k)) rfl rfl rfl (add_lt hlth) hckW) ?_) | (refine M1 ?_; refine SC ?_) | (refine M2 ?_; refine SE ?_))
  rename_i g9 hg9
  refine XL.callr (fst := []) (cap := []) (fun w1 x w2 => ∃ gp, x = .func (.func 61) #[] #[.pointer (some ⟨gp, 0, none⟩)] ∧ Sys w1.heap.size w1 [(gp, cel 26 [.slice Ak t.n ck1])] w2) (ck rfl) rfl rfl rfl (fun w1 S1 => back0_any (q := ⟨Ak, t.n, ck1⟩)) (fun w1 x w2 S1 hR => ?_)
  obtain ⟨gp, rfl, S2⟩ := hR
  refine ⟨_, w2, (S1.join S2 (List.Sublist.refl _)).rebase (List.sublist_cons_self _ _), ?_⟩
  have hB2 : Below w.heap.size w w2 := hB.trans (S1.toBelow.trans (S2.toBelow.mono (Nat.le_trans S1.base S1.size)))
  have hgpL : ∀ x, x ∈ [g9, g7, g, gm, g1] → x < gp := fun x hx => Nat.lt_of_lt_of_le (S1.keyLt x hx) (S2.own _ (.head _)).1
  have hgpc : w2.cell? ⟨gp, 0, none⟩ = some (.slice Ak t.n ck1) := by
    have := (S2.own _ (.head _)).2
    simp [World.cell?, this]
  have hgpl : gp < w2.heap.size := S2.lt (.head _)
  have hF2 : Fam w2 w.heap.size [g9, g7, g, gm, g1] [] [hDef Ds] := by
    have h3 := (hF.add (ks' := [g9, g7, g, gm, g1]) (fun x hx => by
      rcases List.mem_cons.1 hx with rfl | hx
      · exact .inr hg9
      · exact .inl hx)).sys S1 ZZHL
    exact h3.below S2.toBelow
  have hkl2 : ∀ x, x ∈ [g9, g7, g, gm, g1] → x < w2.heap.size := fun x hx => Nat.lt_trans (hgpL x hx) hgpl
  clear S1 S2
  repeat (first | (refine M0 ?_; first | refine SL ?_ | refine SB fun _ _ => ?_) | (refine M1 ?_; refine SC ?_) | (refine M2 ?_; refine SE ?_))
  refine XC.rangeFuncD (cap := [.pointer (some ⟨gp, 0, none⟩)]) rfl (ck rfl) (fun fn a D w3 hD hf S3 => ?_)
  obtain ⟨Q, hQ⟩ : ∃ Q, Q = t.qH k := ⟨_, rfl⟩
  rw [← hQ] at S3
  have hfS : Fits 64 [] [(1, .pointer (some ⟨g1, 0, none⟩)), (7, .pointer (some ⟨g7, 0, none⟩)), (9, .pointer (some ⟨g9, 0, none⟩))] { tmps := a.tmps, defers := [] } := by
    have h4 := Sub.fits (G := [(1, .pointer (some ⟨g1, 0, none⟩)), (7, .pointer (some ⟨g7, 0, none⟩)), (9, .pointer (some ⟨g9, 0, none⟩))]) ZZSUB hf
    exact ⟨h4.size, rfl, h4.get⟩
  have hbk := back_any (B := w.heap.size) (l := D + 1) (gp := gp) (n := t.n) (c := ck1) (A := Ak) (ms := (t.h k).vals) (σ := Option Nat)
    (fun s => [(D + 1, .loop (recO fn a.tmps #[42, 43] _ _ D (match s with | none => .ready | some _ => .done) (match s with | none => none | some _ => some (.exit 2)))), (D, .deferred (some [])), (g9, cel 41 (hisC ⟨Ak, t.n, ck1⟩ (t.h k))), (g7, cel 75 [.pointer (some ⟨g, 0, none⟩)]),
      (g, cel 81 (gamQ ⟨vp, vf, ⟨some ah, t.m, ch⟩, ⟨Ar, t.n, cr⟩⟩ t gm (match s with | none => Q | some i => max Q (i + 1)))), (gm, mapO []), (g1, cel 29 (ctkC ⟨vp, vf, ⟨some ah, t.m, ch⟩, ⟨Ar, t.n, cr⟩⟩ t))]) w3
    (fun i s => s = none ∧ ∀ j, i ≤ j → j < t.n → at0 (t.h k).vals j ≤ t.limit) (fun s => ∃ i, s = some i ∧ hiL (t.h k).vals t.limit t.n = i + 1) none
    (S3.rebase (List.Sublist.refl _)) ⟨rfl, fun j h1 h2 => by rw [ho.len k hkm] at h1; omega⟩ ?_ ?_ ?_ ?_ ?_ ?_
  rotate_left
  · have h := S3.farCell (a := ⟨gp, 0, none⟩) hgpl (fun e he => by
      have h5 : e.1 ∈ [D + 1, D, g9, g7, g, gm, g1] := List.mem_map.2 ⟨e, he, rfl⟩
      simp only [List.mem_cons, List.not_mem_nil, or_false] at h5
      have h6 := hgpL e.1
      simp only [List.mem_cons, List.not_mem_nil, or_false] at h6
      show e.1 ≠ gp
      rcases h5 with h5 | h5 | h5
      · omega
      · omega
      · have := h6 h5; omega)
    exact h.trans hgpc
  · exact Nat.lt_of_lt_of_le hgpl S3.size
  · intro s e he
    have h5 : e.1 ∈ [D + 1, D, g9, g7, g, gm, g1] := List.mem_map.2 ⟨e, he, rfl⟩
    simp only [List.mem_cons, List.not_mem_nil, or_false] at h5
    have h6 := hgpL e.1
    simp only [List.mem_cons, List.not_mem_nil, or_false] at h6
    rcases h5 with h5 | h5 | h5
    · omega
    · omega
    · have := h6 h5; omega
  · exact hqk.below (hB2.trans S3.toBelow)
  · rw [ho.len k hkm]; omega
  · rintro i s hi ⟨rfl, hJ⟩ w1 S1
    rw [ho.len k hkm] at hi
    have hB3 : Below w.heap.size w w3 := hB2.trans S3.toBelow
    obtain ⟨ak, rfl, hltk, hvk⟩ := hqk.at_ (by rw [ho.len k hkm]; omega)
    have dV : w3.cell? (ak.add (i * 1)) = some (.int .i64 (at0 (t.h k).vals i)) := (below_cell5 hB3 (add_lt hltk)).trans (hvk i (by rw [ho.len k hkm]; exact hi))
    have hloop := (S1.own _ (.head _)).2
    refine ⟨_, _, _, _, run_yield (args := #[.int .i64 (i : Nat), .int .i64 (at0 (t.h k).vals i)]) hloop rfl, ?_⟩
    refine round_of (hfS.params2 rfl rfl) S1 ?_
    clear hloop
    simp only [gamQ, ctkC, hisC, svV]
    repeat (first | (refine M0 ?_; first | refine SL ?_ | refine SB fun _ _ => ?_) | (refine XI.id ?_; first | refine XI.done ?_ | refine XI.one1 rfl ?_) | (refine XR'.id ?_; first | refine XR'.seq ?_ | refine XR'.region ?_ | refine XR'.block ?_ | refine XR'.skip ?_ | refine XR'.ret ?_ | refine XR'.cond_t rfl ?_ | refine XR'.cond_f rfl ?_ | refine XR'.exit ?_) | (refine M1 ?_; first | refine SC ?_ | refine SD ?_) | (refine M2 ?_; first | refine XE.nextI ?_ | refine XE.nextR ?_ | refine SE ?_))
    refine XE.begin (i := 0) rfl rfl rfl ?_
    repeat (first | (refine M0 ?_; first | refine SL ?_ | refine SB fun _ _ => ?_) | (refine XI.id ?_; first | refine XI.done ?_ | refine XI.one1 rfl ?_) | (refine XR'.id ?_; first | refine XR'.seq ?_ | refine XR'.region ?_ | refine XR'.block ?_ | refine XR'.skip ?_ | refine XR'.ret ?_ | refine XR'.cond_t rfl ?_ | refine XR'.cond_f rfl ?_ | refine XR'.exit ?_) | (refine M1 ?_; first | refine SC ?_ | refine SD ?_) | (refine M2 ?_; first | refine XE.nextI ?_ | refine XE.nextR ?_ | refine SE ?_))
    refine XR'.drawRS w3 _ [0, 1, 2, 3, 4, 5, 6, 7] [] mixed (fun _ h => h) rfl rfl (by kernel_rfl) ?_
    repeat (first | (refine M0 ?_; first | refine SL ?_ | refine SB fun _ _ => ?_ | refine Y4 (Ev.load_loc tok 2 (g := g9) (o := 1) rfl rfl rfl rfl) ?_ | refine Y4 (Ev.load_old tok rfl rfl (add_lt hltk) dV) ?_ | refine Y4 (Ev.load_loc tok 6 (g := g1) (o := 9) rfl rfl rfl rfl) ?_) | (refine M2 ?_; refine SE ?_) | (refine M3 ?_; first | refine SG ?_ | refine SF ?_ | refine YF (Ev.load_loc tok 2 (g := g9) (o := 1) rfl rfl rfl rfl) ?_ | refine YF (Ev.load_old tok rfl rfl (add_lt hltk) dV) ?_ | refine YF (Ev.load_loc tok 6 (g := g1) (o := 9) rfl rfl rfl rfl) ?_) | (refine M4 ?_; refine SR ?_) | (refine M5 ?_; first | exact M7 | refine YM ?_ | refine YN ?_ ?_))
    refine XE.onlyN ?_
    repeat (first | (refine M0 ?_; first | refine SL ?_ | refine SB fun _ _ => ?_) | (refine XI.id ?_; first | refine XI.done ?_ | refine XI.one1 rfl ?_) | (refine XR'.id ?_; first | refine XR'.seq ?_ | refine XR'.region ?_ | refine XR'.block ?_ | refine XR'.skip ?_ | refine XR'.ret ?_ | refine XR'.cond_t rfl ?_ | refine XR'.cond_f rfl ?_ | refine XR'.exit ?_) | (refine M1 ?_; first | refine SC ?_ | refine SD ?_) | (refine M2 ?_; first | refine XE.nextI ?_ | refine XE.nextR ?_ | refine SE ?_))
    refine XR'.cond _ rfl (fun h2 => ?_) (fun h2 => ?_)
    · refine XR'.seq ?_
      refine XR'.drawRS (trunc w w.heap.size) [(g7, cel 75 [.pointer (some ⟨g, 0, none⟩)])] [0, 1, 2, 3, 5, 6] [4, 7, 8, 9, 10] mixed (fun _ h => Sys.anchorT hB3 h (fun e he => by rw [List.mem_singleton.1 he]; exact .tail _ (.tail _ (.tail _ (.head _)))) (by simp) (Nat.le_refl _)) rfl rfl (by kernel_rfl) ?_
      repeat (first | (refine M0 ?_; first | refine SL ?_ | refine SB fun _ _ => ?_ | refine Y4 (Ev.load_loc tok 0 (g := g7) (o := 0) rfl rfl rfl rfl) ?_ | refine Y4 (Ev.load_loc tok 4 (g := g) (o := 13) rfl rfl rfl rfl) ?_) | (refine M2 ?_; refine SE ?_) | (refine M3 ?_; first | refine SG ?_ | refine SF ?_ | refine YF (Ev.load_loc tok 0 (g := g7) (o := 0) rfl rfl rfl rfl) ?_ | refine YF (Ev.load_loc tok 4 (g := g) (o := 13) rfl rfl rfl rfl) ?_) | (refine M4 ?_; refine SR ?_) | (refine M5 ?_; first | exact M7 | refine YM ?_ | refine YN ?_ ?_))
      have hle : w.heap.size ≤ w.heap.size := Nat.le_refl _
      refine z7 ?_
      repeat (first | (refine M0 ?_; first | refine SL ?_ | refine SB fun _ _ => ?_) | (refine M2 ?_; refine SE ?_) | (refine M3 ?_; first | refine SG ?_ | refine SF ?_) | (refine M4 ?_; refine SR ?_) | (refine M5 ?_; first | exact M7 | refine YM ?_ | refine YN ?_ ?_))
      refine z7 ?_
      repeat (first | (refine M0 ?_; first | refine SL ?_ | refine SB fun _ _ => ?_) | (refine M2 ?_; refine SE ?_) | (refine M3 ?_; first | refine SG ?_ | refine SF ?_) | (refine M4 ?_; refine SR ?_) | (refine M5 ?_; first | exact M7 | refine YM ?_ | refine YN ?_ ?_))
      refine z7 ?_
      repeat (first | (refine M0 ?_; first | refine SL ?_ | refine SB fun _ _ => ?_ | refine XL.store_at tok 4 (g := g) (o := 13) (j := 0) (cs := gamQ ⟨vp, vf, ⟨some ah, t.m, ch⟩, ⟨Ar, t.n, cr⟩⟩ t gm Q) rfl rfl rfl rfl rfl (Nat.le_of_ble_eq_true rfl) rfl ?_) | (refine M2 ?_; refine SE ?_) | (refine M3 ?_; first | refine SG ?_ | refine SF ?_) | (refine M4 ?_; refine SR ?_) | (refine M5 ?_; first | exact M7 | refine YM ?_ | refine YN ?_ ?_))
      refine z7 ?_
      repeat (first | (refine M0 ?_; first | refine SL ?_ | refine SB fun _ _ => ?_) | (refine M2 ?_; refine SE ?_) | (refine M3 ?_; first | refine SG ?_ | refine SF ?_) | (refine M4 ?_; refine SR ?_) | (refine M5 ?_; first | exact M7 | refine YM ?_ | refine YN ?_ ?_))
      refine XE.onlyN ?_
      repeat (first | (refine M0 ?_; first | refine SL ?_ | refine SB fun _ _ => ?_) | (refine XI.id ?_; first | refine XI.done ?_ | refine XI.one1 rfl ?_) | (refine XR'.id ?_; first | refine XR'.seq ?_ | refine XR'.region ?_ | refine XR'.block ?_ | refine XR'.skip ?_ | refine XR'.ret ?_ | refine XR'.cond_t rfl ?_ | refine XR'.cond_f rfl ?_ | refine XR'.exit ?_) | (refine M1 ?_; first | refine SC ?_ | refine SD ?_) | (refine M2 ?_; first | refine XE.nextI ?_ | refine XE.nextR ?_ | refine SE ?_))
      refine XE.endExit (i := 0) rfl rfl (fun w' S => ?_)
      refine ⟨_, rfl, .inr ⟨rfl, some i, ⟨i, rfl, ?_⟩, ?_⟩⟩
      · have hlb : lastB (fun i => decide (t.limit < at0 (t.h k).vals i)) t.n = some i := lastB_some.2 ⟨hi, h2, fun j h3 h4 => decide_eq_false (by have := hJ j h3 h4; omega)⟩
        unfold hiL
        rw [hlb]
      · have hmx : max (Q : Int) ((i : Int) + 1) = ((max Q (i + 1) : Nat) : Int) := by omega
        rw [hmx] at S
        exact S
      any_goals (repeat (first | exact AnyR.nil | refine AnyR.skip rfl ?_))
    · repeat (first | (refine M0 ?_; first | refine SL ?_ | refine SB fun _ _ => ?_) | (refine XI.id ?_; first | refine XI.done ?_ | refine XI.one1 rfl ?_) | (refine XR'.id ?_; first | refine XR'.seq ?_ | refine XR'.region ?_ | refine XR'.block ?_ | refine XR'.skip ?_ | refine XR'.ret ?_ | refine XR'.cond_t rfl ?_ | refine XR'.cond_f rfl ?_ | refine XR'.exit ?_) | (refine M1 ?_; first | refine SC ?_ | refine SD ?_) | (refine M2 ?_; first | refine XE.nextI ?_ | refine XE.nextR ?_ | refine SE ?_))
      refine XE.endR (i := 0) rfl rfl (fun w' S => ?_)
      refine ⟨_, rfl, .inl ⟨rfl, none, ⟨rfl, fun j h3 h4 => ?_⟩, S⟩⟩
      rcases Nat.lt_or_ge i j with h5 | h5
      · exact hJ j h5 h4
      · have : i = j := by omega
        subst this
        have := of_decide_eq_false h2
        omega
  have hF3 : Fam w3 w.heap.size [D + 1, D, g9, g7, g, gm, g1] [] [hDef Ds] := (hF2.add (ks' := [D + 1, D, g9, g7, g, gm, g1]) (fun x hx => by
    rcases List.mem_cons.1 hx with rfl | hx
    · right; omega
    rcases List.mem_cons.1 hx with rfl | hx
    · right; omega
    · exact .inl hx)).sys S3 ZZHL
  have hkl3 : ∀ x, x ∈ [D + 1, D, g9, g7, g, gm, g1] → x < w3.heap.size := fun x hx => S3.keyLt x hx
  have hB3 : Below w.heap.size w w3 := hB2.trans S3.toBelow
  have hDn : D ∉ Ds := fun hm => by have := (hF2.held (hDef Ds) (.head _) D hm).1.2.1; omega
  have hDg : ∀ x, x ∈ [g7, g, gm, g1] → x < D := fun x hx => by have := hkl2 x (List.mem_cons_of_mem _ hx); omega
  have hfin := fun {L : Lo} (w9 : World) (S9 : Sys w.heap.size w3 L w9) (hm : (D, .deferred (some [])) ∈ L) (hL : ∀ e, e ∈ L → e.1 ∈ [D + 1, D, g9, g7, g, gm, g1] ∨ w3.heap.size ≤ e.1) => (show Below w.heap.size w w9 ∧ Fam w9 w.heap.size [g7, g, gm, g1] [] [hDef (D :: Ds)] ∧ (D :: Ds).Nodup from by
    have h3 := (hF3.sys S9 hL).add (ks' := [g7, g, gm, g1]) (fun x hx => by left; simp only [List.mem_cons, List.not_mem_nil, or_false] at hx ⊢; omega)
    have hDw := (S9.own _ hm).2
    have hDb := (S9.own _ hm).1
    have hDl := S9.lt hm
    have h4 := h3.hold (x := hDef (D :: Ds)) (ok := Free w9 w.heap.size [g7, g, gm, g1] []) (fun x hx => by
      rcases List.mem_cons.1 hx with rfl | hx
      · exact ⟨⟨hDb, hDl, fun h5 => by have := hDg x h5; omega, fun r hr => by cases hr⟩, hDw⟩
      · exact h3.held (hDef Ds) (.head _) x hx) (fun j hj => hj)
    exact ⟨hB3.trans S9.toBelow, h4.forget (fun x hx => by rw [List.mem_singleton.1 hx]; exact .head _), List.nodup_cons.2 ⟨hDn, hnd⟩⟩)
  refine hbk.mono fun e w4 ⟨v4, e4, hz⟩ => ⟨v4, e4, ?_⟩
  rcases hz with ⟨s, ⟨rfl, hall⟩, S4⟩ | ⟨s, ⟨i, rfl, hi⟩, S4⟩
  · refine ⟨.ready, none, _, w3, by decide, S4, ?_⟩
    have hq1 : t.qH (k + 1) = Q := by
      show max (t.qH k) (hiL (t.h k).vals t.limit t.n) = Q
      obtain ⟨a1, a2, _⟩ := hiL_spec (t.h k).vals t.limit t.n
      rcases a2 with a2 | ⟨j, a2, a3⟩
      · omega
      · have := hall j (Nat.zero_le _) (by omega); omega
    dsimp only [RFEnd]
    repeat (first | (refine M0 ?_; first | refine SL ?_ | refine SB fun _ _ => ?_) | (refine M1 ?_; refine SC ?_) | (refine M2 ?_; refine SE ?_))
    refine XE.roundD (s := (k, W, Ds)) (fun w9 S9 => ?_)
    obtain ⟨b1, b2, b3⟩ := hfin w9 S9 (.tail _ (.head _)) ZZHL
    refine ⟨(k + 1, w9, D :: Ds), ⟨hkm, b1, b2, fun x hx => Nat.lt_of_lt_of_le (hkl3 x (by simp only [List.mem_cons, List.not_mem_nil, or_false] at hx ⊢; omega)) S9.size, b3⟩, by simp only; omega, rfl, ZZSUB, ?_⟩
    simp only [hq1]
    exact S9.rebase ZZSM
  · refine ⟨.done, some (.exit 2), _, w3, by decide, S4, ?_⟩
    have hq1 : t.qH (k + 1) = max Q (i + 1) := by
      show max (t.qH k) (hiL (t.h k).vals t.limit t.n) = _
      rw [hi, hQ]
    dsimp only [RFEnd]
    repeat (first | (refine M0 ?_; first | refine SL ?_ | refine SB fun _ _ => ?_) | (refine M1 ?_; refine SC ?_) | (refine M2 ?_; refine SE ?_))
    refine XE.roundD (s := (k, W, Ds)) (fun w9 S9 => ?_)
    obtain ⟨b1, b2, b3⟩ := hfin w9 S9 (.tail _ (.head _)) ZZHL
    refine ⟨(k + 1, w9, D :: Ds), ⟨hkm, b1, b2, fun x hx => Nat.lt_of_lt_of_le (hkl3 x (by simp only [List.mem_cons, List.not_mem_nil, or_false] at hx ⊢; omega)) S9.size, b3⟩, by simp only; omega, rfl, ZZSUB, ?_⟩
    simp only [hq1]
    exact S9.rebase ZZSM
end X
namespace X
open Go Go.RowKit Bs
section
variable {t : CTk} {v : CTV} {b0 b1 g gm : Nat} {ks ks' : List Nat} {rs : List RowX} {hs hs' new : List Held} {w w' wE w0 w1 w2 : World} {L : Lo} {B : Nat}
theorem Gam.lower (h : Gam t v b1 g gm ks [] [] w) (hb : b0 ≤ b1) (ht : CtAt w b0 v t) (hsub : ∀ k, k ∈ ks → k ∈ ks') (hks : ∀ k, k ∈ ks' → k ∈ ks ∨ k < b1) : Gam t v b0 g gm ks' [] [] w := by
  have hl : b1 ≤ w.heap.size := h.fam.base
  refine ⟨Fam.start (Nat.le_trans hb hl), fun hk => ?_, hsub g h.gin, fun k hk => ?_, Nat.le_trans hb h.bg, Nat.le_trans hb h.bm, h.game, ht, h.memo.mono fun j hj => ⟨Nat.le_trans hb hj.1, hj.2.1, fun hk => ?_, fun r hr => by cases hr⟩⟩
  · rcases hks gm hk with h1 | h1
    · exact h.nin h1
    · have := h.bm; omega
  · rcases List.mem_cons.1 hk with rfl | hk
    · exact h.lt k (.head _)
    · rcases hks k hk with h1 | h1
      · exact h.lt k (List.mem_cons_of_mem _ h1)
      · omega
  · rcases List.mem_cons.1 hk with rfl | hk
    · exact hj.2.2.1 (.head _)
    · rcases hks j hk with h1 | h1
      · exact hj.2.2.1 (List.mem_cons_of_mem _ h1)
      · have := hj.1; omega
variable {N : Nat} {ds : List Deferred} {Q : Exit → Act → World → Prop} {F : Fr} {ops : Array Oper} {rest : List Oper} {ty : TypeId} {p : String} {af : Array Edge}
theorem XL.begin5 {d : Nat} {args : Array Operand} {ats : Array TypeId} (hT : CtAt w0 B v t) (ha : evos F args.toList = some [ctkV v t]) (hd : Nat.blt d N = true)
    (k1 : ctE t ≠ 0 → ∀ w', Below B w0 w' → XL Tryz.prog N B w' ds Q ops rest ((d, .tuple ⟨[.pointer none, .int .i64 (ctE t)]⟩) :: F) L)
    (k2 : ctE t = 0 → CtOk t → ∀ w' g gm, Gam t v B g gm (g :: L.map (·.1)) [] [] w' → Below B w0 w' → w0.heap.size ≤ g → XL Tryz.prog N B w' ds Q ops rest ((d, .tuple ⟨[.pointer (some ⟨g, 0, none⟩), .int .i64 0]⟩) :: F) ((g, gamO v t gm) :: L)) :
    XL Tryz.prog N B w0 ds Q ops ({ dst := some d, op := .call { callee := .value (.func 11), args := args, argTypes := ats }, type := ty, pos := p, after := af, guard := none } :: rest) F L := by
  refine XL.callr (fst := []) (cap := []) (fun w x w' => BegR t v w (.returned x) w') (ck rfl) rfl ha hd (fun w S => ?_) (fun w x w' S hR => ?_)
  · simp only [List.nil_append, List.append_nil]
    exact (begin_any ((hT.below S.toBelow).more (Nat.le_trans S.base S.size))).mono fun e w' hR => by
      obtain ⟨h1, h2 | h2⟩ := hR
      · exact ⟨_, h2.2, h1, .inl ⟨h2.1, rfl⟩⟩
      · obtain ⟨h3, g, gm, h4, h5⟩ := h2
        exact ⟨_, h4, h1, .inr ⟨h3, g, gm, rfl, h5⟩⟩
  · obtain ⟨h1, h2 | h2⟩ := hR
    · obtain ⟨h3, h4⟩ := h2
      cases h4
      exact ⟨L, w', S.made h1, k1 h3 w' (S.toBelow.trans (h1.mono (Nat.le_trans S.base S.size)))⟩
    · obtain ⟨h3, g, gm, h4, h5⟩ := h2
      cases h4
      have hB : Below B w0 w' := S.toBelow.trans (h1.mono (Nat.le_trans S.base S.size))
      have hgl : w.heap.size ≤ g := h5.bg
      have hlow : Gam t v B g gm (g :: L.map (·.1)) [] [] w' := h5.lower (Nat.le_trans S.base S.size) (hT.below hB) (fun k hk => by rw [List.mem_singleton.1 hk]; exact .head _) (fun k hk => by
        rcases List.mem_cons.1 hk with rfl | hk
        · exact .inl (.head _)
        · exact .inr (S.keyLt k hk))
      have S' := S.made h1
      refine ⟨(g, gamO v t gm) :: L, w', Sys.start S'.base (fun e he => ?_) ?_, k2 h3 (ctOk_of h3) w' g gm hlow hB (Nat.le_trans S.size hgl)⟩
      · rcases List.mem_cons.1 he with rfl | he
        · exact ⟨hlow.bg, hlow.game⟩
        · exact S'.own e he
      · simp only [List.map_cons, List.nodup_cons]
        refine ⟨fun hm => ?_, S.nd⟩
        have := S.keyLt g hm
        omega
variable {P : Program}
end
end X
namespace Bs
open Go X
noncomputable def CTk.plnE (t : CTk) (i : Int) : Int := if ctE t ≠ 0 then ctE t else if outB i t.from_ (t.from_ + t.last) = true then 7 else 0
noncomputable def CTk.plnP (t : CTk) (i : Int) : CPl := if t.plnE i ≠ 0 then ⟨0, 0⟩ else t.plan (i - t.from_)
end Bs
namespace X
open Go Go.RowKit Bs
set_option maxHeartbeats 4000000 in
theorem Plan_any {v : CTV} {t : CTk} {i : Int} {w : World} (h : CtAt w w.heap.size v t) :
    Calls Tryz.prog 4 #[ctkV v t, .int .i64 i] w fun e w' => e = .returned (.tuple ⟨[plnV (t.plnP i), .int .i64 (t.plnE i)]⟩) ∧ Below w.heap.size w w' := by
  simp only [ctkV, ctkC]
  refine enter Tryz.func4 rfl Tryz.ntmps4 rfl ?_; simp only [frame, Nat.zero_add, Nat.reduceAdd]
  repeat (first | (refine M0 ?_; first | refine SL ?_ | refine SB fun _ _ => ?_) | (refine M1 ?_; refine SC ?_) | (refine M2 ?_; refine SE ?_))
  refine XL.begin5 (v := v) (t := t) h rfl rfl (fun hc w1 hB1 => ?_) (fun hc ho w1 g gm hG hB1 hg1 => ?_)
  · repeat (first | (refine M0 ?_; first | refine SL ?_ | refine SB fun _ _ => ?_) | (refine M1 ?_; refine SC ?_) | (refine M2 ?_; refine SE ?_))
    rw [show decide (ctE t ≠ 0) = true from decide_eq_true hc]
    repeat (first | (refine M0 ?_; first | refine SL ?_ | refine SB fun _ _ => ?_) | (refine M1 ?_; refine SC ?_) | (refine M2 ?_; refine SE ?_))
    refine XE.retg tok Tryz.results4 rfl (by simp only [and_self, and_true]) (fun w' S => ?_)
    have e1 : t.plnE i = ctE t := by unfold CTk.plnE; rw [if_pos hc]
    exact ⟨by unfold CTk.plnP; rw [e1, if_pos hc]; rfl, hB1.trans S.toBelow⟩
  have hgame := hG.game
  have hla := fun {L : Lo} {B : Nat} (w5 : World) (S5 : Sys B w1 L w5) (hm : (g, gamO v t gm) ∈ L) => last_any (v := v) (t := t) (gm := gm) (S5.own _ hm).2 ho
  have hpl := fun {L : Lo} {B : Nat} (w5 : World) (S5 : Sys B w1 L w5) (hm : (g, gamO v t gm) ∈ L) (hi : 0 ≤ i - t.from_ ∧ i - t.from_ ≤ 1000) => plan_any (v := v) (t := t) (gm := gm) (i := i - t.from_) (S5.own _ hm).2 ho hi
  have h1 := ho.frm
  have h3 := ho.n60
  have hd := ho.dly
  have hl1 : -31 ≤ t.last ∧ t.last ≤ 60 := by unfold CTk.last; omega
  simp only [gamO, gamC]
  repeat (first | (refine M0 ?_; first | refine SL ?_ | refine SB fun _ _ => ?_) | (refine M1 ?_; refine SC ?_) | (refine M2 ?_; refine SE ?_))
  refine XC.hint 6 2 ?_
  repeat (first | (refine M0 ?_; first | refine SL ?_ | refine SB fun _ _ => ?_ | refine Y4 (Ev.call (f := 13) (ck rfl) rfl (fun w5 S5 => hla w5 S5 (.head _))) ?_ | refine Y4 (Ev.call (f := 12) (ck rfl) rfl (fun w S => cout_any _ _ _ w)) ?_) | (refine M1 ?_; first | refine SC ?_ | refine SD ?_) | (refine M2 ?_; refine SE ?_) | (refine M3 ?_; first | refine SG ?_ | refine SF ?_ | refine YF (Ev.call (f := 13) (ck rfl) rfl (fun w5 S5 => hla w5 S5 (.head _))) ?_ | refine YF (Ev.call (f := 12) (ck rfl) rfl (fun w S => cout_any _ _ _ w)) ?_) | (refine M4 ?_; refine SR ?_) | (refine M5 ?_; first | exact M7 | refine YM ?_ | refine YN ?_ ?_))
  cases ho1 : outB i t.from_ (t.from_ + t.last)
  rotate_left
  · repeat (first | (refine M0 ?_; first | refine SL ?_ | refine SB fun _ _ => ?_) | (refine M1 ?_; refine SC ?_) | (refine M2 ?_; refine SE ?_))
    refine XE.retg tok Tryz.results4 rfl (by simp only [and_self, and_true]) (fun w' S => ?_)
    have e1 : t.plnE i = 7 := by unfold CTk.plnE; rw [if_neg (by simp [hc]), if_pos ho1]
    exact ⟨by unfold CTk.plnP; rw [e1, if_pos (by decide)]; rfl, hB1.trans S.toBelow⟩
  have hi := outB_f.1 ho1
  repeat (first | (refine M0 ?_; first | refine SL ?_ | refine SB fun _ _ => ?_ | refine Y4 (Ev.call (f := 14) (ck rfl) rfl (fun w5 S5 => hpl w5 S5 (.head _) (by omega))) ?_) | (refine M1 ?_; refine SC ?_) | (refine M2 ?_; refine SE ?_))
  refine XE.retg tok Tryz.results4 rfl (by simp only [and_self, and_true]) (fun w' S => ?_)
  have e1 : t.plnE i = 0 := by unfold CTk.plnE; rw [if_neg (by simp [hc]), if_neg (by simp [ho1])]
  exact ⟨by unfold CTk.plnP; rw [e1, if_neg (by decide)]; rfl, hB1.trans S.toBelow⟩
end X
end Go.Proofs.YtgddcbpbadookaaGreatDoor
