/-
  Words for memory: a slice that reads as a list of cells; what is kept of it.
-/
import Derived.Test.YtoiepgcjinccpaaDoorEng5
namespace Go.Proofs.YtoiepgcjinccpaaDoor.X
open Go Go.RowKit
set_option linter.unusedVariables false

theorem add_add (a : Addr) (i j : Nat) : (a.add i).add j = a.add (i + j) := by
  unfold Addr.add
  by_cases hi : i = 0 <;> by_cases hj : j = 0 <;> simp [hi, hj, Nat.add_assoc]

theorem add_lt {a : Addr} {B j : Nat} (h : a.block < B) : (a.add j).block < B := by rw [add_block]; exact h
theorem add_lt2 {a : Addr} {B i j : Nat} (h : a.block < B) : ((a.add i).add j).block < B := add_lt (add_lt h)
/-- the slice value '.slice A n c' holds the cells xs, 'size' of them an element, all below block B. -/
def Reads (w : World) (B size : Nat) (A : Option Addr) (n : Nat) (xs : List Value) : Prop :=
  xs.length = n * size ∧ (0 < n → ∃ ad, A = some ad ∧ ad.block < B ∧ ∀ j u, xs[j]? = some u → w.cell? (ad.add j) = some u)

section
variable {w w' : World} {B B' size n : Nat} {A : Option Addr} {xs : List Value}
theorem Reads.none_ : Reads w B size A 0 [] := ⟨by simp, fun h => absurd h (by omega)⟩
theorem Reads.addr (h : Reads w B size A n xs) (hn : 0 < n) : ∃ ad, A = some ad ∧ ad.block < B := by
  obtain ⟨ad, e, hb, _⟩ := h.2 hn
  exact ⟨ad, e, hb⟩
/-- the cell j of element k. -/
theorem Reads.at_ {ad : Addr} (h : Reads w B size (some ad) n xs) {k j : Nat} (hk : k < n) (hj : j < size) : ∃ u, xs[k * size + j]? = some u ∧ w.cell? ((ad.add (k * size)).add j) = some u := by
  obtain ⟨ad', e, hb, hc⟩ := h.2 (by omega)
  obtain rfl := Option.some.inj e
  have h1 : k * size + size ≤ n * size := by rw [← Nat.succ_mul]; exact Nat.mul_le_mul_right _ hk
  have hl : k * size + j < xs.length := by rw [h.1]; omega
  exact ⟨xs[k * size + j], List.getElem?_eq_getElem hl, by rw [add_add]; exact hc _ _ (List.getElem?_eq_getElem hl)⟩
theorem Reads.keep (h : Reads w B size A n xs) (hk : ∀ p : Addr, p.block < B → w'.cell? p = w.cell? p) : Reads w' B size A n xs :=
  ⟨h.1, fun hn => by
    obtain ⟨ad, e, hb, hc⟩ := h.2 hn
    exact ⟨ad, e, hb, fun j u hu => (hk _ (by rw [add_block]; exact hb)).trans (hc j u hu)⟩⟩
theorem Reads.more (h : Reads w B size A n xs) (hB : B ≤ B') : Reads w B' size A n xs :=
  ⟨h.1, fun hn => by
    obtain ⟨ad, e, hb, hc⟩ := h.2 hn
    exact ⟨ad, e, by omega, hc⟩⟩
theorem Reads.below (h : Reads w B size A n xs) (hb : Below B w w') : Reads w' B size A n xs := h.keep fun _ hp => hb.cell hp
end

/-- a list of numbers as cells. -/
def ints (l : List Int) : List Value := l.map (.int .i64)
theorem ints_at {l : List Int} {k : Nat} {u : Value} (h : (ints l)[k]? = some u) : u = .int .i64 (l[k]?.getD 0) := by
  unfold ints at h
  rw [List.getElem?_map] at h
  cases hx : l[k]? with
  | none => rw [hx] at h; cases h
  | some x => rw [hx] at h; exact (Option.some.inj h).symm
theorem ints_len (l : List Int) : (ints l).length = l.length := by simp [ints]

/-- elements of several cells each, one behind the other. -/
theorem flat_len {α : Type} (f : α → List Value) (s : Nat) (hs : ∀ x, (f x).length = s) : ∀ l : List α, (l.flatMap f).length = l.length * s := by
  intro l
  induction l with
  | nil => simp
  | cons x l ih => simp [hs, ih, Nat.succ_mul]; omega
theorem flat_at {α : Type} (f : α → List Value) (s : Nat) (hs : ∀ x, (f x).length = s) : ∀ (l : List α) (k j : Nat) (x : α), l[k]? = some x → j < s → (l.flatMap f)[k * s + j]? = (f x)[j]? := by
  intro l
  induction l with
  | nil => intro k j x h; simp at h
  | cons y l ih =>
    intro k j x h hj
    cases k with
    | zero =>
      simp only [List.getElem?_cons_zero, Option.some.injEq] at h
      subst h
      simp only [List.flatMap_cons, Nat.zero_mul, Nat.zero_add]
      rw [List.getElem?_append_left (by rw [hs]; exact hj)]
    | succ k =>
      simp only [List.flatMap_cons]
      rw [List.getElem?_append_right (by rw [hs, Nat.succ_mul]; omega), hs, show (k + 1) * s + j - s = k * s + j from by rw [Nat.succ_mul]; omega]
      exact ih k j x (by simpa using h) hj
/-- a cell of an element of a slice of structs. -/
theorem Reads.fld {α : Type} {w : World} {B s n : Nat} {ad : Addr} {f : α → List Value} (hs : ∀ x, (f x).length = s) {l : List α} (h : Reads w B s (some ad) n (l.flatMap f)) {k j : Nat} {x : α} {u : Value}
    (hx : l[k]? = some x) (hj : (f x)[j]? = some u) : w.cell? ((ad.add (k * s)).add j) = some u := by
  have hjs : j < s := by have := (List.getElem?_eq_some_iff.1 hj).1; rw [hs] at this; exact this
  have hk : k < n := by
    have h1 := h.1
    rw [flat_len f s hs] at h1
    have h2 := (List.getElem?_eq_some_iff.1 hx).1
    have : l.length = n := Nat.eq_of_mul_eq_mul_right (by omega) h1
    omega
  obtain ⟨v, hv, hc⟩ := h.at_ hk hjs
  rw [flat_at f s hs l k j x hx hjs, hj] at hv
  rw [hc, ← hv]
theorem Reads.len {α : Type} {w : World} {B s n : Nat} {A : Option Addr} {f : α → List Value} (hs : ∀ x, (f x).length = s) (h0 : 0 < s) {l : List α} (h : Reads w B s A n (l.flatMap f)) : l.length = n := by
  have h1 := h.1
  rw [flat_len f s hs] at h1
  exact Nat.eq_of_mul_eq_mul_right h0 h1
end Go.Proofs.YtoiepgcjinccpaaDoor.X
