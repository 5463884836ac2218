/-
  The plain words of layer 4: the piece of the table in which a volume lies, and its exact level.
-/
import Derived.Test.YtoiepgcjinccpaaDoorBsDefs
namespace Go.Proofs.YtoiepgcjinccpaaDoor.Bs
set_option linter.unusedVariables false

/-- the rows are in order. -/
structure RowsOk (b : Bas) : Prop where
  n2 : 2 ≤ b.rows.length
  n12 : b.rows.length ≤ 12
  level : ∀ i, i < b.rows.length → -20000 ≤ (b.row i).level ∧ (b.row i).level ≤ 20000
  vol : ∀ i, i < b.rows.length → 0 ≤ (b.row i).vol ∧ (b.row i).vol ≤ 1000000000
  levelUp : ∀ i, i + 1 < b.rows.length → (b.row i).level < (b.row (i + 1)).level
  volUp : ∀ i, i + 1 < b.rows.length → (b.row i).vol < (b.row (i + 1)).vol
theorem rowsOk_of {b : Bas} (h0 : outB b.rows.length 2 12 = false) (h : ∀ j, j < b.rows.length → rowErr b j = 0) : RowsOk b := by
  have h0 := outB_f.1 h0
  exact ⟨by omega, by omega, fun i hi => (rowErr_0 (h i hi)).1, fun i hi => (rowErr_0 (h i hi)).2.1, fun i hi => ((rowErr_0 (h (i + 1) hi)).2.2 (by omega)).1, fun i hi => ((rowErr_0 (h (i + 1) hi)).2.2 (by omega)).2⟩
theorem Ok.rowsOk {b : Bas} (h : Ok b) : RowsOk b := ⟨h.n2, h.n12, h.level, h.vol, h.levelUp, h.volUp⟩
theorem RowsOk.lt {b : Bas} (h : RowsOk b) {i : Nat} : ∀ {j : Nat}, i < j → j < b.rows.length → (b.row i).vol < (b.row j).vol ∧ (b.row i).level < (b.row j).level := by
  intro j
  induction j with
  | zero => intro h; omega
  | succ j ih =>
    intro hij hj
    have h1 := h.volUp j hj
    have h2 := h.levelUp j hj
    by_cases e : i = j
    · subst e; exact ⟨h1, h2⟩
    · have := ih (by omega) (by omega); omega
/-- how many rows lie below a volume. -/
def cntTo (b : Bas) (v : Int) : Nat → Nat
  | 0 => 0
  | k + 1 => if (b.row k).vol < v then k + 1 else cntTo b v k
theorem cntTo_eq {b : Bas} {v : Int} {i : Nat} : ∀ {n : Nat}, i ≤ n → (∀ j, j < i → (b.row j).vol < v) → (∀ j, i ≤ j → j < n → v ≤ (b.row j).vol) → cntTo b v n = i := by
  intro n
  induction n with
  | zero => intro h _ _; simp [cntTo]; omega
  | succ n ih =>
    intro h h1 h2
    unfold cntTo
    by_cases e : i = n + 1
    · rw [if_pos (h1 n (by omega))]; omega
    · have := h2 n (by omega) (by omega)
      rw [if_neg (by omega)]
      exact ih (by omega) h1 fun j hj hjn => h2 j hj (by omega)
theorem cntTo_spec {b : Bas} (h : RowsOk b) {v : Int} : ∀ {n : Nat}, n ≤ b.rows.length → cntTo b v n ≤ n ∧ (∀ j, j < cntTo b v n → (b.row j).vol < v) ∧ (∀ j, cntTo b v n ≤ j → j < n → v ≤ (b.row j).vol) := by
  intro n
  induction n with
  | zero => intro _; exact ⟨Nat.le_refl _, fun j hj => by simp [cntTo] at hj, fun j _ hj => by omega⟩
  | succ n ih =>
    intro hn
    unfold cntTo
    by_cases hc : (b.row n).vol < v
    · rw [if_pos hc]
      refine ⟨Nat.le_refl _, fun j hj => ?_, fun j h1 h2 => by omega⟩
      by_cases e : j = n
      · subst e; exact hc
      · have := (h.lt (i := j) (j := n) (by omega) (by omega)).1; omega
    · rw [if_neg hc]
      obtain ⟨h1, h2, h3⟩ := ih (by omega)
      refine ⟨by omega, h2, fun j h4 h5 => ?_⟩
      by_cases e : j = n
      · subst e; omega
      · exact h3 j h4 (by omega)
/-- the piece, as the document looks for it. -/
def segTo (b : Bas) (v : Int) : Nat → Nat
  | 0 => 0
  | k + 1 => if (b.row (k + 1)).vol ≤ v then k + 1 else segTo b v k
def seg (b : Bas) (v : Int) : Nat := segTo b v (b.rows.length - 2)
theorem segTo_eq {b : Bas} {v : Int} {s : Nat} : ∀ {n : Nat}, s ≤ n → (s = 0 ∨ (b.row s).vol ≤ v) → (∀ j, s < j → j ≤ n → v < (b.row j).vol) → segTo b v n = s := by
  intro n
  induction n with
  | zero => intro h _ _; simp [segTo]; omega
  | succ n ih =>
    intro h h1 h2
    unfold segTo
    by_cases e : s = n + 1
    · have : (b.row (n + 1)).vol ≤ v := by
        rcases h1 with h1 | h1
        · omega
        · rw [← e]; exact h1
      rw [if_pos this]; omega
    · have := h2 (n + 1) (by omega) (by omega)
      rw [if_neg (by omega)]
      exact ih (by omega) h1 fun j hj hjn => h2 j hj (by omega)
theorem segTo_spec {b : Bas} {v : Int} : ∀ (n : Nat), segTo b v n ≤ n ∧ (segTo b v n = 0 ∨ (b.row (segTo b v n)).vol ≤ v) ∧ (∀ j, segTo b v n < j → j ≤ n → v < (b.row j).vol) := by
  intro n
  induction n with
  | zero => exact ⟨by simp [segTo], .inl rfl, fun j h1 h2 => by omega⟩
  | succ n ih =>
    unfold segTo
    by_cases h : (b.row (n + 1)).vol ≤ v
    · rw [if_pos h]; exact ⟨by omega, .inr h, fun j h1 h2 => by omega⟩
    · rw [if_neg h]
      refine ⟨by omega, ih.2.1, fun j h1 h2 => ?_⟩
      by_cases e : j = n + 1
      · subst e; omega
      · exact ih.2.2 j h1 (by omega)
theorem seg_lt {b : Bas} (h : RowsOk b) (v : Int) : seg b v + 1 < b.rows.length := by
  have := (segTo_spec (b := b) (v := v) (b.rows.length - 2)).1
  have := h.n2
  unfold seg; omega
/-- the exact level is num / den. -/
def den (b : Bas) (v : Int) : Int := (b.row (seg b v + 1)).vol - (b.row (seg b v)).vol
def num (b : Bas) (v : Int) : Int := (b.row (seg b v)).level * den b v + (v - (b.row (seg b v)).vol) * ((b.row (seg b v + 1)).level - (b.row (seg b v)).level)
theorem den_pos {b : Bas} (h : RowsOk b) (v : Int) : 1 ≤ den b v ∧ den b v ≤ 1000000000 := by
  have h1 := h.volUp _ (seg_lt h v)
  have h2 := h.vol _ (seg_lt h v)
  have h3 := h.vol (seg b v) (by have := seg_lt h v; omega)
  unfold den; omega
/-- what BinarySearchFunc's answer comes to. -/
theorem seg_of_cnt {b : Bas} (h : RowsOk b) {v : Int} (hv : (b.row 0).vol ≤ v) {i : Nat} (hi : i ≤ b.rows.length) (h1 : ∀ j, j < i → (b.row j).vol < v) (h2 : ∀ j, i ≤ j → j < b.rows.length → v ≤ (b.row j).vol) :
    min (if i < b.rows.length ∧ (b.row i).vol = v then i else i - 1) (b.rows.length - 2) = seg b v ∧ (¬ (i < b.rows.length ∧ (b.row i).vol = v) → 1 ≤ i) := by
  have hn := h.n2
  have hi0 : ¬ (i < b.rows.length ∧ (b.row i).vol = v) → 1 ≤ i := by
    intro hne
    rcases Nat.eq_zero_or_pos i with h0 | h0
    · subst h0
      have := h2 0 (by omega) (by omega)
      exact absurd ⟨by omega, by omega⟩ hne
    · exact h0
  refine ⟨?_, hi0⟩
  symm
  unfold seg
  by_cases he : i < b.rows.length ∧ (b.row i).vol = v
  · rw [if_pos he]
    refine segTo_eq (by omega) ?_ fun j hj hjn => ?_
    · by_cases hm : i ≤ b.rows.length - 2
      · rw [Nat.min_eq_left hm]; exact .inr (by omega)
      · rw [Nat.min_eq_right (by omega)]; exact .inr (by have := (h.lt (i := b.rows.length - 2) (j := i) (by omega) he.1).1; omega)
    · have := (h.lt (i := i) (j := j) (by omega) (by omega)).1; omega
  · rw [if_neg he]
    have h0 := hi0 he
    refine segTo_eq (by omega) ?_ fun j hj hjn => ?_
    · by_cases hm : i - 1 ≤ b.rows.length - 2
      · rw [Nat.min_eq_left hm]; exact .inr (by have := h1 (i - 1) (by omega); omega)
      · rw [Nat.min_eq_right (by omega)]; exact .inr (by have := h1 (b.rows.length - 2) (by omega); omega)
    · have h3 := h2 j (by omega) (by omega)
      by_cases e : (b.row j).vol = v
      · by_cases e2 : j = i
        · subst e2; exact absurd ⟨by omega, e⟩ he
        · have := (h.lt (i := i) (j := j) (by omega) (by omega)).1
          have := h2 i (by omega) (by omega)
          omega
      · omega
end Go.Proofs.YtoiepgcjinccpaaDoor.Bs
