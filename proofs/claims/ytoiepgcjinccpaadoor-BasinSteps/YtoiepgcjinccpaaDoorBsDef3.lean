/-
  The plain words of layer 4: bounds of the exact level; what is rounded down.
-/
import Derived.Test.YtoiepgcjinccpaaDoorBsDef2
namespace Go.Proofs.YtoiepgcjinccpaaDoor.Bs
set_option linter.unusedVariables false
theorem mul_bd {x y X Y : Int} (hx : -X ≤ x ∧ x ≤ X) (hy : -Y ≤ y ∧ y ≤ Y) : -(X * Y) ≤ x * y ∧ x * y ≤ X * Y := by
  have hX : 0 ≤ X := by omega
  have hY : 0 ≤ Y := by omega
  have h1 : x.natAbs ≤ X.natAbs := by omega
  have h2 : y.natAbs ≤ Y.natAbs := by omega
  have h3 : (x * y).natAbs ≤ (X * Y).natAbs := by rw [Int.natAbs_mul, Int.natAbs_mul]; exact Nat.mul_le_mul h1 h2
  have h4 : 0 ≤ X * Y := Int.mul_nonneg hX hY
  omega
theorem seg_vol {b : Bas} {v : Int} (hv : (b.row 0).vol ≤ v) : (b.row (seg b v)).vol ≤ v := by
  rcases (segTo_spec (b := b) (v := v) (b.rows.length - 2)).2.1 with h | h
  · unfold seg; rw [h]; exact hv
  · exact h
section
variable {b : Bas} (h : RowsOk b) {v : Int} (hv : (b.row 0).vol ≤ v ∧ v ≤ 1000000000)
include h hv
/-- the parts of the exact level. -/
theorem parts_bd : (-20000 ≤ (b.row (seg b v)).level ∧ (b.row (seg b v)).level ≤ 20000) ∧ (1 ≤ den b v ∧ den b v ≤ 1000000000) ∧ (0 ≤ v - (b.row (seg b v)).vol ∧ v - (b.row (seg b v)).vol ≤ 1000000000) ∧
    (1 ≤ (b.row (seg b v + 1)).level - (b.row (seg b v)).level ∧ (b.row (seg b v + 1)).level - (b.row (seg b v)).level ≤ 40000) := by
  have hs := seg_lt h v
  have h1 := h.level _ (show seg b v < b.rows.length by omega)
  have h2 := h.level _ hs
  have h3 := h.levelUp _ hs
  have h4 := h.vol _ (show seg b v < b.rows.length by omega)
  have h5 := seg_vol hv.1
  exact ⟨h1, den_pos h v, by omega, by omega⟩
theorem terms_bd : (-20000000000000 ≤ (b.row (seg b v)).level * den b v ∧ (b.row (seg b v)).level * den b v ≤ 20000000000000) ∧
    (0 ≤ (v - (b.row (seg b v)).vol) * ((b.row (seg b v + 1)).level - (b.row (seg b v)).level) ∧ (v - (b.row (seg b v)).vol) * ((b.row (seg b v + 1)).level - (b.row (seg b v)).level) ≤ 40000000000000) := by
  obtain ⟨h1, h2, h3, h4⟩ := parts_bd h hv
  have m1 := mul_bd (X := 20000) (Y := 1000000000) (x := (b.row (seg b v)).level) (y := den b v) (by omega) (by omega)
  have m2 := mul_bd (X := 1000000000) (Y := 40000) (x := v - (b.row (seg b v)).vol) (y := (b.row (seg b v + 1)).level - (b.row (seg b v)).level) (by omega) (by omega)
  have m3 : 0 ≤ (v - (b.row (seg b v)).vol) * ((b.row (seg b v + 1)).level - (b.row (seg b v)).level) := Int.mul_nonneg h3.1 (by omega)
  exact ⟨by omega, m3, by omega⟩
theorem num_bd : -20000000000000 ≤ num b v ∧ num b v ≤ 60000000000000 := by
  have := terms_bd h hv
  unfold num; omega
end
/-- Go's division, then 1 less where it went up: rounded down. -/
theorem tdiv_bd {a b : Int} (hb : 1 ≤ b) : -(a.natAbs : Int) ≤ a.tdiv b ∧ a.tdiv b ≤ a.natAbs := by
  have h1 : (a.tdiv b).natAbs = a.natAbs / b.natAbs := Int.natAbs_tdiv a b
  have h2 : a.natAbs / b.natAbs ≤ a.natAbs := Nat.div_le_self _ _
  omega
theorem tdiv_mul {a b : Int} (hb : 1 ≤ b) : -(a.natAbs : Int) ≤ a.tdiv b * b ∧ a.tdiv b * b ≤ a.natAbs ∧ (0 ≤ a → a.tdiv b * b ≤ a ∧ a < a.tdiv b * b + b) ∧ (a ≤ 0 → a ≤ a.tdiv b * b ∧ a.tdiv b * b < a + b) := by
  have e := Int.mul_tdiv_add_tmod a b
  rw [Int.mul_comm] at e
  rcases Int.le_total 0 a with h | h
  · have h1 := Int.tmod_nonneg b h
    have h2 := Int.tmod_lt_of_pos a (show 0 < b by omega)
    have h3 : 0 ≤ a.tdiv b := Int.tdiv_nonneg h (by omega)
    have h4 : 0 ≤ a.tdiv b * b := Int.mul_nonneg h3 (by omega)
    refine ⟨by omega, by omega, fun _ => by omega, fun h' => ?_⟩
    have : a = 0 := by omega
    subst this
    simp
    omega
  · have h1 : a.tmod b ≤ 0 := by
      have := Int.tmod_nonneg b (show 0 ≤ -a by omega)
      rw [Int.neg_tmod] at this; omega
    have h2 : -b < a.tmod b := by
      have := Int.tmod_lt_of_pos (-a) (show 0 < b by omega)
      rw [Int.neg_tmod] at this; omega
    have h3 : a.tdiv b ≤ 0 := by
      have := Int.tdiv_nonneg (show 0 ≤ -a by omega) (show 0 ≤ b by omega)
      rw [Int.neg_tdiv] at this; omega
    have h4 : a.tdiv b * b ≤ 0 := Int.mul_nonpos_of_nonpos_of_nonneg h3 (by omega)
    refine ⟨by omega, by omega, fun h' => ?_, fun _ => by omega⟩
    have : a = 0 := by omega
    subst this
    simp
    omega
theorem floor_eq {a b : Int} (hb : 1 ≤ b) : a / b = if a < a.tdiv b * b then a.tdiv b - 1 else a.tdiv b := by
  obtain ⟨_, _, h1, h2⟩ := tdiv_mul (a := a) hb
  have key : ∀ q : Int, q * b ≤ a → a < q * b + b → a / b = q := fun q h3 h4 => by
    have h5 : q ≤ a / b := (Int.le_ediv_iff_mul_le (by omega)).2 h3
    have h6 : a / b < q + 1 := (Int.ediv_lt_iff_lt_mul (by omega)).2 (by rw [Int.add_mul]; omega)
    omega
  by_cases hc : a < a.tdiv b * b
  · rw [if_pos hc]
    refine key _ ?_ ?_
    · rw [Int.sub_mul]
      rcases Int.le_total 0 a with h | h
      · have := h1 h; omega
      · have := h2 h; omega
    · rw [Int.sub_mul]; omega
  · rw [if_neg hc]
    refine key _ (by omega) ?_
    rcases Int.le_total 0 a with h | h
    · have := h1 h; omega
    · have := h2 h; omega
theorem floor_bd {a b : Int} (hb : 1 ≤ b) : -(a.natAbs : Int) ≤ a / b ∧ a / b ≤ a.natAbs := by
  have h1 := Int.ediv_mul_le a (show b ≠ 0 by omega)
  rcases Int.le_total 0 a with h | h
  · have h2 : 0 ≤ a / b := Int.ediv_nonneg h (by omega)
    have h3 : a / b ≤ a := Int.ediv_le_self b h
    omega
  · have h2 : a / b ≤ 0 := Int.ediv_nonpos_of_nonpos_of_neg h (by omega)
    have h3 : a ≤ a / b := by
      have : a * b ≤ a * 1 := Int.mul_le_mul_of_nonpos_left h hb
      exact (Int.le_ediv_iff_mul_le (by omega)).2 (by omega)
    omega
theorem down_eq {a b : Int} (hb : 1 ≤ b) : a / b = if a.tmod b < 0 then a.tdiv b - 1 else a.tdiv b := by
  have e := Int.mul_tdiv_add_tmod a b
  rw [Int.mul_comm] at e
  rw [floor_eq hb]
  by_cases hc : a < a.tdiv b * b
  · rw [if_pos hc, if_pos (by omega)]
  · rw [if_neg hc, if_neg (by omega)]
end Go.Proofs.YtoiepgcjinccpaaDoor.Bs
