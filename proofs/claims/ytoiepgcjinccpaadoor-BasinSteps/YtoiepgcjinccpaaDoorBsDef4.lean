/-
  The plain words of layer 4: a tick.
-/
import Derived.Test.YtoiepgcjinccpaaDoorBsDef3
import Derived.Test.YtoiepgcjinccpaaDoorBsMem2
namespace Go.Proofs.YtoiepgcjinccpaaDoor.Bs
set_option linter.unusedVariables false
def Bas.v0 (b : Bas) : Int := (b.row 0).vol
/-- what leaks. -/
def leakQ (b : Bas) (outer v : Int) : Int := b.leak * (-(num b v) - (-outer) * den b v) / den b v
def leakOf (b : Bas) (outer v : Int) : Int := max (leakQ b outer v) (b.v0 - v)
/-- what polder i takes of the volume v, if so much has filled it. -/
def takeOf (b : Bas) (i : Nat) (v fil : Int) : Int := if (b.pol i).sill * den b v < num b v then min ((b.pol i).take * (num b v - (b.pol i).sill * den b v) / den b v) ((b.pol i).room - fil) else 0
/-- the volume when k polders have been flooded. -/
def polV (b : Bas) (s : Sta) (v : Int) : Nat → Int
  | 0 => v
  | k + 1 => polV b s v k - takeOf b k (polV b s v k) (s.f k)
def polT (b : Bas) (s : Sta) (v : Int) (k : Nat) : Int := takeOf b k (polV b s v k) (s.f k)
def rg (n : Nat) (f : Nat → Int) : List Int := (List.range n).map f
theorem rg_len (n : Nat) (f : Nat → Int) : (rg n f).length = n := by simp [rg]
theorem rg_at {n : Nat} {f : Nat → Int} {i : Nat} (h : i < n) : (rg n f)[i]?.getD 0 = f i := by simp [rg, h]
theorem rg_succ (n : Nat) (f : Nat → Int) : rg (n + 1) f = rg n f ++ [f n] := by simp [rg, List.range_succ]
section
variable (b : Bas) (s : Sta) (t : Tick)
def tickBad : Bool := highB t.outer || (outB t.river 0 10000000 || outB t.out 0 10000000)
def vol1 : Int := s.vol + t.river
def overOf : Int := b.over * max 0 (t.outer - b.crest)
def vol2 : Int := vol1 s t + overOf b t
def vol3 : Int := vol2 b s t + leakOf b t.outer (vol2 b s t)
def outOf : Int := min t.out (vol3 b s t - b.v0)
def vol4 : Int := vol3 b s t - outOf b s t
def stepE : Int := if tickBad t then 7 else if 1000000000 < vol1 s t then 3 else if 1000000000 < vol2 b s t then 3 else if 1000000000 < vol3 b s t then 3 else 0
def stepS : Sta := ⟨polV b s (vol4 b s t) b.pols.length, rg b.pols.length fun i => s.f i + polT b s (vol4 b s t) i⟩
def stepF : Flo := ⟨t.river, overOf b t, leakOf b t.outer (vol2 b s t), outOf b s t, rg b.pols.length fun i => polT b s (vol4 b s t) i⟩
end
theorem great_le (b : Bas) : ∀ (n i : Nat), i < n → (b.pol i).take ≤ great b n := by
  intro n
  induction n with
  | zero => intro i h; omega
  | succ n ih =>
    intro i h
    unfold great
    by_cases e : i = n
    · subst e; omega
    · have := ih i (by omega); omega
theorem great_leak (b : Bas) : ∀ n, b.leak ≤ great b n := by
  intro n
  induction n with
  | zero => simp [great]
  | succ n ih => unfold great; omega
section
variable {b : Bas} (h : Ok b)
include h
theorem great_bd : 0 ≤ great b b.pols.length ∧ great b b.pols.length ≤ 10000 := by
  have : ∀ n, n ≤ b.pols.length → 0 ≤ great b n ∧ great b n ≤ 10000 := by
    intro n
    induction n with
    | zero => intro _; exact h.leak
    | succ n ih => intro hn; have := ih (by omega); have := h.take n (by omega); unfold great; omega
  exact this _ (Nat.le_refl _)
theorem wide_rows : ∀ i, i < b.rows.length → great b b.pols.length * ((b.row i).level - (b.row 0).level) ≤ (b.row i).vol - (b.row 0).vol := by
  intro i
  induction i with
  | zero => intro _; simp
  | succ i ih =>
    intro hi
    have h1 := ih (by omega)
    have h2 := h.wide i hi
    unfold wideAt at h2
    have e : great b b.pols.length * ((b.row (i + 1)).level - (b.row 0).level) = great b b.pols.length * ((b.row i).level - (b.row 0).level) + great b b.pols.length * ((b.row (i + 1)).level - (b.row i).level) := by rw [← Int.mul_add]; congr 1; omega
    omega
omit h in
theorem alg1 (G a a0 x dl d : Int) : G * ((a * d + x * dl) - a0 * d) = (G * (a - a0)) * d + x * (G * dl) := by grind
/-- so much above the first row's level is at most so much above its volume. -/
theorem wide_key {v : Int} (hv : b.v0 ≤ v) : great b b.pols.length * (num b v - (b.row 0).level * den b v) ≤ (v - b.v0) * den b v := by
  have hs := seg_lt h.rowsOk v
  have h1 := wide_rows h (seg b v) (by omega)
  have h2 := h.wide (seg b v) hs
  unfold wideAt at h2
  have h3 := seg_vol (b := b) (v := v) hv
  have hd := den_pos h.rowsOk v
  obtain ⟨G, hG⟩ : ∃ G, G = great b b.pols.length := ⟨_, rfl⟩
  rw [← hG] at h1 h2 ⊢
  have e : G * (num b v - (b.row 0).level * den b v) = (G * ((b.row (seg b v)).level - (b.row 0).level)) * den b v + (v - (b.row (seg b v)).vol) * (G * ((b.row (seg b v + 1)).level - (b.row (seg b v)).level)) := by
    unfold num
    exact alg1 _ _ _ _ _ _
  rw [e]
  have h4 : (G * ((b.row (seg b v)).level - (b.row 0).level)) * den b v ≤ ((b.row (seg b v)).vol - (b.row 0).vol) * den b v := Int.mul_le_mul_of_nonneg_right h1 (by omega)
  have h5 : (v - (b.row (seg b v)).vol) * (G * ((b.row (seg b v + 1)).level - (b.row (seg b v)).level)) ≤ (v - (b.row (seg b v)).vol) * den b v := Int.mul_le_mul_of_nonneg_left h2 (by omega)
  have h6 : (v - b.v0) * den b v = ((b.row (seg b v)).vol - (b.row 0).vol) * den b v + (v - (b.row (seg b v)).vol) * den b v := by
    rw [← Int.add_mul]; congr 1; unfold Bas.v0; omega
  omega
/-- the bounds of what a polder takes. -/
theorem takeOf_bd {v : Int} (hv : b.v0 ≤ v ∧ v ≤ 1000000000) {i : Nat} (hi : i < b.pols.length) {fil : Int} (hf : 0 ≤ fil ∧ fil ≤ (b.pol i).room) :
    0 ≤ takeOf b i v fil ∧ takeOf b i v fil ≤ v - b.v0 ∧ takeOf b i v fil ≤ (b.pol i).room - fil := by
  unfold takeOf
  have hd := den_pos h.rowsOk v
  have ht := h.take i hi
  have hsl := h.sill i hi
  by_cases hc : (b.pol i).sill * den b v < num b v
  · rw [if_pos hc]
    have h1 : 0 ≤ (b.pol i).take * (num b v - (b.pol i).sill * den b v) := Int.mul_nonneg ht.1 (by omega)
    have h2 : 0 ≤ (b.pol i).take * (num b v - (b.pol i).sill * den b v) / den b v := Int.ediv_nonneg h1 (by omega)
    have h3 : (b.pol i).take * (num b v - (b.pol i).sill * den b v) / den b v ≤ v - b.v0 := by
      have h4 := wide_key h hv.1
      have h5 : (b.row 0).level * den b v ≤ (b.pol i).sill * den b v := Int.mul_le_mul_of_nonneg_right hsl.1 (by omega)
      have h6 : (b.pol i).take * (num b v - (b.pol i).sill * den b v) ≤ great b b.pols.length * (num b v - (b.row 0).level * den b v) :=
        Int.le_trans (Int.mul_le_mul_of_nonneg_right (great_le b _ i hi) (by omega)) (Int.mul_le_mul_of_nonneg_left (by omega) (great_bd h).1)
      have h7 : (b.pol i).take * (num b v - (b.pol i).sill * den b v) / den b v ≤ (v - b.v0) * den b v / den b v := Int.ediv_le_ediv (by omega) (by omega)
      rw [Int.mul_ediv_cancel _ (by omega)] at h7
      exact h7
    omega
  · rw [if_neg hc]; omega
theorem polV_bd {s : Sta} (hs : StaOk b s) {v : Int} (hv : b.v0 ≤ v ∧ v ≤ 1000000000) : ∀ k, k ≤ b.pols.length → b.v0 ≤ polV b s v k ∧ polV b s v k ≤ v := by
  intro k
  induction k with
  | zero => intro _; simp [polV]; exact hv.1
  | succ k ih =>
    intro hk
    have h1 := ih (by omega)
    have h2 := takeOf_bd h (v := polV b s v k) (by omega) (i := k) (by omega) (hs.fil k (by omega))
    unfold polV; omega
theorem v0_bd : 0 ≤ b.v0 ∧ b.v0 ≤ 1000000000 := h.vol 0 (by have := h.n2; omega)
/-- where no error is: the volumes. -/
structure StepOk (b : Bas) (s : Sta) (t : Tick) : Prop where
  outer : -20000 ≤ t.outer ∧ t.outer ≤ 20000
  river : 0 ≤ t.river ∧ t.river ≤ 10000000
  out : 0 ≤ t.out ∧ t.out ≤ 10000000
  v1 : b.v0 ≤ vol1 s t ∧ vol1 s t ≤ 1000000000
  v2 : b.v0 ≤ vol2 b s t ∧ vol2 b s t ≤ 1000000000
  v3 : b.v0 ≤ vol3 b s t ∧ vol3 b s t ≤ 1000000000
  v4 : b.v0 ≤ vol4 b s t ∧ vol4 b s t ≤ 1000000000
theorem over_bd (t : Tick) (ht : -20000 ≤ t.outer ∧ t.outer ≤ 20000) : 0 ≤ overOf b t ∧ overOf b t ≤ 400000000 := by
  have h1 := h.over
  have h2 := h.crest
  have h3 := mul_bd (X := 10000) (Y := 40000) (x := b.over) (y := max 0 (t.outer - b.crest)) (by omega) (by omega)
  have h4 : 0 ≤ b.over * max 0 (t.outer - b.crest) := Int.mul_nonneg h1.1 (by omega)
  unfold overOf; omega
theorem stepOk_of {s : Sta} (hs : StaOk b s) {t : Tick} (he : stepE b s t = 0) : StepOk b s t := by
  unfold stepE at he
  split at he
  · cases he
  · rename_i h1
    simp only [tickBad, Bool.or_eq_true, not_or, Bool.not_eq_true] at h1
    have o1 := outB_f.1 h1.1
    have o2 := outB_f.1 h1.2.1
    have o3 := outB_f.1 h1.2.2
    split at he
    · cases he
    · split at he
      · cases he
      · split at he
        · cases he
        · have hv := hs.vol
          have h0 := v0_bd h
          have ho := over_bd h t o1
          have hl : b.v0 - vol2 b s t ≤ leakOf b t.outer (vol2 b s t) := by unfold leakOf; omega
          have hv1 : b.v0 ≤ vol1 s t := by unfold vol1; unfold Bas.v0; omega
          have hv2 : b.v0 ≤ vol2 b s t := by unfold vol2; omega
          have hv3 : b.v0 ≤ vol3 b s t := by unfold vol3; omega
          have hv4 : b.v0 ≤ vol4 b s t ∧ vol4 b s t ≤ vol3 b s t := by unfold vol4 outOf; omega
          exact ⟨o1, o2, o3, by omega, by omega, by omega, by omega⟩
/-- behind a tick the state is one of the basin's. -/
theorem stepS_ok {s : Sta} (hs : StaOk b s) {t : Tick} (he : stepE b s t = 0) : StaOk b (stepS b s t) := by
  have hk := stepOk_of h hs he
  have h1 := polV_bd h hs hk.v4
  refine ⟨by simp [stepS, rg_len], ?_, fun i hi => ?_⟩
  · have := h1 _ (Nat.le_refl _); have := hk.v4; simp only [stepS, Bas.v0] at *; omega
  · have e : (stepS b s t).f i = s.f i + polT b s (vol4 b s t) i := by simp only [stepS, Sta.f]; exact rg_at hi
    have h2 := h1 i (by omega)
    have h3 := takeOf_bd h (v := polV b s (vol4 b s t) i) (by have := hk.v4; omega) hi (hs.fil i hi)
    have h4 := hs.fil i hi
    rw [e]; unfold polT; omega
theorem leakQ_bd {v outer : Int} (hv : b.v0 ≤ v ∧ v ≤ 1000000000) (ho : -20000 ≤ outer ∧ outer ≤ 20000) :
    (-20000000000000 ≤ (-outer) * den b v ∧ (-outer) * den b v ≤ 20000000000000) ∧ (-900000000000000000 ≤ b.leak * (-(num b v) - (-outer) * den b v) ∧ b.leak * (-(num b v) - (-outer) * den b v) ≤ 900000000000000000) ∧
    (-900000000000000000 ≤ leakQ b outer v ∧ leakQ b outer v ≤ 900000000000000000) := by
  have hd := den_pos h.rowsOk v
  have hn := num_bd h.rowsOk hv
  have m1 := mul_bd (X := 20000) (Y := 1000000000) (x := -outer) (y := den b v) (by omega) (by omega)
  have hl := h.leak
  have m2 := mul_bd (X := 10000) (Y := 90000000000000) (x := b.leak) (y := -(num b v) - (-outer) * den b v) (by omega) (by omega)
  have m3 := floor_bd (a := b.leak * (-(num b v) - (-outer) * den b v)) hd.1
  refine ⟨by omega, by omega, ?_⟩
  unfold leakQ; omega
theorem takeOver_bd {v : Int} (hv : b.v0 ≤ v ∧ v ≤ 1000000000) {i : Nat} (hi : i < b.pols.length) :
    (-20000000000000 ≤ (b.pol i).sill * den b v ∧ (b.pol i).sill * den b v ≤ 20000000000000) ∧ (-900000000000000000 ≤ (b.pol i).take * (num b v - (b.pol i).sill * den b v) ∧ (b.pol i).take * (num b v - (b.pol i).sill * den b v) ≤ 900000000000000000) := by
  have hd := den_pos h.rowsOk v
  have hn := num_bd h.rowsOk hv
  have ht := h.take i hi
  have hsl := h.sill i hi
  have hl := h.level 0 (by have := h.n2; omega)
  have m1 := mul_bd (X := 20000) (Y := 1000000000) (x := (b.pol i).sill) (y := den b v) (by omega) (by omega)
  have m2 := mul_bd (X := 10000) (Y := 90000000000000) (x := (b.pol i).take) (y := num b v - (b.pol i).sill * den b v) (by omega) (by omega)
  exact ⟨by omega, by omega⟩
end
end Go.Proofs.YtoiepgcjinccpaaDoor.Bs
