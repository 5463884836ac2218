/-
  The example's basin in plain words.
-/
import Derived.Test.YtoiepgcjinccpaaDoorBs20
import Derived.KernelRfl
namespace Go.Proofs.YtoiepgcjinccpaaDoor.Bs
open Go.Proofs.YtoiepgcjinccpaaDoor.X
def exB : Bas := ⟨[⟨-1000, 0⟩, ⟨0, 1000000⟩, ⟨2000, 5000000⟩], 100, 3000, 500, [⟨⟨#[108, 111, 119]⟩, 200, 300, 50000⟩, ⟨⟨#[104, 105, 103, 104]⟩, 1000, 200, 400000⟩]⟩
def exS : Sta := ⟨1000000, [0, 0]⟩
def exT : Tick := ⟨2500, 60000, 0⟩
theorem all3 {P : Nat → Prop} (h0 : P 0) (h1 : P 1) (h2 : P 2) : ∀ j, j < 3 → P j := by
  intro j hj
  match j, hj with
  | 0, _ => exact h0
  | 1, _ => exact h1
  | 2, _ => exact h2
theorem all2 {P : Nat → Prop} (h0 : P 0) (h1 : P 1) : ∀ j, j < 2 → P j := by
  intro j hj
  match j, hj with
  | 0, _ => exact h0
  | 1, _ => exact h1
theorem ex_chk : chkE exB = 0 := by
  have h1 : firstN (rowErr exB) exB.rows.length = none := firstN_none (all3 (by kernel_rfl) (by kernel_rfl) (by kernel_rfl))
  have h2 : firstN (polErr exB) exB.pols.length = none := firstN_none (all2 (by kernel_rfl) (by kernel_rfl))
  have h3 : wide exB (great exB exB.pols.length) := fun i hi => by
    have : ∀ j, j < 2 → wideAt exB (great exB exB.pols.length) j := all2 (of_decide_eq_true (by kernel_rfl)) (of_decide_eq_true (by kernel_rfl))
    exact this i (by have : i + 1 < 3 := hi; omega)
  unfold chkE chk
  rw [if_neg (by decide), h1]
  simp only
  rw [if_neg (by decide), if_neg (by decide), h2]
  simp only
  rw [if_pos h3]
theorem ex_sta : staErr exB exS = 0 := staErr_ok ex_chk ⟨rfl, ⟨by decide, by decide⟩, fun i hi => (all2 (P := fun i => 0 ≤ exS.f i ∧ exS.f i ≤ (exB.pol i).room) (by decide) (by decide)) i hi⟩
theorem ex_step : stepE exB exS exT = 0 := by kernel_rfl
theorem ex_vol : (outS exB exS exT).vol = 1307000 := by kernel_rfl
theorem ex_leak : (outF exB exS exT).leak = 247000 := by kernel_rfl
def exTs : List Tick := [exT, exT, exT]
theorem ex_run : runE exB exS exTs = 0 := runE_none ex_sta (by decide) (badAt_none (all3 (by kernel_rfl) (by kernel_rfl) (by kernel_rfl)))
theorem ex_stayE : stayE exB exS exTs 285 = 0 := (stay_in ex_run (by decide)).1
theorem ex_stayN : stayN exB exS exTs 285 = 2 := (stay_in ex_run (by decide)).2.trans (by kernel_rfl)
end Go.Proofs.YtoiepgcjinccpaaDoor.Bs
