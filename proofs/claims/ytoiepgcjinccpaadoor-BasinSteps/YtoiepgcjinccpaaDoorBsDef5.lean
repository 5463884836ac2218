/-
  The plain words of a run: the state, the flows and the fault of every tick.
-/
import Derived.Test.YtoiepgcjinccpaaDoorBs14
import Derived.Test.YtoiepgcjinccpaaDoorEngF
namespace Go.Proofs.YtoiepgcjinccpaaDoor.Bs
def tk (ts : List Tick) (k : Nat) : Tick := ts[k]?.getD ⟨0, 0, 0⟩
/-- the state behind the first k ticks. -/
noncomputable def staAt (b : Bas) (s : Sta) (ts : List Tick) : Nat → Sta
  | 0 => s
  | k + 1 => outS b (staAt b s ts k) (tk ts k)
/-- the flows in tick k. -/
noncomputable def floAt (b : Bas) (s : Sta) (ts : List Tick) (k : Nat) : Flo := outF b (staAt b s ts k) (tk ts k)
/-- the fault in tick k. -/
noncomputable def errAt (b : Bas) (s : Sta) (ts : List Tick) (k : Nat) : Int := stepE b (staAt b s ts k) (tk ts k)
/-- the first tick with a fault. -/
noncomputable def badAt (b : Bas) (s : Sta) (ts : List Tick) : Option Nat := (List.range ts.length).find? fun k => decide (errAt b s ts k ≠ 0)
/-- the moments of the first k ticks. -/
noncomputable def momsAt (b : Bas) (s : Sta) (ts : List Tick) (k : Nat) : List (Sta × Flo) := (List.range k).map fun i => (staAt b s ts (i + 1), floAt b s ts i)
open Classical in
noncomputable def runE (b : Bas) (s : Sta) (ts : List Tick) : Int :=
  if staErr b s ≠ 0 then staErr b s else if 300 < ts.length then 3 else match badAt b s ts with
    | none => 0
    | some k => errAt b s ts k
theorem badAt_none {b : Bas} {s : Sta} {ts : List Tick} (h : ∀ k, k < ts.length → errAt b s ts k = 0) : badAt b s ts = none := by
  unfold badAt
  rw [List.find?_eq_none]
  intro k hk
  simpa using h k (by simpa using hk)
theorem badAt_some {b : Bas} {s : Sta} {ts : List Tick} {k : Nat} (hk : k < ts.length) (h : ∀ j, j < k → errAt b s ts j = 0) (h1 : errAt b s ts k ≠ 0) : badAt b s ts = some k := by
  unfold badAt
  rw [List.find?_range_eq_some]
  exact ⟨by simpa using h1, by simpa using hk, fun j hj => by simpa using h j hj⟩
theorem staAt_ok {b : Bas} {s : Sta} {ts : List Tick} (ho : Ok b) (hs : StaOk b s) : ∀ k, (∀ j, j < k → errAt b s ts j = 0) → StaOk b (staAt b s ts k) := by
  intro k
  induction k with
  | zero => intro _; exact hs
  | succ k ih =>
    intro h
    have h0 : stepE b (staAt b s ts k) (tk ts k) = 0 := h k (by omega)
    have := stepS_ok ho (ih fun j hj => h j (by omega)) h0
    show StaOk b (outS b (staAt b s ts k) (tk ts k))
    unfold outS
    rw [if_pos h0]
    exact this
theorem momsAt_succ {b : Bas} {s : Sta} {ts : List Tick} (k : Nat) : momsAt b s ts (k + 1) = momsAt b s ts k ++ [(staAt b s ts (k + 1), floAt b s ts k)] := by
  simp [momsAt, List.range_succ]
end Go.Proofs.YtoiepgcjinccpaaDoor.Bs
