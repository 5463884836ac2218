/-
  The walks of slices.Clone and of the polders of a basin without any.
-/
import Derived.Test.YtoiepgcjinccpaaDoorPart2
import Derived.RangeFuncIn
import Derived.RangeFuncRecord
import Derived.RangeFuncLeaves
import Derived.RangeFuncCalls
import Derived.TacticsIn
import Derived.LaidEql
import Derived.Test.YtoiepgcjinccpaaDoorProg
import Derived.WalkKit
import Derived.Stop.Asserts
import Derived.RowKitTokens
import Derived.KernelRfl
set_option linter.unusedVariables false
set_option linter.unusedSimpArgs false
namespace Go.Proofs.YtoiepgcjinccpaaDoor.X
open Go Go.RowKit Go.Proofs.YtoiepgcjinccpaaDoor.Bs
set_option linter.unusedVariables false
theorem clone_any {q : SV} {l : List Int} {w : World} (hq : IntsAt w (Lt w.heap.size) q l) (hl : l.length ≤ 1000) :
    Calls Tryd.prog 85 #[svV q] w fun e w' => ∃ v, e = .returned v ∧ ((∃ r : SV, v = svV r ∧ w'.ownsRow w.heap.size 3 1 (svV r) l.length (ints l)) ∧ Below w.heap.size w w') := by
  obtain ⟨A, n, c⟩ := q
  have hn := hq.len
  simp only at hn
  subst hn
  simp only [svV]
  cases A with
  | none =>
    have h0 : l = [] := by
      cases l with
      | nil => rfl
      | cons x r => obtain ⟨ad, e, _⟩ := hq.at_ (by simp); cases e
    subst h0
    refine enter Tryd.func85 rfl Tryd.ntmps85 rfl ?_; simp only [frame, Nat.zero_add, Nat.reduceAdd]
    repeat (first | (refine M0 ?_; first | refine O0 ?_ | refine z1 tok rfl ?_ | refine O1 rfl ?_ rfl | refine O2 rfl ?_ | refine O3 rfl ?_ rfl | refine U0 _ (Ev.eqNil tok rfl rfl rfl) rfl ?_ | refine O4 rfl rfl rfl (fun _ _ => ?_) | refine O5 tok rfl rfl rfl (fun _ _ => ?_) | refine U0 _ (U2 rfl) rfl ?_ | refine U0 _ (U3 tok rfl rfl rfl rfl rfl) rfl ?_ | refine z3 tok rfl ?_ | refine U0 _ (U4 rfl rfl) rfl ?_ | refine U0 _ (U5 rfl rfl) rfl ?_) | (refine M1 ?_; first | refine J0 ?_ | refine J1 ?_ | refine J2 mixed rfl (by kernel_rfl) ?_ | refine J3 mixed rfl rfl (by kernel_rfl) ?_ | refine J4 ?_ | refine J5 ?_ | refine J6 ?_ | refine J7 ?_ | refine J8 rfl ?_ | refine J9 rfl ?_) | (refine M2 ?_; first | refine I0 ?_ | refine I1 ?_ | refine I2 ?_ | refine I3 ?_ | refine I4 ?_ | refine I5 ?_ | refine I6 rfl ?_ | refine I7 ?_ | refine I8 ?_ | refine z4 ?_) | (refine M3 ?_; first | refine O6 ?_ | refine z2 tok rfl ?_ | refine O8 rfl ?_ | refine O7 rfl ?_ rfl | refine O9 rfl ?_ rfl | refine U1 _ (Ev.eqNil tok rfl rfl rfl) rfl ?_ | refine U1 _ (U4 rfl rfl) rfl ?_ | refine U1 _ (U5 rfl rfl) rfl ?_ | refine U1 _ (U2 rfl) rfl ?_ | refine U1 _ (U3 tok rfl rfl rfl rfl rfl) rfl ?_) | (refine M4 ?_; first | refine M6 ?_ | refine U6 rfl (by kernel_rfl) ?_ | refine U7 (by kernel_rfl) ?_) | (refine M5 ?_; first | exact M7 | refine U8 rfl ?_ | refine U9 rfl rfl ?_ ?_))
    refine XE.retg tok Tryd.results85 rfl (by simp only [and_self, and_true]) (fun w' S => ?_)
    exact ⟨_, rfl, ⟨⟨none, 0, 0⟩, rfl, World.ownsRow_nil _ _ _ _⟩, S.toBelow⟩
  | some ad =>
    refine enter Tryd.func85 rfl Tryd.ntmps85 rfl ?_; simp only [frame, Nat.zero_add, Nat.reduceAdd]
    repeat (first | (refine M0 ?_; first | refine O0 ?_ | refine z1 tok rfl ?_ | refine O1 rfl ?_ rfl | refine O2 rfl ?_ | refine O3 rfl ?_ rfl | refine U0 _ (Ev.eqNil tok rfl rfl rfl) rfl ?_ | refine O4 rfl rfl rfl (fun _ _ => ?_) | refine O5 tok rfl rfl rfl (fun _ _ => ?_) | refine U0 _ (U2 rfl) rfl ?_ | refine U0 _ (U3 tok rfl rfl rfl rfl rfl) rfl ?_ | refine z3 tok rfl ?_ | refine U0 _ (U4 rfl rfl) rfl ?_ | refine U0 _ (U5 rfl rfl) rfl ?_) | (refine M1 ?_; first | refine J0 ?_ | refine J1 ?_ | refine J2 mixed rfl (by kernel_rfl) ?_ | refine J3 mixed rfl rfl (by kernel_rfl) ?_ | refine J4 ?_ | refine J5 ?_ | refine J6 ?_ | refine J7 ?_ | refine J8 rfl ?_ | refine J9 rfl ?_) | (refine M2 ?_; first | refine I0 ?_ | refine I1 ?_ | refine I2 ?_ | refine I3 ?_ | refine I4 ?_ | refine I5 ?_ | refine I6 rfl ?_ | refine I7 ?_ | refine I8 ?_ | refine z4 ?_) | (refine M3 ?_; first | refine O6 ?_ | refine z2 tok rfl ?_ | refine O8 rfl ?_ | refine O7 rfl ?_ rfl | refine O9 rfl ?_ rfl | refine U1 _ (Ev.eqNil tok rfl rfl rfl) rfl ?_ | refine U1 _ (U4 rfl rfl) rfl ?_ | refine U1 _ (U5 rfl rfl) rfl ?_ | refine U1 _ (U2 rfl) rfl ?_ | refine U1 _ (U3 tok rfl rfl rfl rfl rfl) rfl ?_) | (refine M4 ?_; first | refine M6 ?_ | refine U6 rfl (by kernel_rfl) ?_ | refine U7 (by kernel_rfl) ?_) | (refine M5 ?_; first | exact M7 | refine U8 rfl ?_ | refine U9 rfl rfl ?_ ?_))
    refine XL.buildSlice tok rfl rfl rfl rfl rfl rfl rfl rfl rfl (fun gb hgb => ?_)
    refine XL.rebase (L' := []) (List.nil_sublist _) (fun w1 S1 => ?_)
    have hg1 := (S1.own _ (List.mem_cons_self)).2
    have hb1 := (hq.arg S1)
    repeat (first | (refine M0 ?_; first | refine O0 ?_ | refine z1 tok rfl ?_ | refine O1 rfl ?_ rfl | refine O2 rfl ?_ | refine O3 rfl ?_ rfl | refine O4 rfl rfl rfl (fun _ _ => ?_) | refine O5 tok rfl rfl rfl (fun _ _ => ?_) | refine U0 _ (U2 rfl) rfl ?_ | refine U0 _ (U3 tok rfl rfl rfl rfl rfl) rfl ?_ | refine z3 tok rfl ?_ | refine U0 _ (U4 rfl rfl) rfl ?_ | refine U0 _ (U5 rfl rfl) rfl ?_) | (refine M1 ?_; first | refine J0 ?_ | refine J1 ?_ | refine J2 mixed rfl (by kernel_rfl) ?_ | refine J3 mixed rfl rfl (by kernel_rfl) ?_ | refine J4 ?_ | refine J5 ?_ | refine J6 ?_ | refine J7 ?_ | refine J8 rfl ?_ | refine J9 rfl ?_) | (refine M2 ?_; first | refine I0 ?_ | refine I1 ?_ | refine I2 ?_ | refine I3 ?_ | refine I4 ?_ | refine I5 ?_ | refine I6 rfl ?_ | refine I7 ?_ | refine I8 ?_ | refine z4 ?_) | (refine M3 ?_; first | refine O6 ?_ | refine z2 tok rfl ?_ | refine O8 rfl ?_ | refine O7 rfl ?_ rfl | refine O9 rfl ?_ rfl | refine U1 _ (U4 rfl rfl) rfl ?_ | refine U1 _ (U5 rfl rfl) rfl ?_ | refine U1 _ (U2 rfl) rfl ?_ | refine U1 _ (U3 tok rfl rfl rfl rfl rfl) rfl ?_) | (refine M4 ?_; first | refine M6 ?_ | refine U6 rfl (by kernel_rfl) ?_ | refine U7 (by kernel_rfl) ?_) | (refine M5 ?_; first | exact M7 | refine U8 rfl ?_ | refine U9 rfl rfl ?_ ?_))
    have hcell : ∀ j u, (ints l)[j]? = some u → w1.cell? (ad.add j) = some u ∧ ad.block < w1.heap.size := fun j u hj => by
      have hlen := hq.rd.len
      obtain ⟨ad', e1, h1, h2⟩ := hb1.rd.at_ (by have := (List.getElem?_eq_some_iff.1 hj).1; rw [ints_len] at this; simp only; omega)
      cases e1
      exact ⟨h2 j u hj, h1⟩
    refine XL.append (v := .slice (some ⟨gb, 0, none⟩) 0 0) (m := l.length) (n := 0) (size := 1) (bytes := 8) (base := w.heap.size) (xs := []) (news := ints l) (L' := []) int_el (by decide) rfl rfl rfl
      ⟨by simp, .inr ⟨gb, 0, #[], rfl, hgb, hg1, Nat.le_refl _, Nat.zero_le _, by simp, by simp⟩⟩ (fun k hk x hx => by cases hx) (by rw [ints_len]; simp)
      (fun w2 S2 j u hj => by
        obtain ⟨h3, h4⟩ := hcell j u hj
        exact (S2.farCell (by rw [add_block]; exact h4) (fun x hx => by cases hx)).trans h3) (by simp [ints, Value.oneCell']) (by unfold maxLen; omega) (by omega) S1.size (List.nil_sublist _) (fun w2 v' w3 S2 ho hg _ => ?_)
    obtain ⟨r, rfl, hr⟩ := owns_sv ho
    rw [Nat.zero_add, List.nil_append] at ho
    have hB : Below w.heap.size w w3 := S1.toBelow.trans (Below.trans S2.toBelow ⟨hg.os, hg.tape, hg.output, hg.size, fun k hk => hg.block k (Nat.lt_of_lt_of_le (Nat.lt_of_lt_of_le hk S1.size) S2.size) fun e => by simp [Value.ownBlock] at e; omega⟩)
    repeat (first | (refine M0 ?_; first | refine O0 ?_ | refine z1 tok rfl ?_ | refine O1 rfl ?_ rfl | refine O2 rfl ?_ | refine O3 rfl ?_ rfl | refine O4 rfl rfl rfl (fun _ _ => ?_) | refine O5 tok rfl rfl rfl (fun _ _ => ?_) | refine U0 _ (U2 rfl) rfl ?_ | refine U0 _ (U3 tok rfl rfl rfl rfl rfl) rfl ?_ | refine z3 tok rfl ?_ | refine U0 _ (U4 rfl rfl) rfl ?_ | refine U0 _ (U5 rfl rfl) rfl ?_) | (refine M1 ?_; first | refine J0 ?_ | refine J1 ?_ | refine J2 mixed rfl (by kernel_rfl) ?_ | refine J3 mixed rfl rfl (by kernel_rfl) ?_ | refine J4 ?_ | refine J5 ?_ | refine J6 ?_ | refine J7 ?_ | refine J8 rfl ?_ | refine J9 rfl ?_) | (refine M2 ?_; first | refine I0 ?_ | refine I1 ?_ | refine I2 ?_ | refine I3 ?_ | refine I4 ?_ | refine I5 ?_ | refine I6 rfl ?_ | refine I7 ?_ | refine I8 ?_ | refine z4 ?_) | (refine M3 ?_; first | refine O6 ?_ | refine z2 tok rfl ?_ | refine O8 rfl ?_ | refine O7 rfl ?_ rfl | refine O9 rfl ?_ rfl | refine U1 _ (U4 rfl rfl) rfl ?_ | refine U1 _ (U5 rfl rfl) rfl ?_ | refine U1 _ (U2 rfl) rfl ?_ | refine U1 _ (U3 tok rfl rfl rfl rfl rfl) rfl ?_) | (refine M4 ?_; first | refine M6 ?_ | refine U6 rfl (by kernel_rfl) ?_ | refine U7 (by kernel_rfl) ?_) | (refine M5 ?_; first | exact M7 | refine U8 rfl ?_ | refine U9 rfl rfl ?_ ?_))
    refine XE.retg tok Tryd.results85 rfl (by simp only [and_self, and_true]) (fun w' S => ?_)
    exact ⟨_, rfl, ⟨r, rfl, owns_sys ho S (fun k hk x hx => by cases hx)⟩, hB.trans S.toBelow⟩
section
variable {g : Nat} {p : BV} {b : Bas} {q r : SV} {s : Sta} {t : Tick} {f : Flo} {w : World}
theorem polders0_any (h : w.heap[g]? = some (watO p b q s t r f)) (hb : BasAt w g p b) (hm : b.pols.length = 0) :
    Calls Tryd.prog 90 #[.pointer (some ⟨g, 0, none⟩)] w fun e w' => e = .returned (.bool true) ∧ Sys g w [(g, watO p b q s t r f)] w' := by
  obtain ⟨A, n, c, A2, n2, c2⟩ := p
  have hn2 := hb.n2_eq
  simp only at hn2
  subst hn2
  simp only [watO, watC] at h
  refine enterL Tryd.func90 rfl Tryd.ntmps90 rfl (Sys.start1 (Nat.le_refl g) h) ?_; simp only [frame, Nat.zero_add, Nat.reduceAdd]
  refine XC.hint 0 0 ?_
  repeat (first | (refine M0 ?_; first | refine O0 ?_ | refine z1 tok rfl ?_ | refine O1 rfl ?_ rfl | refine O2 rfl ?_ | refine O3 rfl ?_ rfl | refine O4 rfl rfl rfl (fun _ _ => ?_) | refine O5 tok rfl rfl rfl (fun _ _ => ?_) | refine U0 _ (U2 rfl) rfl ?_ | refine U0 _ (U3 tok rfl rfl rfl rfl rfl) rfl ?_ | refine z3 tok rfl ?_ | refine U0 _ (U4 rfl rfl) rfl ?_ | refine U0 _ (U5 rfl rfl) rfl ?_) | (refine M1 ?_; first | refine J0 ?_ | refine J1 ?_ | refine J2 mixed rfl (by kernel_rfl) ?_ | refine J3 mixed rfl rfl (by kernel_rfl) ?_ | refine J4 ?_ | refine J5 ?_ | refine J6 ?_ | refine J7 ?_ | refine J8 rfl ?_ | refine J9 rfl ?_) | (refine M2 ?_; first | refine I0 ?_ | refine I1 ?_ | refine I2 ?_ | refine I3 ?_ | refine I4 ?_ | refine I5 ?_ | refine I6 rfl ?_ | refine I7 ?_ | refine I8 ?_ | refine z4 ?_) | (refine M3 ?_; first | refine O6 ?_ | refine z2 tok rfl ?_ | refine O8 rfl ?_ | refine O7 rfl ?_ rfl | refine O9 rfl ?_ rfl | refine U1 _ (U4 rfl rfl) rfl ?_ | refine U1 _ (U5 rfl rfl) rfl ?_ | refine U1 _ (U2 rfl) rfl ?_ | refine U1 _ (U3 tok rfl rfl rfl rfl rfl) rfl ?_) | (refine M4 ?_; first | refine M6 ?_ | refine U6 rfl (by kernel_rfl) ?_ | refine U7 (by kernel_rfl) ?_) | (refine M5 ?_; first | exact M7 | refine U8 rfl ?_ | refine U9 rfl rfl ?_ ?_))
  refine XC.loopk [0, 11, 12] rfl (fun _ : Unit => [(13, .int .i64 0)]) (fun _ => _) (fun _ => w) (fun _ => True) (fun _ => 0) () trivial (by repeat (first | exact Sub.nil | refine Sub.cons rfl ?_)) (fun _ h => h) ?_
  intro _ _
  dsimp only [List.cons_append, List.nil_append]
  repeat (first | (refine M0 ?_; first | refine O0 ?_ | refine z1 tok rfl ?_ | refine O1 rfl ?_ rfl | refine O2 rfl ?_ | refine O3 rfl ?_ rfl | refine O4 rfl rfl rfl (fun _ _ => ?_) | refine O5 tok rfl rfl rfl (fun _ _ => ?_) | refine U0 _ (U2 rfl) rfl ?_ | refine U0 _ (U3 tok rfl rfl rfl rfl rfl) rfl ?_ | refine z3 tok rfl ?_ | refine U0 _ (U4 rfl rfl) rfl ?_ | refine U0 _ (U5 rfl rfl) rfl ?_) | (refine M1 ?_; first | refine J0 ?_ | refine J1 ?_ | refine J2 mixed rfl (by kernel_rfl) ?_ | refine J3 mixed rfl rfl (by kernel_rfl) ?_ | refine J4 ?_ | refine J5 ?_ | refine J6 ?_ | refine J7 ?_ | refine J8 rfl ?_ | refine J9 rfl ?_) | (refine M2 ?_; first | refine I0 ?_ | refine I1 ?_ | refine I2 ?_ | refine I3 ?_ | refine I4 ?_ | refine I5 ?_ | refine I6 rfl ?_ | refine I7 ?_ | refine I8 ?_ | refine z4 ?_) | (refine M3 ?_; first | refine O6 ?_ | refine z2 tok rfl ?_ | refine O8 rfl ?_ | refine O7 rfl ?_ rfl | refine O9 rfl ?_ rfl | refine U1 _ (U4 rfl rfl) rfl ?_ | refine U1 _ (U5 rfl rfl) rfl ?_ | refine U1 _ (U2 rfl) rfl ?_ | refine U1 _ (U3 tok rfl rfl rfl rfl rfl) rfl ?_) | (refine M4 ?_; first | refine M6 ?_ | refine U6 rfl (by kernel_rfl) ?_ | refine U7 (by kernel_rfl) ?_) | (refine M5 ?_; first | exact M7 | refine U8 rfl ?_ | refine U9 rfl rfl ?_ ?_))
  refine XC.cond _ rfl (fun h1 => ?_) (fun h1 => ?_)
  · simp [hm] at h1
  · repeat (first | (refine M0 ?_; first | refine O0 ?_ | refine z1 tok rfl ?_ | refine O1 rfl ?_ rfl | refine O2 rfl ?_ | refine O3 rfl ?_ rfl | refine O4 rfl rfl rfl (fun _ _ => ?_) | refine O5 tok rfl rfl rfl (fun _ _ => ?_) | refine U0 _ (U2 rfl) rfl ?_ | refine U0 _ (U3 tok rfl rfl rfl rfl rfl) rfl ?_ | refine z3 tok rfl ?_ | refine U0 _ (U4 rfl rfl) rfl ?_ | refine U0 _ (U5 rfl rfl) rfl ?_) | (refine M1 ?_; first | refine J0 ?_ | refine J1 ?_ | refine J2 mixed rfl (by kernel_rfl) ?_ | refine J3 mixed rfl rfl (by kernel_rfl) ?_ | refine J4 ?_ | refine J5 ?_ | refine J6 ?_ | refine J7 ?_ | refine J8 rfl ?_ | refine J9 rfl ?_) | (refine M2 ?_; first | refine I0 ?_ | refine I1 ?_ | refine I2 ?_ | refine I3 ?_ | refine I4 ?_ | refine I5 ?_ | refine I6 rfl ?_ | refine I7 ?_ | refine I8 ?_ | refine z4 ?_) | (refine M3 ?_; first | refine O6 ?_ | refine z2 tok rfl ?_ | refine O8 rfl ?_ | refine O7 rfl ?_ rfl | refine O9 rfl ?_ rfl | refine U1 _ (U4 rfl rfl) rfl ?_ | refine U1 _ (U5 rfl rfl) rfl ?_ | refine U1 _ (U2 rfl) rfl ?_ | refine U1 _ (U3 tok rfl rfl rfl rfl rfl) rfl ?_) | (refine M4 ?_; first | refine M6 ?_ | refine U6 rfl (by kernel_rfl) ?_ | refine U7 (by kernel_rfl) ?_) | (refine M5 ?_; first | exact M7 | refine U8 rfl ?_ | refine U9 rfl rfl ?_ ?_))
    refine XE.retg tok Tryd.results90 rfl (by simp only [and_self, and_true]) (fun w' S => ?_)
    exact ⟨rfl, S⟩
end
end Go.Proofs.YtoiepgcjinccpaaDoor.X
/-
  The walk of the program's step.
-/
namespace Go.Proofs.YtoiepgcjinccpaaDoor.Bs
theorem polV_vol (b : Bas) (s : Sta) (x v : Int) : ∀ k, polV b ⟨x, s.fil⟩ v k = polV b s v k := by
  intro k
  induction k with
  | zero => rfl
  | succ k ih => simp only [polV, ih]; rfl
theorem polT_vol (b : Bas) (s : Sta) (x v : Int) (k : Nat) : polT b ⟨x, s.fil⟩ v k = polT b s v k := by unfold polT; rw [polV_vol]; rfl
def outS (b : Bas) (s : Sta) (t : Tick) : Sta := if stepE b s t = 0 then stepS b s t else ⟨0, []⟩
def outF (b : Bas) (s : Sta) (t : Tick) : Flo := if stepE b s t = 0 then stepF b s t else ⟨0, 0, 0, 0, []⟩
def staK (b : Bas) (s : Sta) (t : Tick) : Nat → Sta
  | 0 => s
  | 1 => ⟨vol1 s t, s.fil⟩
  | 2 => ⟨vol2 b s t, s.fil⟩
  | 3 => ⟨vol3 b s t, s.fil⟩
  | 4 => ⟨vol4 b s t, s.fil⟩
  | _ => ⟨polV b s (vol4 b s t) b.pols.length, s.fil⟩
def floK (b : Bas) (s : Sta) (t : Tick) : Nat → Flo
  | 0 => ⟨0, 0, 0, 0, []⟩
  | 1 => ⟨t.river, 0, 0, 0, []⟩
  | 2 => ⟨t.river, overOf b t, 0, 0, []⟩
  | 3 => ⟨t.river, overOf b t, leakOf b t.outer (vol2 b s t), 0, []⟩
  | _ => ⟨t.river, overOf b t, leakOf b t.outer (vol2 b s t), outOf b s t, []⟩
def filS (b : Bas) (s : Sta) (t : Tick) (k : Nat) : List Int := if k ≤ 4 then s.fil else (stepS b s t).fil
def tkS (b : Bas) (s : Sta) (t : Tick) (k : Nat) : List Int := if k ≤ 4 then [] else (stepF b s t).taken
theorem stepE_7 {b : Bas} {s : Sta} {t : Tick} (h : tickBad t = true) : stepE b s t = 7 := by unfold stepE; rw [if_pos h]
theorem stepE_3 {b : Bas} {s : Sta} {t : Tick} (h : tickBad t = false) (h1 : 1000000000 < vol1 s t ∨ 1000000000 < vol2 b s t ∨ 1000000000 < vol3 b s t) : stepE b s t = 3 := by
  unfold stepE
  rw [if_neg (by simp [h])]
  by_cases a : 1000000000 < vol1 s t
  · rw [if_pos a]
  · rw [if_neg a]
    by_cases c : 1000000000 < vol2 b s t
    · rw [if_pos c]
    · rw [if_neg c, if_pos (by omega)]
theorem stepE_0 {b : Bas} {s : Sta} {t : Tick} (h : tickBad t = false) (h1 : vol1 s t ≤ 1000000000) (h2 : vol2 b s t ≤ 1000000000) (h3 : vol3 b s t ≤ 1000000000) : stepE b s t = 0 := by
  unfold stepE
  rw [if_neg (by simp [h]), if_neg (by omega), if_neg (by omega), if_neg (by omega)]
theorem outS_n {b : Bas} {s : Sta} {t : Tick} (h : stepE b s t ≠ 0) : outS b s t = ⟨0, []⟩ := by unfold outS; rw [if_neg h]
theorem outF_n {b : Bas} {s : Sta} {t : Tick} (h : stepE b s t ≠ 0) : outF b s t = ⟨0, 0, 0, 0, []⟩ := by unfold outF; rw [if_neg h]
theorem outS_0 {b : Bas} {s : Sta} {t : Tick} (h : stepE b s t = 0) : outS b s t = stepS b s t := by unfold outS; rw [if_pos h]
theorem outF_0 {b : Bas} {s : Sta} {t : Tick} (h : stepE b s t = 0) : outF b s t = stepF b s t := by unfold outF; rw [if_pos h]
end Go.Proofs.YtoiepgcjinccpaaDoor.Bs
namespace Go.Proofs.YtoiepgcjinccpaaDoor.X
open Go Go.RowKit Go.Proofs.YtoiepgcjinccpaaDoor.Bs
set_option linter.unusedVariables false
/-- what a tick's call returns. -/
def StepR (b : Bas) (s : Sta) (t : Tick) (w : World) (v : Value) (w' : World) : Prop :=
  ∃ q r : SV, v = .tuple ⟨[staV q (outS b s t), floV r (outF b s t), .int .i64 (stepE b s t)]⟩ ∧ IntsAt w' (Btw w.heap.size w'.heap.size) q (outS b s t).fil ∧ IntsAt w' (Btw w.heap.size w'.heap.size) r (outF b s t).taken ∧ Below w.heap.size w w'
theorem StepR.err {b : Bas} {s : Sta} {t : Tick} {w w' : World} {e : Int} (he : stepE b s t = e) (hne : e ≠ 0) (hb : Below w.heap.size w w') :
    StepR b s t w (.tuple ⟨[.agg ⟨[.int .i64 0, .slice none 0 0]⟩, .agg ⟨[.int .i64 0, .int .i64 0, .int .i64 0, .int .i64 0, .slice none 0 0]⟩, .int .i64 e]⟩) w' :=
  ⟨⟨none, 0, 0⟩, ⟨none, 0, 0⟩, by rw [outS_n (by rw [he]; exact hne), outF_n (by rw [he]; exact hne), he]; rfl, by rw [outS_n (by rw [he]; exact hne)]; exact IntsAt.nil, by rw [outF_n (by rw [he]; exact hne)]; exact IntsAt.nil, hb⟩
theorem fn_one : lkG TB.one 39 = some () := by rfl
theorem fn_size : (Tryd.prog.info? 39).map (·.size) = some 1 := by kernel_rfl
set_option maxHeartbeats 16000000 in
theorem step_any {p : BV} {b : Bas} {q : SV} {s : Sta} {t : Tick} {w : World} (hb : BasAt w w.heap.size p b) (hq : IntsAt w (Lt w.heap.size) q s.fil) (ho : Ok b) (hs : StaOk b s) :
    Calls Tryd.prog 48 #[basV p b, staV q s, tickV t] w fun e w' => ∃ v, e = .returned v ∧ StepR b s t w v w' := by
  have hm := ho.m6
  have hl := hs.len
  obtain ⟨A, n, c⟩ := q
  have hn := hq.len
  simp only at hn
  subst hn
  simp only [basV, basC, staV, staC, tickV, tickC]
  refine enter Tryd.func48 rfl Tryd.ntmps48 rfl ?_; simp only [frame, Nat.zero_add, Nat.reduceAdd]
  repeat (any_goals (first | (refine M0 ?_; first | refine O0 ?_ | refine z1 tok rfl ?_ | refine O1 rfl ?_ rfl | refine O2 rfl ?_ | refine O3 rfl ?_ rfl | (refine XL.split _ _ rfl (fun h => ?_) (fun h => ?_) <;> rw [h]) | refine U0 _ (Ev.call (f := 62) (ck rfl) rfl (fun w _ => high_any _ w)) rfl ?_ | refine U0 _ (Ev.call (f := 51) (ck rfl) rfl (fun w _ => out_any _ _ _ w)) rfl ?_ | refine O4 rfl rfl rfl (fun _ _ => ?_) | refine O5 tok rfl rfl rfl (fun _ _ => ?_) | refine U0 _ (U2 rfl) rfl ?_ | refine U0 _ (U3 tok rfl rfl rfl rfl rfl) rfl ?_ | refine z3 tok rfl ?_ | refine U0 _ (U4 rfl rfl) rfl ?_ | refine U0 _ (U5 rfl rfl) rfl ?_) | (refine M1 ?_; first | refine J0 ?_ | refine J1 ?_ | refine J2 mixed rfl (by kernel_rfl) ?_ | refine J3 mixed rfl rfl (by kernel_rfl) ?_ | refine J4 ?_ | refine J5 ?_ | refine J6 ?_ | refine J7 ?_ | refine J8 rfl ?_ | refine J9 rfl ?_ | refine XC.cond _ rfl (fun h => ?_) (fun h => ?_)) | (refine M2 ?_; first | refine I0 ?_ | refine I1 ?_ | refine I2 ?_ | refine I3 ?_ | refine I4 ?_ | refine I5 ?_ | refine I6 rfl ?_ | refine I7 ?_ | refine I8 ?_ | refine z4 ?_) | (refine M3 ?_; first | refine O6 ?_ | refine z2 tok rfl ?_ | refine O8 rfl ?_ | refine O7 rfl ?_ rfl | refine O9 rfl ?_ rfl | (refine Fw.split _ _ rfl (fun h => ?_) (fun h => ?_) <;> rw [h]) | refine U1 _ (Ev.call (f := 62) (ck rfl) rfl (fun w _ => high_any _ w)) rfl ?_ | refine U1 _ (Ev.call (f := 51) (ck rfl) rfl (fun w _ => out_any _ _ _ w)) rfl ?_ | refine U1 _ (U4 rfl rfl) rfl ?_ | refine U1 _ (U5 rfl rfl) rfl ?_ | refine U1 _ (U2 rfl) rfl ?_ | refine U1 _ (U3 tok rfl rfl rfl rfl rfl) rfl ?_) | (refine M4 ?_; first | refine M6 ?_ | refine U6 rfl (by kernel_rfl) ?_ | refine U7 (by kernel_rfl) ?_) | (refine M5 ?_; first | exact M7 | refine U8 rfl ?_ | refine U9 rfl rfl ?_ ?_)))
  all_goals try (refine XE.retg tok Tryd.results48 rfl (by simp only [and_self, and_true]) (fun w' S => ?_)
                 refine ⟨_, rfl, StepR.err (stepE_7 (by simp [tickBad, *])) (by decide) S.toBelow⟩)
  rename_i g3 hg3 g4 hg4 g5 hg5 g6 hg6 g7 hg7 h1 h2
  have h3 := h
  have hbad : tickBad t = false := by simp [tickBad, *]
  have o1 := outB_f.1 h1
  have o2 := outB_f.1 h2
  have o3 := outB_f.1 h3
  refine XL.call (fst := []) (cap := []) (ck rfl) rfl rfl rfl (List.Sublist.refl _) (fun w1 v w2 => ∃ r : SV, v = svV r ∧ w2.ownsRow w1.heap.size 3 1 (svV r) s.fil.length (ints s.fil))
    (fun w1 S1 => (clone_any (hq.arg S1) (by omega)).mono fun e w' ⟨v, h, h4, h5⟩ => ⟨v, h, h4, h5⟩) (fun w1 v w2 S1 hR hB S2 => ?_)
  obtain ⟨q2, rfl, hown⟩ := hR
  have hownC := hown
  have hown := owns_base hown S1.size
  have hgs := fun e he => S1.lt (e := e) he
  simp only [List.mem_cons, forall_eq_or_imp, List.not_mem_nil, false_implies, implies_true, and_true] at hgs
  simp only [svV]
  repeat (first | (refine M0 ?_; first | refine O0 ?_ | refine z1 tok rfl ?_ | refine O1 rfl ?_ rfl | refine O2 rfl ?_ | refine O3 rfl ?_ rfl | refine O4 rfl rfl rfl (fun _ _ => ?_) | refine O5 tok rfl rfl rfl (fun _ _ => ?_) | refine U0 _ (U2 rfl) rfl ?_ | refine U0 _ (U3 tok rfl rfl rfl rfl rfl) rfl ?_ | refine z3 tok rfl ?_ | refine U0 _ (U4 rfl rfl) rfl ?_ | refine U0 _ (U5 rfl rfl) rfl ?_) | (refine M1 ?_; first | refine J0 ?_ | refine J1 ?_ | refine J2 mixed rfl (by kernel_rfl) ?_ | refine J3 mixed rfl rfl (by kernel_rfl) ?_ | refine J4 ?_ | refine J5 ?_ | refine J6 ?_ | refine J7 ?_ | refine J8 rfl ?_ | refine J9 rfl ?_) | (refine M2 ?_; first | refine I0 ?_ | refine I1 ?_ | refine I2 ?_ | refine I3 ?_ | refine I4 ?_ | refine I5 ?_ | refine I6 rfl ?_ | refine I7 ?_ | refine I8 ?_ | refine z4 ?_) | (refine M3 ?_; first | refine O6 ?_ | refine z2 tok rfl ?_ | refine O8 rfl ?_ | refine O7 rfl ?_ rfl | refine O9 rfl ?_ rfl | refine U1 _ (U4 rfl rfl) rfl ?_ | refine U1 _ (U5 rfl rfl) rfl ?_ | refine U1 _ (U2 rfl) rfl ?_ | refine U1 _ (U3 tok rfl rfl rfl rfl rfl) rfl ?_) | (refine M4 ?_; first | refine M6 ?_ | refine U6 rfl (by kernel_rfl) ?_ | refine U7 (by kernel_rfl) ?_) | (refine M5 ?_; first | exact M7 | refine U8 rfl ?_ | refine U9 rfl rfl ?_ ?_))
  rename_i g9 hg9
  repeat (first | (refine M0 ?_; first | refine O0 ?_ | refine z1 tok rfl ?_ | refine O1 rfl ?_ rfl | refine O2 rfl ?_ | refine O3 rfl ?_ rfl | refine U0 _ (Ev.makeFunc rfl rfl) rfl ?_ | refine O4 rfl rfl rfl (fun _ _ => ?_) | refine O5 tok rfl rfl rfl (fun _ _ => ?_) | refine U0 _ (U2 rfl) rfl ?_ | refine U0 _ (U3 tok rfl rfl rfl rfl rfl) rfl ?_ | refine z3 tok rfl ?_ | refine U0 _ (U4 rfl rfl) rfl ?_ | refine U0 _ (U5 rfl rfl) rfl ?_) | (refine M1 ?_; first | refine J0 ?_ | refine J1 ?_ | refine J2 mixed rfl (by kernel_rfl) ?_ | refine J3 mixed rfl rfl (by kernel_rfl) ?_ | refine J4 ?_ | refine J5 ?_ | refine J6 ?_ | refine J7 ?_ | refine J8 rfl ?_ | refine J9 rfl ?_) | (refine M2 ?_; first | refine I0 ?_ | refine I1 ?_ | refine I2 ?_ | refine I3 ?_ | refine I4 ?_ | refine I5 ?_ | refine I6 rfl ?_ | refine I7 ?_ | refine I8 ?_ | refine z4 ?_) | (refine M3 ?_; first | refine O6 ?_ | refine z2 tok rfl ?_ | refine O8 rfl ?_ | refine O7 rfl ?_ rfl | refine O9 rfl ?_ rfl | refine U1 _ (Ev.makeFunc rfl rfl) rfl ?_ | refine U1 _ (U4 rfl rfl) rfl ?_ | refine U1 _ (U5 rfl rfl) rfl ?_ | refine U1 _ (U2 rfl) rfl ?_ | refine U1 _ (U3 tok rfl rfl rfl rfl rfl) rfl ?_) | (refine M4 ?_; first | refine M6 ?_ | refine U6 rfl (by kernel_rfl) ?_ | refine U7 (by kernel_rfl) ?_) | (refine M5 ?_; first | exact M7 | refine U8 rfl ?_ | refine U9 rfl rfl ?_ ?_))
  refine XL.step _ (Ev.buildArr tok Tryd.underlying138 fn_size rfl rfl rfl) rfl ?_
  repeat (first | (refine M0 ?_; first | refine O0 ?_ | refine z1 tok rfl ?_ | refine O1 rfl ?_ rfl | refine O2 rfl ?_ | refine O3 rfl ?_ rfl | refine O4 rfl rfl rfl (fun _ _ => ?_) | refine O5 tok rfl rfl rfl (fun _ _ => ?_) | refine U0 _ (U2 rfl) rfl ?_ | refine U0 _ (U3 tok rfl rfl rfl rfl rfl) rfl ?_ | refine z3 tok rfl ?_ | refine U0 _ (U4 rfl rfl) rfl ?_ | refine U0 _ (U5 rfl rfl) rfl ?_) | (refine M1 ?_; first | refine J0 ?_ | refine J1 ?_ | refine J2 mixed rfl (by kernel_rfl) ?_ | refine J3 mixed rfl rfl (by kernel_rfl) ?_ | refine J4 ?_ | refine J5 ?_ | refine J6 ?_ | refine J7 ?_ | refine J8 rfl ?_ | refine J9 rfl ?_) | (refine M2 ?_; first | refine I0 ?_ | refine I1 ?_ | refine I2 ?_ | refine I3 ?_ | refine I4 ?_ | refine I5 ?_ | refine I6 rfl ?_ | refine I7 ?_ | refine I8 ?_ | refine z4 ?_) | (refine M3 ?_; first | refine O6 ?_ | refine z2 tok rfl ?_ | refine O8 rfl ?_ | refine O7 rfl ?_ rfl | refine O9 rfl ?_ rfl | refine U1 _ (U4 rfl rfl) rfl ?_ | refine U1 _ (U5 rfl rfl) rfl ?_ | refine U1 _ (U2 rfl) rfl ?_ | refine U1 _ (U3 tok rfl rfl rfl rfl rfl) rfl ?_) | (refine M4 ?_; first | refine M6 ?_ | refine U6 rfl (by kernel_rfl) ?_ | refine U7 (by kernel_rfl) ?_) | (refine M5 ?_; first | exact M7 | refine U8 rfl ?_ | refine U9 rfl rfl ?_ ?_))
  have hB2 : Below w.heap.size w w2 := S2.toBelow
  have hsQ : ∀ x, (svV q2).ownBlock = some x → x ∉ [g9, g7, g6, g5, g4, g3] := fun x hx hm' => by
    have := hownC.lt x hx
    simp only [List.mem_cons, List.not_mem_nil, or_false] at hm'
    omega
  have hb2 := hb.below hB2
  have hws : w.heap.size ≤ w2.heap.size := hB2.size
  refine XC.loopk [6, 7, 9, 46] rfl (fun s' : Nat × World × SV => [(47, .int .i64 (s'.1 : Nat))])
    (fun s' => [(g9, watO p b q2 (staK b s t s'.1) t s'.2.2 (floK b s t s'.1)), _, _, _, _, _]) (fun s' => s'.2.1)
    (fun s' => s'.1 ≤ 5 ∧ Below w.heap.size w s'.2.1 ∧ s'.2.1.ownsRow w.heap.size 3 1 (svV q2) s.fil.length (ints (filS b s t s'.1)) ∧ s'.2.1.ownsRow w.heap.size 3 1 (svV s'.2.2) (tkS b s t s'.1).length (ints (tkS b s t s'.1)) ∧
      (s'.1 ≤ 4 → s'.2 = (w2, ⟨none, 0, 0⟩)) ∧ (1 ≤ s'.1 → vol1 s t ≤ 1000000000) ∧ (2 ≤ s'.1 → vol2 b s t ≤ 1000000000) ∧ (3 ≤ s'.1 → vol3 b s t ≤ 1000000000) ∧ (∀ x, (svV s'.2.2).ownBlock = some x → x ∉ [g9, g7, g6, g5, g4, g3]))
    (fun s' => 5 - s'.1) (0, w2, ⟨none, 0, 0⟩) ⟨Nat.zero_le _, hB2, hown, World.ownsRow_nil _ _ _ _, fun _ => rfl, fun h => absurd h (by simp), fun h => absurd h (by simp), fun h => absurd h (by simp), fun x hx => by cases hx⟩ (by repeat (first | exact Sub.nil | refine Sub.cons rfl ?_)) (fun _ h => h) ?_
  rintro ⟨k, W, r⟩ ⟨hk, hBW, hoF, hoT, h4, c1, c2, c3, hsR⟩
  simp only at hk hBW hoF hoT h4 c1 c2 c3 hsR
  dsimp only [List.cons_append, List.nil_append]
  repeat (first | (refine M0 ?_; first | refine O0 ?_ | refine z1 tok rfl ?_ | refine O1 rfl ?_ rfl | refine O2 rfl ?_ | refine O3 rfl ?_ rfl | refine O4 rfl rfl rfl (fun _ _ => ?_) | refine O5 tok rfl rfl rfl (fun _ _ => ?_) | refine U0 _ (U2 rfl) rfl ?_ | refine U0 _ (U3 tok rfl rfl rfl rfl rfl) rfl ?_ | refine z3 tok rfl ?_ | refine U0 _ (U4 rfl rfl) rfl ?_ | refine U0 _ (U5 rfl rfl) rfl ?_) | (refine M1 ?_; first | refine J0 ?_ | refine J1 ?_ | refine J2 mixed rfl (by kernel_rfl) ?_ | refine J3 mixed rfl rfl (by kernel_rfl) ?_ | refine J4 ?_ | refine J5 ?_ | refine J6 ?_ | refine J7 ?_ | refine J8 rfl ?_ | refine J9 rfl ?_) | (refine M2 ?_; first | refine I0 ?_ | refine I1 ?_ | refine I2 ?_ | refine I3 ?_ | refine I4 ?_ | refine I5 ?_ | refine I6 rfl ?_ | refine I7 ?_ | refine I8 ?_ | refine z4 ?_) | (refine M3 ?_; first | refine O6 ?_ | refine z2 tok rfl ?_ | refine O8 rfl ?_ | refine O7 rfl ?_ rfl | refine O9 rfl ?_ rfl | refine U1 _ (U4 rfl rfl) rfl ?_ | refine U1 _ (U5 rfl rfl) rfl ?_ | refine U1 _ (U2 rfl) rfl ?_ | refine U1 _ (U3 tok rfl rfl rfl rfl rfl) rfl ?_) | (refine M4 ?_; first | refine M6 ?_ | refine U6 rfl (by kernel_rfl) ?_ | refine U7 (by kernel_rfl) ?_) | (refine M5 ?_; first | exact M7 | refine U8 rfl ?_ | refine U9 rfl rfl ?_ ?_))
  refine XC.cond _ rfl (fun h5 => ?_) (fun h5 => ?_)
  · have hv0 := v0_bd ho
    have hvs := hs.vol
    have hov := over_bd ho t o1
    have e1 : vol1 s t = s.vol + t.river := rfl
    have e2 : vol2 b s t = vol1 s t + overOf b t := rfl
    have e3 : vol3 b s t = vol2 b s t + leakOf b t.outer (vol2 b s t) := rfl
    have e4 : b.v0 - vol2 b s t ≤ leakOf b t.outer (vol2 b s t) := by unfold leakOf; omega
    have e0 : b.v0 = (b.row 0).vol := rfl
    have hk4 : k ≤ 4 := by simp only [decide_eq_true_eq] at h5; omega
    obtain ⟨rfl, rfl⟩ := Prod.mk.inj (h4 hk4)
    have hoF : W.ownsRow w.heap.size 3 1 (svV q2) s.fil.length (ints s.fil) := hown
    have hoT : W.ownsRow w.heap.size 3 1 (svV ⟨none, 0, 0⟩) ([] : List Int).length (ints []) := World.ownsRow_nil _ _ _ _
    rcases k with _ | _ | _ | _ | _ | k
    · -- river
      repeat (first | (refine M0 ?_; first | refine O0 ?_ | refine z1 tok rfl ?_ | refine O1 rfl ?_ rfl | refine O2 rfl ?_ | refine O3 rfl ?_ rfl | refine O4 rfl rfl rfl (fun _ _ => ?_) | refine O5 tok rfl rfl rfl (fun _ _ => ?_) | refine U0 _ (U2 rfl) rfl ?_ | refine U0 _ (U3 tok rfl rfl rfl rfl rfl) rfl ?_ | refine z3 tok rfl ?_ | refine U0 _ (U4 rfl rfl) rfl ?_ | refine U0 _ (U5 rfl rfl) rfl ?_) | (refine M1 ?_; first | refine J0 ?_ | refine J1 ?_ | refine J2 mixed rfl (by kernel_rfl) ?_ | refine J3 mixed rfl rfl (by kernel_rfl) ?_ | refine J4 ?_ | refine J5 ?_ | refine J6 ?_ | refine J7 ?_ | refine J8 rfl ?_ | refine J9 rfl ?_) | (refine M2 ?_; first | refine I0 ?_ | refine I1 ?_ | refine I2 ?_ | refine I3 ?_ | refine I4 ?_ | refine I5 ?_ | refine I6 rfl ?_ | refine I7 ?_ | refine I8 ?_ | refine z4 ?_) | (refine M3 ?_; first | refine O6 ?_ | refine z2 tok rfl ?_ | refine O8 rfl ?_ | refine O7 rfl ?_ rfl | refine O9 rfl ?_ rfl | refine U1 _ (U4 rfl rfl) rfl ?_ | refine U1 _ (U5 rfl rfl) rfl ?_ | refine U1 _ (U2 rfl) rfl ?_ | refine U1 _ (U3 tok rfl rfl rfl rfl rfl) rfl ?_) | (refine M4 ?_; first | refine M6 ?_ | refine U6 rfl (by kernel_rfl) ?_ | refine U7 (by kernel_rfl) ?_) | (refine M5 ?_; first | exact M7 | refine U8 rfl ?_ | refine U9 rfl rfl ?_ ?_))
      refine XL.step _ (Ev.indexArr tok Tryd.underlying138 fn_one rfl (j := 0) rfl (by decide) rfl) rfl ?_
      repeat (first | (refine M0 ?_; first | refine O0 ?_ | refine z1 tok rfl ?_ | refine O1 rfl ?_ rfl | refine O2 rfl ?_ | refine O3 rfl ?_ rfl | refine O4 rfl rfl rfl (fun _ _ => ?_) | refine O5 tok rfl rfl rfl (fun _ _ => ?_) | refine U0 _ (U2 rfl) rfl ?_ | refine U0 _ (U3 tok rfl rfl rfl rfl rfl) rfl ?_ | refine z3 tok rfl ?_ | refine U0 _ (U4 rfl rfl) rfl ?_ | refine U0 _ (U5 rfl rfl) rfl ?_) | (refine M1 ?_; first | refine J0 ?_ | refine J1 ?_ | refine J2 mixed rfl (by kernel_rfl) ?_ | refine J3 mixed rfl rfl (by kernel_rfl) ?_ | refine J4 ?_ | refine J5 ?_ | refine J6 ?_ | refine J7 ?_ | refine J8 rfl ?_ | refine J9 rfl ?_) | (refine M2 ?_; first | refine I0 ?_ | refine I1 ?_ | refine I2 ?_ | refine I3 ?_ | refine I4 ?_ | refine I5 ?_ | refine I6 rfl ?_ | refine I7 ?_ | refine I8 ?_ | refine z4 ?_) | (refine M3 ?_; first | refine O6 ?_ | refine z2 tok rfl ?_ | refine O8 rfl ?_ | refine O7 rfl ?_ rfl | refine O9 rfl ?_ rfl | refine U1 _ (U4 rfl rfl) rfl ?_ | refine U1 _ (U5 rfl rfl) rfl ?_ | refine U1 _ (U2 rfl) rfl ?_ | refine U1 _ (U3 tok rfl rfl rfl rfl rfl) rfl ?_) | (refine M4 ?_; first | refine M6 ?_ | refine U6 rfl (by kernel_rfl) ?_ | refine U7 (by kernel_rfl) ?_) | (refine M5 ?_; first | exact M7 | refine U8 rfl ?_ | refine U9 rfl rfl ?_ ?_))
      refine XL.callT (B' := g9) 0 (fst := [.pointer (some ⟨g9, 0, none⟩)]) (cap := []) (vs := []) (ck rfl) rfl rfl rfl rfl rfl (fun w5 S5 => (river_any (g := g9) (p := p) (b := b) (q := q2) (s := s) (t := t) (r := ⟨none, 0, 0⟩) (f := ⟨0, 0, 0, 0, []⟩) (S5.obj (i := 0) rfl) (by unfold i64in; omega) :)) ?_
      repeat (first | (refine M0 ?_; first | refine O0 ?_ | refine z1 tok rfl ?_ | refine O1 rfl ?_ rfl | refine O2 rfl ?_ | refine O3 rfl ?_ rfl | refine O4 rfl rfl rfl (fun _ _ => ?_) | refine O5 tok rfl rfl rfl (fun _ _ => ?_) | refine U0 _ (U2 rfl) rfl ?_ | refine U0 _ (U3 tok rfl rfl rfl rfl rfl) rfl ?_ | refine z3 tok rfl ?_ | refine U0 _ (U4 rfl rfl) rfl ?_ | refine U0 _ (U5 rfl rfl) rfl ?_) | (refine M1 ?_; first | refine J0 ?_ | refine J1 ?_ | refine J2 mixed rfl (by kernel_rfl) ?_ | refine J3 mixed rfl rfl (by kernel_rfl) ?_ | refine J4 ?_ | refine J5 ?_ | refine J6 ?_ | refine J7 ?_ | refine J8 rfl ?_ | refine J9 rfl ?_) | (refine M2 ?_; first | refine I0 ?_ | refine I1 ?_ | refine I2 ?_ | refine I3 ?_ | refine I4 ?_ | refine I5 ?_ | refine I6 rfl ?_ | refine I7 ?_ | refine I8 ?_ | refine z4 ?_) | (refine M3 ?_; first | refine O6 ?_ | refine z2 tok rfl ?_ | refine O8 rfl ?_ | refine O7 rfl ?_ rfl | refine O9 rfl ?_ rfl | refine U1 _ (U4 rfl rfl) rfl ?_ | refine U1 _ (U5 rfl rfl) rfl ?_ | refine U1 _ (U2 rfl) rfl ?_ | refine U1 _ (U3 tok rfl rfl rfl rfl rfl) rfl ?_) | (refine M4 ?_; first | refine M6 ?_ | refine U6 rfl (by kernel_rfl) ?_ | refine U7 (by kernel_rfl) ?_) | (refine M5 ?_; first | exact M7 | refine U8 rfl ?_ | refine U9 rfl rfl ?_ ?_))
      refine XC.cond _ rfl (fun h6 => ?_) (fun h6 => ?_)
      · simp only [Bool.not_not, Bool.not_eq_true', Bool.not_eq_false', decide_eq_true_eq, decide_eq_false_iff_not] at h6
        repeat (first | (refine M0 ?_; first | refine O0 ?_ | refine z1 tok rfl ?_ | refine O1 rfl ?_ rfl | refine O2 rfl ?_ | refine O3 rfl ?_ rfl | refine O4 rfl rfl rfl (fun _ _ => ?_) | refine O5 tok rfl rfl rfl (fun _ _ => ?_) | refine U0 _ (U2 rfl) rfl ?_ | refine U0 _ (U3 tok rfl rfl rfl rfl rfl) rfl ?_ | refine z3 tok rfl ?_ | refine U0 _ (U4 rfl rfl) rfl ?_ | refine U0 _ (U5 rfl rfl) rfl ?_) | (refine M1 ?_; first | refine J0 ?_ | refine J1 ?_ | refine J2 mixed rfl (by kernel_rfl) ?_ | refine J3 mixed rfl rfl (by kernel_rfl) ?_ | refine J4 ?_ | refine J5 ?_ | refine J6 ?_ | refine J7 ?_ | refine J8 rfl ?_ | refine J9 rfl ?_) | (refine M2 ?_; first | refine I0 ?_ | refine I1 ?_ | refine I2 ?_ | refine I3 ?_ | refine I4 ?_ | refine I5 ?_ | refine I6 rfl ?_ | refine I7 ?_ | refine I8 ?_ | refine z4 ?_) | (refine M3 ?_; first | refine O6 ?_ | refine z2 tok rfl ?_ | refine O8 rfl ?_ | refine O7 rfl ?_ rfl | refine O9 rfl ?_ rfl | refine U1 _ (U4 rfl rfl) rfl ?_ | refine U1 _ (U5 rfl rfl) rfl ?_ | refine U1 _ (U2 rfl) rfl ?_ | refine U1 _ (U3 tok rfl rfl rfl rfl rfl) rfl ?_) | (refine M4 ?_; first | refine M6 ?_ | refine U6 rfl (by kernel_rfl) ?_ | refine U7 (by kernel_rfl) ?_) | (refine M5 ?_; first | exact M7 | refine U8 rfl ?_ | refine U9 rfl rfl ?_ ?_))
        refine XE.retg tok Tryd.results48 rfl (by simp only [and_self, and_true]) (fun w' S => ?_)
        exact ⟨_, rfl, StepR.err (stepE_3 hbad (.inl h6)) (by decide) (hB2.trans S.toBelow)⟩
      · simp only [Bool.not_not, Bool.not_eq_true', Bool.not_eq_false', decide_eq_true_eq, decide_eq_false_iff_not] at h6
        repeat (first | (refine M0 ?_; first | refine O0 ?_ | refine z1 tok rfl ?_ | refine O1 rfl ?_ rfl | refine O2 rfl ?_ | refine O3 rfl ?_ rfl | refine O4 rfl rfl rfl (fun _ _ => ?_) | refine O5 tok rfl rfl rfl (fun _ _ => ?_) | refine U0 _ (U2 rfl) rfl ?_ | refine U0 _ (U3 tok rfl rfl rfl rfl rfl) rfl ?_ | refine z3 tok rfl ?_ | refine U0 _ (U4 rfl rfl) rfl ?_ | refine U0 _ (U5 rfl rfl) rfl ?_) | (refine M1 ?_; first | refine J0 ?_ | refine J1 ?_ | refine J2 mixed rfl (by kernel_rfl) ?_ | refine J3 mixed rfl rfl (by kernel_rfl) ?_ | refine J4 ?_ | refine J5 ?_ | refine J6 ?_ | refine J7 ?_ | refine J8 rfl ?_ | refine J9 rfl ?_) | (refine M2 ?_; first | refine I0 ?_ | refine I1 ?_ | refine I2 ?_ | refine I3 ?_ | refine I4 ?_ | refine I5 ?_ | refine I6 rfl ?_ | refine I7 ?_ | refine I8 ?_ | refine z4 ?_) | (refine M3 ?_; first | refine O6 ?_ | refine z2 tok rfl ?_ | refine O8 rfl ?_ | refine O7 rfl ?_ rfl | refine O9 rfl ?_ rfl | refine U1 _ (U4 rfl rfl) rfl ?_ | refine U1 _ (U5 rfl rfl) rfl ?_ | refine U1 _ (U2 rfl) rfl ?_ | refine U1 _ (U3 tok rfl rfl rfl rfl rfl) rfl ?_) | (refine M4 ?_; first | refine M6 ?_ | refine U6 rfl (by kernel_rfl) ?_ | refine U7 (by kernel_rfl) ?_) | (refine M5 ?_; first | exact M7 | refine U8 rfl ?_ | refine U9 rfl rfl ?_ ?_))
        refine XE.round (s := (0, W, ⟨none, 0, 0⟩)) (0 + 1, W, ⟨none, 0, 0⟩) ⟨by simp, hB2, hoF, hoT, fun _ => rfl, fun _ => (by simp only [vol1]; omega), fun h => absurd h (by simp), fun h => absurd h (by simp), fun x hx => by cases hx⟩ (by simp) (by repeat (first | exact Sub.nil | refine Sub.cons rfl ?_)) (fun _ h => h)
    · -- over
      repeat (first | (refine M0 ?_; first | refine O0 ?_ | refine z1 tok rfl ?_ | refine O1 rfl ?_ rfl | refine O2 rfl ?_ | refine O3 rfl ?_ rfl | refine O4 rfl rfl rfl (fun _ _ => ?_) | refine O5 tok rfl rfl rfl (fun _ _ => ?_) | refine U0 _ (U2 rfl) rfl ?_ | refine U0 _ (U3 tok rfl rfl rfl rfl rfl) rfl ?_ | refine z3 tok rfl ?_ | refine U0 _ (U4 rfl rfl) rfl ?_ | refine U0 _ (U5 rfl rfl) rfl ?_) | (refine M1 ?_; first | refine J0 ?_ | refine J1 ?_ | refine J2 mixed rfl (by kernel_rfl) ?_ | refine J3 mixed rfl rfl (by kernel_rfl) ?_ | refine J4 ?_ | refine J5 ?_ | refine J6 ?_ | refine J7 ?_ | refine J8 rfl ?_ | refine J9 rfl ?_) | (refine M2 ?_; first | refine I0 ?_ | refine I1 ?_ | refine I2 ?_ | refine I3 ?_ | refine I4 ?_ | refine I5 ?_ | refine I6 rfl ?_ | refine I7 ?_ | refine I8 ?_ | refine z4 ?_) | (refine M3 ?_; first | refine O6 ?_ | refine z2 tok rfl ?_ | refine O8 rfl ?_ | refine O7 rfl ?_ rfl | refine O9 rfl ?_ rfl | refine U1 _ (U4 rfl rfl) rfl ?_ | refine U1 _ (U5 rfl rfl) rfl ?_ | refine U1 _ (U2 rfl) rfl ?_ | refine U1 _ (U3 tok rfl rfl rfl rfl rfl) rfl ?_) | (refine M4 ?_; first | refine M6 ?_ | refine U6 rfl (by kernel_rfl) ?_ | refine U7 (by kernel_rfl) ?_) | (refine M5 ?_; first | exact M7 | refine U8 rfl ?_ | refine U9 rfl rfl ?_ ?_))
      refine XL.step _ (Ev.indexArr tok Tryd.underlying138 fn_one rfl (j := 1) rfl (by decide) rfl) rfl ?_
      repeat (first | (refine M0 ?_; first | refine O0 ?_ | refine z1 tok rfl ?_ | refine O1 rfl ?_ rfl | refine O2 rfl ?_ | refine O3 rfl ?_ rfl | refine O4 rfl rfl rfl (fun _ _ => ?_) | refine O5 tok rfl rfl rfl (fun _ _ => ?_) | refine U0 _ (U2 rfl) rfl ?_ | refine U0 _ (U3 tok rfl rfl rfl rfl rfl) rfl ?_ | refine z3 tok rfl ?_ | refine U0 _ (U4 rfl rfl) rfl ?_ | refine U0 _ (U5 rfl rfl) rfl ?_) | (refine M1 ?_; first | refine J0 ?_ | refine J1 ?_ | refine J2 mixed rfl (by kernel_rfl) ?_ | refine J3 mixed rfl rfl (by kernel_rfl) ?_ | refine J4 ?_ | refine J5 ?_ | refine J6 ?_ | refine J7 ?_ | refine J8 rfl ?_ | refine J9 rfl ?_) | (refine M2 ?_; first | refine I0 ?_ | refine I1 ?_ | refine I2 ?_ | refine I3 ?_ | refine I4 ?_ | refine I5 ?_ | refine I6 rfl ?_ | refine I7 ?_ | refine I8 ?_ | refine z4 ?_) | (refine M3 ?_; first | refine O6 ?_ | refine z2 tok rfl ?_ | refine O8 rfl ?_ | refine O7 rfl ?_ rfl | refine O9 rfl ?_ rfl | refine U1 _ (U4 rfl rfl) rfl ?_ | refine U1 _ (U5 rfl rfl) rfl ?_ | refine U1 _ (U2 rfl) rfl ?_ | refine U1 _ (U3 tok rfl rfl rfl rfl rfl) rfl ?_) | (refine M4 ?_; first | refine M6 ?_ | refine U6 rfl (by kernel_rfl) ?_ | refine U7 (by kernel_rfl) ?_) | (refine M5 ?_; first | exact M7 | refine U8 rfl ?_ | refine U9 rfl rfl ?_ ?_))
      refine XL.callT (B' := g9) 0 (fst := [.pointer (some ⟨g9, 0, none⟩)]) (cap := []) (vs := []) (ck rfl) rfl rfl rfl rfl rfl (fun w5 S5 => (over_run (g := g9) (p := p) (b := b) (q := q2) (s := ⟨vol1 s t, s.fil⟩) (t := t) (r := ⟨none, 0, 0⟩) (f := ⟨t.river, 0, 0, 0, []⟩) (S5.obj (i := 0) rfl) ho o1 (by simp only; omega) :)) ?_
      repeat (first | (refine M0 ?_; first | refine O0 ?_ | refine z1 tok rfl ?_ | refine O1 rfl ?_ rfl | refine O2 rfl ?_ | refine O3 rfl ?_ rfl | refine O4 rfl rfl rfl (fun _ _ => ?_) | refine O5 tok rfl rfl rfl (fun _ _ => ?_) | refine U0 _ (U2 rfl) rfl ?_ | refine U0 _ (U3 tok rfl rfl rfl rfl rfl) rfl ?_ | refine z3 tok rfl ?_ | refine U0 _ (U4 rfl rfl) rfl ?_ | refine U0 _ (U5 rfl rfl) rfl ?_) | (refine M1 ?_; first | refine J0 ?_ | refine J1 ?_ | refine J2 mixed rfl (by kernel_rfl) ?_ | refine J3 mixed rfl rfl (by kernel_rfl) ?_ | refine J4 ?_ | refine J5 ?_ | refine J6 ?_ | refine J7 ?_ | refine J8 rfl ?_ | refine J9 rfl ?_) | (refine M2 ?_; first | refine I0 ?_ | refine I1 ?_ | refine I2 ?_ | refine I3 ?_ | refine I4 ?_ | refine I5 ?_ | refine I6 rfl ?_ | refine I7 ?_ | refine I8 ?_ | refine z4 ?_) | (refine M3 ?_; first | refine O6 ?_ | refine z2 tok rfl ?_ | refine O8 rfl ?_ | refine O7 rfl ?_ rfl | refine O9 rfl ?_ rfl | refine U1 _ (U4 rfl rfl) rfl ?_ | refine U1 _ (U5 rfl rfl) rfl ?_ | refine U1 _ (U2 rfl) rfl ?_ | refine U1 _ (U3 tok rfl rfl rfl rfl rfl) rfl ?_) | (refine M4 ?_; first | refine M6 ?_ | refine U6 rfl (by kernel_rfl) ?_ | refine U7 (by kernel_rfl) ?_) | (refine M5 ?_; first | exact M7 | refine U8 rfl ?_ | refine U9 rfl rfl ?_ ?_))
      refine XC.cond _ rfl (fun h6 => ?_) (fun h6 => ?_)
      · simp only [Bool.not_not, Bool.not_eq_true', Bool.not_eq_false', decide_eq_true_eq, decide_eq_false_iff_not] at h6
        repeat (first | (refine M0 ?_; first | refine O0 ?_ | refine z1 tok rfl ?_ | refine O1 rfl ?_ rfl | refine O2 rfl ?_ | refine O3 rfl ?_ rfl | refine O4 rfl rfl rfl (fun _ _ => ?_) | refine O5 tok rfl rfl rfl (fun _ _ => ?_) | refine U0 _ (U2 rfl) rfl ?_ | refine U0 _ (U3 tok rfl rfl rfl rfl rfl) rfl ?_ | refine z3 tok rfl ?_ | refine U0 _ (U4 rfl rfl) rfl ?_ | refine U0 _ (U5 rfl rfl) rfl ?_) | (refine M1 ?_; first | refine J0 ?_ | refine J1 ?_ | refine J2 mixed rfl (by kernel_rfl) ?_ | refine J3 mixed rfl rfl (by kernel_rfl) ?_ | refine J4 ?_ | refine J5 ?_ | refine J6 ?_ | refine J7 ?_ | refine J8 rfl ?_ | refine J9 rfl ?_) | (refine M2 ?_; first | refine I0 ?_ | refine I1 ?_ | refine I2 ?_ | refine I3 ?_ | refine I4 ?_ | refine I5 ?_ | refine I6 rfl ?_ | refine I7 ?_ | refine I8 ?_ | refine z4 ?_) | (refine M3 ?_; first | refine O6 ?_ | refine z2 tok rfl ?_ | refine O8 rfl ?_ | refine O7 rfl ?_ rfl | refine O9 rfl ?_ rfl | refine U1 _ (U4 rfl rfl) rfl ?_ | refine U1 _ (U5 rfl rfl) rfl ?_ | refine U1 _ (U2 rfl) rfl ?_ | refine U1 _ (U3 tok rfl rfl rfl rfl rfl) rfl ?_) | (refine M4 ?_; first | refine M6 ?_ | refine U6 rfl (by kernel_rfl) ?_ | refine U7 (by kernel_rfl) ?_) | (refine M5 ?_; first | exact M7 | refine U8 rfl ?_ | refine U9 rfl rfl ?_ ?_))
        refine XE.retg tok Tryd.results48 rfl (by simp only [and_self, and_true]) (fun w' S => ?_)
        exact ⟨_, rfl, StepR.err (stepE_3 hbad (.inr <| .inl h6)) (by decide) (hB2.trans S.toBelow)⟩
      · simp only [Bool.not_not, Bool.not_eq_true', Bool.not_eq_false', decide_eq_true_eq, decide_eq_false_iff_not] at h6
        repeat (first | (refine M0 ?_; first | refine O0 ?_ | refine z1 tok rfl ?_ | refine O1 rfl ?_ rfl | refine O2 rfl ?_ | refine O3 rfl ?_ rfl | refine O4 rfl rfl rfl (fun _ _ => ?_) | refine O5 tok rfl rfl rfl (fun _ _ => ?_) | refine U0 _ (U2 rfl) rfl ?_ | refine U0 _ (U3 tok rfl rfl rfl rfl rfl) rfl ?_ | refine z3 tok rfl ?_ | refine U0 _ (U4 rfl rfl) rfl ?_ | refine U0 _ (U5 rfl rfl) rfl ?_) | (refine M1 ?_; first | refine J0 ?_ | refine J1 ?_ | refine J2 mixed rfl (by kernel_rfl) ?_ | refine J3 mixed rfl rfl (by kernel_rfl) ?_ | refine J4 ?_ | refine J5 ?_ | refine J6 ?_ | refine J7 ?_ | refine J8 rfl ?_ | refine J9 rfl ?_) | (refine M2 ?_; first | refine I0 ?_ | refine I1 ?_ | refine I2 ?_ | refine I3 ?_ | refine I4 ?_ | refine I5 ?_ | refine I6 rfl ?_ | refine I7 ?_ | refine I8 ?_ | refine z4 ?_) | (refine M3 ?_; first | refine O6 ?_ | refine z2 tok rfl ?_ | refine O8 rfl ?_ | refine O7 rfl ?_ rfl | refine O9 rfl ?_ rfl | refine U1 _ (U4 rfl rfl) rfl ?_ | refine U1 _ (U5 rfl rfl) rfl ?_ | refine U1 _ (U2 rfl) rfl ?_ | refine U1 _ (U3 tok rfl rfl rfl rfl rfl) rfl ?_) | (refine M4 ?_; first | refine M6 ?_ | refine U6 rfl (by kernel_rfl) ?_ | refine U7 (by kernel_rfl) ?_) | (refine M5 ?_; first | exact M7 | refine U8 rfl ?_ | refine U9 rfl rfl ?_ ?_))
        refine XE.round (s := (1, W, ⟨none, 0, 0⟩)) (1 + 1, W, ⟨none, 0, 0⟩) ⟨by simp, hB2, hoF, hoT, fun _ => rfl, fun _ => c1 (by omega), fun _ => (by rw [e2]; omega), fun h => absurd h (by simp), fun x hx => by cases hx⟩ (by simp) (by repeat (first | exact Sub.nil | refine Sub.cons rfl ?_)) (fun _ h => h)
    · -- leak
      repeat (first | (refine M0 ?_; first | refine O0 ?_ | refine z1 tok rfl ?_ | refine O1 rfl ?_ rfl | refine O2 rfl ?_ | refine O3 rfl ?_ rfl | refine O4 rfl rfl rfl (fun _ _ => ?_) | refine O5 tok rfl rfl rfl (fun _ _ => ?_) | refine U0 _ (U2 rfl) rfl ?_ | refine U0 _ (U3 tok rfl rfl rfl rfl rfl) rfl ?_ | refine z3 tok rfl ?_ | refine U0 _ (U4 rfl rfl) rfl ?_ | refine U0 _ (U5 rfl rfl) rfl ?_) | (refine M1 ?_; first | refine J0 ?_ | refine J1 ?_ | refine J2 mixed rfl (by kernel_rfl) ?_ | refine J3 mixed rfl rfl (by kernel_rfl) ?_ | refine J4 ?_ | refine J5 ?_ | refine J6 ?_ | refine J7 ?_ | refine J8 rfl ?_ | refine J9 rfl ?_) | (refine M2 ?_; first | refine I0 ?_ | refine I1 ?_ | refine I2 ?_ | refine I3 ?_ | refine I4 ?_ | refine I5 ?_ | refine I6 rfl ?_ | refine I7 ?_ | refine I8 ?_ | refine z4 ?_) | (refine M3 ?_; first | refine O6 ?_ | refine z2 tok rfl ?_ | refine O8 rfl ?_ | refine O7 rfl ?_ rfl | refine O9 rfl ?_ rfl | refine U1 _ (U4 rfl rfl) rfl ?_ | refine U1 _ (U5 rfl rfl) rfl ?_ | refine U1 _ (U2 rfl) rfl ?_ | refine U1 _ (U3 tok rfl rfl rfl rfl rfl) rfl ?_) | (refine M4 ?_; first | refine M6 ?_ | refine U6 rfl (by kernel_rfl) ?_ | refine U7 (by kernel_rfl) ?_) | (refine M5 ?_; first | exact M7 | refine U8 rfl ?_ | refine U9 rfl rfl ?_ ?_))
      refine XL.step _ (Ev.indexArr tok Tryd.underlying138 fn_one rfl (j := 2) rfl (by decide) rfl) rfl ?_
      repeat (first | (refine M0 ?_; first | refine O0 ?_ | refine z1 tok rfl ?_ | refine O1 rfl ?_ rfl | refine O2 rfl ?_ | refine O3 rfl ?_ rfl | refine O4 rfl rfl rfl (fun _ _ => ?_) | refine O5 tok rfl rfl rfl (fun _ _ => ?_) | refine U0 _ (U2 rfl) rfl ?_ | refine U0 _ (U3 tok rfl rfl rfl rfl rfl) rfl ?_ | refine z3 tok rfl ?_ | refine U0 _ (U4 rfl rfl) rfl ?_ | refine U0 _ (U5 rfl rfl) rfl ?_) | (refine M1 ?_; first | refine J0 ?_ | refine J1 ?_ | refine J2 mixed rfl (by kernel_rfl) ?_ | refine J3 mixed rfl rfl (by kernel_rfl) ?_ | refine J4 ?_ | refine J5 ?_ | refine J6 ?_ | refine J7 ?_ | refine J8 rfl ?_ | refine J9 rfl ?_) | (refine M2 ?_; first | refine I0 ?_ | refine I1 ?_ | refine I2 ?_ | refine I3 ?_ | refine I4 ?_ | refine I5 ?_ | refine I6 rfl ?_ | refine I7 ?_ | refine I8 ?_ | refine z4 ?_) | (refine M3 ?_; first | refine O6 ?_ | refine z2 tok rfl ?_ | refine O8 rfl ?_ | refine O7 rfl ?_ rfl | refine O9 rfl ?_ rfl | refine U1 _ (U4 rfl rfl) rfl ?_ | refine U1 _ (U5 rfl rfl) rfl ?_ | refine U1 _ (U2 rfl) rfl ?_ | refine U1 _ (U3 tok rfl rfl rfl rfl rfl) rfl ?_) | (refine M4 ?_; first | refine M6 ?_ | refine U6 rfl (by kernel_rfl) ?_ | refine U7 (by kernel_rfl) ?_) | (refine M5 ?_; first | exact M7 | refine U8 rfl ?_ | refine U9 rfl rfl ?_ ?_))
      refine XL.callT (B' := g9) 0 (fst := [.pointer (some ⟨g9, 0, none⟩)]) (cap := []) (vs := []) (ck rfl) rfl rfl rfl rfl rfl (fun w5 S5 => (leak_any (g := g9) (p := p) (b := b) (q := q2) (s := ⟨vol2 b s t, s.fil⟩) (t := t) (r := ⟨none, 0, 0⟩) (f := ⟨t.river, overOf b t, 0, 0, []⟩) (S5.obj (i := 0) rfl) ((hb2.below S5.toBelow).more (by omega)) ho o1 (by simp only; omega) :)) ?_
      repeat (first | (refine M0 ?_; first | refine O0 ?_ | refine z1 tok rfl ?_ | refine O1 rfl ?_ rfl | refine O2 rfl ?_ | refine O3 rfl ?_ rfl | refine O4 rfl rfl rfl (fun _ _ => ?_) | refine O5 tok rfl rfl rfl (fun _ _ => ?_) | refine U0 _ (U2 rfl) rfl ?_ | refine U0 _ (U3 tok rfl rfl rfl rfl rfl) rfl ?_ | refine z3 tok rfl ?_ | refine U0 _ (U4 rfl rfl) rfl ?_ | refine U0 _ (U5 rfl rfl) rfl ?_) | (refine M1 ?_; first | refine J0 ?_ | refine J1 ?_ | refine J2 mixed rfl (by kernel_rfl) ?_ | refine J3 mixed rfl rfl (by kernel_rfl) ?_ | refine J4 ?_ | refine J5 ?_ | refine J6 ?_ | refine J7 ?_ | refine J8 rfl ?_ | refine J9 rfl ?_) | (refine M2 ?_; first | refine I0 ?_ | refine I1 ?_ | refine I2 ?_ | refine I3 ?_ | refine I4 ?_ | refine I5 ?_ | refine I6 rfl ?_ | refine I7 ?_ | refine I8 ?_ | refine z4 ?_) | (refine M3 ?_; first | refine O6 ?_ | refine z2 tok rfl ?_ | refine O8 rfl ?_ | refine O7 rfl ?_ rfl | refine O9 rfl ?_ rfl | refine U1 _ (U4 rfl rfl) rfl ?_ | refine U1 _ (U5 rfl rfl) rfl ?_ | refine U1 _ (U2 rfl) rfl ?_ | refine U1 _ (U3 tok rfl rfl rfl rfl rfl) rfl ?_) | (refine M4 ?_; first | refine M6 ?_ | refine U6 rfl (by kernel_rfl) ?_ | refine U7 (by kernel_rfl) ?_) | (refine M5 ?_; first | exact M7 | refine U8 rfl ?_ | refine U9 rfl rfl ?_ ?_))
      refine XC.cond _ rfl (fun h6 => ?_) (fun h6 => ?_)
      · simp only [Bool.not_not, Bool.not_eq_true', Bool.not_eq_false', decide_eq_true_eq, decide_eq_false_iff_not] at h6
        repeat (first | (refine M0 ?_; first | refine O0 ?_ | refine z1 tok rfl ?_ | refine O1 rfl ?_ rfl | refine O2 rfl ?_ | refine O3 rfl ?_ rfl | refine O4 rfl rfl rfl (fun _ _ => ?_) | refine O5 tok rfl rfl rfl (fun _ _ => ?_) | refine U0 _ (U2 rfl) rfl ?_ | refine U0 _ (U3 tok rfl rfl rfl rfl rfl) rfl ?_ | refine z3 tok rfl ?_ | refine U0 _ (U4 rfl rfl) rfl ?_ | refine U0 _ (U5 rfl rfl) rfl ?_) | (refine M1 ?_; first | refine J0 ?_ | refine J1 ?_ | refine J2 mixed rfl (by kernel_rfl) ?_ | refine J3 mixed rfl rfl (by kernel_rfl) ?_ | refine J4 ?_ | refine J5 ?_ | refine J6 ?_ | refine J7 ?_ | refine J8 rfl ?_ | refine J9 rfl ?_) | (refine M2 ?_; first | refine I0 ?_ | refine I1 ?_ | refine I2 ?_ | refine I3 ?_ | refine I4 ?_ | refine I5 ?_ | refine I6 rfl ?_ | refine I7 ?_ | refine I8 ?_ | refine z4 ?_) | (refine M3 ?_; first | refine O6 ?_ | refine z2 tok rfl ?_ | refine O8 rfl ?_ | refine O7 rfl ?_ rfl | refine O9 rfl ?_ rfl | refine U1 _ (U4 rfl rfl) rfl ?_ | refine U1 _ (U5 rfl rfl) rfl ?_ | refine U1 _ (U2 rfl) rfl ?_ | refine U1 _ (U3 tok rfl rfl rfl rfl rfl) rfl ?_) | (refine M4 ?_; first | refine M6 ?_ | refine U6 rfl (by kernel_rfl) ?_ | refine U7 (by kernel_rfl) ?_) | (refine M5 ?_; first | exact M7 | refine U8 rfl ?_ | refine U9 rfl rfl ?_ ?_))
        refine XE.retg tok Tryd.results48 rfl (by simp only [and_self, and_true]) (fun w' S => ?_)
        exact ⟨_, rfl, StepR.err (stepE_3 hbad (.inr <| .inr h6)) (by decide) (hB2.trans S.toBelow)⟩
      · simp only [Bool.not_not, Bool.not_eq_true', Bool.not_eq_false', decide_eq_true_eq, decide_eq_false_iff_not] at h6
        repeat (first | (refine M0 ?_; first | refine O0 ?_ | refine z1 tok rfl ?_ | refine O1 rfl ?_ rfl | refine O2 rfl ?_ | refine O3 rfl ?_ rfl | refine O4 rfl rfl rfl (fun _ _ => ?_) | refine O5 tok rfl rfl rfl (fun _ _ => ?_) | refine U0 _ (U2 rfl) rfl ?_ | refine U0 _ (U3 tok rfl rfl rfl rfl rfl) rfl ?_ | refine z3 tok rfl ?_ | refine U0 _ (U4 rfl rfl) rfl ?_ | refine U0 _ (U5 rfl rfl) rfl ?_) | (refine M1 ?_; first | refine J0 ?_ | refine J1 ?_ | refine J2 mixed rfl (by kernel_rfl) ?_ | refine J3 mixed rfl rfl (by kernel_rfl) ?_ | refine J4 ?_ | refine J5 ?_ | refine J6 ?_ | refine J7 ?_ | refine J8 rfl ?_ | refine J9 rfl ?_) | (refine M2 ?_; first | refine I0 ?_ | refine I1 ?_ | refine I2 ?_ | refine I3 ?_ | refine I4 ?_ | refine I5 ?_ | refine I6 rfl ?_ | refine I7 ?_ | refine I8 ?_ | refine z4 ?_) | (refine M3 ?_; first | refine O6 ?_ | refine z2 tok rfl ?_ | refine O8 rfl ?_ | refine O7 rfl ?_ rfl | refine O9 rfl ?_ rfl | refine U1 _ (U4 rfl rfl) rfl ?_ | refine U1 _ (U5 rfl rfl) rfl ?_ | refine U1 _ (U2 rfl) rfl ?_ | refine U1 _ (U3 tok rfl rfl rfl rfl rfl) rfl ?_) | (refine M4 ?_; first | refine M6 ?_ | refine U6 rfl (by kernel_rfl) ?_ | refine U7 (by kernel_rfl) ?_) | (refine M5 ?_; first | exact M7 | refine U8 rfl ?_ | refine U9 rfl rfl ?_ ?_))
        refine XE.round (s := (2, W, ⟨none, 0, 0⟩)) (2 + 1, W, ⟨none, 0, 0⟩) ⟨by simp, hB2, hoF, hoT, fun _ => rfl, fun _ => c1 (by omega), fun _ => c2 (by omega), fun _ => (by rw [e3]; omega), fun x hx => by cases hx⟩ (by simp) (by repeat (first | exact Sub.nil | refine Sub.cons rfl ?_)) (fun _ h => h)
    · -- off
      repeat (first | (refine M0 ?_; first | refine O0 ?_ | refine z1 tok rfl ?_ | refine O1 rfl ?_ rfl | refine O2 rfl ?_ | refine O3 rfl ?_ rfl | refine O4 rfl rfl rfl (fun _ _ => ?_) | refine O5 tok rfl rfl rfl (fun _ _ => ?_) | refine U0 _ (U2 rfl) rfl ?_ | refine U0 _ (U3 tok rfl rfl rfl rfl rfl) rfl ?_ | refine z3 tok rfl ?_ | refine U0 _ (U4 rfl rfl) rfl ?_ | refine U0 _ (U5 rfl rfl) rfl ?_) | (refine M1 ?_; first | refine J0 ?_ | refine J1 ?_ | refine J2 mixed rfl (by kernel_rfl) ?_ | refine J3 mixed rfl rfl (by kernel_rfl) ?_ | refine J4 ?_ | refine J5 ?_ | refine J6 ?_ | refine J7 ?_ | refine J8 rfl ?_ | refine J9 rfl ?_) | (refine M2 ?_; first | refine I0 ?_ | refine I1 ?_ | refine I2 ?_ | refine I3 ?_ | refine I4 ?_ | refine I5 ?_ | refine I6 rfl ?_ | refine I7 ?_ | refine I8 ?_ | refine z4 ?_) | (refine M3 ?_; first | refine O6 ?_ | refine z2 tok rfl ?_ | refine O8 rfl ?_ | refine O7 rfl ?_ rfl | refine O9 rfl ?_ rfl | refine U1 _ (U4 rfl rfl) rfl ?_ | refine U1 _ (U5 rfl rfl) rfl ?_ | refine U1 _ (U2 rfl) rfl ?_ | refine U1 _ (U3 tok rfl rfl rfl rfl rfl) rfl ?_) | (refine M4 ?_; first | refine M6 ?_ | refine U6 rfl (by kernel_rfl) ?_ | refine U7 (by kernel_rfl) ?_) | (refine M5 ?_; first | exact M7 | refine U8 rfl ?_ | refine U9 rfl rfl ?_ ?_))
      refine XL.step _ (Ev.indexArr tok Tryd.underlying138 fn_one rfl (j := 3) rfl (by decide) rfl) rfl ?_
      repeat (first | (refine M0 ?_; first | refine O0 ?_ | refine z1 tok rfl ?_ | refine O1 rfl ?_ rfl | refine O2 rfl ?_ | refine O3 rfl ?_ rfl | refine O4 rfl rfl rfl (fun _ _ => ?_) | refine O5 tok rfl rfl rfl (fun _ _ => ?_) | refine U0 _ (U2 rfl) rfl ?_ | refine U0 _ (U3 tok rfl rfl rfl rfl rfl) rfl ?_ | refine z3 tok rfl ?_ | refine U0 _ (U4 rfl rfl) rfl ?_ | refine U0 _ (U5 rfl rfl) rfl ?_) | (refine M1 ?_; first | refine J0 ?_ | refine J1 ?_ | refine J2 mixed rfl (by kernel_rfl) ?_ | refine J3 mixed rfl rfl (by kernel_rfl) ?_ | refine J4 ?_ | refine J5 ?_ | refine J6 ?_ | refine J7 ?_ | refine J8 rfl ?_ | refine J9 rfl ?_) | (refine M2 ?_; first | refine I0 ?_ | refine I1 ?_ | refine I2 ?_ | refine I3 ?_ | refine I4 ?_ | refine I5 ?_ | refine I6 rfl ?_ | refine I7 ?_ | refine I8 ?_ | refine z4 ?_) | (refine M3 ?_; first | refine O6 ?_ | refine z2 tok rfl ?_ | refine O8 rfl ?_ | refine O7 rfl ?_ rfl | refine O9 rfl ?_ rfl | refine U1 _ (U4 rfl rfl) rfl ?_ | refine U1 _ (U5 rfl rfl) rfl ?_ | refine U1 _ (U2 rfl) rfl ?_ | refine U1 _ (U3 tok rfl rfl rfl rfl rfl) rfl ?_) | (refine M4 ?_; first | refine M6 ?_ | refine U6 rfl (by kernel_rfl) ?_ | refine U7 (by kernel_rfl) ?_) | (refine M5 ?_; first | exact M7 | refine U8 rfl ?_ | refine U9 rfl rfl ?_ ?_))
      refine XL.callT (B' := g9) 0 (fst := [.pointer (some ⟨g9, 0, none⟩)]) (cap := []) (vs := []) (ck rfl) rfl rfl rfl rfl rfl (fun w5 S5 => (off_any (g := g9) (p := p) (b := b) (q := q2) (s := ⟨vol3 b s t, s.fil⟩) (t := t) (r := ⟨none, 0, 0⟩) (f := ⟨t.river, overOf b t, leakOf b t.outer (vol2 b s t), 0, []⟩) (S5.obj (i := 0) rfl) ((hb2.below S5.toBelow).more (by omega)) ho o3 (by simp only; omega) :)) ?_
      repeat (first | (refine M0 ?_; first | refine O0 ?_ | refine z1 tok rfl ?_ | refine O1 rfl ?_ rfl | refine O2 rfl ?_ | refine O3 rfl ?_ rfl | refine O4 rfl rfl rfl (fun _ _ => ?_) | refine O5 tok rfl rfl rfl (fun _ _ => ?_) | refine U0 _ (U2 rfl) rfl ?_ | refine U0 _ (U3 tok rfl rfl rfl rfl rfl) rfl ?_ | refine z3 tok rfl ?_ | refine U0 _ (U4 rfl rfl) rfl ?_ | refine U0 _ (U5 rfl rfl) rfl ?_) | (refine M1 ?_; first | refine J0 ?_ | refine J1 ?_ | refine J2 mixed rfl (by kernel_rfl) ?_ | refine J3 mixed rfl rfl (by kernel_rfl) ?_ | refine J4 ?_ | refine J5 ?_ | refine J6 ?_ | refine J7 ?_ | refine J8 rfl ?_ | refine J9 rfl ?_) | (refine M2 ?_; first | refine I0 ?_ | refine I1 ?_ | refine I2 ?_ | refine I3 ?_ | refine I4 ?_ | refine I5 ?_ | refine I6 rfl ?_ | refine I7 ?_ | refine I8 ?_ | refine z4 ?_) | (refine M3 ?_; first | refine O6 ?_ | refine z2 tok rfl ?_ | refine O8 rfl ?_ | refine O7 rfl ?_ rfl | refine O9 rfl ?_ rfl | refine U1 _ (U4 rfl rfl) rfl ?_ | refine U1 _ (U5 rfl rfl) rfl ?_ | refine U1 _ (U2 rfl) rfl ?_ | refine U1 _ (U3 tok rfl rfl rfl rfl rfl) rfl ?_) | (refine M4 ?_; first | refine M6 ?_ | refine U6 rfl (by kernel_rfl) ?_ | refine U7 (by kernel_rfl) ?_) | (refine M5 ?_; first | exact M7 | refine U8 rfl ?_ | refine U9 rfl rfl ?_ ?_))
      refine XE.round (s := (3, W, ⟨none, 0, 0⟩)) (3 + 1, W, ⟨none, 0, 0⟩) ⟨by simp, hB2, hoF, hoT, fun _ => rfl, fun _ => c1 (by omega), fun _ => c2 (by omega), fun _ => c3 (by omega), fun x hx => by cases hx⟩ (by simp) (by repeat (first | exact Sub.nil | refine Sub.cons rfl ?_)) (fun _ h => h)
    · -- polders
      repeat (first | (refine M0 ?_; first | refine O0 ?_ | refine z1 tok rfl ?_ | refine O1 rfl ?_ rfl | refine O2 rfl ?_ | refine O3 rfl ?_ rfl | refine O4 rfl rfl rfl (fun _ _ => ?_) | refine O5 tok rfl rfl rfl (fun _ _ => ?_) | refine U0 _ (U2 rfl) rfl ?_ | refine U0 _ (U3 tok rfl rfl rfl rfl rfl) rfl ?_ | refine z3 tok rfl ?_ | refine U0 _ (U4 rfl rfl) rfl ?_ | refine U0 _ (U5 rfl rfl) rfl ?_) | (refine M1 ?_; first | refine J0 ?_ | refine J1 ?_ | refine J2 mixed rfl (by kernel_rfl) ?_ | refine J3 mixed rfl rfl (by kernel_rfl) ?_ | refine J4 ?_ | refine J5 ?_ | refine J6 ?_ | refine J7 ?_ | refine J8 rfl ?_ | refine J9 rfl ?_) | (refine M2 ?_; first | refine I0 ?_ | refine I1 ?_ | refine I2 ?_ | refine I3 ?_ | refine I4 ?_ | refine I5 ?_ | refine I6 rfl ?_ | refine I7 ?_ | refine I8 ?_ | refine z4 ?_) | (refine M3 ?_; first | refine O6 ?_ | refine z2 tok rfl ?_ | refine O8 rfl ?_ | refine O7 rfl ?_ rfl | refine O9 rfl ?_ rfl | refine U1 _ (U4 rfl rfl) rfl ?_ | refine U1 _ (U5 rfl rfl) rfl ?_ | refine U1 _ (U2 rfl) rfl ?_ | refine U1 _ (U3 tok rfl rfl rfl rfl rfl) rfl ?_) | (refine M4 ?_; first | refine M6 ?_ | refine U6 rfl (by kernel_rfl) ?_ | refine U7 (by kernel_rfl) ?_) | (refine M5 ?_; first | exact M7 | refine U8 rfl ?_ | refine U9 rfl rfl ?_ ?_))
      refine XL.step _ (Ev.indexArr tok Tryd.underlying138 fn_one rfl (j := 4) rfl (by decide) rfl) rfl ?_
      repeat (first | (refine M0 ?_; first | refine O0 ?_ | refine z1 tok rfl ?_ | refine O1 rfl ?_ rfl | refine O2 rfl ?_ | refine O3 rfl ?_ rfl | refine O4 rfl rfl rfl (fun _ _ => ?_) | refine O5 tok rfl rfl rfl (fun _ _ => ?_) | refine U0 _ (U2 rfl) rfl ?_ | refine U0 _ (U3 tok rfl rfl rfl rfl rfl) rfl ?_ | refine z3 tok rfl ?_ | refine U0 _ (U4 rfl rfl) rfl ?_ | refine U0 _ (U5 rfl rfl) rfl ?_) | (refine M1 ?_; first | refine J0 ?_ | refine J1 ?_ | refine J2 mixed rfl (by kernel_rfl) ?_ | refine J3 mixed rfl rfl (by kernel_rfl) ?_ | refine J4 ?_ | refine J5 ?_ | refine J6 ?_ | refine J7 ?_ | refine J8 rfl ?_ | refine J9 rfl ?_) | (refine M2 ?_; first | refine I0 ?_ | refine I1 ?_ | refine I2 ?_ | refine I3 ?_ | refine I4 ?_ | refine I5 ?_ | refine I6 rfl ?_ | refine I7 ?_ | refine I8 ?_ | refine z4 ?_) | (refine M3 ?_; first | refine O6 ?_ | refine z2 tok rfl ?_ | refine O8 rfl ?_ | refine O7 rfl ?_ rfl | refine O9 rfl ?_ rfl | refine U1 _ (U4 rfl rfl) rfl ?_ | refine U1 _ (U5 rfl rfl) rfl ?_ | refine U1 _ (U2 rfl) rfl ?_ | refine U1 _ (U3 tok rfl rfl rfl rfl rfl) rfl ?_) | (refine M4 ?_; first | refine M6 ?_ | refine U6 rfl (by kernel_rfl) ?_ | refine U7 (by kernel_rfl) ?_) | (refine M5 ?_; first | exact M7 | refine U8 rfl ?_ | refine U9 rfl rfl ?_ ?_))
      have hk4v : b.v0 ≤ vol4 b s t ∧ vol4 b s t ≤ 1000000000 := (stepOk_of ho hs (stepE_0 hbad (c1 (by omega)) (c2 (by omega)) (c3 (by omega)))).v4
      by_cases hm0 : b.pols.length = 0
      · refine XL.callT (B' := g9) 0 (fst := [.pointer (some ⟨g9, 0, none⟩)]) (cap := []) (vs := []) (ck rfl) rfl rfl rfl rfl rfl (fun w5 S5 => (polders0_any (g := g9) (p := p) (b := b) (q := q2) (s := ⟨vol4 b s t, s.fil⟩) (t := t) (r := ⟨none, 0, 0⟩) (f := floK b s t 4) (S5.obj (i := 0) rfl) ((hb2.below S5.toBelow).more (by omega)) hm0 :)) ?_
        have e5 : staK b s t 5 = ⟨vol4 b s t, s.fil⟩ := by simp [staK, hm0, polV]
        have e6 : filS b s t 5 = s.fil := by simp [filS, stepS, hm0, rg]; rw [hm0] at hl; exact List.length_eq_zero_iff.1 hl
        have e7 : tkS b s t 5 = [] := by simp [tkS, stepF, hm0, rg]
        repeat (first | (refine M0 ?_; first | refine O0 ?_ | refine z1 tok rfl ?_ | refine O1 rfl ?_ rfl | refine O2 rfl ?_ | refine O3 rfl ?_ rfl | refine O4 rfl rfl rfl (fun _ _ => ?_) | refine O5 tok rfl rfl rfl (fun _ _ => ?_) | refine U0 _ (U2 rfl) rfl ?_ | refine U0 _ (U3 tok rfl rfl rfl rfl rfl) rfl ?_ | refine z3 tok rfl ?_ | refine U0 _ (U4 rfl rfl) rfl ?_ | refine U0 _ (U5 rfl rfl) rfl ?_) | (refine M1 ?_; first | refine J0 ?_ | refine J1 ?_ | refine J2 mixed rfl (by kernel_rfl) ?_ | refine J3 mixed rfl rfl (by kernel_rfl) ?_ | refine J4 ?_ | refine J5 ?_ | refine J6 ?_ | refine J7 ?_ | refine J8 rfl ?_ | refine J9 rfl ?_) | (refine M2 ?_; first | refine I0 ?_ | refine I1 ?_ | refine I2 ?_ | refine I3 ?_ | refine I4 ?_ | refine I5 ?_ | refine I6 rfl ?_ | refine I7 ?_ | refine I8 ?_ | refine z4 ?_) | (refine M3 ?_; first | refine O6 ?_ | refine z2 tok rfl ?_ | refine O8 rfl ?_ | refine O7 rfl ?_ rfl | refine O9 rfl ?_ rfl | refine U1 _ (U4 rfl rfl) rfl ?_ | refine U1 _ (U5 rfl rfl) rfl ?_ | refine U1 _ (U2 rfl) rfl ?_ | refine U1 _ (U3 tok rfl rfl rfl rfl rfl) rfl ?_) | (refine M4 ?_; first | refine M6 ?_ | refine U6 rfl (by kernel_rfl) ?_ | refine U7 (by kernel_rfl) ?_) | (refine M5 ?_; first | exact M7 | refine U8 rfl ?_ | refine U9 rfl rfl ?_ ?_))
        refine XE.round (s := (4, W, ⟨none, 0, 0⟩)) (4 + 1, W, ⟨none, 0, 0⟩) ⟨by simp, hB2, by simp only [e6]; exact hown, by simp only [e7]; exact World.ownsRow_nil _ _ _ _, fun h => absurd h (by simp), fun _ => c1 (by omega), fun _ => c2 (by omega), fun _ => c3 (by omega), fun x hx => by cases hx⟩ (by simp) (by repeat (first | exact Sub.nil | refine Sub.cons rfl ?_)) (fun w6 S6 => by simp only [e5]; exact S6)
      · obtain ⟨fb, sp, hA, hnq, hbf, hheap, hlen, hcm⟩ := owns_block hownC (by omega)
        obtain ⟨Aq, nq, cq⟩ := q2
        simp only at hA hnq hlen hcm
        subst hA hnq
        have hfW := (Array.getElem?_eq_some_iff.1 hheap).1
        have hnot := hsQ fb rfl
        simp only [List.mem_cons, List.not_mem_nil, or_false, not_or] at hnot
        have hs' : StaOk b ⟨vol4 b s t, s.fil⟩ := ⟨hs.len, hk4v, hs.fil⟩
        refine XL.callr (fst := [.pointer (some ⟨g9, 0, none⟩)]) (cap := []) (vs := []) (fun w5 v w6 => v = .bool true ∧ ∃ r : SV, Sys w.heap.size w5 [(g9, watO p b ⟨some ⟨fb, 0, none⟩, s.fil.length, cq⟩ (staK b s t 5) t r (floK b s t 5)), (fb, cel 3 (ints (stepS b s t).fil ++ sp))] w6 ∧
          w6.ownsRow w5.heap.size 3 1 (svV r) (stepF b s t).taken.length (ints (stepF b s t).taken)) (ck rfl) rfl rfl rfl (fun w5 S5 => ?_) (fun w5 v w6 S5 hR => ?_)
        · have hfw5 : w5.heap[fb]? = some (cel 3 (ints s.fil ++ sp)) := by
            rw [S5.old fb hfW (fun e he e1 => by
              simp only [List.mem_cons, List.not_mem_nil, or_false] at he
              rcases he with rfl | rfl | rfl | rfl | rfl | rfl <;> simp only at e1 <;> omega)]
            exact hheap
          refine (polders_any (g := g9) (fb := fb) (B := w.heap.size) (p := p) (b := b) (n := s.fil.length) (c := cq) (s := ⟨vol4 b s t, s.fil⟩) (t := t) (f := floK b s t 4) (sp := sp) (S5.obj (i := 0) rfl) hfw5 (fun e => hnot.1 e.symm) (by omega) (by omega) (hb2.below S5.toBelow) ho hs' hs.len).mono fun e w6 he => ?_
          obtain ⟨rfl, r1, hS, hT⟩ := he
          refine ⟨_, rfl, rfl, r1, ?_, ?_⟩
          · simp only [polV_vol, polT_vol] at hS
            exact hS
          · simp only [polT_vol] at hT
            have : (stepF b s t).taken.length = b.pols.length := by simp [stepF, rg_len]
            rw [this]; exact hT
        · obtain ⟨rfl, r1, hS, hT⟩ := hR
          refine ⟨_, w6, S5.turnedF 0 rfl rfl hS (fun e he e1 => ?_), ?_⟩
          · simp only [List.mem_cons, List.not_mem_nil, or_false] at he
            rcases he with rfl | rfl | rfl | rfl | rfl | rfl <;> simp only at e1 <;> omega
          have hB6 : Below w.heap.size w w6 := hB2.trans (S5.toBelow.trans hS.toBelow)
          have hfil : (stepS b s t).fil.length = s.fil.length := by simp [stepS, rg_len, hl]
          have hfb6 := (hS.own (fb, _) (List.mem_cons_of_mem _ List.mem_cons_self)).2
          have hids := fun e he => S5.lt (e := e) he
          simp only [List.mem_cons, forall_eq_or_imp, List.not_mem_nil, false_implies, implies_true, and_true] at hids
          repeat (first | (refine M0 ?_; first | refine O0 ?_ | refine z1 tok rfl ?_ | refine O1 rfl ?_ rfl | refine O2 rfl ?_ | refine O3 rfl ?_ rfl | refine O4 rfl rfl rfl (fun _ _ => ?_) | refine O5 tok rfl rfl rfl (fun _ _ => ?_) | refine U0 _ (U2 rfl) rfl ?_ | refine U0 _ (U3 tok rfl rfl rfl rfl rfl) rfl ?_ | refine z3 tok rfl ?_ | refine U0 _ (U4 rfl rfl) rfl ?_ | refine U0 _ (U5 rfl rfl) rfl ?_) | (refine M1 ?_; first | refine J0 ?_ | refine J1 ?_ | refine J2 mixed rfl (by kernel_rfl) ?_ | refine J3 mixed rfl rfl (by kernel_rfl) ?_ | refine J4 ?_ | refine J5 ?_ | refine J6 ?_ | refine J7 ?_ | refine J8 rfl ?_ | refine J9 rfl ?_) | (refine M2 ?_; first | refine I0 ?_ | refine I1 ?_ | refine I2 ?_ | refine I3 ?_ | refine I4 ?_ | refine I5 ?_ | refine I6 rfl ?_ | refine I7 ?_ | refine I8 ?_ | refine z4 ?_) | (refine M3 ?_; first | refine O6 ?_ | refine z2 tok rfl ?_ | refine O8 rfl ?_ | refine O7 rfl ?_ rfl | refine O9 rfl ?_ rfl | refine U1 _ (U4 rfl rfl) rfl ?_ | refine U1 _ (U5 rfl rfl) rfl ?_ | refine U1 _ (U2 rfl) rfl ?_ | refine U1 _ (U3 tok rfl rfl rfl rfl rfl) rfl ?_) | (refine M4 ?_; first | refine M6 ?_ | refine U6 rfl (by kernel_rfl) ?_ | refine U7 (by kernel_rfl) ?_) | (refine M5 ?_; first | exact M7 | refine U8 rfl ?_ | refine U9 rfl rfl ?_ ?_))
          refine XE.round (s := (4, W, ⟨none, 0, 0⟩)) (4 + 1, w6, r1) ⟨by simp, hB6, ?_, ?_, fun h => absurd h (by simp), fun _ => c1 (by omega), fun _ => c2 (by omega), fun _ => c3 (by omega), fun x hx hm' => ?_⟩ (by simp) (by repeat (first | exact Sub.nil | refine Sub.cons rfl ?_)) (fun _ h => h)
          · exact owns_of (xs := ints (stepS b s t).fil) hfb6 (by omega) (by rw [ints_len, hfil]) (by rw [ints_len, hfil, ← hlen, ints_len]) hcm
          · exact owns_base hT (Nat.le_trans hB2.size S5.size)
          · have := hT.lt x hx
            simp only [List.mem_cons, List.not_mem_nil, or_false] at hm'
            omega
    · omega
  · simp only [decide_eq_false_iff_not] at h5
    obtain rfl : k = 5 := by omega
    have hE : stepE b s t = 0 := stepE_0 hbad (c1 (by omega)) (c2 (by omega)) (c3 (by omega))
    repeat (first | (refine M0 ?_; first | refine O0 ?_ | refine z1 tok rfl ?_ | refine O1 rfl ?_ rfl | refine O2 rfl ?_ | refine O3 rfl ?_ rfl | refine O4 rfl rfl rfl (fun _ _ => ?_) | refine O5 tok rfl rfl rfl (fun _ _ => ?_) | refine U0 _ (U2 rfl) rfl ?_ | refine U0 _ (U3 tok rfl rfl rfl rfl rfl) rfl ?_ | refine z3 tok rfl ?_ | refine U0 _ (U4 rfl rfl) rfl ?_ | refine U0 _ (U5 rfl rfl) rfl ?_) | (refine M1 ?_; first | refine J0 ?_ | refine J1 ?_ | refine J2 mixed rfl (by kernel_rfl) ?_ | refine J3 mixed rfl rfl (by kernel_rfl) ?_ | refine J4 ?_ | refine J5 ?_ | refine J6 ?_ | refine J7 ?_ | refine J8 rfl ?_ | refine J9 rfl ?_) | (refine M2 ?_; first | refine I0 ?_ | refine I1 ?_ | refine I2 ?_ | refine I3 ?_ | refine I4 ?_ | refine I5 ?_ | refine I6 rfl ?_ | refine I7 ?_ | refine I8 ?_ | refine z4 ?_) | (refine M3 ?_; first | refine O6 ?_ | refine z2 tok rfl ?_ | refine O8 rfl ?_ | refine O7 rfl ?_ rfl | refine O9 rfl ?_ rfl | refine U1 _ (U4 rfl rfl) rfl ?_ | refine U1 _ (U5 rfl rfl) rfl ?_ | refine U1 _ (U2 rfl) rfl ?_ | refine U1 _ (U3 tok rfl rfl rfl rfl rfl) rfl ?_) | (refine M4 ?_; first | refine M6 ?_ | refine U6 rfl (by kernel_rfl) ?_ | refine U7 (by kernel_rfl) ?_) | (refine M5 ?_; first | exact M7 | refine U8 rfl ?_ | refine U9 rfl rfl ?_ ?_))
    refine XC.drawRS _ [(g9, watO p b q2 (staK b s t 5) t r (floK b s t 5))] [0, 1, 2, 3, 4, 5, 6, 7] [8, 9, 10] mixed (fun _ h => Sys.anchor (by assumption) h (by simp) (by simp)) rfl (by kernel_rfl) ?_
    repeat (any_goals (first | (refine M0 ?_; first | refine O0 ?_ | refine z1 tok rfl ?_ | refine O1 rfl ?_ rfl | refine O2 rfl ?_ | refine O3 rfl ?_ rfl | (refine XL.split _ _ rfl (fun h => ?_) (fun h => ?_) <;> rw [h]) | refine O4 rfl rfl rfl (fun _ _ => ?_) | refine O5 tok rfl rfl rfl (fun _ _ => ?_) | refine U0 _ (U2 rfl) rfl ?_ | refine U0 _ (U3 tok rfl rfl rfl rfl rfl) rfl ?_ | refine z3 tok rfl ?_ | refine U0 _ (U4 rfl rfl) rfl ?_ | refine U0 _ (U5 rfl rfl) rfl ?_) | (refine M1 ?_; first | refine J0 ?_ | refine J1 ?_ | refine J2 mixed rfl (by kernel_rfl) ?_ | refine J3 mixed rfl rfl (by kernel_rfl) ?_ | refine J4 ?_ | refine J5 ?_ | refine J6 ?_ | refine J7 ?_ | refine J8 rfl ?_ | refine J9 rfl ?_ | refine XC.cond _ rfl (fun h => ?_) (fun h => ?_)) | (refine M2 ?_; first | refine I0 ?_ | refine I1 ?_ | refine I2 ?_ | refine I3 ?_ | refine I4 ?_ | refine I5 ?_ | refine I6 rfl ?_ | refine I7 ?_ | refine I8 ?_ | refine z4 ?_) | (refine M3 ?_; first | refine O6 ?_ | refine z2 tok rfl ?_ | refine O8 rfl ?_ | refine O7 rfl ?_ rfl | refine O9 rfl ?_ rfl | (refine Fw.split _ _ rfl (fun h => ?_) (fun h => ?_) <;> rw [h]) | refine U1 _ (U4 rfl rfl) rfl ?_ | refine U1 _ (U5 rfl rfl) rfl ?_ | refine U1 _ (U2 rfl) rfl ?_ | refine U1 _ (U3 tok rfl rfl rfl rfl rfl) rfl ?_) | (refine M4 ?_; first | refine M6 ?_ | refine U6 rfl (by kernel_rfl) ?_ | refine U7 (by kernel_rfl) ?_) | (refine M5 ?_; first | exact M7 | refine U8 rfl ?_ | refine U9 rfl rfl ?_ ?_)))
    refine XE.retg tok Tryd.results48 rfl (by simp only [and_self, and_true]) (fun w' S => ?_)
    have sepL : ∀ (v : SV), (∀ x, (svV v).ownBlock = some x → x ∉ [g9, g7, g6, g5, g4, g3]) → ∀ k, (svV v).ownBlock = some k → ∀ e : Nat × Obj, e.1 ∈ [g9, g7, g6, g5, g4, g3] → e.1 ≠ k := fun v hv k hk e he e1 => hv k hk (e1 ▸ he)
    refine ⟨_, rfl, q2, r, by rw [outS_0 hE, outF_0 hE, hE]; rfl, ?_, ?_, hBW.trans S.toBelow⟩
    · rw [outS_0 hE]
      refine IntsAt.own (e := 3) ?_
      have := owns_sys hoF S (fun k hk e he => sepL q2 hsQ k hk e (by simp only [List.mem_cons, List.not_mem_nil, or_false] at he ⊢; rcases he with rfl | rfl | rfl | rfl | rfl | rfl <;> simp))
      have hfil : (stepS b s t).fil.length = s.fil.length := by simp [stepS, rg_len, hl]
      rw [hfil]; exact this
    · rw [outF_0 hE]
      exact IntsAt.own (e := 3) (owns_sys hoT S (fun k hk e he => sepL r hsR k hk e (by simp only [List.mem_cons, List.not_mem_nil, or_false] at he ⊢; rcases he with rfl | rfl | rfl | rfl | rfl | rfl <;> simp)))
end Go.Proofs.YtoiepgcjinccpaaDoor.X
/-
  The walk of the document's step.
-/
namespace Go.Proofs.YtoiepgcjinccpaaDoor.X
open Go Go.RowKit Go.Proofs.YtoiepgcjinccpaaDoor.Bs
set_option linter.unusedVariables false
end Go.Proofs.YtoiepgcjinccpaaDoor.X
/-
  The walks of Step (both texts), and of the examples' basin, state and tick.
-/
namespace Go.Proofs.YtoiepgcjinccpaaDoor.Bs
open Classical in
noncomputable def fullE (b : Bas) (s : Sta) (t : Tick) : Int := if staErr b s = 0 then stepE b s t else staErr b s
open Classical in
noncomputable def fullS (b : Bas) (s : Sta) (t : Tick) : Sta := if staErr b s = 0 then outS b s t else ⟨0, []⟩
open Classical in
noncomputable def fullF (b : Bas) (s : Sta) (t : Tick) : Flo := if staErr b s = 0 then outF b s t else ⟨0, 0, 0, 0, []⟩
theorem full_n {b : Bas} {s : Sta} {t : Tick} (h : staErr b s ≠ 0) : fullE b s t = staErr b s ∧ fullS b s t = ⟨0, []⟩ ∧ fullF b s t = ⟨0, 0, 0, 0, []⟩ := by simp [fullE, fullS, fullF, h]
theorem full_0 {b : Bas} {s : Sta} {t : Tick} (h : staErr b s = 0) : fullE b s t = stepE b s t ∧ fullS b s t = outS b s t ∧ fullF b s t = outF b s t := by simp [fullE, fullS, fullF, h]
end Go.Proofs.YtoiepgcjinccpaaDoor.Bs
namespace Go.Proofs.YtoiepgcjinccpaaDoor.X
open Go Go.RowKit Go.Proofs.YtoiepgcjinccpaaDoor.Bs
set_option linter.unusedVariables false
def StepCR (b : Bas) (s : Sta) (t : Tick) (w : World) (v : Value) (w' : World) : Prop :=
  ∃ q r : SV, v = .tuple ⟨[staV q (fullS b s t), floV r (fullF b s t), .int .i64 (fullE b s t)]⟩ ∧ IntsAt w' (Btw w.heap.size w'.heap.size) q (fullS b s t).fil ∧ IntsAt w' (Btw w.heap.size w'.heap.size) r (fullF b s t).taken ∧ Below w.heap.size w w'
set_option maxHeartbeats 4000000 in
theorem Step_any {p : BV} {b : Bas} {q : SV} {s : Sta} {t : Tick} {w : World} (hb : BasAt w w.heap.size p b) (hq : IntsAt w (Lt w.heap.size) q s.fil) :
    Calls Tryd.prog 17 #[basV p b, staV q s, tickV t] w fun e w' => ∃ v, e = .returned v ∧ StepCR b s t w v w' := by
  simp only [basV, basC, staV, staC, tickV, tickC]
  refine enter Tryd.func17 rfl Tryd.ntmps17 rfl ?_; simp only [frame, Nat.zero_add, Nat.reduceAdd]
  repeat (first | (refine M0 ?_; first | refine O0 ?_ | refine z1 tok rfl ?_ | refine O1 rfl ?_ rfl | refine O2 rfl ?_ | refine O3 rfl ?_ rfl | refine U0 _ (Ev.call (f := 19) (ck rfl) rfl (fun w S => (checkState_any (hb.sys S) (hq.arg S) :))) rfl ?_ | refine O4 rfl rfl rfl (fun _ _ => ?_) | refine O5 tok rfl rfl rfl (fun _ _ => ?_) | refine U0 _ (U2 rfl) rfl ?_ | refine U0 _ (U3 tok rfl rfl rfl rfl rfl) rfl ?_ | refine z3 tok rfl ?_ | refine U0 _ (U4 rfl rfl) rfl ?_ | refine U0 _ (U5 rfl rfl) rfl ?_) | (refine M1 ?_; first | refine J0 ?_ | refine J1 ?_ | refine J2 mixed rfl (by kernel_rfl) ?_ | refine J3 mixed rfl rfl (by kernel_rfl) ?_ | refine J4 ?_ | refine J5 ?_ | refine J6 ?_ | refine J7 ?_ | refine J8 rfl ?_ | refine J9 rfl ?_) | (refine M2 ?_; first | refine I0 ?_ | refine I1 ?_ | refine I2 ?_ | refine I3 ?_ | refine I4 ?_ | refine I5 ?_ | refine I6 rfl ?_ | refine I7 ?_ | refine I8 ?_ | refine z4 ?_) | (refine M3 ?_; first | refine O6 ?_ | refine z2 tok rfl ?_ | refine O8 rfl ?_ | refine O7 rfl ?_ rfl | refine O9 rfl ?_ rfl | refine U1 _ (Ev.call (f := 19) (ck rfl) rfl (fun w S => (checkState_any (hb.sys S) (hq.arg S) :))) rfl ?_ | refine U1 _ (U4 rfl rfl) rfl ?_ | refine U1 _ (U5 rfl rfl) rfl ?_ | refine U1 _ (U2 rfl) rfl ?_ | refine U1 _ (U3 tok rfl rfl rfl rfl rfl) rfl ?_) | (refine M4 ?_; first | refine M6 ?_ | refine U6 rfl (by kernel_rfl) ?_ | refine U7 (by kernel_rfl) ?_) | (refine M5 ?_; first | exact M7 | refine U8 rfl ?_ | refine U9 rfl rfl ?_ ?_))
  refine XC.cond _ rfl (fun h0 => ?_) (fun h0 => ?_)
  · repeat (first | (refine M0 ?_; first | refine O0 ?_ | refine z1 tok rfl ?_ | refine O1 rfl ?_ rfl | refine O2 rfl ?_ | refine O3 rfl ?_ rfl | refine O4 rfl rfl rfl (fun _ _ => ?_) | refine O5 tok rfl rfl rfl (fun _ _ => ?_) | refine U0 _ (U2 rfl) rfl ?_ | refine U0 _ (U3 tok rfl rfl rfl rfl rfl) rfl ?_ | refine z3 tok rfl ?_ | refine U0 _ (U4 rfl rfl) rfl ?_ | refine U0 _ (U5 rfl rfl) rfl ?_) | (refine M1 ?_; first | refine J0 ?_ | refine J1 ?_ | refine J2 mixed rfl (by kernel_rfl) ?_ | refine J3 mixed rfl rfl (by kernel_rfl) ?_ | refine J4 ?_ | refine J5 ?_ | refine J6 ?_ | refine J7 ?_ | refine J8 rfl ?_ | refine J9 rfl ?_) | (refine M2 ?_; first | refine I0 ?_ | refine I1 ?_ | refine I2 ?_ | refine I3 ?_ | refine I4 ?_ | refine I5 ?_ | refine I6 rfl ?_ | refine I7 ?_ | refine I8 ?_ | refine z4 ?_) | (refine M3 ?_; first | refine O6 ?_ | refine z2 tok rfl ?_ | refine O8 rfl ?_ | refine O7 rfl ?_ rfl | refine O9 rfl ?_ rfl | refine U1 _ (U4 rfl rfl) rfl ?_ | refine U1 _ (U5 rfl rfl) rfl ?_ | refine U1 _ (U2 rfl) rfl ?_ | refine U1 _ (U3 tok rfl rfl rfl rfl rfl) rfl ?_) | (refine M4 ?_; first | refine M6 ?_ | refine U6 rfl (by kernel_rfl) ?_ | refine U7 (by kernel_rfl) ?_) | (refine M5 ?_; first | exact M7 | refine U8 rfl ?_ | refine U9 rfl rfl ?_ ?_))
    refine XE.retg tok Tryd.results17 rfl (by simp only [and_self, and_true]) (fun w' S => ?_)
    obtain ⟨f1, f2, f3⟩ := full_n (t := t) (show staErr b s ≠ 0 by simpa using h0)
    exact ⟨_, rfl, ⟨none, 0, 0⟩, ⟨none, 0, 0⟩, by rw [f1, f2, f3]; rfl, by rw [f2]; exact IntsAt.nil, by rw [f3]; exact IntsAt.nil, S.toBelow⟩
  have hE : staErr b s = 0 := by simpa using h0
  obtain ⟨ho, hs⟩ := staOk_of hE
  obtain ⟨f1, f2, f3⟩ := full_0 (t := t) hE
  repeat (first | (refine M0 ?_; first | refine O0 ?_ | refine z1 tok rfl ?_ | refine O1 rfl ?_ rfl | refine O2 rfl ?_ | refine O3 rfl ?_ rfl | refine O4 rfl rfl rfl (fun _ _ => ?_) | refine O5 tok rfl rfl rfl (fun _ _ => ?_) | refine U0 _ (U2 rfl) rfl ?_ | refine U0 _ (U3 tok rfl rfl rfl rfl rfl) rfl ?_ | refine z3 tok rfl ?_ | refine U0 _ (U4 rfl rfl) rfl ?_ | refine U0 _ (U5 rfl rfl) rfl ?_) | (refine M1 ?_; first | refine J0 ?_ | refine J1 ?_ | refine J2 mixed rfl (by kernel_rfl) ?_ | refine J3 mixed rfl rfl (by kernel_rfl) ?_ | refine J4 ?_ | refine J5 ?_ | refine J6 ?_ | refine J7 ?_ | refine J8 rfl ?_ | refine J9 rfl ?_) | (refine M2 ?_; first | refine I0 ?_ | refine I1 ?_ | refine I2 ?_ | refine I3 ?_ | refine I4 ?_ | refine I5 ?_ | refine I6 rfl ?_ | refine I7 ?_ | refine I8 ?_ | refine z4 ?_) | (refine M3 ?_; first | refine O6 ?_ | refine z2 tok rfl ?_ | refine O8 rfl ?_ | refine O7 rfl ?_ rfl | refine O9 rfl ?_ rfl | refine U1 _ (U4 rfl rfl) rfl ?_ | refine U1 _ (U5 rfl rfl) rfl ?_ | refine U1 _ (U2 rfl) rfl ?_ | refine U1 _ (U3 tok rfl rfl rfl rfl rfl) rfl ?_) | (refine M4 ?_; first | refine M6 ?_ | refine U6 rfl (by kernel_rfl) ?_ | refine U7 (by kernel_rfl) ?_) | (refine M5 ?_; first | exact M7 | refine U8 rfl ?_ | refine U9 rfl rfl ?_ ?_))
  refine XL.call (fst := []) (cap := []) (ck rfl) rfl rfl rfl (List.Sublist.refl _) (fun w1 v w2 => StepR b s t w1 v w2)
    (fun w1 S1 => (step_any (p := p) (hb.sys S1) (hq.arg S1) ho hs).mono fun e w' ⟨v, h, h4⟩ => ⟨v, h, h4, h4.choose_spec.choose_spec.2.2.2⟩) (fun w1 v w2 S1 hR hB S2 => ?_)
  obtain ⟨q2, r2, rfl, hq2, hr2, _⟩ := hR
  simp only [staV, staC, floV, floC]
  repeat (first | (refine M0 ?_; first | refine O0 ?_ | refine z1 tok rfl ?_ | refine O1 rfl ?_ rfl | refine O2 rfl ?_ | refine O3 rfl ?_ rfl | refine O4 rfl rfl rfl (fun _ _ => ?_) | refine O5 tok rfl rfl rfl (fun _ _ => ?_) | refine U0 _ (U2 rfl) rfl ?_ | refine U0 _ (U3 tok rfl rfl rfl rfl rfl) rfl ?_ | refine z3 tok rfl ?_ | refine U0 _ (U4 rfl rfl) rfl ?_ | refine U0 _ (U5 rfl rfl) rfl ?_) | (refine M1 ?_; first | refine J0 ?_ | refine J1 ?_ | refine J2 mixed rfl (by kernel_rfl) ?_ | refine J3 mixed rfl rfl (by kernel_rfl) ?_ | refine J4 ?_ | refine J5 ?_ | refine J6 ?_ | refine J7 ?_ | refine J8 rfl ?_ | refine J9 rfl ?_) | (refine M2 ?_; first | refine I0 ?_ | refine I1 ?_ | refine I2 ?_ | refine I3 ?_ | refine I4 ?_ | refine I5 ?_ | refine I6 rfl ?_ | refine I7 ?_ | refine I8 ?_ | refine z4 ?_) | (refine M3 ?_; first | refine O6 ?_ | refine z2 tok rfl ?_ | refine O8 rfl ?_ | refine O7 rfl ?_ rfl | refine O9 rfl ?_ rfl | refine U1 _ (U4 rfl rfl) rfl ?_ | refine U1 _ (U5 rfl rfl) rfl ?_ | refine U1 _ (U2 rfl) rfl ?_ | refine U1 _ (U3 tok rfl rfl rfl rfl rfl) rfl ?_) | (refine M4 ?_; first | refine M6 ?_ | refine U6 rfl (by kernel_rfl) ?_ | refine U7 (by kernel_rfl) ?_) | (refine M5 ?_; first | exact M7 | refine U8 rfl ?_ | refine U9 rfl rfl ?_ ?_))
  refine XE.retg tok Tryd.results17 rfl (by simp only [and_self, and_true]) (fun w' S => ?_)
  have hk : Keep (Btw w1.heap.size w2.heap.size) w2 _ := Keep.made S1 (Nat.le_refl _)
  refine ⟨_, rfl, q2, r2, by rw [f1, f2, f3]; rfl, ?_, ?_, S2.toBelow.trans S.toBelow⟩
  · rw [f2]
    exact (hq2.keep (hk.sysT S rfl)).mono fun k hk' => ⟨Nat.le_trans S1.size hk'.1, Nat.lt_of_lt_of_le hk'.2 S.size⟩
  · rw [f3]
    exact (hr2.keep (hk.sysT S rfl)).mono fun k hk' => ⟨Nat.le_trans S1.size hk'.1, Nat.lt_of_lt_of_le hk'.2 S.size⟩
end Go.Proofs.YtoiepgcjinccpaaDoor.X
/-
  A walk by lemmas (14): a range over a function: the frame of a round, the iterator's calls of yield, the function that holds the statement.
-/
namespace Go.Proofs.YtoiepgcjinccpaaDoor.X
open Go Go.RowKit
set_option linter.unusedVariables false
/-- everything is let in; a round's frame, or none. -/
def fen : Option Nat → Fence
  | none => Fence.wide
  | some l => Fence.wide.inRound l
theorem fen_fn (r : Option Nat) (f : FuncId) : (fen r).fn f := by cases r <;> trivial
theorem fen_round (r : Option Nat) : (fen r).round = r := by cases r <;> rfl
theorem fen_depth (r : Option Nat) : (fen r).depth.isSome = true → False := by cases r <;> (intro h; cases h)
theorem fen_calls {r : Option Nat} {n : Nat} {P : Program} {f : FuncId} {args : Array Value} {w : World} {R : Ending → World → Prop} (h : Calls P f args w R) : CallsIn (fen r) n P f args w R := by
  cases r with
  | none => exact callsIn_wide.2 h
  | some l => exact CallsIn.inRound l (callsIn_wide.2 h)
theorem fen_steps {r : Option Nat} {P : Program} {m m' : Machine} (h : Steps P m m') : StepsIn (Machine.fenced P (fen r)) P m m' := by
  cases r with
  | none => exact stepsIn_wide.2 h
  | some l =>
    show StepsIn (Machine.fenced P (Fence.wide.inRound l)) P m m'
    rw [fenced_inRound]; exact stepsIn_wide.2 h
def notDefer (o : Oper) : Bool := match o.op with
  | .defer _ => false
  | _ => true
theorem upon_in {r : Option Nat} {n : Nat} {P : Program} {o : Oper} {a : Act} {K : Act → World → Prop} {Q : Exit → Act → World → Prop} {res : Result Next} (hQ : ∀ e a w, Q e a w → e = .normal)
    {Q' : Exit → Act → World → Prop} (h : o.upon P a K Q res) : o.uponIn (fen r) n P a K Q' res := by
  cases res with
  | ok nx w =>
    cases nx <;> simp only [Oper.upon, Oper.uponIn] at h ⊢ <;> first
      | exact h
      | exact ⟨fun hd => (fen_depth r hd).elim, fen_calls (Calls.mono h fun e w'' he => by
          cases e with
          | returned v => exact he
          | panicked c => exact absurd (hQ _ _ _ he) (by simp)
          | outgrown => obtain ⟨a0, w0, q⟩ := he; exact absurd (hQ _ _ _ q) (by simp))⟩
      | exact ⟨fun hd => (fen_depth r hd).elim, fun c cs _ => (by obtain ⟨v, w', h1, h2⟩ := h c cs; exact ⟨v, w', h1, fen_steps h2⟩)⟩
      | exact h.elim
  | halt x w =>
    cases x <;> simp only [Oper.upon, Oper.uponIn] at h ⊢ <;> first
      | exact absurd (hQ _ _ _ h) (by simp)
      | exact h.elim
theorem only_normal {K : Act → World → Prop} : ∀ e a w, only K e a w → e = .normal := fun e a w h => by cases e <;> first | rfl | exact h.elim

section
variable {P : Program} {T : TT} {N : Nat} {B : Nat} {w0 : World} {ds : List Deferred} {Q : Exit → Act → World → Prop} {F : Fr} {L L' : Lo} {ops : Array Oper} {rest : List Oper} {r : Option Nat} {n : Nat}
variable (P N B w0 ds Q r n) in
/-- operations, in a frame of r's. -/
structure XI (ops : Array Oper) (l : List Oper) (F : Fr) (L : Lo) : Prop where
  run : ∀ a w, Fits N ds F a → Sys B w0 L w → wpListIn (fen r) n P ops Q l a w
variable (P N B w0 ds Q r n) in
/-- code, in a frame of r's. -/
structure XR' (c : Code) (F : Fr) (L : Lo) : Prop where
  run : ∀ a w, Fits N ds F a → Sys B w0 L w → c.wpIn (fen r) n P Q a w
theorem XI.done (h : XE N B w0 ds Q .normal F L) : XI P N B w0 ds Q r n ops [] F L := ⟨h.run⟩
theorem XI.one {o : Oper} (hd : notDefer o = true) (h : XL P N B w0 ds (only (wpListIn (fen r) n P ops Q rest)) ops [o] F L) : XI P N B w0 ds Q r n ops (o :: rest) F L := by
  refine ⟨fun a w hf hs => ?_⟩
  have h1 := h.run a w hf hs
  unfold wpList at h1
  unfold wpListIn
  split
  · rename_i hw
    rw [if_pos hw] at h1
    rcases h1 with h1 | ⟨_, a0, w0, q⟩
    · refine ⟨fun f _ => fen_fn r f, ?_⟩
      rw [fen_round]
      rw [Oper.semAt_eq r a.eval o (fun c e => by simp [notDefer, e] at hd)]
      exact upon_in only_normal h1
    · exact q.elim
  · rename_i hw
    rw [if_neg hw] at h1
    exact ⟨fun f _ => fen_fn r f, h1⟩
theorem XE.nextI (h : XI P N B w0 ds Q r n ops rest F L) : XE N B w0 ds (only (wpListIn (fen r) n P ops Q rest)) .normal F L := ⟨h.run⟩
/-- yield is called: what the round comes to is told by R. -/
theorem XI.yield {d : Nat} {c : Operand} {args : Array Operand} {vs : List Value} {l : Nat} {ats : Array TypeId} {ty : TypeId} {p : String} {af : Array Edge} (hcv : evo F c = some (.func (.yield l) #[] #[])) (ha : evos F args.toList = some vs) (hd : Nat.blt d N = true)
    (R : World → Value → World → Prop)
    (hy : ∀ w, Sys B w0 L w → ∃ fn tmps assign body, (Instr.yield l vs.toArray).run P w = .ok (.round l fn tmps assign body) w ∧ RoundIn (fen r) (n - 1) P l fn tmps assign body w fun e w' => ∃ v, e = .returned v ∧ R w v w')
    (k : ∀ w v w', Sys B w0 L w → R w v w' → ∃ L' w1, Sys B w1 L' w' ∧ XI P N B w1 ds Q r n ops rest ((d, v) :: F) L') :
    XI P N B w0 ds Q r n ops ({ dst := some d, op := .call { callee := .value c, args := args, argTypes := ats }, type := ty, pos := p, after := af, guard := none } :: rest) F L := by
  refine ⟨fun a w hf hs => ?_⟩
  obtain ⟨fn, tmps, assign, body, h1, h2⟩ := hy w hs
  refine wpListIn_plain rfl fun K hK => ⟨fun f _ => fen_fn r f, ?_⟩
  have hm : args.map a.eval = vs.toArray := by
    apply Array.ext'
    rw [Array.toList_map]
    exact evos_spec hf _ _ ha
  have hsem : ((Oper.semAt (fen r).round a.eval { dst := some d, op := .call { callee := .value c, args := args, argTypes := ats }, type := ty, pos := p, after := af, guard := none })).run P w = .ok (.round l fn tmps assign body) w := by
    rw [Oper.semAt_eq _ _ _ (fun c e => by cases e)]
    simp [execOp, resolve, hf.eval hcv, Deferred.ofValue, invoke, hm, h1]
  rw [hsem]
  refine ⟨fun hd => (fen_depth r hd).elim, h2.mono fun e w' he => ?_⟩
  obtain ⟨v, rfl, hR⟩ := he
  obtain ⟨L', w1, hS, hk⟩ := k w v w' hs hR
  exact hK _ _ (hk.run _ _ (hf.put hd) hS)
/-- a region in which yield is called, in a frame of no round's. -/
theorem XC.regionI {id : Nat} {l : List Oper} (n : Nat) (h : XI P N B w0 ds Q none n l.toArray l F L) : XC P N B w0 ds Q (.region id l.toArray false) F L :=
  ⟨fun a w hf hs => (wpIn_wide (n := n)).1 (wpIn_region_lit (F := Fence.wide) (h.run a w hf hs))⟩

/-! ### code in a round's frame -/
theorem XR'.region {id : Nat} {l : List Oper} (h : XI P N B w0 ds Q r n l.toArray l F L) : XR' P N B w0 ds Q r n (.region id l.toArray false) F L := ⟨fun a w hf hs => wpIn_region_lit (h.run a w hf hs)⟩
theorem XR'.seq {x y : Code} (h : XR' P N B w0 ds (Exit.then (y.wpIn (fen r) n P Q) Q) r n x F L) : XR' P N B w0 ds Q r n (.seq x y) F L := ⟨fun a w hf hs => wpIn_seq (h.run a w hf hs)⟩
theorem XE.nextR {y : Code} (h : XR' P N B w0 ds Q r n y F L) : XE N B w0 ds (Exit.then (y.wpIn (fen r) n P Q) Q) .normal F L := ⟨h.run⟩
theorem XR'.skip (h : XE N B w0 ds Q .normal F L) : XR' P N B w0 ds Q r n .skip F L := ⟨fun a w hf hs => wpIn_skip (h.run a w hf hs)⟩
theorem XR'.ret (h : XE N B w0 ds Q .ret F L) : XR' P N B w0 ds Q r n .ret F L := ⟨fun a w hf hs => wpIn_ret (h.run a w hf hs)⟩
theorem XR'.block {id : Nat} {c : Code} (h : XR' P N B w0 ds (Exit.inBlock id Q) r n c F L) : XR' P N B w0 ds Q r n (.block id c) F L := ⟨fun a w hf hs => wpIn_block (h.run a w hf hs)⟩
theorem XR'.cond {c : Operand} {x y : Code} (b : Bool) (hc : evo F c = some (.bool b)) (ht : b = true → XR' P N B w0 ds Q r n x F L) (he : b = false → XR' P N B w0 ds Q r n y F L) : XR' P N B w0 ds Q r n (.cond c x y) F L := ⟨fun a w hf hs => by
  cases b with
  | true => exact wpIn_cond_true (hf.eval hc) ((ht rfl).run a w hf hs)
  | false => exact wpIn_cond_false (hf.eval hc) ((he rfl).run a w hf hs)⟩
theorem XR'.cond_t {c : Operand} {x y : Code} (hc : evo F c = some (.bool true)) (ht : XR' P N B w0 ds Q r n x F L) : XR' P N B w0 ds Q r n (.cond c x y) F L := XR'.cond true hc (fun _ => ht) (fun h => by cases h)
theorem XR'.cond_f {c : Operand} {x y : Code} (hc : evo F c = some (.bool false)) (he : XR' P N B w0 ds Q r n y F L) : XR' P N B w0 ds Q r n (.cond c x y) F L := XR'.cond false hc (fun h => by cases h) (fun _ => he)
theorem XI.id {l : List Oper} (h : XI P N B w0 ds Q r n ops l F L) : XI P N B w0 ds Q r n ops l F L := h
theorem XR'.id {c : Code} (h : XR' P N B w0 ds Q r n c F L) : XR' P N B w0 ds Q r n c F L := h

/-! ### the function that holds the statement -/
/-- its deferred calls: the mark of the block D, which holds none. -/
def markD (D : Nat) : Deferred := { target := .collected D, args := #[] }
theorem enterM {f : FuncId} {fn : Func} {c : Code} {vs : List Value} {w : World} {R : Ending → World → Prop} {n : Nat} (hf : P.funcs[f]? = some fn) (hb : fn.body = some c) (hN : fn.ntmps = n)
    (hn : Nat.ble vs.length n = true) (h : XC P n w.heap.size w [] (bodyPostM Fence.wide 0 P fn R) c (frame 0 vs) []) : Calls P f vs.toArray w R := by
  subst hN
  have hn' := Nat.le_of_ble_eq_true hn
  refine (callsIn_wide (n := 0)).1 (callsIn_of_wp_marks (F := Fence.wide) hf hb trivial ((wpIn_wide (n := 0)).2 (h.run _ w ⟨?_, rfl, fun t v _ hv => ?_⟩ (Sys.enter w))))
  · simp; omega
  · obtain ⟨_, h2⟩ := lk_frame vs 0 t v hv
    have hlt : t < vs.length := (List.getElem?_eq_some_iff.1 h2).1
    simp only [Array.getD_eq_getD_getElem?]
    rw [Array.getElem?_append_left (by simpa using hlt)]
    simp at h2 ⊢
    rw [h2]; rfl
/-- it returns, the mark taken. -/
theorem XE.retM (hT : TOK P T) {fn : Func} {R : Ending → World → Prop} {rs : List ResultVar} {vs : List Value} {c : Prop} {D i : Nat} {L' : Lo} (h : fn.results = ⟨rs⟩) (hL : L[i]? = some (D, .deferred (some []))) (hL' : setN L i (D, .deferred none) = some L')
    (hv : resO T F L' rs = some (vs, c)) (hc : c) (hR : ∀ w, Sys B w0 L' w → R (.returned (tupV vs)) w) : XE N B w0 [markD D] (bodyPostM Fence.wide 0 P fn R) .ret F L := by
  refine ⟨fun a w hf hw => ?_⟩
  show LeavesInM Fence.wide 0 P fn a.tmps R a.defers .returning w
  rw [hf.defers]
  have hD := (hw.own _ (List.mem_of_getElem? hL)).2
  obtain ⟨e, hlt⟩ := setN_spec _ _ _ _ hL'
  have hsys : Sys B w0 L' (w.putObj D (.deferred none)) := hw.setObj hL e
  refine ⟨by simp, .inl ⟨D, w.putObj D (.deferred none), rfl, run_takeDeferred hD, ?_⟩⟩
  have hf' : Fits N [] F { a with defers := [] } := ⟨hf.size, rfl, hf.get⟩
  have h1 := resO_run hT hf' hsys hv hc
  have h2 : (results fn a.tmps).run P (w.putObj D (.deferred none)) = .ok (tupV vs) (w.putObj D (.deferred none)) := by
    unfold results
    rw [h, Array.mapM_eq_mapM_toList]
    simp only [Sem.run_bind, Sem.run_map]
    refine (congrArg (fun r : Result (List Value) => (r.andThen fun a w' => Result.ok a.toArray w').andThen fun a w' => Sem.run P (pure (if h : a.size = 1 then a[0] else Value.tuple a)) w') h1).trans ?_
    simp only [Result.andThen_ok, Sem.run_pure]
    cases vs with
    | nil => rfl
    | cons v vs => cases vs with
      | nil => rfl
      | cons u vs => simp [tupV]
  show LeavesIn Fence.wide 0 P fn a.tmps R [] .returning (w.putObj D (.deferred none))
  exact ⟨_, h2, hR _ hsys⟩
end
end Go.Proofs.YtoiepgcjinccpaaDoor.X
/-
  A walk by lemmas (15): the statement that ranges over a function; a round's beginning and its end.
-/
namespace Go.Proofs.YtoiepgcjinccpaaDoor.X
open Go Go.RowKit
set_option linter.unusedVariables false
/-- the loop's record. -/
abbrev recO (fn : FuncId) (tmps : Array Value) (ps : Array Tmp) (assign body : Code) (D : Nat) (st : LoopState) (pe : Option Code) : Loop :=
  { state := st, pending := pe, fn := fn, tmps := tmps, params := ps, assign := assign, body := body, defers := D }
section
variable {P : Program} {T : TT} {N : Nat} {B : Nat} {w0 : World} {ds : List Deferred} {Q : Exit → Act → World → Prop} {F : Fr} {L L' : Lo} {n : Nat}
theorem XE.begin {l i : Nat} {r : Loop} {body : Code} {Q' : Exit → Act → World → Prop} (hL : L[i]? = some (l, .loop r)) (hr : r.state = .ready) (hL' : setN L i (l, .loop { r with state := .busy }) = some L')
    (h : XR' P N B w0 ds Q' (some l) n body F L') :
    XE N B w0 ds (Exit.then (fun a₁ w₁ => ∃ w₂, (Instr.beginRound l).run P w₁ = .ok () w₂ ∧ body.wpIn (Fence.wide.inRound l) n P Q' a₁ w₂) (fun _ _ _ => False)) .normal F L :=
  ⟨fun a w hf hs => by
    obtain ⟨e, _⟩ := setN_spec _ _ _ _ hL'
    exact ⟨_, run_beginRound (hs.own _ (List.mem_of_getElem? hL)).2 hr, h.run a _ hf (hs.setObj hL e)⟩⟩
theorem XE.endR {l i : Nat} {r : Loop} {R : Ending → World → Prop} (hL : L[i]? = some (l, .loop r)) (hL' : setN L i (l, .loop { r with state := .ready, pending := none }) = some L')
    (h : ∀ w, Sys B w0 L' w → R (.returned (.bool true)) w) : XE N B w0 ds (roundPost P l R) .normal F L :=
  ⟨fun a w hf hs => by
    obtain ⟨e, _⟩ := setN_spec _ _ _ _ hL'
    exact ⟨_, _, run_endRound none (hs.own _ (List.mem_of_getElem? hL)).2, h _ (hs.setObj hL e)⟩⟩
theorem XE.endRet {l i : Nat} {r : Loop} {R : Ending → World → Prop} (hL : L[i]? = some (l, .loop r)) (hL' : setN L i (l, .loop { r with state := .done, pending := some .ret }) = some L')
    (h : ∀ w, Sys B w0 L' w → R (.returned (.bool false)) w) : XE N B w0 ds (roundPost P l R) .ret F L :=
  ⟨fun a w hf hs => by
    obtain ⟨e, _⟩ := setN_spec _ _ _ _ hL'
    exact ⟨_, _, run_endRound (some .ret) (hs.own _ (List.mem_of_getElem? hL)).2, h _ (hs.setObj hL e)⟩⟩
theorem XE.inBlock_ret {l : Nat} {id : Nat} {R : Ending → World → Prop} (h : XE N B w0 ds (roundPost P l R) .ret F L) : XE N B w0 ds (Exit.inBlock id (roundPost P l R)) .ret F L := ⟨h.run⟩
/-- two loop variables. -/
theorem Fits.params2 {a : Act} {t u : Nat} {v x : Value} (h : Fits N ds F a) (ht : Nat.blt t N = true) (hu : Nat.blt u N = true) :
    Fits N [] ((u, x) :: (t, v) :: F) { tmps := ((#[t, u] : Array Tmp).zip #[v, x]).foldl (fun s (p, y) => s.setIfInBounds p y) a.tmps, defers := [] } := by
  have h1 := (h.put (v := v) ht).put (v := x) hu
  have e : ((#[t, u] : Array Tmp).zip #[v, x]).foldl (fun s (p, y) => s.setIfInBounds p y) a.tmps = ((a.put (some t) v).put (some u) x).tmps := by
    simp [Act.put]
  rw [e]
  exact ⟨h1.size, rfl, h1.get⟩
/-- one round of yield. -/
theorem round_of {l : Nat} {fn : FuncId} {tmps : Array Value} {assign body : Code} {w : World} {R : Ending → World → Prop} (hf : Fits N [] F { tmps := tmps, defers := [] }) (hs : Sys B w0 L w)
    (h : XR' P N B w0 [] (Exit.then (fun a₁ w₁ => ∃ w₂, (Instr.beginRound l).run P w₁ = .ok () w₂ ∧ body.wpIn (Fence.wide.inRound l) n P (roundPost P l R) a₁ w₂) (fun _ _ _ => False)) (some l) n assign F L) :
    RoundIn Fence.wide n P l fn tmps assign body w R :=
  roundIn_of_wpIn trivial (h.run _ w hf hs)
theorem XC.rangeFunc {g : Operand} {ps : Array Tmp} {assign body : Code} {gf : FuncId} {cap : List Value} (hg : evo F g = some (.func (.func gf) #[] ⟨cap⟩)) (hk : callOk P gf = true)
    (hc : ∀ (fn : FuncId) (a : Act) (D : Nat) (w : World), w0.heap.size ≤ D → Fits N [] F a → Sys B w0 ((D + 1, .loop (recO fn a.tmps ps assign body D .ready none)) :: (D, .deferred (some [])) :: L) w →
      Calls P gf (Value.func (.yield (D + 1)) #[] #[] :: cap).toArray w fun e w3 => ∃ v, e = .returned v ∧
        ((∃ L3 w1, Sys B w1 ((D + 1, .loop (recO fn a.tmps ps assign body D .ready none)) :: L3) w3 ∧ XE N B w1 [markD D] Q .normal F ((D + 1, .loop (recO fn a.tmps ps assign body D .exhausted none)) :: L3)) ∨
         (∃ L3 w1, Sys B w1 ((D + 1, .loop (recO fn a.tmps ps assign body D .done (some .ret))) :: L3) w3 ∧ XE N B w1 [markD D] Q .ret F ((D + 1, .loop (recO fn a.tmps ps assign body D .exhausted (some .ret))) :: L3)))) :
    XC P N B w0 [] Q (.rangeFunc g ps assign body) F L := by
  refine ⟨fun a w hf hs => (wpIn_wide (n := 1)).1 (wpIn_rangeFunc (F := Fence.wide) fun fn _ => ?_)⟩
  have S1 := (hs.box (.deferred (some []))).box (.loop (recO fn a.tmps ps assign body w.heap.size .ready none))
  have hsz : (w.alloc (.deferred (some []))).heap.size = w.heap.size + 1 := by simp
  rw [hsz] at S1
  obtain ⟨W1, hW1⟩ : ∃ W1, (w.alloc (.deferred (some []))).alloc (.loop (recO fn a.tmps ps assign body w.heap.size .ready none)) = W1 := ⟨_, rfl⟩
  rw [hW1] at S1
  have hcall := hc fn a w.heap.size W1 hs.size hf S1
  refine ⟨w.heap.size + 1, [markD w.heap.size], W1, { target := .fn (.func gf) ⟨cap⟩, args := #[.func (.yield (w.heap.size + 1)) #[] #[]] }, W1, gf, (Value.func (.yield (w.heap.size + 1)) #[] #[] :: cap).toArray, W1,
    by rw [← hW1]; exact run_enterLoop_outer _ _ _ _ _, ?_, fun f' _ => trivial, ?_, fun h => (by cases h), ?_⟩
  · have : evo F g = some (.func (.func gf) ⟨[]⟩ ⟨cap⟩) := hg
    have e := hf.eval this
    simp only [resolve, rangeCall, e, Deferred.ofValue]
    simp [Act.eval]
  · have : (#[Value.func (.yield (w.heap.size + 1)) #[] #[]] ++ (⟨cap⟩ : Array Value)) = (Value.func (.yield (w.heap.size + 1)) #[] #[] :: cap).toArray := by simp
    simp only [invoke, this]
    exact callFunc_run hk _ _
  · refine callsIn_wide.2 (hcall.mono fun e w3 he => ?_)
    obtain ⟨v, rfl, hR⟩ := he
    have hf' : Fits N [markD w.heap.size] F { a with defers := [markD w.heap.size] ++ a.defers } := ⟨hf.size, by simp [hf.defers], hf.get⟩
    rcases hR with ⟨L3, w1, hS, hx⟩ | ⟨L3, w1, hS, hx⟩
    · have hl := (hS.own _ List.mem_cons_self).2
      exact ⟨none, _, run_endLoop hl (by simp), hx.run _ _ hf' (hS.setObj (i := 0) rfl rfl)⟩
    · have hl := (hS.own _ List.mem_cons_self).2
      exact ⟨some .ret, _, run_endLoop hl (by simp), wpIn_ret (hx.run _ _ hf' (hS.setObj (i := 0) rfl rfl))⟩
end
end Go.Proofs.YtoiepgcjinccpaaDoor.X
/-
  The plain words of a run: the state, the flows and the fault of every tick.
-/
namespace Go.Proofs.YtoiepgcjinccpaaDoor.Bs
def tk (ts : List Tick) (k : Nat) : Tick := ts[k]?.getD ⟨0, 0, 0⟩
/-- the state behind the first k ticks. -/
noncomputable def staAt (b : Bas) (s : Sta) (ts : List Tick) : Nat → Sta
  | 0 => s
  | k + 1 => outS b (staAt b s ts k) (tk ts k)
/-- the flows in tick k. -/
noncomputable def floAt (b : Bas) (s : Sta) (ts : List Tick) (k : Nat) : Flo := outF b (staAt b s ts k) (tk ts k)
/-- the fault in tick k. -/
noncomputable def errAt (b : Bas) (s : Sta) (ts : List Tick) (k : Nat) : Int := stepE b (staAt b s ts k) (tk ts k)
/-- the first tick with a fault. -/
noncomputable def badAt (b : Bas) (s : Sta) (ts : List Tick) : Option Nat := (List.range ts.length).find? fun k => decide (errAt b s ts k ≠ 0)
/-- the moments of the first k ticks. -/
noncomputable def momsAt (b : Bas) (s : Sta) (ts : List Tick) (k : Nat) : List (Sta × Flo) := (List.range k).map fun i => (staAt b s ts (i + 1), floAt b s ts i)
open Classical in
noncomputable def runE (b : Bas) (s : Sta) (ts : List Tick) : Int :=
  if staErr b s ≠ 0 then staErr b s else if 300 < ts.length then 3 else match badAt b s ts with
    | none => 0
    | some k => errAt b s ts k
theorem badAt_none {b : Bas} {s : Sta} {ts : List Tick} (h : ∀ k, k < ts.length → errAt b s ts k = 0) : badAt b s ts = none := by
  unfold badAt
  rw [List.find?_eq_none]
  intro k hk
  simpa using h k (by simpa using hk)
theorem badAt_some {b : Bas} {s : Sta} {ts : List Tick} {k : Nat} (hk : k < ts.length) (h : ∀ j, j < k → errAt b s ts j = 0) (h1 : errAt b s ts k ≠ 0) : badAt b s ts = some k := by
  unfold badAt
  rw [List.find?_range_eq_some]
  exact ⟨by simpa using h1, by simpa using hk, fun j hj => by simpa using h j hj⟩
theorem staAt_ok {b : Bas} {s : Sta} {ts : List Tick} (ho : Ok b) (hs : StaOk b s) : ∀ k, (∀ j, j < k → errAt b s ts j = 0) → StaOk b (staAt b s ts k) := by
  intro k
  induction k with
  | zero => intro _; exact hs
  | succ k ih =>
    intro h
    have h0 : stepE b (staAt b s ts k) (tk ts k) = 0 := h k (by omega)
    have := stepS_ok ho (ih fun j hj => h j (by omega)) h0
    show StaOk b (outS b (staAt b s ts k) (tk ts k))
    unfold outS
    rw [if_pos h0]
    exact this
theorem momsAt_succ {b : Bas} {s : Sta} {ts : List Tick} (k : Nat) : momsAt b s ts (k + 1) = momsAt b s ts k ++ [(staAt b s ts (k + 1), floAt b s ts k)] := by
  simp [momsAt, List.range_succ]
end Go.Proofs.YtoiepgcjinccpaaDoor.Bs
/-
  How ticks and moments lie in memory; the walk of moments.
-/
namespace Go.Proofs.YtoiepgcjinccpaaDoor.X
open Go Go.RowKit Go.Proofs.YtoiepgcjinccpaaDoor.Bs
set_option linter.unusedVariables false
theorem tickC_len (t : Tick) : (tickC t).length = 3 := rfl
structure TksAt (w : World) (ok : Nat → Prop) (q : SV) (ts : List Tick) : Prop where
  rd : ReadsP w ok 3 q.A q.n (ts.flatMap tickC)
  max : q.n ≤ 9223372036854775807
def momC (q r : SV) (s : Sta) (f : Flo) : List Value := staC q s ++ floC r f
section
variable {w w' w0 : World} {ok ok' : Nat → Prop} {B : Nat} {q : SV} {ts : List Tick} {L : Lo}
theorem TksAt.len (h : TksAt w ok q ts) : q.n = ts.length := by have := h.rd.len; rw [flat_len tickC 3 tickC_len] at this; omega
theorem TksAt.keep (h : TksAt w ok q ts) (hk : ∀ k, ok k → w'.heap[k]? = w.heap[k]?) : TksAt w' ok q ts := ⟨h.rd.keep hk, h.max⟩
theorem TksAt.below (h : TksAt w (Lt B) q ts) (hb : Below B w w') : TksAt w' (Lt B) q ts := h.keep fun k hk => hb.block k hk
theorem TksAt.arg (h : TksAt w0 (Lt B) q ts) (S : Sys B w0 L w) : TksAt w (Lt w.heap.size) q ts := ⟨h.rd.arg S, h.max⟩
theorem TksAt.tick {ad : Addr} {n c : Nat} (h : TksAt w ok ⟨some ad, n, c⟩ ts) {k : Nat} (hk : k < ts.length) : ∀ j u, (tickC (tk ts k))[j]? = some u → w.cell? ((ad.add (k * 3)).add j) = some u := fun j u hj => by
  have hn := h.len
  obtain ⟨ad', e, _, h1⟩ := h.rd.at_ (by simp only at hn ⊢; omega)
  cases e
  have hj3 : j < 3 := (List.getElem?_eq_some_iff.1 hj).1
  have e2 := flat_at tickC 3 tickC_len ts k j (tk ts k) (by unfold tk; rw [List.getElem?_eq_getElem hk]; rfl) hj3
  have := h1 (k * 3 + j) u (e2.trans hj)
  rw [add_add]
  exact this
end
theorem moments_any {x y z : Value} {p : BV} {b : Bas} {q r : SV} {s : Sta} {w : World} :
    Calls Tryd.prog 119 #[basV p b, staV q s, svV r] w fun e w' => ∃ v, e = .returned v ∧ ∃ gb gs gl, v = .func (.func 129) #[] #[.pointer (some ⟨gl, 0, none⟩), .pointer (some ⟨gb, 0, none⟩), .pointer (some ⟨gs, 0, none⟩)] ∧
      Sys w.heap.size w [(gl, cel 41 [svV r]), (gs, cel 28 (staC q s)), (gb, cel 25 (basC p b))] w' := by
  simp only [basV, basC, staV, staC, svV]
  refine enter Tryd.func119 rfl Tryd.ntmps119 rfl ?_; simp only [frame, Nat.zero_add, Nat.reduceAdd]
  repeat (first | (refine M0 ?_; first | refine O0 ?_ | refine z1 tok rfl ?_ | refine O1 rfl ?_ rfl | refine O2 rfl ?_ | refine O3 rfl ?_ rfl | refine O4 rfl rfl rfl (fun _ _ => ?_) | refine O5 tok rfl rfl rfl (fun _ _ => ?_) | refine U0 _ (U2 rfl) rfl ?_ | refine U0 _ (U3 tok rfl rfl rfl rfl rfl) rfl ?_ | refine z3 tok rfl ?_ | refine U0 _ (U4 rfl rfl) rfl ?_ | refine U0 _ (U5 rfl rfl) rfl ?_) | (refine M1 ?_; first | refine J0 ?_ | refine J1 ?_ | refine J2 mixed rfl (by kernel_rfl) ?_ | refine J3 mixed rfl rfl (by kernel_rfl) ?_ | refine J4 ?_ | refine J5 ?_ | refine J6 ?_ | refine J7 ?_ | refine J8 rfl ?_ | refine J9 rfl ?_) | (refine M2 ?_; first | refine I0 ?_ | refine I1 ?_ | refine I2 ?_ | refine I3 ?_ | refine I4 ?_ | refine I5 ?_ | refine I6 rfl ?_ | refine I7 ?_ | refine I8 ?_ | refine z4 ?_) | (refine M3 ?_; first | refine O6 ?_ | refine z2 tok rfl ?_ | refine O8 rfl ?_ | refine O7 rfl ?_ rfl | refine O9 rfl ?_ rfl | refine U1 _ (U4 rfl rfl) rfl ?_ | refine U1 _ (U5 rfl rfl) rfl ?_ | refine U1 _ (U2 rfl) rfl ?_ | refine U1 _ (U3 tok rfl rfl rfl rfl rfl) rfl ?_) | (refine M4 ?_; first | refine M6 ?_ | refine U6 rfl (by kernel_rfl) ?_ | refine U7 (by kernel_rfl) ?_) | (refine M5 ?_; first | exact M7 | refine U8 rfl ?_ | refine U9 rfl rfl ?_ ?_))
  refine XL.step _ (Ev.makeFunc rfl rfl) rfl ?_
  repeat (first | (refine M0 ?_; first | refine O0 ?_ | refine z1 tok rfl ?_ | refine O1 rfl ?_ rfl | refine O2 rfl ?_ | refine O3 rfl ?_ rfl | refine O4 rfl rfl rfl (fun _ _ => ?_) | refine O5 tok rfl rfl rfl (fun _ _ => ?_) | refine U0 _ (U2 rfl) rfl ?_ | refine U0 _ (U3 tok rfl rfl rfl rfl rfl) rfl ?_ | refine z3 tok rfl ?_ | refine U0 _ (U4 rfl rfl) rfl ?_ | refine U0 _ (U5 rfl rfl) rfl ?_) | (refine M1 ?_; first | refine J0 ?_ | refine J1 ?_ | refine J2 mixed rfl (by kernel_rfl) ?_ | refine J3 mixed rfl rfl (by kernel_rfl) ?_ | refine J4 ?_ | refine J5 ?_ | refine J6 ?_ | refine J7 ?_ | refine J8 rfl ?_ | refine J9 rfl ?_) | (refine M2 ?_; first | refine I0 ?_ | refine I1 ?_ | refine I2 ?_ | refine I3 ?_ | refine I4 ?_ | refine I5 ?_ | refine I6 rfl ?_ | refine I7 ?_ | refine I8 ?_ | refine z4 ?_) | (refine M3 ?_; first | refine O6 ?_ | refine z2 tok rfl ?_ | refine O8 rfl ?_ | refine O7 rfl ?_ rfl | refine O9 rfl ?_ rfl | refine U1 _ (U4 rfl rfl) rfl ?_ | refine U1 _ (U5 rfl rfl) rfl ?_ | refine U1 _ (U2 rfl) rfl ?_ | refine U1 _ (U3 tok rfl rfl rfl rfl rfl) rfl ?_) | (refine M4 ?_; first | refine M6 ?_ | refine U6 rfl (by kernel_rfl) ?_ | refine U7 (by kernel_rfl) ?_) | (refine M5 ?_; first | exact M7 | refine U8 rfl ?_ | refine U9 rfl rfl ?_ ?_))
  refine XE.retg tok Tryd.results119 rfl (by simp only [and_self, and_true]) (fun w' S => ?_)
  exact ⟨_, rfl, _, _, _, rfl, S⟩
end Go.Proofs.YtoiepgcjinccpaaDoor.X
/-
  A walk by lemmas (16): interfaces against nil.
-/
namespace Go.Proofs.YtoiepgcjinccpaaDoor.X
open Go Go.RowKit
set_option linter.unusedVariables false
def isIf (d : Option TypeDesc) : Bool := match d with
  | some (.interface _) => true
  | _ => false
def isNilI : Value → Option Bool
  | .nilIface => some true
  | .iface _ _ => some false
  | _ => none
section
variable {P : Program} {T : TT} {N : Nat} {B : Nat} {w0 : World} {ds : List Deferred} {F : Fr} {L : Lo} {pu : Prop}
variable {dst : Option Tmp} {ty : TypeId} {p : String} {af : Array Edge} {gd : Option (Nat × Bool)}
theorem run_ifNil (w : World) {t : TypeId} {v : Value} {b : Bool} (hu : isIf (P.underlying t) = true) (hv : isNilI v = some b) : (Op.equal t v .nilIface).run P w = .ok b w := by
  have hi : ∃ ms, P.underlying t = some (.interface ms) := by
    unfold isIf at hu
    split at hu
    · rename_i ms h; exact ⟨ms, h⟩
    · cases hu
  obtain ⟨ms, hi⟩ := hi
  have h1 : ∀ d : Nat, (Op.equalIn (d + 1) t .nilIface .nilIface).run P w = .ok true w := fun d => by simp [Op.equalIn, run_underlying hi]
  have h2 : ∀ (d : Nat) tp v, (Op.equalIn (d + 1) t (.iface tp v) .nilIface).run P w = .ok false w := fun d tp v => by simp [Op.equalIn, run_underlying hi]
  cases v <;> simp [isNilI] at hv <;> subst hv <;> first
    | (simp [Op.equal, Op.maxDepth, h1 9999]; done)
    | (simp [Op.equal, Op.maxDepth, h2 9999]; done)
theorem Ev.ifEql {x : Operand} {t u : TypeId} {v : Value} {b : Bool} (hx : evo F x = some v) (hv : isNilI v = some b) (hu : isIf (P.underlying t) = true) :
    Ev P N B w0 ds pu F L ⟨dst, .binOp .eql t x (.const .nilIface) u, ty, p, af, gd⟩ (.bool b) := .of_run fun a w hf hw => by
  have h1 := run_ifNil w hu hv
  have e := hf.eval hx
  have e2 : a.eval (.const .nilIface) = .nilIface := rfl
  cases v <;> simp [isNilI] at hv <;> subst hv <;> simp only [execOp, e, e2] <;> simp [eqGuard, binOp, h1]
theorem Ev.ifNeq {x : Operand} {t u : TypeId} {v : Value} {b : Bool} (hx : evo F x = some v) (hv : isNilI v = some b) (hu : isIf (P.underlying t) = true) :
    Ev P N B w0 ds pu F L ⟨dst, .binOp .neq t x (.const .nilIface) u, ty, p, af, gd⟩ (.bool (!b)) := .of_run fun a w hf hw => by
  have h1 := run_ifNil w hu hv
  have e := hf.eval hx
  have e2 : a.eval (.const .nilIface) = .nilIface := rfl
  cases v <;> simp [isNilI] at hv <;> subst hv <;> simp only [execOp, e, e2] <;> simp [eqGuard, binOp, h1]
end
theorem XI.rebase {P : Program} {N B : Nat} {w0 : World} {ds : List Deferred} {Q : Exit → Act → World → Prop} {F : Fr} {L L' : Lo} {ops : Array Oper} {rest : List Oper} {r : Option Nat} {n : Nat} (hs : List.Sublist L' L) (k : ∀ w1, Sys B w0 L w1 → XI P N B w1 ds Q r n ops rest F L') : XI P N B w0 ds Q r n ops rest F L :=
  ⟨fun a w hf h => (k w h).run a w hf (h.rebase hs)⟩
/-- no call of a value that is held in a slot. -/
def plainO (o : Oper) : Bool := match o.op with
  | .defer _ => false
  | .call c => match c.callee with
    | .value (.tmp _) => false
    | _ => true
  | _ => true
theorem XI.one1 {P : Program} {N B : Nat} {w0 : World} {ds : List Deferred} {Q : Exit → Act → World → Prop} {F : Fr} {L : Lo} {ops : Array Oper} {rest : List Oper} {r : Option Nat} {n : Nat} {o : Oper} (hd : plainO o = true) (h : XL P N B w0 ds (only (wpListIn (fen r) n P ops Q rest)) ops [o] F L) : XI P N B w0 ds Q r n ops (o :: rest) F L :=
  XI.one (by
    unfold plainO at hd
    unfold notDefer
    split at hd <;> simp_all) h
end Go.Proofs.YtoiepgcjinccpaaDoor.X
/-
  The rounds of all: what yield does with a moment, and with a fault.
-/
namespace Go.Proofs.YtoiepgcjinccpaaDoor.X
open Go Go.RowKit Go.Proofs.YtoiepgcjinccpaaDoor.Bs
set_option linter.unusedVariables false
theorem err_if : isIf (Tryd.prog.underlying 140) = true := by kernel_rfl
def rfOf : Code → Option (Code × Code)
  | .rangeFunc _ _ a b => some (a, b)
  | .seq x y => match rfOf x with
    | some r => some r
    | none => rfOf y
  | .block _ c => rfOf c
  | _ => none
theorem mom_el : elemOk Tryd.prog 99 103 7 88 = true := by kernel_rfl
structure Mom where
  s : Sta
  f : Flo
  q : SV
  r : SV
def Mom.c (m : Mom) : List Value := momC m.q m.r m.s m.f
def Mom.p (m : Mom) : Sta × Flo := (m.s, m.f)
theorem Mom.c_len (m : Mom) : m.c.length = 7 := rfl
/-- the blocks from base on that are none of these. -/
def Own (base : Nat) (ks : List Nat) (row : Option Nat) (W : World) : Nat → Prop := fun j => base ≤ j ∧ j < W.heap.size ∧ j ∉ ks ∧ row ≠ some j
structure MomsAt (W : World) (base : Nat) (ks : List Nat) (v : Value) (ms : List Mom) : Prop where
  row : W.ownsRow base 103 7 v ms.length (ms.flatMap Mom.c)
  sep : ∀ k, v.ownBlock = some k → k ∉ ks
  lt : ∀ k, v.ownBlock = some k → base ≤ k ∧ k < W.heap.size
  ins : ∀ m, m ∈ ms → IntsAt W (Own base ks v.ownBlock W) m.q m.s.fil ∧ IntsAt W (Own base ks v.ownBlock W) m.r m.f.taken
/-- what no one of these holds stands as it stood. -/
structure Grew (ks : List Nat) (row : Option Nat) (W W' : World) : Prop where
  size : W.heap.size ≤ W'.heap.size
  old : ∀ j, j < W.heap.size → j ∉ ks → row ≠ some j → W'.heap[j]? = W.heap[j]?
/-- the own blocks in a round. -/
abbrev L8 (l D gl gs gb g8 g7 g6 : Nat) (r : Loop) (ol os ob : Obj) (v e x : Value) : Lo := [(l, .loop r), (D, .deferred (some [])), (gl, ol), (gs, os), (gb, ob), (g8, cel 99 [v]), (g7, cel 140 [e]), (g6, cel 99 [x])]
abbrev K8 (l D gl gs gb g8 g7 g6 : Nat) : List Nat := [l, D, gl, gs, gb, g8, g7, g6]
/-- the loop variables set. -/
abbrev twoV (tmps : Array Value) (v x : Value) : Array Value := ((#[15, 16] : Array Tmp).zip #[v, x]).foldl (fun s (p, y) => s.setIfInBounds p y) tmps
set_option maxHeartbeats 4000000 in
set_option maxRecDepth 10000 in
theorem round_ok {base B D l gl gs gb g8 g7 g6 : Nat} {W w : World} {fn : FuncId} {a : Act} {assign body : Code} {ol os ob : Obj} {v e x : Value} {ms : List Mom} {m : Mom} {c : Code} {n : Nat}
    (hc : Tryd.f91.body = some c) (hr : rfOf c = some (assign, body))
    (hf : Fits 25 [] [(6, .pointer (some ⟨g6, 0, none⟩)), (7, .pointer (some ⟨g7, 0, none⟩)), (8, .pointer (some ⟨g8, 0, none⟩))] a)
    (hs : Sys B W (L8 l D gl gs gb g8 g7 g6 (recO fn a.tmps #[15, 16] assign body D .ready none) ol os ob v e x) w)
    (hm : MomsAt W base (K8 l D gl gs gb g8 g7 g6) v ms) (hb : base ≤ W.heap.size) (hBb : B ≤ base) (hlen : ms.length < 1000) :
    (Instr.yield l (#[.agg ⟨m.c⟩, .nilIface] : Array Value)).run Tryd.prog w = .ok (.round l fn (twoV a.tmps (.agg ⟨m.c⟩) .nilIface) assign body) w ∧
    RoundIn Fence.wide n Tryd.prog l fn (twoV a.tmps (.agg ⟨m.c⟩) .nilIface) assign body w fun e1 w' => ∃ u, e1 = .returned u ∧ u = .bool true ∧ ∃ v' W', Sys B W' (L8 l D gl gs gb g8 g7 g6 (recO fn a.tmps #[15, 16] assign body D .ready none) ol os ob v' e x) w' ∧
      W'.ownsRow base 103 7 v' (ms.length + 1) (ms.flatMap Mom.c ++ m.c) ∧ (∀ k, v'.ownBlock = some k → v.ownBlock = some k ∨ W.heap.size ≤ k ∧ k ∉ K8 l D gl gs gb g8 g7 g6) ∧ Grew (K8 l D gl gs gb g8 g7 g6) v.ownBlock W W' ∧ Below B W W' := by
  have hloop := (hs.own _ List.mem_cons_self).2
  refine ⟨run_yield (args := #[.agg ⟨m.c⟩, .nilIface]) hloop rfl, ?_⟩
  obtain ⟨r0, hr0, hr1, hr2⟩ : ∃ r0, recO fn a.tmps #[15, 16] assign body D .ready none = r0 ∧ r0.state = .ready ∧ r0.pending = none := ⟨_, rfl, rfl, rfl⟩
  rw [hr0] at hs ⊢
  clear hloop hr0
  have hr3 : { { r0 with state := .busy } with state := .ready, pending := none } = r0 := by
    cases r0; simp only at hr1 hr2; subst hr1 hr2; rfl
  have e1 : Tryd.f91.body = some _ := rfl
  rw [e1] at hc
  cases hc
  simp only [rfOf, Option.some.injEq, Prod.mk.injEq] at hr
  obtain ⟨rfl, rfl⟩ := hr
  clear e1
  refine round_of (hf.params2 rfl rfl) hs ?_
  simp only [Mom.c, momC, staC, floC, List.cons_append, List.nil_append]
  repeat (first | (refine M0 ?_; first | refine O0 ?_ | refine z1 tok rfl ?_ | refine O1 rfl ?_ rfl | refine O2 rfl ?_ | refine O3 rfl ?_ rfl | refine O4 rfl rfl rfl (fun _ _ => ?_) | refine O5 tok rfl rfl rfl (fun _ _ => ?_) | refine U0 _ (U2 rfl) rfl ?_ | refine U0 _ (U3 tok rfl rfl rfl rfl rfl) rfl ?_ | refine z3 tok rfl ?_ | refine U0 _ (U4 rfl rfl) rfl ?_ | refine U0 _ (U5 rfl rfl) rfl ?_) | (refine XI.id ?_; first | refine XI.done ?_ | refine XI.one1 rfl ?_) | (refine XR'.id ?_; first | refine XR'.seq ?_ | refine XR'.region ?_ | refine XR'.block ?_ | refine XR'.skip ?_ | refine XR'.ret ?_ | refine XR'.cond_t rfl ?_ | refine XR'.cond_f rfl ?_) | (refine M1 ?_; first | refine J0 ?_ | refine J1 ?_ | refine J2 mixed rfl (by kernel_rfl) ?_ | refine J3 mixed rfl rfl (by kernel_rfl) ?_ | refine J4 ?_ | refine J5 ?_ | refine J6 ?_ | refine J7 ?_ | refine J8 rfl ?_ | refine J9 rfl ?_) | (refine M2 ?_; first | refine XE.nextI ?_ | refine XE.nextR ?_ | refine I1 ?_ | refine I2 ?_ | refine I3 ?_ | refine I4 ?_ | refine I5 ?_ | refine I6 rfl ?_ | refine I7 ?_ | refine I8 ?_ | refine z4 ?_ | refine I0 ?_))
  refine XE.begin (i := 1) rfl hr1 rfl ?_
  repeat (first | (refine M0 ?_; first | refine O0 ?_ | refine z1 tok rfl ?_ | refine O1 rfl ?_ rfl | refine O2 rfl ?_ | refine O3 rfl ?_ rfl | refine U0 _ (Ev.ifNeq rfl rfl err_if) rfl ?_ | refine O4 rfl rfl rfl (fun _ _ => ?_) | refine O5 tok rfl rfl rfl (fun _ _ => ?_) | refine U0 _ (U2 rfl) rfl ?_ | refine U0 _ (U3 tok rfl rfl rfl rfl rfl) rfl ?_ | refine z3 tok rfl ?_ | refine U0 _ (U4 rfl rfl) rfl ?_ | refine U0 _ (U5 rfl rfl) rfl ?_) | (refine XI.id ?_; first | refine XI.done ?_ | refine XI.one1 rfl ?_) | (refine XR'.id ?_; first | refine XR'.seq ?_ | refine XR'.region ?_ | refine XR'.block ?_ | refine XR'.skip ?_ | refine XR'.ret ?_ | refine XR'.cond_t rfl ?_ | refine XR'.cond_f rfl ?_) | (refine M1 ?_; first | refine J0 ?_ | refine J1 ?_ | refine J2 mixed rfl (by kernel_rfl) ?_ | refine J3 mixed rfl rfl (by kernel_rfl) ?_ | refine J4 ?_ | refine J5 ?_ | refine J6 ?_ | refine J7 ?_ | refine J8 rfl ?_ | refine J9 rfl ?_) | (refine M2 ?_; first | refine XE.nextI ?_ | refine XE.nextR ?_ | refine I1 ?_ | refine I2 ?_ | refine I3 ?_ | refine I4 ?_ | refine I5 ?_ | refine I6 rfl ?_ | refine I7 ?_ | refine I8 ?_ | refine z4 ?_ | refine I0 ?_))
  refine XL.step _ (Ev.load_at tok 6 (v := v) (j := 0) rfl rfl rfl rfl) rfl ?_
  repeat (first | (refine M0 ?_; first | refine O0 ?_ | refine z1 tok rfl ?_ | refine O1 rfl ?_ rfl | refine O2 rfl ?_ | refine O3 rfl ?_ rfl | refine O4 rfl rfl rfl (fun _ _ => ?_) | refine O5 tok rfl rfl rfl (fun _ _ => ?_) | refine U0 _ (U2 rfl) rfl ?_ | refine U0 _ (U3 tok rfl rfl rfl rfl rfl) rfl ?_ | refine z3 tok rfl ?_ | refine U0 _ (U4 rfl rfl) rfl ?_ | refine U0 _ (U5 rfl rfl) rfl ?_) | (refine XI.id ?_; first | refine XI.done ?_ | refine XI.one1 rfl ?_) | (refine XR'.id ?_; first | refine XR'.seq ?_ | refine XR'.region ?_ | refine XR'.block ?_ | refine XR'.skip ?_ | refine XR'.ret ?_ | refine XR'.cond_t rfl ?_ | refine XR'.cond_f rfl ?_) | (refine M1 ?_; first | refine J0 ?_ | refine J1 ?_ | refine J2 mixed rfl (by kernel_rfl) ?_ | refine J3 mixed rfl rfl (by kernel_rfl) ?_ | refine J4 ?_ | refine J5 ?_ | refine J6 ?_ | refine J7 ?_ | refine J8 rfl ?_ | refine J9 rfl ?_) | (refine M2 ?_; first | refine XE.nextI ?_ | refine XE.nextR ?_ | refine I1 ?_ | refine I2 ?_ | refine I3 ?_ | refine I4 ?_ | refine I5 ?_ | refine I6 rfl ?_ | refine I7 ?_ | refine I8 ?_ | refine z4 ?_ | refine I0 ?_))
  refine XL.buildSlice tok rfl rfl rfl rfl rfl rfl rfl rfl rfl (fun gn hgn => ?_)
  repeat (first | (refine M0 ?_; first | refine O0 ?_ | refine z1 tok rfl ?_ | refine O1 rfl ?_ rfl | refine O2 rfl ?_ | refine O3 rfl ?_ rfl | refine O4 rfl rfl rfl (fun _ _ => ?_) | refine O5 tok rfl rfl rfl (fun _ _ => ?_) | refine U0 _ (U2 rfl) rfl ?_ | refine U0 _ (U3 tok rfl rfl rfl rfl rfl) rfl ?_ | refine z3 tok rfl ?_ | refine U0 _ (U4 rfl rfl) rfl ?_ | refine U0 _ (U5 rfl rfl) rfl ?_) | (refine XI.id ?_; first | refine XI.done ?_ | refine XI.one1 rfl ?_) | (refine XR'.id ?_; first | refine XR'.seq ?_ | refine XR'.region ?_ | refine XR'.block ?_ | refine XR'.skip ?_ | refine XR'.ret ?_ | refine XR'.cond_t rfl ?_ | refine XR'.cond_f rfl ?_) | (refine M1 ?_; first | refine J0 ?_ | refine J1 ?_ | refine J2 mixed rfl (by kernel_rfl) ?_ | refine J3 mixed rfl rfl (by kernel_rfl) ?_ | refine J4 ?_ | refine J5 ?_ | refine J6 ?_ | refine J7 ?_ | refine J8 rfl ?_ | refine J9 rfl ?_) | (refine M2 ?_; first | refine XE.nextI ?_ | refine XE.nextR ?_ | refine I1 ?_ | refine I2 ?_ | refine I3 ?_ | refine I4 ?_ | refine I5 ?_ | refine I6 rfl ?_ | refine I7 ?_ | refine I8 ?_ | refine z4 ?_ | refine I0 ?_))
  obtain ⟨hrow, hsep, hlt, hins⟩ := hm
  have hks : ∀ e', e' ∈ L8 l D gl gs gb g8 g7 g6 { r0 with state := .busy } ol os ob v e x → e'.1 ∈ K8 l D gl gs gb g8 g7 g6 := by
    intro e' he'
    have : e'.1 ∈ (L8 l D gl gs gb g8 g7 g6 { r0 with state := .busy } ol os ob v e x).map (·.1) := List.mem_map.2 ⟨e', he', rfl⟩
    simpa using this
  refine XL.append2 (v := v) (m := 1) (n := ms.length) (size := 7) (bytes := 88) (base := base) (A := ⟨gn, 0, none⟩) (xs := ms.flatMap Mom.c) (news := m.c) (L' := L8 l D gl gs gb g8 g7 g6 { r0 with state := .busy } ol os ob v e x) mom_el (by decide) rfl rfl rfl
    hrow (fun k hk e' he' => ?_) rfl (fun w2 S2 j u hj => ?_) (by simp [Mom.c, momC, staC, floC, Value.oneCell']) (by unfold maxLen; omega) (by omega) hb ((List.sublist_cons_self _ _).trans (List.sublist_cons_self _ _)) (fun w2 v' w3 S2 ho hg _ hfr => ?_)
  · rcases List.mem_cons.1 he' with rfl | he'
    · have := (hlt k hk).2; intro e2; simp only at e2; omega
    rcases List.mem_cons.1 he' with rfl | he'
    · have := (hlt k hk).2; intro e2; simp only at e2; omega
    · intro e2; exact hsep k hk (e2 ▸ hks e' he')
  · have := S2.cell (g := gn) List.mem_cons_self j
    rw [add_off, Nat.zero_add, this]; exact hj
  obtain ⟨r, rfl, hrn⟩ := owns_sv ho
  repeat (first | (refine M0 ?_; first | refine O0 ?_ | refine z1 tok rfl ?_ | refine O1 rfl ?_ rfl | refine O2 rfl ?_ | refine O3 rfl ?_ rfl | refine O4 rfl rfl rfl (fun _ _ => ?_) | refine O5 tok rfl rfl rfl (fun _ _ => ?_) | refine U0 _ (U2 rfl) rfl ?_ | refine U0 _ (U3 tok rfl rfl rfl rfl rfl) rfl ?_ | refine z3 tok rfl ?_ | refine U0 _ (U4 rfl rfl) rfl ?_ | refine U0 _ (U5 rfl rfl) rfl ?_) | (refine XI.id ?_; first | refine XI.done ?_ | refine XI.one1 rfl ?_) | (refine XR'.id ?_; first | refine XR'.seq ?_ | refine XR'.region ?_ | refine XR'.block ?_ | refine XR'.skip ?_ | refine XR'.ret ?_ | refine XR'.cond_t rfl ?_ | refine XR'.cond_f rfl ?_) | (refine M1 ?_; first | refine J0 ?_ | refine J1 ?_ | refine J2 mixed rfl (by kernel_rfl) ?_ | refine J3 mixed rfl rfl (by kernel_rfl) ?_ | refine J4 ?_ | refine J5 ?_ | refine J6 ?_ | refine J7 ?_ | refine J8 rfl ?_ | refine J9 rfl ?_) | (refine M2 ?_; first | refine XE.nextI ?_ | refine XE.nextR ?_ | refine I1 ?_ | refine I2 ?_ | refine I3 ?_ | refine I4 ?_ | refine I5 ?_ | refine I6 rfl ?_ | refine I7 ?_ | refine I8 ?_ | refine z4 ?_ | refine I0 ?_))
  refine XL.store_at tok 5 (o := 0) (j := 0) (cs := [v]) rfl rfl rfl rfl rfl (Nat.zero_lt_succ 0) rfl ?_
  repeat (first | (refine M0 ?_; first | refine O0 ?_ | refine z1 tok rfl ?_ | refine O1 rfl ?_ rfl | refine O2 rfl ?_ | refine O3 rfl ?_ rfl | refine O4 rfl rfl rfl (fun _ _ => ?_) | refine O5 tok rfl rfl rfl (fun _ _ => ?_) | refine U0 _ (U2 rfl) rfl ?_ | refine U0 _ (U3 tok rfl rfl rfl rfl rfl) rfl ?_ | refine z3 tok rfl ?_ | refine U0 _ (U4 rfl rfl) rfl ?_ | refine U0 _ (U5 rfl rfl) rfl ?_) | (refine XI.id ?_; first | refine XI.done ?_ | refine XI.one1 rfl ?_) | (refine XR'.id ?_; first | refine XR'.seq ?_ | refine XR'.region ?_ | refine XR'.block ?_ | refine XR'.skip ?_ | refine XR'.ret ?_ | refine XR'.cond_t rfl ?_ | refine XR'.cond_f rfl ?_) | (refine M1 ?_; first | refine J0 ?_ | refine J1 ?_ | refine J2 mixed rfl (by kernel_rfl) ?_ | refine J3 mixed rfl rfl (by kernel_rfl) ?_ | refine J4 ?_ | refine J5 ?_ | refine J6 ?_ | refine J7 ?_ | refine J8 rfl ?_ | refine J9 rfl ?_) | (refine M2 ?_; first | refine XE.nextI ?_ | refine XE.nextR ?_ | refine I1 ?_ | refine I2 ?_ | refine I3 ?_ | refine I4 ?_ | refine I5 ?_ | refine I6 rfl ?_ | refine I7 ?_ | refine I8 ?_ | refine z4 ?_ | refine I0 ?_))
  refine XE.endR (i := 0) rfl rfl (fun w' S => ?_)
  have hr3' := hr3
  simp only at hr3'
  simp only [List.set_cons_zero, Nat.zero_add, hr3'] at S
  have hK : ∀ k, k ∈ K8 l D gl gs gb g8 g7 g6 → k < w2.heap.size := fun k hk => by
    obtain ⟨e', he', e2⟩ := List.mem_map.1 (show k ∈ (L8 l D gl gs gb g8 g7 g6 { r0 with state := .busy } ol os ob v e x).map (·.1) from hk)
    have := S2.lt (List.mem_cons_of_mem _ (List.mem_cons_of_mem _ he'))
    omega
  refine ⟨_, rfl, rfl, svV r, w3, S, ho, fun k hk => ?_, ⟨Nat.le_trans S2.size hg.size, fun j hj hjk hjr => ?_⟩, grown_below S2 hg fun k hk => Nat.le_trans hBb (hlt k hk).1⟩
  · rcases hfr k hk with h | h
    · exact .inl h
    · exact .inr ⟨Nat.le_trans S2.size h, fun hk' => by have := hK k hk'; omega⟩
  · rw [hg.block j (Nat.lt_of_lt_of_le hj S2.size) (fun e2 => hjr e2.symm)]
    refine S2.old j hj fun e' he' e2 => ?_
    rcases List.mem_cons.1 he' with rfl | he'
    · simp only at e2; omega
    rcases List.mem_cons.1 he' with rfl | he'
    · simp only at e2; omega
    · exact hjk (e2 ▸ hks e' he')
def zmC : List Value := [.int .i64 0, .slice none 0 0, .int .i64 0, .int .i64 0, .int .i64 0, .int .i64 0, .slice none 0 0]
set_option maxHeartbeats 4000000 in
set_option maxRecDepth 10000 in
theorem round_err {B D l gl gs gb g8 g7 g6 gf : Nat} {W w : World} {fn : FuncId} {a : Act} {assign body : Code} {ol os ob : Obj} {v e x : Value} {c : Code} {n : Nat}
    (hc : Tryd.f91.body = some c) (hr : rfOf c = some (assign, body))
    (hf : Fits 25 [] [(6, .pointer (some ⟨g6, 0, none⟩)), (7, .pointer (some ⟨g7, 0, none⟩)), (8, .pointer (some ⟨g8, 0, none⟩))] a)
    (hs : Sys B W (L8 l D gl gs gb g8 g7 g6 (recO fn a.tmps #[15, 16] assign body D .ready none) ol os ob v e x) w) :
    (Instr.yield l (#[.agg ⟨zmC⟩, .iface 143 (.pointer (some ⟨gf, 0, none⟩))] : Array Value)).run Tryd.prog w = .ok (.round l fn (twoV a.tmps (.agg ⟨zmC⟩) (.iface 143 (.pointer (some ⟨gf, 0, none⟩)))) assign body) w ∧
    RoundIn Fence.wide n Tryd.prog l fn (twoV a.tmps (.agg ⟨zmC⟩) (.iface 143 (.pointer (some ⟨gf, 0, none⟩)))) assign body w fun e1 w' => ∃ u, e1 = .returned u ∧ u = .bool false ∧
      Sys B W (L8 l D gl gs gb g8 g7 g6 (recO fn a.tmps #[15, 16] assign body D .done (some .ret)) ol os ob v (.iface 143 (.pointer (some ⟨gf, 0, none⟩))) (.slice none 0 0)) w' := by
  have hloop := (hs.own _ List.mem_cons_self).2
  refine ⟨run_yield (args := #[.agg ⟨zmC⟩, .iface 143 (.pointer (some ⟨gf, 0, none⟩))]) hloop rfl, ?_⟩
  obtain ⟨r0, hr0, hr1, r1, hr4, hr3⟩ : ∃ r0, recO fn a.tmps #[15, 16] assign body D .ready none = r0 ∧ r0.state = .ready ∧ ∃ r1, recO fn a.tmps #[15, 16] assign body D .done (some .ret) = r1 ∧ { { r0 with state := .busy } with state := .done, pending := some .ret } = r1 := ⟨_, rfl, rfl, _, rfl, rfl⟩
  rw [hr0] at hs
  rw [hr4]
  clear hloop hr0 hr4
  have e1 : Tryd.f91.body = some _ := rfl
  rw [e1] at hc
  cases hc
  simp only [rfOf, Option.some.injEq, Prod.mk.injEq] at hr
  obtain ⟨rfl, rfl⟩ := hr
  clear e1
  refine round_of (hf.params2 rfl rfl) hs ?_
  simp only [zmC]
  repeat (first | (refine M0 ?_; first | refine O0 ?_ | refine z1 tok rfl ?_ | refine O1 rfl ?_ rfl | refine O2 rfl ?_ | refine O3 rfl ?_ rfl | refine O4 rfl rfl rfl (fun _ _ => ?_) | refine O5 tok rfl rfl rfl (fun _ _ => ?_) | refine U0 _ (U2 rfl) rfl ?_ | refine U0 _ (U3 tok rfl rfl rfl rfl rfl) rfl ?_ | refine z3 tok rfl ?_ | refine U0 _ (U4 rfl rfl) rfl ?_ | refine U0 _ (U5 rfl rfl) rfl ?_) | (refine XI.id ?_; first | refine XI.done ?_ | refine XI.one1 rfl ?_) | (refine XR'.id ?_; first | refine XR'.seq ?_ | refine XR'.region ?_ | refine XR'.block ?_ | refine XR'.skip ?_ | refine XR'.ret ?_ | refine XR'.cond_t rfl ?_ | refine XR'.cond_f rfl ?_) | (refine M1 ?_; first | refine J0 ?_ | refine J1 ?_ | refine J2 mixed rfl (by kernel_rfl) ?_ | refine J3 mixed rfl rfl (by kernel_rfl) ?_ | refine J4 ?_ | refine J5 ?_ | refine J6 ?_ | refine J7 ?_ | refine J8 rfl ?_ | refine J9 rfl ?_) | (refine M2 ?_; first | refine XE.nextI ?_ | refine XE.nextR ?_ | refine I1 ?_ | refine I2 ?_ | refine I3 ?_ | refine I4 ?_ | refine I5 ?_ | refine I6 rfl ?_ | refine I7 ?_ | refine I8 ?_ | refine z4 ?_ | refine I0 ?_))
  refine XE.begin (i := 1) rfl hr1 rfl ?_
  repeat (first | (refine M0 ?_; first | refine O0 ?_ | refine z1 tok rfl ?_ | refine O1 rfl ?_ rfl | refine O2 rfl ?_ | refine O3 rfl ?_ rfl | refine U0 _ (Ev.ifNeq rfl rfl err_if) rfl ?_ | refine O4 rfl rfl rfl (fun _ _ => ?_) | refine O5 tok rfl rfl rfl (fun _ _ => ?_) | refine U0 _ (U2 rfl) rfl ?_ | refine U0 _ (U3 tok rfl rfl rfl rfl rfl) rfl ?_ | refine z3 tok rfl ?_ | refine U0 _ (U4 rfl rfl) rfl ?_ | refine U0 _ (U5 rfl rfl) rfl ?_) | (refine XI.id ?_; first | refine XI.done ?_ | refine XI.one1 rfl ?_) | (refine XR'.id ?_; first | refine XR'.seq ?_ | refine XR'.region ?_ | refine XR'.block ?_ | refine XR'.skip ?_ | refine XR'.ret ?_ | refine XR'.cond_t rfl ?_ | refine XR'.cond_f rfl ?_) | (refine M1 ?_; first | refine J0 ?_ | refine J1 ?_ | refine J2 mixed rfl (by kernel_rfl) ?_ | refine J3 mixed rfl rfl (by kernel_rfl) ?_ | refine J4 ?_ | refine J5 ?_ | refine J6 ?_ | refine J7 ?_ | refine J8 rfl ?_ | refine J9 rfl ?_) | (refine M2 ?_; first | refine XE.nextI ?_ | refine XE.nextR ?_ | refine I1 ?_ | refine I2 ?_ | refine I3 ?_ | refine I4 ?_ | refine I5 ?_ | refine I6 rfl ?_ | refine I7 ?_ | refine I8 ?_ | refine z4 ?_ | refine I0 ?_))
  refine XL.store_at tok 8 (o := 0) (j := 0) (cs := [x]) rfl rfl rfl rfl rfl (Nat.zero_lt_succ 0) rfl ?_
  repeat (first | (refine M0 ?_; first | refine O0 ?_ | refine z1 tok rfl ?_ | refine O1 rfl ?_ rfl | refine O2 rfl ?_ | refine O3 rfl ?_ rfl | refine O4 rfl rfl rfl (fun _ _ => ?_) | refine O5 tok rfl rfl rfl (fun _ _ => ?_) | refine U0 _ (U2 rfl) rfl ?_ | refine U0 _ (U3 tok rfl rfl rfl rfl rfl) rfl ?_ | refine z3 tok rfl ?_ | refine U0 _ (U4 rfl rfl) rfl ?_ | refine U0 _ (U5 rfl rfl) rfl ?_) | (refine XI.id ?_; first | refine XI.done ?_ | refine XI.one1 rfl ?_) | (refine XR'.id ?_; first | refine XR'.seq ?_ | refine XR'.region ?_ | refine XR'.block ?_ | refine XR'.skip ?_ | refine XR'.ret ?_ | refine XR'.cond_t rfl ?_ | refine XR'.cond_f rfl ?_) | (refine M1 ?_; first | refine J0 ?_ | refine J1 ?_ | refine J2 mixed rfl (by kernel_rfl) ?_ | refine J3 mixed rfl rfl (by kernel_rfl) ?_ | refine J4 ?_ | refine J5 ?_ | refine J6 ?_ | refine J7 ?_ | refine J8 rfl ?_ | refine J9 rfl ?_) | (refine M2 ?_; first | refine XE.nextI ?_ | refine XE.nextR ?_ | refine I1 ?_ | refine I2 ?_ | refine I3 ?_ | refine I4 ?_ | refine I5 ?_ | refine I6 rfl ?_ | refine I7 ?_ | refine I8 ?_ | refine z4 ?_ | refine I0 ?_))
  refine XL.store_at tok 7 (o := 0) (j := 0) (cs := [e]) rfl rfl rfl rfl rfl (Nat.zero_lt_succ 0) rfl ?_
  repeat (first | (refine M0 ?_; first | refine O0 ?_ | refine z1 tok rfl ?_ | refine O1 rfl ?_ rfl | refine O2 rfl ?_ | refine O3 rfl ?_ rfl | refine O4 rfl rfl rfl (fun _ _ => ?_) | refine O5 tok rfl rfl rfl (fun _ _ => ?_) | refine U0 _ (U2 rfl) rfl ?_ | refine U0 _ (U3 tok rfl rfl rfl rfl rfl) rfl ?_ | refine z3 tok rfl ?_ | refine U0 _ (U4 rfl rfl) rfl ?_ | refine U0 _ (U5 rfl rfl) rfl ?_) | (refine XI.id ?_; first | refine XI.done ?_ | refine XI.one1 rfl ?_) | (refine XR'.id ?_; first | refine XR'.seq ?_ | refine XR'.region ?_ | refine XR'.block ?_ | refine XR'.skip ?_ | refine XR'.ret ?_ | refine XR'.cond_t rfl ?_ | refine XR'.cond_f rfl ?_) | (refine M1 ?_; first | refine J0 ?_ | refine J1 ?_ | refine J2 mixed rfl (by kernel_rfl) ?_ | refine J3 mixed rfl rfl (by kernel_rfl) ?_ | refine J4 ?_ | refine J5 ?_ | refine J6 ?_ | refine J7 ?_ | refine J8 rfl ?_ | refine J9 rfl ?_) | (refine M2 ?_; first | refine XE.nextI ?_ | refine XE.nextR ?_ | refine I1 ?_ | refine I2 ?_ | refine I3 ?_ | refine I4 ?_ | refine I5 ?_ | refine I6 rfl ?_ | refine I7 ?_ | refine I8 ?_ | refine z4 ?_ | refine I0 ?_))
  refine XE.endRet (i := 1) rfl rfl (fun w' S => ?_)
  simp only at hr3
  simp only [List.set_cons_zero, Nat.zero_add, hr3] at S
  exact ⟨_, rfl, rfl, S.pop (by assumption)⟩
end Go.Proofs.YtoiepgcjinccpaaDoor.X
/-
  The walk of the iterator of all.
-/
namespace Go.Proofs.YtoiepgcjinccpaaDoor.X
open Go Go.RowKit Go.Proofs.YtoiepgcjinccpaaDoor.Bs
set_option linter.unusedVariables false
section
variable {base B : Nat} {ks : List Nat} {row : Option Nat} {W W' W2 : World} {v : Value} {ms : List Mom} {L : Lo}
/-- all of L's blocks that W knows are among these. -/
theorem Grew.sys {w : World} (S : Sys B W L w) (hL : ∀ e, e ∈ L → e.1 ∈ ks ∨ W.heap.size ≤ e.1) : Grew ks row W w := ⟨S.size, fun j h1 h2 h3 => S.old j h1 fun e he e1 => by
  rcases hL e he with h | h
  · exact h2 (e1 ▸ h)
  · omega⟩
/-- what stands but for L's blocks (no row among what is kept). -/
theorem Own.move (h : Grew ks row W W') : ∀ j, Own base ks row W j → W'.heap[j]? = W.heap[j]? := fun j hj => h.old j hj.2.1 hj.2.2.1 hj.2.2.2
theorem Own.le (h : W.heap.size ≤ W'.heap.size) : ∀ j, Own base ks row W j → Own base ks row W' j := fun j hj => ⟨hj.1, Nat.lt_of_lt_of_le hj.2.1 h, hj.2.2⟩
/-- the row stays, no block of ks is written but those that are not the row. -/
theorem MomsAt.move (hm : MomsAt W base ks v ms) (h : Grew ks none W W') : MomsAt W' base ks v ms := by
  have h' : Grew ks v.ownBlock W W' := ⟨h.size, fun j h1 h2 _ => h.old j h1 h2 (by simp)⟩
  refine ⟨⟨hm.row.1, ?_⟩, hm.sep, fun k hk => ⟨(hm.lt k hk).1, Nat.lt_of_lt_of_le (hm.lt k hk).2 h.size⟩, fun m hmm => ?_⟩
  · rcases hm.row.2 with h1 | ⟨g, cap, cur, rfl, hb, hg, h1⟩
    · exact .inl h1
    · refine .inr ⟨g, cap, cur, rfl, hb, ?_, h1⟩
      rw [h.old g (Array.getElem?_eq_some_iff.1 hg).1 (hm.sep g rfl) (by simp)]
      exact hg
  · obtain ⟨h1, h2⟩ := hm.ins m hmm
    exact ⟨(h1.keep (Own.move h')).mono (Own.le h.size), (h2.keep (Own.move h')).mono (Own.le h.size)⟩
theorem MomsAt.nil : MomsAt W base ks (.slice none 0 0) [] := ⟨World.ownsRow_nil _ _ _ _, fun k hk => by simp [Value.ownBlock] at hk, fun k hk => by simp [Value.ownBlock] at hk, fun m hm => by cases hm⟩
/-- one more. -/
theorem MomsAt.more {v' : Value} {m : Mom} (hm : MomsAt W base ks v ms) (hb : base ≤ W.heap.size) (hrow : W'.ownsRow base 103 7 v' (ms.length + 1) (ms.flatMap Mom.c ++ m.c)) (hv : ∀ k, v'.ownBlock = some k → v.ownBlock = some k ∨ W.heap.size ≤ k ∧ k ∉ ks)
    (h : Grew ks v.ownBlock W W') (h1 : IntsAt W (Own base ks v.ownBlock W) m.q m.s.fil) (h2 : IntsAt W (Own base ks v.ownBlock W) m.r m.f.taken) : MomsAt W' base ks v' (ms ++ [m]) := by
  have hcl : ∀ j, Own base ks v.ownBlock W j → Own base ks v'.ownBlock W' j := fun j hj => ⟨hj.1, Nat.lt_of_lt_of_le hj.2.1 h.size, hj.2.2.1, fun e => by
    rcases hv j e with h3 | h3
    · exact hj.2.2.2 h3
    · have := hj.2.1; omega⟩
  refine ⟨by simpa using hrow, fun k hk => ?_, fun k hk => hrow.lt k hk, fun m' hm' => ?_⟩
  · rcases hv k hk with h3 | h3
    · exact hm.sep k h3
    · exact h3.2
  · rcases List.mem_append.1 hm' with h3 | h3
    · obtain ⟨a1, a2⟩ := hm.ins m' h3
      exact ⟨(a1.keep (Own.move h)).mono hcl, (a2.keep (Own.move h)).mono hcl⟩
    · rw [List.mem_singleton] at h3
      subst h3
      exact ⟨(h1.keep (Own.move h)).mono hcl, (h2.keep (Own.move h)).mono hcl⟩
end
theorem Sys.keyLt {B : Nat} {w0 w : World} {L : Lo} (S : Sys B w0 L w) : ∀ j, j ∈ L.map (·.1) → j < w.heap.size := fun j hj => by
  obtain ⟨e, he, rfl⟩ := List.mem_map.1 hj
  exact S.lt he
theorem grew3 {B : Nat} {ks : List Nat} {row : Option Nat} {W w1 w2 w3 : World} {L1 L3 : Lo} (S1 : Sys B W L1 w1) (hB : Below w1.heap.size w1 w2) (S3 : Sys B w2 L3 w3) (h1 : ∀ k, k ∈ L1.map (·.1) → k ∈ ks ∨ W.heap.size ≤ k) (h3 : ∀ k, k ∈ L3.map (·.1) → k ∈ ks ∨ W.heap.size ≤ k) : Grew ks row W w3 :=
  ⟨Nat.le_trans S1.size (Nat.le_trans hB.size S3.size), fun j hj hk _ => by
    have a1 : w1.heap[j]? = W.heap[j]? := S1.old j hj fun e he e1 => by
      rcases h1 e.1 (List.mem_map.2 ⟨e, he, rfl⟩) with h | h
      · exact hk (e1 ▸ h)
      · omega
    have hj1 := Nat.lt_of_lt_of_le hj S1.size
    rw [S3.old j (Nat.lt_of_lt_of_le hj1 hB.size) fun e he e1 => by
      rcases h3 e.1 (List.mem_map.2 ⟨e, he, rfl⟩) with h | h
      · exact hk (e1 ▸ h)
      · omega, hB.block j hj1, a1]⟩
theorem fail_con : conB (Tryd.prog.underlying 143) = true := by kernel_rfl
/-- what the iterator leaves. -/
def IterR (B l D gl gs gb g8 g7 g6 : Nat) (r1 r2 : Loop) (ol ob : Obj) (b : Bas) (s : Sta) (ts : List Tick) (e x : Value) (w w' : World) : Prop :=
  (badAt b s ts = none ∧ ∃ W v ms os, Sys B W (L8 l D gl gs gb g8 g7 g6 r1 ol os ob v e x) w' ∧ Below B w W ∧ MomsAt W B (K8 l D gl gs gb g8 g7 g6) v ms ∧ ms.map Mom.p = momsAt b s ts ts.length) ∨
  (∃ k, badAt b s ts = some k ∧ ∃ W v os gf, Sys B W (L8 l D gl gs gb g8 g7 g6 r2 ol os ob v (.iface 143 (.pointer (some ⟨gf, 0, none⟩))) (.slice none 0 0)) w' ∧ Below B w W ∧ B ≤ gf ∧ gf ∉ K8 l D gl gs gb g8 g7 g6 ∧ W.heap[gf]? = some (cel 147 [.int .i64 (k : Nat), .int .i64 (errAt b s ts k)]))
set_option maxHeartbeats 8000000 in
theorem iter_any {B l D gl gs gb g8 g7 g6 : Nat} {w : World} {fn : FuncId} {a : Act} {assign body : Code} {c : Code} {e x : Value} {p : BV} {b : Bas} {q r : SV} {s : Sta} {ts : List Tick}
    (hc : Tryd.f91.body = some c) (hr : rfOf c = some (assign, body))
    (hf : Fits 25 [] [(6, .pointer (some ⟨g6, 0, none⟩)), (7, .pointer (some ⟨g7, 0, none⟩)), (8, .pointer (some ⟨g8, 0, none⟩))] a)
    (S0 : Sys B w (L8 l D gl gs gb g8 g7 g6 (recO fn a.tmps #[15, 16] assign body D .ready none) (cel 41 [svV r]) (cel 28 (staC q s)) (cel 25 (basC p b)) (.slice none 0 0) e x) w)
    (hb : BasAt w B p b) (hq : IntsAt w (Lt B) q s.fil) (ht : TksAt w (Lt B) r ts) (ho : Ok b) (hs : StaOk b s) (hn : ts.length ≤ 300) :
    Calls Tryd.prog 129 #[.func (.yield l) #[] #[], .pointer (some ⟨gl, 0, none⟩), .pointer (some ⟨gb, 0, none⟩), .pointer (some ⟨gs, 0, none⟩)] w fun e1 w' => ∃ u, e1 = .returned u ∧
      IterR B l D gl gs gb g8 g7 g6 (recO fn a.tmps #[15, 16] assign body D .ready none) (recO fn a.tmps #[15, 16] assign body D .done (some .ret)) (cel 41 [svV r]) (cel 25 (basC p b)) b s ts e x w w' := by
  obtain ⟨A, n, cc⟩ := r
  have hn1 := ht.len
  simp only at hn1
  subst hn1
  simp only [staC, basC, svV] at S0 ⊢
  have hlits : ∃ r1, recO fn a.tmps #[15, 16] assign body D .ready none = r1 ∧ ∃ r2, recO fn a.tmps #[15, 16] assign body D .done (some .ret) = r2 := ⟨_, rfl, _, rfl⟩
  obtain ⟨r1, hr1, r2, hr2⟩ := hlits
  rw [hr1] at S0
  rw [hr1, hr2]
  refine enterL Tryd.func129 rfl Tryd.ntmps129 rfl (S0) ?_; simp only [frame, Nat.zero_add, Nat.reduceAdd]
  refine XC.hint 1 5 ?_
  refine XC.hint 2 3 ?_
  refine XC.hint 3 4 ?_
  repeat (first | (refine M0 ?_; first | refine O0 ?_ | refine z1 tok rfl ?_ | refine O1 rfl ?_ rfl | refine O2 rfl ?_ | refine O3 rfl ?_ rfl | refine O4 rfl rfl rfl (fun _ _ => ?_) | refine O5 tok rfl rfl rfl (fun _ _ => ?_) | refine U0 _ (U2 rfl) rfl ?_ | refine U0 _ (U3 tok rfl rfl rfl rfl rfl) rfl ?_ | refine z3 tok rfl ?_ | refine U0 _ (U4 rfl rfl) rfl ?_ | refine U0 _ (U5 rfl rfl) rfl ?_) | (refine M1 ?_; first | refine J0 ?_ | refine J1 ?_ | refine J2 mixed rfl (by kernel_rfl) ?_ | refine J3 mixed rfl rfl (by kernel_rfl) ?_ | refine J4 ?_ | refine J5 ?_ | refine J6 ?_ | refine J7 ?_ | refine J8 rfl ?_ | refine J9 rfl ?_) | (refine M2 ?_; first | refine I0 ?_ | refine I1 ?_ | refine I2 ?_ | refine I3 ?_ | refine I4 ?_ | refine I5 ?_ | refine I6 rfl ?_ | refine I7 ?_ | refine I8 ?_ | refine z4 ?_) | (refine M3 ?_; first | refine O6 ?_ | refine z2 tok rfl ?_ | refine O8 rfl ?_ | refine O7 rfl ?_ rfl | refine O9 rfl ?_ rfl | refine U1 _ (U4 rfl rfl) rfl ?_ | refine U1 _ (U5 rfl rfl) rfl ?_ | refine U1 _ (U2 rfl) rfl ?_ | refine U1 _ (U3 tok rfl rfl rfl rfl rfl) rfl ?_) | (refine M4 ?_; first | refine M6 ?_ | refine U6 rfl (by kernel_rfl) ?_ | refine U7 (by kernel_rfl) ?_) | (refine M5 ?_; first | exact M7 | refine U8 rfl ?_ | refine U9 rfl rfl ?_ ?_))
  refine XC.loopk [0, 2, 3, 10, 11] rfl (fun s' : Nat × World × Value × List Mom × SV => [(12, .int .i64 (s'.1 : Nat))])
    (fun s' => L8 l D gl gs gb g8 g7 g6 r1 (cel 41 [.slice A ts.length cc]) (cel 28 (staC s'.2.2.2.2 (staAt b s ts s'.1))) (cel 25 (basC p b)) s'.2.2.1 e x) (fun s' => s'.2.1)
    (fun s' => s'.1 ≤ ts.length ∧ (∀ j, j < s'.1 → errAt b s ts j = 0) ∧ Below B w s'.2.1 ∧ B ≤ s'.2.1.heap.size ∧ MomsAt s'.2.1 B (K8 l D gl gs gb g8 g7 g6) s'.2.2.1 s'.2.2.2.1 ∧ s'.2.2.2.1.map Mom.p = momsAt b s ts s'.1 ∧
      IntsAt s'.2.1 (Own 0 (K8 l D gl gs gb g8 g7 g6) s'.2.2.1.ownBlock s'.2.1) s'.2.2.2.2 (staAt b s ts s'.1).fil)
    (fun s' => ts.length - s'.1) (0, w, .slice none 0 0, [], q) ⟨Nat.zero_le _, fun j hj => absurd hj (by simp), Below.refl _ _, S0.base, MomsAt.nil, rfl, ?_⟩ (by repeat (first | exact Sub.nil | refine Sub.cons rfl ?_)) (fun _ h => h) ?_
  · refine hq.mono fun j hj => ⟨Nat.zero_le _, Nat.lt_of_lt_of_le hj S0.base, fun hk => ?_, by simp [Value.ownBlock]⟩
    have hj' : j < B := hj
    have : ∀ e', e' ∈ L8 l D gl gs gb g8 g7 g6 r1 (cel 41 [.slice A ts.length cc]) (cel 28 (staC q s)) (cel 25 (basC p b)) (.slice none 0 0) e x → B ≤ e'.1 := fun e' he' => (S0.own e' he').1
    obtain ⟨e', he', e2⟩ := List.mem_map.1 (show j ∈ (L8 l D gl gs gb g8 g7 g6 r1 (cel 41 [.slice A ts.length cc]) (cel 28 (staC q s)) (cel 25 (basC p b)) (.slice none 0 0) e x).map (·.1) from hk)
    have := this e' he'
    omega
  rintro ⟨k, W, v, ms, qk⟩ ⟨hk, h0, hBW, hBsz, hm, hmp, hqk⟩
  simp only at hk h0 hBW hBsz hm hmp hqk
  simp only [staC, basC]
  dsimp only [List.cons_append, List.nil_append]
  repeat (first | (refine M0 ?_; first | refine O0 ?_ | refine z1 tok rfl ?_ | refine O1 rfl ?_ rfl | refine O2 rfl ?_ | refine O3 rfl ?_ rfl | refine O4 rfl rfl rfl (fun _ _ => ?_) | refine O5 tok rfl rfl rfl (fun _ _ => ?_) | refine U0 _ (U2 rfl) rfl ?_ | refine U0 _ (U3 tok rfl rfl rfl rfl rfl) rfl ?_ | refine z3 tok rfl ?_ | refine U0 _ (U4 rfl rfl) rfl ?_ | refine U0 _ (U5 rfl rfl) rfl ?_) | (refine M1 ?_; first | refine J0 ?_ | refine J1 ?_ | refine J2 mixed rfl (by kernel_rfl) ?_ | refine J3 mixed rfl rfl (by kernel_rfl) ?_ | refine J4 ?_ | refine J5 ?_ | refine J6 ?_ | refine J7 ?_ | refine J8 rfl ?_ | refine J9 rfl ?_) | (refine M2 ?_; first | refine I0 ?_ | refine I1 ?_ | refine I2 ?_ | refine I3 ?_ | refine I4 ?_ | refine I5 ?_ | refine I6 rfl ?_ | refine I7 ?_ | refine I8 ?_ | refine z4 ?_) | (refine M3 ?_; first | refine O6 ?_ | refine z2 tok rfl ?_ | refine O8 rfl ?_ | refine O7 rfl ?_ rfl | refine O9 rfl ?_ rfl | refine U1 _ (U4 rfl rfl) rfl ?_ | refine U1 _ (U5 rfl rfl) rfl ?_ | refine U1 _ (U2 rfl) rfl ?_ | refine U1 _ (U3 tok rfl rfl rfl rfl rfl) rfl ?_) | (refine M4 ?_; first | refine M6 ?_ | refine U6 rfl (by kernel_rfl) ?_ | refine U7 (by kernel_rfl) ?_) | (refine M5 ?_; first | exact M7 | refine U8 rfl ?_ | refine U9 rfl rfl ?_ ?_))
  refine XC.cond _ rfl (fun h1 => ?_) (fun h1 => ?_)
  · have hkn : k < ts.length := by simpa using h1
    obtain ⟨ad, rfl, hlt, _⟩ := ht.rd.at_ (by simp only; omega)
    have hcell := (ht.below hBW).tick hkn
    have hbW := hb.below hBW
    have hsk := staAt_ok ho hs k h0
    repeat (first | (refine M0 ?_; first | refine O0 ?_ | refine z1 tok rfl ?_ | refine O1 rfl ?_ rfl | refine O2 rfl ?_ | refine O3 rfl ?_ rfl | refine U0 _ (Ev.load_old_agg tok (tickC (tk ts k)) rfl rfl rfl (add_lt hlt) hcell) rfl ?_ | refine O4 rfl rfl rfl (fun _ _ => ?_) | refine O5 tok rfl rfl rfl (fun _ _ => ?_) | refine U0 _ (U2 rfl) rfl ?_ | refine U0 _ (U3 tok rfl rfl rfl rfl rfl) rfl ?_ | refine z3 tok rfl ?_ | refine U0 _ (U4 rfl rfl) rfl ?_ | refine U0 _ (U5 rfl rfl) rfl ?_) | (refine M1 ?_; first | refine J0 ?_ | refine J1 ?_ | refine J2 mixed rfl (by kernel_rfl) ?_ | refine J3 mixed rfl rfl (by kernel_rfl) ?_ | refine J4 ?_ | refine J5 ?_ | refine J6 ?_ | refine J7 ?_ | refine J8 rfl ?_ | refine J9 rfl ?_) | (refine M2 ?_; first | refine I0 ?_ | refine I1 ?_ | refine I2 ?_ | refine I3 ?_ | refine I4 ?_ | refine I5 ?_ | refine I6 rfl ?_ | refine I7 ?_ | refine I8 ?_ | refine z4 ?_) | (refine M3 ?_; first | refine O6 ?_ | refine z2 tok rfl ?_ | refine O8 rfl ?_ | refine O7 rfl ?_ rfl | refine O9 rfl ?_ rfl | refine U1 _ (Ev.load_old_agg tok (tickC (tk ts k)) rfl rfl rfl (add_lt hlt) hcell) rfl ?_ | refine U1 _ (U4 rfl rfl) rfl ?_ | refine U1 _ (U5 rfl rfl) rfl ?_ | refine U1 _ (U2 rfl) rfl ?_ | refine U1 _ (U3 tok rfl rfl rfl rfl rfl) rfl ?_) | (refine M4 ?_; first | refine M6 ?_ | refine U6 rfl (by kernel_rfl) ?_ | refine U7 (by kernel_rfl) ?_) | (refine M5 ?_; first | exact M7 | refine U8 rfl ?_ | refine U9 rfl rfl ?_ ?_))
    rename_i gt hgt
    have hk1 : ∀ j, j ∈ (gt :: K8 l D gl gs gb g8 g7 g6) → j ∈ K8 l D gl gs gb g8 g7 g6 ∨ W.heap.size ≤ j := fun j hj => by
      rcases List.mem_cons.1 hj with rfl | hj
      · exact .inr hgt
      · exact .inl hj
    refine XL.call (fst := []) (cap := []) (ck rfl) rfl rfl rfl (List.Sublist.refl _) (fun w1 v w2 => StepR b (staAt b s ts k) (tk ts k) w1 v w2)
      (fun w1 S1 => (step_any (p := p) (q := qk) (hbW.sys S1) (hqk.sys S1 ?_) ho hsk).mono fun e w' ⟨v, h, h4⟩ => ⟨v, h, h4, h4.choose_spec.choose_spec.2.2.2⟩) (fun w1 v2 w2 S1 hR hB S2 => ?_)
    · exact fun j hj => ⟨hj.2.1, fun e' he' e2 => by
        rcases hk1 e'.1 (List.mem_map.2 ⟨e', he', rfl⟩) with h | h
        · exact hj.2.2.1 (e2 ▸ h)
        · have := hj.2.1; omega⟩
    obtain ⟨q2, rf, rfl, hq2, hrf, _⟩ := hR
    simp only [staV, staC, floV, floC]
    repeat (first | (refine M0 ?_; first | refine O0 ?_ | refine z1 tok rfl ?_ | refine O1 rfl ?_ rfl | refine O2 rfl ?_ | refine O3 rfl ?_ rfl | refine O4 rfl rfl rfl (fun _ _ => ?_) | refine O5 tok rfl rfl rfl (fun _ _ => ?_) | refine U0 _ (U2 rfl) rfl ?_ | refine U0 _ (U3 tok rfl rfl rfl rfl rfl) rfl ?_ | refine z3 tok rfl ?_ | refine U0 _ (U4 rfl rfl) rfl ?_ | refine U0 _ (U5 rfl rfl) rfl ?_) | (refine M1 ?_; first | refine J0 ?_ | refine J1 ?_ | refine J2 mixed rfl (by kernel_rfl) ?_ | refine J3 mixed rfl rfl (by kernel_rfl) ?_ | refine J4 ?_ | refine J5 ?_ | refine J6 ?_ | refine J7 ?_ | refine J8 rfl ?_ | refine J9 rfl ?_) | (refine M2 ?_; first | refine I0 ?_ | refine I1 ?_ | refine I2 ?_ | refine I3 ?_ | refine I4 ?_ | refine I5 ?_ | refine I6 rfl ?_ | refine I7 ?_ | refine I8 ?_ | refine z4 ?_) | (refine M3 ?_; first | refine O6 ?_ | refine z2 tok rfl ?_ | refine O8 rfl ?_ | refine O7 rfl ?_ rfl | refine O9 rfl ?_ rfl | refine U1 _ (U4 rfl rfl) rfl ?_ | refine U1 _ (U5 rfl rfl) rfl ?_ | refine U1 _ (U2 rfl) rfl ?_ | refine U1 _ (U3 tok rfl rfl rfl rfl rfl) rfl ?_) | (refine M4 ?_; first | refine M6 ?_ | refine U6 rfl (by kernel_rfl) ?_ | refine U7 (by kernel_rfl) ?_) | (refine M5 ?_; first | exact M7 | refine U8 rfl ?_ | refine U9 rfl rfl ?_ ?_))
    rename_i gc hgc ga hga
    have hBB : Below B w w2 := hBW.trans S2.toBelow
    refine XC.cond _ rfl (fun h2 => ?_) (fun h2 => ?_)
    · repeat (first | (refine M0 ?_; first | refine O0 ?_ | refine z1 tok rfl ?_ | refine O1 rfl ?_ rfl | refine O2 rfl ?_ | refine O3 rfl ?_ rfl | refine U0 _ (Ev.makeI fail_con rfl) rfl ?_ | refine O4 rfl rfl rfl (fun _ _ => ?_) | refine O5 tok rfl rfl rfl (fun _ _ => ?_) | refine U0 _ (U2 rfl) rfl ?_ | refine U0 _ (U3 tok rfl rfl rfl rfl rfl) rfl ?_ | refine z3 tok rfl ?_ | refine U0 _ (U4 rfl rfl) rfl ?_ | refine U0 _ (U5 rfl rfl) rfl ?_) | (refine XI.id ?_; first | refine XI.done ?_ | refine XI.one1 rfl ?_) | (refine XR'.id ?_; first | refine XR'.seq ?_ | refine XR'.region ?_ | refine XR'.block ?_ | refine XR'.skip ?_ | refine XR'.ret ?_ | refine XR'.cond_t rfl ?_ | refine XR'.cond_f rfl ?_) | (refine M1 ?_; first | refine XC.regionI (id := 5) 1 ?_ | refine J0 ?_ | refine J1 ?_ | refine J2 mixed rfl (by kernel_rfl) ?_ | refine J3 mixed rfl rfl (by kernel_rfl) ?_ | refine J4 ?_ | refine J5 ?_ | refine J6 ?_ | refine J7 ?_ | refine J8 rfl ?_ | refine J9 rfl ?_) | (refine M2 ?_; first | refine XE.nextI ?_ | refine XE.nextR ?_ | refine I1 ?_ | refine I2 ?_ | refine I3 ?_ | refine I4 ?_ | refine I5 ?_ | refine I6 rfl ?_ | refine I7 ?_ | refine I8 ?_ | refine z4 ?_ | refine I0 ?_))
      refine XI.rebase (L' := L8 l D gl gs gb g8 g7 g6 r1 (cel 41 [.slice (some ad) ts.length cc]) (cel 28 (staC qk (staAt b s ts k))) (cel 25 (basC p b)) v e x) ?_ (fun w3 S3 => ?_)
      · simp only [staC, basC]
        repeat (first | exact List.Sublist.refl _ | refine List.Sublist.cons _ ?_)
      rename_i gf hgf
      have hgfK : gf ∉ K8 l D gl gs gb g8 g7 g6 := fun h => by
        have := S1.keyLt gf (List.mem_cons_of_mem gt h)
        have := hB.size
        omega
      have hgfo := (S3.own _ List.mem_cons_self).2
      refine XI.yield (vs := [.agg ⟨zmC⟩, .iface 143 (.pointer (some ⟨gf, 0, none⟩))]) rfl rfl rfl (fun _ v5 w5 => v5 = .bool false ∧ Sys B w3 (L8 l D gl gs gb g8 g7 g6 r2 (cel 41 [.slice (some ad) ts.length cc]) (cel 28 (staC qk (staAt b s ts k))) (cel 25 (basC p b)) v (.iface 143 (.pointer (some ⟨gf, 0, none⟩))) (.slice none 0 0)) w5)
        (fun w4 S4 => ?_) (fun w4 v5 w5 S4 ⟨e5, S5⟩ => ⟨_, _, S5, ?_⟩)
      · rw [← hr1] at S4
        obtain ⟨a1, a2⟩ := round_err (n := 0) (gf := gf) hc hr hf S4
        rw [hr2] at a2
        exact ⟨_, _, _, _, a1, a2⟩
      subst e5
      repeat (first | (refine M0 ?_; first | refine O0 ?_ | refine z1 tok rfl ?_ | refine O1 rfl ?_ rfl | refine O2 rfl ?_ | refine O3 rfl ?_ rfl | refine O4 rfl rfl rfl (fun _ _ => ?_) | refine O5 tok rfl rfl rfl (fun _ _ => ?_) | refine U0 _ (U2 rfl) rfl ?_ | refine U0 _ (U3 tok rfl rfl rfl rfl rfl) rfl ?_ | refine z3 tok rfl ?_ | refine U0 _ (U4 rfl rfl) rfl ?_ | refine U0 _ (U5 rfl rfl) rfl ?_) | (refine XI.id ?_; first | refine XI.done ?_ | refine XI.one1 rfl ?_) | (refine XR'.id ?_; first | refine XR'.seq ?_ | refine XR'.region ?_ | refine XR'.block ?_ | refine XR'.skip ?_ | refine XR'.ret ?_ | refine XR'.cond_t rfl ?_ | refine XR'.cond_f rfl ?_) | (refine M1 ?_; first | refine J0 ?_ | refine J1 ?_ | refine J2 mixed rfl (by kernel_rfl) ?_ | refine J3 mixed rfl rfl (by kernel_rfl) ?_ | refine J4 ?_ | refine J5 ?_ | refine J6 ?_ | refine J7 ?_ | refine J8 rfl ?_ | refine J9 rfl ?_) | (refine M2 ?_; first | refine XE.nextI ?_ | refine XE.nextR ?_ | refine I1 ?_ | refine I2 ?_ | refine I3 ?_ | refine I4 ?_ | refine I5 ?_ | refine I6 rfl ?_ | refine I7 ?_ | refine I8 ?_ | refine z4 ?_ | refine I0 ?_))
      refine XE.ret0 Tryd.results129 (fun w' S => ?_)
      exact ⟨_, rfl, .inr ⟨k, badAt_some hkn h0 (of_decide_eq_true h2), w3, v, _, gf, S, hBB.trans S3.toBelow, (S3.own _ List.mem_cons_self).1, hgfK, hgfo⟩⟩
    · repeat (first | (refine M0 ?_; first | refine O0 ?_ | refine z1 tok rfl ?_ | refine O1 rfl ?_ rfl | refine O2 rfl ?_ | refine O3 rfl ?_ rfl | refine O4 rfl rfl rfl (fun _ _ => ?_) | refine O5 tok rfl rfl rfl (fun _ _ => ?_) | refine U0 _ (U2 rfl) rfl ?_ | refine U0 _ (U3 tok rfl rfl rfl rfl rfl) rfl ?_ | refine z3 tok rfl ?_ | refine U0 _ (U4 rfl rfl) rfl ?_ | refine U0 _ (U5 rfl rfl) rfl ?_) | (refine XI.id ?_; first | refine XI.done ?_ | refine XI.one1 rfl ?_) | (refine XR'.id ?_; first | refine XR'.seq ?_ | refine XR'.region ?_ | refine XR'.block ?_ | refine XR'.skip ?_ | refine XR'.ret ?_ | refine XR'.cond_t rfl ?_ | refine XR'.cond_f rfl ?_) | (refine M1 ?_; first | refine XC.regionI (id := 7) 1 ?_ | refine J0 ?_ | refine J1 ?_ | refine J2 mixed rfl (by kernel_rfl) ?_ | refine J3 mixed rfl rfl (by kernel_rfl) ?_ | refine J4 ?_ | refine J5 ?_ | refine J6 ?_ | refine J7 ?_ | refine J8 rfl ?_ | refine J9 rfl ?_) | (refine M2 ?_; first | refine XE.nextI ?_ | refine XE.nextR ?_ | refine I1 ?_ | refine I2 ?_ | refine I3 ?_ | refine I4 ?_ | refine I5 ?_ | refine I6 rfl ?_ | refine I7 ?_ | refine I8 ?_ | refine z4 ?_ | refine I0 ?_))
      refine XI.rebase (L' := L8 l D gl gs gb g8 g7 g6 r1 (cel 41 [.slice (some ad) ts.length cc]) (cel 28 (staC q2 (outS b (staAt b s ts k) (tk ts k)))) (cel 25 (basC p b)) v e x) ?_ (fun w3 S3 => ?_)
      · simp only [staC, basC]
        repeat (first | exact List.Sublist.refl _ | refine List.Sublist.cons _ ?_)
      have hk3 : ∀ j, j ∈ (ga :: gc :: gt :: K8 l D gl gs gb g8 g7 g6) → j ∈ K8 l D gl gs gb g8 g7 g6 ∨ W.heap.size ≤ j := fun j hj => by
        have := S1.size
        have := hB.size
        rcases List.mem_cons.1 hj with rfl | hj
        · exact .inr (by omega)
        rcases List.mem_cons.1 hj with rfl | hj
        · exact .inr (by omega)
        exact hk1 j hj
      have hE : errAt b s ts k = 0 := show stepE b (staAt b s ts k) (tk ts k) = 0 by simpa using h2
      have hG : Grew (K8 l D gl gs gb g8 g7 g6) none W w3 := grew3 S1 hB S3 hk1 hk3
      have hm3 := hm.move hG
      have hmade : ∀ j, Btw w1.heap.size w2.heap.size j → Own B (K8 l D gl gs gb g8 g7 g6) v.ownBlock w3 j ∧ w3.heap[j]? = w2.heap[j]? := fun j hj => by
        have a1 := S1.size
        have a3 := S3.size
        refine ⟨⟨Nat.le_trans hBsz (Nat.le_trans a1 hj.1), Nat.lt_of_lt_of_le hj.2 a3, fun h => ?_, fun h => ?_⟩, S3.old j hj.2 fun e' he' e2 => ?_⟩
        · have := S1.keyLt j (List.mem_cons_of_mem gt h)
          have := hj.1
          omega
        · have := (hm.lt j h).2
          have := hj.1
          omega
        · have hj3 : j ∈ (ga :: gc :: gt :: K8 l D gl gs gb g8 g7 g6) := List.mem_map.2 ⟨e', he', e2⟩
          have := hj.1
          have := hj.2
          rcases List.mem_cons.1 hj3 with rfl | hj3
          · omega
          rcases List.mem_cons.1 hj3 with rfl | hj3
          · omega
          have := S1.keyLt j hj3
          omega
      have hq3 : IntsAt w3 (Own B (K8 l D gl gs gb g8 g7 g6) v.ownBlock w3) q2 (outS b (staAt b s ts k) (tk ts k)).fil := (hq2.keep fun j hj => (hmade j hj).2).mono fun j hj => (hmade j hj).1
      have hf3 : IntsAt w3 (Own B (K8 l D gl gs gb g8 g7 g6) v.ownBlock w3) rf (outF b (staAt b s ts k) (tk ts k)).taken := (hrf.keep fun j hj => (hmade j hj).2).mono fun j hj => (hmade j hj).1
      have hml : ms.length = k := by
        have := congrArg List.length hmp
        simpa [momsAt] using this
      have hB3 : B ≤ w3.heap.size := Nat.le_trans hBsz hG.size
      obtain ⟨m, hmd⟩ : ∃ m : Mom, m = ⟨outS b (staAt b s ts k) (tk ts k), outF b (staAt b s ts k) (tk ts k), q2, rf⟩ := ⟨_, rfl⟩
      refine XI.yield (vs := [.agg ⟨m.c⟩, .nilIface]) rfl (by subst hmd; rfl) rfl (fun _ v5 w5 => v5 = .bool true ∧ ∃ v' W', Sys B W' (L8 l D gl gs gb g8 g7 g6 r1 (cel 41 [.slice (some ad) ts.length cc]) (cel 28 (staC q2 (outS b (staAt b s ts k) (tk ts k)))) (cel 25 (basC p b)) v' e x) w5 ∧
          W'.ownsRow B 103 7 v' (ms.length + 1) (ms.flatMap Mom.c ++ m.c) ∧ (∀ k, v'.ownBlock = some k → v.ownBlock = some k ∨ w3.heap.size ≤ k ∧ k ∉ K8 l D gl gs gb g8 g7 g6) ∧ Grew (K8 l D gl gs gb g8 g7 g6) v.ownBlock w3 W' ∧ Below B w3 W')
        (fun w4 S4 => ?_) (fun w4 v5 w5 S4 ⟨e5, v', W', S5, hrow, hv', hG', hBel⟩ => ⟨_, _, S5, ?_⟩)
      · rw [← hr1] at S4 ⊢
        obtain ⟨a1, a2⟩ := round_ok (n := 0) (m := m) hc hr hf S4 hm3 hB3 (Nat.le_refl _) (by omega)
        exact ⟨_, _, _, _, a1, a2⟩
      subst e5
      repeat (first | (refine M0 ?_; first | refine O0 ?_ | refine z1 tok rfl ?_ | refine O1 rfl ?_ rfl | refine O2 rfl ?_ | refine O3 rfl ?_ rfl | refine O4 rfl rfl rfl (fun _ _ => ?_) | refine O5 tok rfl rfl rfl (fun _ _ => ?_) | refine U0 _ (U2 rfl) rfl ?_ | refine U0 _ (U3 tok rfl rfl rfl rfl rfl) rfl ?_ | refine z3 tok rfl ?_ | refine U0 _ (U4 rfl rfl) rfl ?_ | refine U0 _ (U5 rfl rfl) rfl ?_) | (refine XI.id ?_; first | refine XI.done ?_ | refine XI.one1 rfl ?_) | (refine XR'.id ?_; first | refine XR'.seq ?_ | refine XR'.region ?_ | refine XR'.block ?_ | refine XR'.skip ?_ | refine XR'.ret ?_ | refine XR'.cond_t rfl ?_ | refine XR'.cond_f rfl ?_) | (refine M1 ?_; first | refine J0 ?_ | refine J1 ?_ | refine J2 mixed rfl (by kernel_rfl) ?_ | refine J3 mixed rfl rfl (by kernel_rfl) ?_ | refine J4 ?_ | refine J5 ?_ | refine J6 ?_ | refine J7 ?_ | refine J8 rfl ?_ | refine J9 rfl ?_) | (refine M2 ?_; first | refine XE.nextI ?_ | refine XE.nextR ?_ | refine I1 ?_ | refine I2 ?_ | refine I3 ?_ | refine I4 ?_ | refine I5 ?_ | refine I6 rfl ?_ | refine I7 ?_ | refine I8 ?_ | refine z4 ?_ | refine I0 ?_))
      refine XE.roundW (s := (k, W, v, ms, qk)) (fun w6 S6 => ⟨(k + 1, W', v', ms ++ [m], q2), ⟨hkn, fun j hj => ?_, hBB.trans (S3.toBelow.trans hBel), Nat.le_trans hB3 hG'.size, ?_, ?_, ?_⟩, ?_, (by repeat (first | exact Sub.nil | refine Sub.cons rfl ?_)), S6⟩)
      · rcases Nat.lt_or_ge j k with h | h
        · exact h0 j h
        · have : j = k := by omega
          rw [this]; exact hE
      · subst hmd
        exact hm3.more hB3 hrow hv' hG' hq3 hf3
      · subst hmd
        rw [List.map_append, hmp, momsAt_succ]
        rfl
      · refine (hq3.keep (Own.move hG')).mono fun j hj => ⟨Nat.zero_le _, Nat.lt_of_lt_of_le hj.2.1 hG'.size, hj.2.2.1, fun h => ?_⟩
        rcases hv' j h with h3 | h3
        · exact hj.2.2.2 h3
        · have := hj.2.1; omega
      · simp only
        omega
  · repeat (first | (refine M0 ?_; first | refine O0 ?_ | refine z1 tok rfl ?_ | refine O1 rfl ?_ rfl | refine O2 rfl ?_ | refine O3 rfl ?_ rfl | refine O4 rfl rfl rfl (fun _ _ => ?_) | refine O5 tok rfl rfl rfl (fun _ _ => ?_) | refine U0 _ (U2 rfl) rfl ?_ | refine U0 _ (U3 tok rfl rfl rfl rfl rfl) rfl ?_ | refine z3 tok rfl ?_ | refine U0 _ (U4 rfl rfl) rfl ?_ | refine U0 _ (U5 rfl rfl) rfl ?_) | (refine M1 ?_; first | refine J0 ?_ | refine J1 ?_ | refine J2 mixed rfl (by kernel_rfl) ?_ | refine J3 mixed rfl rfl (by kernel_rfl) ?_ | refine J4 ?_ | refine J5 ?_ | refine J6 ?_ | refine J7 ?_ | refine J8 rfl ?_ | refine J9 rfl ?_) | (refine M2 ?_; first | refine I0 ?_ | refine I1 ?_ | refine I2 ?_ | refine I3 ?_ | refine I4 ?_ | refine I5 ?_ | refine I6 rfl ?_ | refine I7 ?_ | refine I8 ?_ | refine z4 ?_) | (refine M3 ?_; first | refine O6 ?_ | refine z2 tok rfl ?_ | refine O8 rfl ?_ | refine O7 rfl ?_ rfl | refine O9 rfl ?_ rfl | refine U1 _ (U4 rfl rfl) rfl ?_ | refine U1 _ (U5 rfl rfl) rfl ?_ | refine U1 _ (U2 rfl) rfl ?_ | refine U1 _ (U3 tok rfl rfl rfl rfl rfl) rfl ?_) | (refine M4 ?_; first | refine M6 ?_ | refine U6 rfl (by kernel_rfl) ?_ | refine U7 (by kernel_rfl) ?_) | (refine M5 ?_; first | exact M7 | refine U8 rfl ?_ | refine U9 rfl rfl ?_ ?_))
    have hkn : k = ts.length := by have : ¬ (k < ts.length) := by simpa using h1
                                   omega
    subst hkn
    refine XE.end0 Tryd.results129 (fun w' S => ?_)
    refine ⟨_, rfl, .inl ⟨badAt_none h0, W, v, ms, _, S, hBW, hm, hmp⟩⟩
end Go.Proofs.YtoiepgcjinccpaaDoor.X
/-
  The walk of all.
-/
namespace Go.Proofs.YtoiepgcjinccpaaDoor.X
open Go Go.RowKit Go.Proofs.YtoiepgcjinccpaaDoor.Bs
set_option linter.unusedVariables false
theorem Sys.join {B : Nat} {w0 w w' : World} {L L2 L3 : Lo} (S : Sys B w0 L w) (S' : Sys w.heap.size w L2 w') (hs : List.Sublist L3 L) : Sys B w (L2 ++ L3) w' := by
  have hlt : ∀ e, e ∈ L3 → e.1 < w.heap.size := fun e he => S.lt (hs.subset he)
  refine ⟨S'.os, S'.tape, S'.output, S'.size, Nat.le_trans S.base S.size, fun k hk hn => S'.old k hk fun e he => hn e (List.mem_append_left _ he), fun e he => ?_, ?_⟩
  · rcases List.mem_append.1 he with h | h
    · exact ⟨Nat.le_trans (Nat.le_trans S.base S.size) (S'.own e h).1, (S'.own e h).2⟩
    · refine ⟨(S.own e (hs.subset h)).1, ?_⟩
      rw [S'.old e.1 (hlt e h) fun e' he' e1 => by have := (S'.own e' he').1; have := hlt e h; omega]
      exact (S.own e (hs.subset h)).2
  · rw [List.map_append]
    refine List.nodup_append.2 ⟨S'.nd, S.nd.sublist (hs.map _), fun x hx y hy e => ?_⟩
    obtain ⟨e1, he1, rfl⟩ := List.mem_map.1 hx
    obtain ⟨e2, he2, rfl⟩ := List.mem_map.1 hy
    have := (S'.own e1 he1).1
    have := hlt e2 he2
    omega
/-- a list of moments in memory. -/
structure MomRow (w : World) (ok : Nat → Prop) (r : SV) (ms : List Mom) : Prop where
  rd : ReadsP w ok 7 r.A r.n (ms.flatMap Mom.c)
  max : r.n ≤ 1000
  ins : ∀ m, m ∈ ms → IntsAt w ok m.q m.s.fil ∧ IntsAt w ok m.r m.f.taken
/-- what all answers. -/
def AllR (b : Bas) (s : Sta) (ts : List Tick) (w : World) (v : Value) (w' : World) : Prop :=
  ((badAt b s ts = none ∧ ∃ r ms, v = .tuple ⟨[svV r, .nilIface]⟩ ∧ MomRow w' (Btw w.heap.size w'.heap.size) r ms ∧ ms.map Mom.p = momsAt b s ts ts.length) ∨
   (∃ k gf, badAt b s ts = some k ∧ v = .tuple ⟨[.slice none 0 0, .iface 143 (.pointer (some ⟨gf, 0, none⟩))]⟩ ∧ w.heap.size ≤ gf ∧ w'.heap[gf]? = some (cel 147 [.int .i64 (k : Nat), .int .i64 (errAt b s ts k)]))) ∧ Below w.heap.size w w'
set_option maxHeartbeats 8000000 in
set_option maxRecDepth 10000 in
theorem all_any {p : BV} {b : Bas} {q r : SV} {s : Sta} {ts : List Tick} {w : World} (hb : BasAt w w.heap.size p b) (hq : IntsAt w (Lt w.heap.size) q s.fil) (ht : TksAt w (Lt w.heap.size) r ts) (ho : Ok b) (hs : StaOk b s) (hn : ts.length ≤ 300) :
    Calls Tryd.prog 91 #[basV p b, staV q s, svV r] w fun e w' => ∃ v, e = .returned v ∧ AllR b s ts w v w' := by
  simp only [basV, basC, staV, staC, svV]
  refine enterM Tryd.func91 rfl Tryd.ntmps91 rfl ?_; simp only [frame, Nat.zero_add, Nat.reduceAdd]
  repeat (first | (refine M0 ?_; first | refine O0 ?_ | refine z1 tok rfl ?_ | refine O1 rfl ?_ rfl | refine O2 rfl ?_ | refine O3 rfl ?_ rfl | refine O4 rfl rfl rfl (fun _ _ => ?_) | refine O5 tok rfl rfl rfl (fun _ _ => ?_) | refine U0 _ (U2 rfl) rfl ?_ | refine U0 _ (U3 tok rfl rfl rfl rfl rfl) rfl ?_ | refine z3 tok rfl ?_ | refine U0 _ (U4 rfl rfl) rfl ?_ | refine U0 _ (U5 rfl rfl) rfl ?_) | (refine M1 ?_; first | refine J0 ?_ | refine J1 ?_ | refine J2 mixed rfl (by kernel_rfl) ?_ | refine J3 mixed rfl rfl (by kernel_rfl) ?_ | refine J4 ?_ | refine J5 ?_ | refine J6 ?_ | refine J7 ?_ | refine J8 rfl ?_ | refine J9 rfl ?_) | (refine M2 ?_; first | refine I0 ?_ | refine I1 ?_ | refine I2 ?_ | refine I3 ?_ | refine I4 ?_ | refine I5 ?_ | refine I6 rfl ?_ | refine I7 ?_ | refine I8 ?_ | refine z4 ?_) | (refine M3 ?_; first | refine O6 ?_ | refine z2 tok rfl ?_ | refine O8 rfl ?_ | refine O7 rfl ?_ rfl | refine O9 rfl ?_ rfl | refine U1 _ (U4 rfl rfl) rfl ?_ | refine U1 _ (U5 rfl rfl) rfl ?_ | refine U1 _ (U2 rfl) rfl ?_ | refine U1 _ (U3 tok rfl rfl rfl rfl rfl) rfl ?_) | (refine M4 ?_; first | refine M6 ?_ | refine U6 rfl (by kernel_rfl) ?_ | refine U7 (by kernel_rfl) ?_) | (refine M5 ?_; first | exact M7 | refine U8 rfl ?_ | refine U9 rfl rfl ?_ ?_))
  rename_i g3 hg3 g4 hg4 g6 hg6 g7 hg7 g8 hg8
  refine XL.callr (fst := []) (cap := []) (fun w1 v w2 => ∃ gb gs gl, v = .func (.func 129) #[] #[.pointer (some ⟨gl, 0, none⟩), .pointer (some ⟨gb, 0, none⟩), .pointer (some ⟨gs, 0, none⟩)] ∧
      Sys w1.heap.size w1 [(gl, cel 41 [svV r]), (gs, cel 28 (staC q s)), (gb, cel 25 (basC p b))] w2) (ck rfl) rfl rfl rfl
    (fun w1 S1 => moments_any (p := p) (b := b) (q := q) (r := r) (s := s) (x := .nilIface) (y := .nilIface) (z := .nilIface)) (fun w1 v w2 S1 hR => ?_)
  obtain ⟨gb, gs, gl, rfl, S2⟩ := hR
  refine ⟨[(gl, cel 41 [svV r]), (gs, cel 28 (staC q s)), (gb, cel 25 (basC p b)), (g8, cel 99 [.slice none 0 0]), (g7, cel 140 [.nilIface]), (g6, cel 99 [.slice none 0 0])], w1, ?_, ?_⟩
  · exact S1.join (L3 := [(g8, cel 99 [.slice none 0 0]), (g7, cel 140 [.nilIface]), (g6, cel 99 [.slice none 0 0])]) S2 (by repeat (first | exact List.nil_sublist _ | refine List.Sublist.cons_cons _ ?_))
  refine XL.done (XE.next (XC.hint 6 0 (XC.hint 7 1 (XC.hint 8 2 ?_))))
  refine XC.block ?_
  have hB1 := S1.toBelow
  refine XC.rangeFunc (cap := [.pointer (some ⟨gl, 0, none⟩), .pointer (some ⟨gb, 0, none⟩), .pointer (some ⟨gs, 0, none⟩)]) rfl (ck rfl) (fun fn a D w3 hD hf S3 => ?_)
  have hB3 : Below w.heap.size w w3 := hB1.trans S3.toBelow
  have hf3 : Fits 25 [] [(6, .pointer (some ⟨g6, 0, none⟩)), (7, .pointer (some ⟨g7, 0, none⟩)), (8, .pointer (some ⟨g8, 0, none⟩))] a := Sub.fits (by repeat (first | exact Sub.nil | refine Sub.cons rfl ?_)) hf
  refine (iter_any (p := p) (b := b) (q := q) (r := r) (s := s) (ts := ts) (c := _) rfl rfl hf3 (S3.rebase (List.Sublist.refl _)) (hb.below hB3) (hq.below hB3) (ht.below hB3) ho hs hn).mono fun e w4 ⟨u, hu, hI⟩ => ⟨u, hu, ?_⟩
  rcases hI with ⟨hbad, W, v, ms, os, S4, hBW, hm, hmp⟩ | ⟨k, hbad, W, v, os, gf, S4, hBW, hgB, hgK, hgf⟩
  · refine .inl ⟨_, W, S4, ?_⟩
    obtain ⟨rv, rfl, hrn⟩ := owns_sv hm.row
    simp only [svV]
    repeat (first | (refine M0 ?_; first | refine O0 ?_ | refine z1 tok rfl ?_ | refine O1 rfl ?_ rfl | refine O2 rfl ?_ | refine O3 rfl ?_ rfl | refine O4 rfl rfl rfl (fun _ _ => ?_) | refine O5 tok rfl rfl rfl (fun _ _ => ?_) | refine U0 _ (U2 rfl) rfl ?_ | refine U0 _ (U3 tok rfl rfl rfl rfl rfl) rfl ?_ | refine z3 tok rfl ?_ | refine U0 _ (U4 rfl rfl) rfl ?_ | refine U0 _ (U5 rfl rfl) rfl ?_) | (refine M1 ?_; first | refine J0 ?_ | refine J1 ?_ | refine J2 mixed rfl (by kernel_rfl) ?_ | refine J3 mixed rfl rfl (by kernel_rfl) ?_ | refine J4 ?_ | refine J5 ?_ | refine J6 ?_ | refine J7 ?_ | refine J8 rfl ?_ | refine J9 rfl ?_) | (refine M2 ?_; first | refine I0 ?_ | refine I1 ?_ | refine I2 ?_ | refine I3 ?_ | refine I4 ?_ | refine I5 ?_ | refine I6 rfl ?_ | refine I7 ?_ | refine I8 ?_ | refine z4 ?_) | (refine M3 ?_; first | refine O6 ?_ | refine z2 tok rfl ?_ | refine O8 rfl ?_ | refine O7 rfl ?_ rfl | refine O9 rfl ?_ rfl | refine U1 _ (U4 rfl rfl) rfl ?_ | refine U1 _ (U5 rfl rfl) rfl ?_ | refine U1 _ (U2 rfl) rfl ?_ | refine U1 _ (U3 tok rfl rfl rfl rfl rfl) rfl ?_) | (refine M4 ?_; first | refine M6 ?_ | refine U6 rfl (by kernel_rfl) ?_ | refine U7 (by kernel_rfl) ?_) | (refine M5 ?_; first | exact M7 | refine U8 rfl ?_ | refine U9 rfl rfl ?_ ?_))
    refine XE.retM tok (D := D) (i := 1) Tryd.results91 rfl rfl rfl (by simp only [and_self, and_true]) (fun w' S => ?_)
    have hm' := hm.move (Grew.sys S fun e' he' => .inl (show e'.1 ∈ K8 (D + 1) D gl gs gb g8 g7 g6 from List.mem_map.2 ⟨e', he', rfl⟩))
    obtain ⟨a1, a2, _, _⟩ := ReadsP.own hm'.row
    have hml : ms.length = ts.length := by
      have := congrArg List.length hmp
      simpa [momsAt] using this
    refine ⟨_, rfl, .inl ⟨hbad, rv, ms, rfl, ⟨by rw [a2]; exact a1, by omega, fun m hmm => ?_⟩, hmp⟩, hB3.trans (hBW.trans S.toBelow)⟩
    obtain ⟨i1, i2⟩ := hm'.ins m hmm
    exact ⟨i1.mono fun j hj => ⟨hj.1, hj.2.1⟩, i2.mono fun j hj => ⟨hj.1, hj.2.1⟩⟩
  · refine .inr ⟨_, W, S4, ?_⟩
    repeat (first | (refine M0 ?_; first | refine O0 ?_ | refine z1 tok rfl ?_ | refine O1 rfl ?_ rfl | refine O2 rfl ?_ | refine O3 rfl ?_ rfl | refine O4 rfl rfl rfl (fun _ _ => ?_) | refine O5 tok rfl rfl rfl (fun _ _ => ?_) | refine U0 _ (U2 rfl) rfl ?_ | refine U0 _ (U3 tok rfl rfl rfl rfl rfl) rfl ?_ | refine z3 tok rfl ?_ | refine U0 _ (U4 rfl rfl) rfl ?_ | refine U0 _ (U5 rfl rfl) rfl ?_) | (refine M1 ?_; first | refine J0 ?_ | refine J1 ?_ | refine J2 mixed rfl (by kernel_rfl) ?_ | refine J3 mixed rfl rfl (by kernel_rfl) ?_ | refine J4 ?_ | refine J5 ?_ | refine J6 ?_ | refine J7 ?_ | refine J8 rfl ?_ | refine J9 rfl ?_) | (refine M2 ?_; first | refine I0 ?_ | refine I1 ?_ | refine I2 ?_ | refine I3 ?_ | refine I4 ?_ | refine I5 ?_ | refine I6 rfl ?_ | refine I7 ?_ | refine I8 ?_ | refine z4 ?_) | (refine M3 ?_; first | refine O6 ?_ | refine z2 tok rfl ?_ | refine O8 rfl ?_ | refine O7 rfl ?_ rfl | refine O9 rfl ?_ rfl | refine U1 _ (U4 rfl rfl) rfl ?_ | refine U1 _ (U5 rfl rfl) rfl ?_ | refine U1 _ (U2 rfl) rfl ?_ | refine U1 _ (U3 tok rfl rfl rfl rfl rfl) rfl ?_) | (refine M4 ?_; first | refine M6 ?_ | refine U6 rfl (by kernel_rfl) ?_ | refine U7 (by kernel_rfl) ?_) | (refine M5 ?_; first | exact M7 | refine U8 rfl ?_ | refine U9 rfl rfl ?_ ?_))
    refine XE.retM tok (D := D) (i := 1) Tryd.results91 rfl rfl rfl (by simp only [and_self, and_true]) (fun w' S => ?_)
    refine ⟨_, rfl, .inr ⟨k, gf, hbad, rfl, hgB, ?_⟩, hB3.trans (hBW.trans S.toBelow)⟩
    rw [S.old gf (Array.getElem?_eq_some_iff.1 hgf).1 fun e' he' e2 => hgK (e2 ▸ (show e'.1 ∈ K8 (D + 1) D gl gs gb g8 g7 g6 from List.mem_map.2 ⟨e', he', rfl⟩))]
    exact hgf
end Go.Proofs.YtoiepgcjinccpaaDoor.X
/-
  errors.As at a target of type **basin.failure (the lines of the worked proof ToyasAs, turned to this program): as_nil, as_hit.
-/
namespace Go.Proofs.YtoiepgcjinccpaaDoor.As
open Go Go.RowKit Go.Extern.Stop Go.Stop Go.Extern

/-- errors.As(nil, target). -/
theorem as_nil (t : Value) (w : World) :
    Calls Tryd.prog 92 #[.nilIface, t] w fun e w' => e = .returned (.bool false) ∧ w' = w := by
  go_enter Tryd.func92, Tryd.ntmps92
  go_wp2
  go_ret
  exact ⟨rfl, rfl⟩

/-! ### CLOSED FACTS ON THE MODEL's ENTRIES FOR internal/reflectlite, at this program's types: 25: *p.E · 27: **p.E · 23: error · 45: reflectlite's rtype · 1: how many package-level variables the dump has -/
theorem Fa.valueOf27 (t : Addr) (w : World) : (ReflectliteValue.unpack (.iface 145 (.pointer (some t)))).run Tryd.prog w
    = .ok (.agg #[.pointer (some ⟨1, 145, none⟩), .pointer (some ⟨w.heap.size, 0, none⟩), .int .u64 150]) (w.alloc (.cells #[.pointer (some t)] 145)) := by kernel_rfl
theorem Fa.type27 (a : Addr) (w : World) : (ReflectliteValue.methodAny (ReflectliteValue.valueError "reflectlite.Value.Type" 0) (fun t _ _ _ => ReflectliteType.toType t) #[.agg #[.pointer (some ⟨1, 145, none⟩), .pointer (some a), .int .u64 150]]).run Tryd.prog w
    = .ok (.iface 188 (.agg #[.pointer (some ⟨1, 145, none⟩)])) w := by kernel_rfl
theorem Fa.methodKind (h : Value) (w : World) : (Go.method 329 188 (.agg #[h]) "Kind").run Tryd.prog w = .ok (147, h) w := by kernel_rfl
theorem Fa.kind27 (w : World) : ((ReflectliteType.abiMethod fun t => (fun a : Nat => Value.int IntKind.u8 (a : Int)) <$> Rtype.kind t) #[.pointer (some ⟨1, 145, none⟩)]).run Tryd.prog w = .ok (.int .u8 22) w := by kernel_rfl
theorem Fa.kind25 (w : World) : ((ReflectliteType.abiMethod fun t => (fun a : Nat => Value.int IntKind.u8 (a : Int)) <$> Rtype.kind t) #[.pointer (some ⟨1, 143, none⟩)]).run Tryd.prog w = .ok (.int .u8 22) w := by kernel_rfl

/-! ### THE ENTRIES THAT READ OR WRITE MEMORY: laws with a premise on the cell (after Derived/Lib/ReflectliteSlice.lean's manner: each unfolding a lemma of its own, by rfl) -/
theorem rlm (z : Sem Value) (f : TypeId → Addr → Nat → Nat → Sem Value) (v : Value) :
    ReflectliteValue.method z f #[v] = (do match ← ReflectliteValue.parts v with | none => z | some (t, a, fl) => f t a fl (fl % 32)) := rfl
theorem Fa.parts27 (a : Addr) (w : World) : (ReflectliteValue.parts (.agg #[.pointer (some ⟨1, 145, none⟩), .pointer (some a), .int .u64 150])).run Tryd.prog w = .ok (some (145, a, 150)) w := by kernel_rfl
/-- (Value).IsNil at the Value of a **p.E that is not nil. -/
theorem Fa.isNil27 (a p : Addr) (W : World) (ha : W.cell? a = some (.pointer (some p))) :
    (ReflectliteValue.method (ReflectliteValue.valueError "reflectlite.Value.IsNil" 0) ReflectliteValue.isNil #[.agg #[.pointer (some ⟨1, 145, none⟩), .pointer (some a), .int .u64 150]]).run Tryd.prog W = .ok (.bool false) W := by
  rw [rlm]
  simp only [Sem.run_bind, Fa.parts27, Result.andThen]
  simp [ReflectliteValue.isNil, loadVar, isAgg, underlying, Tryd.underlying145, ha, Result.andThen]

theorem Fa.methodElem (h : Value) (w : World) : (Go.method 329 188 (.agg #[h]) "Elem").run Tryd.prog w = .ok (161, .agg #[h]) w := by kernel_rfl
theorem Fa.methodImplements (h : Value) (w : World) : (Go.method 329 188 (.agg #[h]) "Implements").run Tryd.prog w = .ok (162, .agg #[h]) w := by kernel_rfl
theorem Fa.methodAssignableTo (h : Value) (w : World) : (Go.method 329 188 (.agg #[h]) "AssignableTo").run Tryd.prog w = .ok (159, .agg #[h]) w := by kernel_rfl
theorem Fa.elem27 (w : World) : (ReflectliteType.method ReflectliteType.elem #[.agg #[.pointer (some ⟨1, 145, none⟩)]]).run Tryd.prog w = .ok (.iface 188 (.agg #[.pointer (some ⟨1, 143, none⟩)])) w := by kernel_rfl
theorem Fa.implements25 (w : World) : (ReflectliteType.relation "Implements" ReflectliteType.implements_ #[.agg #[.pointer (some ⟨1, 143, none⟩)], .iface 188 (.agg #[.pointer (some ⟨1, 140, none⟩)])]).run Tryd.prog w = .ok (.bool true) w := by kernel_rfl
theorem Fa.typeOf25 (v : Value) (w : World) : (ReflectliteType.typeOf #[.iface 143 v]).run Tryd.prog w = .ok (.iface 188 (.agg #[.pointer (some ⟨1, 143, none⟩)])) w := by kernel_rfl
theorem Fa.assignable25 (w : World) : (ReflectliteType.relation "AssignableTo" ReflectliteType.assignableTo #[.agg #[.pointer (some ⟨1, 143, none⟩)], .iface 188 (.agg #[.pointer (some ⟨1, 143, none⟩)])]).run Tryd.prog w = .ok (.bool true) w := by kernel_rfl
theorem Fa.valueOf25 (e : Addr) (w : World) : (ReflectliteValue.unpack (.iface 143 (.pointer (some e)))).run Tryd.prog w
    = .ok (.agg #[.pointer (some ⟨1, 143, none⟩), .pointer (some ⟨w.heap.size, 0, none⟩), .int .u64 150]) (w.alloc (.cells #[.pointer (some e)] 143)) := by kernel_rfl

theorem Fa.elemOf27 (w : World) : (Rtype.elem? 145).run Tryd.prog w = .ok (some 143) w := by kernel_rfl
theorem Fa.mk25 (p : Addr) (w : World) : (ReflectliteValue.mk 143 p ReflectliteValue.flagAddr).run Tryd.prog w = .ok (.agg #[.pointer (some ⟨1, 143, none⟩), .pointer (some p), .int .u64 406]) w := by kernel_rfl
/-- (Value).Elem at the Value of a **p.E that is not nil: the Value of the *p.E variable that it points to, addressable. -/
theorem Fa.elemV27 (a p : Addr) (W : World) (ha : W.cell? a = some (.pointer (some p))) :
    (ReflectliteValue.method (ReflectliteValue.valueError "reflectlite.Value.Elem" 0) ReflectliteValue.elem #[.agg #[.pointer (some ⟨1, 145, none⟩), .pointer (some a), .int .u64 150]]).run Tryd.prog W
      = .ok (.agg #[.pointer (some ⟨1, 143, none⟩), .pointer (some p), .int .u64 406]) W := by
  rw [rlm]
  simp only [Sem.run_bind, Fa.parts27, Result.andThen]
  simp [ReflectliteValue.elem, loadVar, isAgg, underlying, Tryd.underlying145, ha, Result.andThen, Fa.elemOf27, Fa.mk25]
theorem rls (v x : Value) : ReflectliteValue.set #[v, x] = (do
    let (some (dst, a, fl), some (src, b, _)) := (← ReflectliteValue.parts v, ← ReflectliteValue.parts x)
      | unsupported (.noEntry "extern/(internal/reflectlite.Value).Set.zeroValue")
    if fl / ReflectliteValue.flagAddr % 2 == 0 then unsupported (.noEntry "extern/(internal/reflectlite.Value).Set.unaddressable")
    let val ← loadVar src b
    if ← Rtype.directlyAssignable dst src then storeVar dst a val
    else if ← Rtype.implements dst src then
      if (← Rtype.kind src) == 20 then
        match val with
        | .nilIface => unsupported (.noEntry "extern/reflectlite: a nil value of one interface type handed on as a value of another")
        | _ => storeVar dst a val
      else storeVar dst a (.iface src val)
    else panicString ("reflectlite.Set: value of type " ++ (← Rtype.spelt src) ++ " is not assignable to type " ++ (← Rtype.spelt dst))
    pure (.tuple #[])) := rfl
theorem Fa.parts25a (a : Addr) (w : World) : (ReflectliteValue.parts (.agg #[.pointer (some ⟨1, 143, none⟩), .pointer (some a), .int .u64 406])).run Tryd.prog w = .ok (some (143, a, 406)) w := by kernel_rfl
theorem Fa.parts25 (a : Addr) (w : World) : (ReflectliteValue.parts (.agg #[.pointer (some ⟨1, 143, none⟩), .pointer (some a), .int .u64 150])).run Tryd.prog w = .ok (some (143, a, 150)) w := by kernel_rfl
theorem Fa.direct25 (w : World) : (Rtype.directlyAssignable 143 143).run Tryd.prog w = .ok true w := by kernel_rfl
/-- (Value).Set: the *p.E variable at 'ta' gets what the Value's own variable 'b' holds. -/
theorem Fa.set25 (ta b e : Addr) (old : Value) (W : World) (hb : W.cell? b = some (.pointer (some e))) (ht : W.cell? ta = some old) (hf : W.frozen? ta = false) :
    (ReflectliteValue.set #[.agg #[.pointer (some ⟨1, 143, none⟩), .pointer (some ta), .int .u64 406], .agg #[.pointer (some ⟨1, 143, none⟩), .pointer (some b), .int .u64 150]]).run Tryd.prog W
      = .ok (.tuple #[]) (W.setCell ta (.pointer (some e))) := by
  rw [rls]
  simp only [Sem.run_bind, Fa.parts25a, Fa.parts25, Result.andThen]
  simp [ReflectliteValue.flagAddr, loadVar, isAgg, underlying, Tryd.underlying143, hb, Result.andThen, Fa.direct25, storeVar, Value.cells, storeCells, Addr.add]
  rw [run_store Tryd.prog W ta _ _ (by rfl)]
  simp [ht, hf]

set_option maxHeartbeats 4000000 in
theorem as_hit (e t : Addr) (old : Value) (w : World) (hg : w.cell? ⟨0, 0, none⟩ = some (.iface 188 (.agg #[.pointer (some ⟨1, 140, none⟩)]))) (ht0 : w.cell? t = some old) (hf0 : w.frozen? t = false) :
    Calls Tryd.prog 92 #[.iface 143 (.pointer (some e)), .iface 145 (.pointer (some t))] w fun ev w' => ev = .returned (.bool true) ∧ w' = ((((w.alloc (.cells #[.pointer (some t)] 145)).alloc (.cells #[.pointer (some ⟨1, 145, none⟩), .pointer (some ⟨w.heap.size, 0, none⟩), .int .u64 150] 175)).alloc (.cells #[.pointer (some ⟨1, 145, none⟩), .pointer (some ⟨w.heap.size, 0, none⟩), .int .u64 150] 175)).alloc (.cells #[.pointer (some e)] 143)).setCell t (.pointer (some e)) := by
  have h6 := @run_callFunc_extern Tryd.prog 120 _ (fun args => ReflectliteValue.unpack (args.getD 0 (.tuple #[]))) Tryd.func120 (by kernel_rfl) (by kernel_rfl) (by kernel_rfl) (by kernel_rfl)
  have h7 := @run_callFunc_extern Tryd.prog 121 _ (ReflectliteValue.methodAny (ReflectliteValue.valueError "reflectlite.Value.Type" 0) (fun t _ _ _ => ReflectliteType.toType t)) Tryd.func121 (by kernel_rfl) (by kernel_rfl) (by kernel_rfl) (by kernel_rfl)
  have h8 := @run_callFunc_extern Tryd.prog 122 _ (ReflectliteValue.method (ReflectliteValue.valueError "reflectlite.Value.IsNil" 0) ReflectliteValue.isNil) Tryd.func122 (by kernel_rfl) (by kernel_rfl) (by kernel_rfl) (by kernel_rfl)
  have h27 := @run_callFunc_extern Tryd.prog 147 _ (ReflectliteType.abiMethod fun t => do pure (.int .u8 (← Rtype.kind t))) Tryd.func147 (by kernel_rfl) (by kernel_rfl) (by kernel_rfl) (by kernel_rfl)
  have h37 := @run_callFunc_extern Tryd.prog 161 _ (ReflectliteType.method ReflectliteType.elem) Tryd.func161 (by kernel_rfl) (by kernel_rfl) (by kernel_rfl) (by kernel_rfl)
  have h38 := @run_callFunc_extern Tryd.prog 162 _ (ReflectliteType.relation "Implements" ReflectliteType.implements_) Tryd.func162 (by kernel_rfl) (by kernel_rfl) (by kernel_rfl) (by kernel_rfl)
  have h10 := @run_callFunc_extern Tryd.prog 130 _ ReflectliteType.typeOf Tryd.func130 (by kernel_rfl) (by kernel_rfl) (by kernel_rfl) (by kernel_rfl)
  have h35 := @run_callFunc_extern Tryd.prog 159 _ (ReflectliteType.relation "AssignableTo" ReflectliteType.assignableTo) Tryd.func159 (by kernel_rfl) (by kernel_rfl) (by kernel_rfl) (by kernel_rfl)
  have h11 := @run_callFunc_extern Tryd.prog 131 _ (ReflectliteValue.method (ReflectliteValue.valueError "reflectlite.Value.Elem" 0) ReflectliteValue.elem) Tryd.func131 (by kernel_rfl) (by kernel_rfl) (by kernel_rfl) (by kernel_rfl)
  have h12 := @run_callFunc_extern Tryd.prog 132 _ ReflectliteValue.set Tryd.func132 (by kernel_rfl) (by kernel_rfl) (by kernel_rfl) (by kernel_rfl)
  have tO := Fa.typeOf25
  have mA := Fa.methodAssignableTo
  have a25 := Fa.assignable25
  have v25 := Fa.valueOf25
  have f6 := Fa.valueOf27
  have f7 := Fa.type27
  have mK := Fa.methodKind
  have mE := Fa.methodElem
  have mI := Fa.methodImplements
  have k27 := Fa.kind27
  have k25 := Fa.kind25
  have e27 := Fa.elem27
  have i25 := Fa.implements25
  have n8 := Fa.isNil27 ⟨w.heap.size, 0, none⟩ t ((w.alloc (.cells #[.pointer (some t)] 145)).alloc (.cells #[.pointer (some ⟨1, 145, none⟩), .pointer (some ⟨w.heap.size, 0, none⟩), .int .u64 150] 175)) (by simp)
  have hlt : 0 < w.heap.size := by
    rcases Nat.eq_zero_or_pos w.heap.size with h0 | h
    · simp [World.cell?, h0] at hg
    · exact h
  have hg2 : ((w.alloc (.cells #[.pointer (some t)] 145)).alloc (.cells #[.pointer (some ⟨1, 145, none⟩), .pointer (some ⟨w.heap.size, 0, none⟩), .int .u64 150] 175)).cell? ⟨0, 0, none⟩ = some (.iface 188 (.agg #[.pointer (some ⟨1, 140, none⟩)])) := by
    rw [World.cell?_alloc_lt _ _ ⟨0, 0, none⟩ (by simp), World.cell?_alloc_lt _ _ ⟨0, 0, none⟩ hlt]; exact hg
  have htl : t.block < w.heap.size := by
    rcases Nat.lt_or_ge t.block w.heap.size with h | h
    · exact h
    · simp [World.cell?, Array.getElem?_eq_none h] at ht0
  have el := Fa.elemV27 ⟨w.heap.size, 0, none⟩ t (((w.alloc (.cells #[.pointer (some t)] 145)).alloc (.cells #[.pointer (some ⟨1, 145, none⟩), .pointer (some ⟨w.heap.size, 0, none⟩), .int .u64 150] 175)).alloc (.cells #[.pointer (some ⟨1, 145, none⟩), .pointer (some ⟨w.heap.size, 0, none⟩), .int .u64 150] 175)) (by rw [World.cell?_alloc_lt _ _ ⟨w.heap.size, 0, none⟩ (by simp; omega)]; simp)
  have st := Fa.set25 t ⟨w.heap.size + 1 + 1 + 1, 0, none⟩ e old ((((w.alloc (.cells #[.pointer (some t)] 145)).alloc (.cells #[.pointer (some ⟨1, 145, none⟩), .pointer (some ⟨w.heap.size, 0, none⟩), .int .u64 150] 175)).alloc (.cells #[.pointer (some ⟨1, 145, none⟩), .pointer (some ⟨w.heap.size, 0, none⟩), .int .u64 150] 175)).alloc (.cells #[.pointer (some e)] 143))
    (by rw [World.cell?_alloc_at _ _ _ _ (by simp)]; rfl)
    (by rw [World.cell?_alloc_lt _ _ t (by simp; omega), World.cell?_alloc_lt _ _ t (by simp; omega), World.cell?_alloc_lt _ _ t (by simp; omega), World.cell?_alloc_lt _ _ t htl]; exact ht0)
    (by rw [World.frozen?_alloc_old _ _ t (by simp; omega), World.frozen?_alloc_old _ _ t (by simp; omega), World.frozen?_alloc_old _ _ t (by simp; omega), World.frozen?_alloc_old _ _ t (Nat.ne_of_lt htl)]; exact hf0)
  go_enter Tryd.func92, Tryd.ntmps92
  go_wp2
  refine wp_loop_rounds 1 ?_
  rw [rounds_succ]
  go_wp2
  go_ret
  exact ⟨rfl, rfl⟩
end Go.Proofs.YtoiepgcjinccpaaDoor.As
/-
  errors.As by its contracts; the walk of run.
-/
namespace Go.Proofs.YtoiepgcjinccpaaDoor.X
open Go Go.RowKit Go.Proofs.YtoiepgcjinccpaaDoor.Bs
set_option linter.unusedVariables false
/-- the library's variable stands laid. -/
def Laid (w : World) : Prop := w.cell? ⟨0, 0, none⟩ = some (.iface 188 (.agg #[.pointer (some ⟨1, 140, none⟩)]))
theorem Laid.pos {w : World} (h : Laid w) : 0 < w.heap.size := by
  rcases Nat.eq_zero_or_pos w.heap.size with h0 | h1
  · unfold Laid at h; simp [World.cell?, h0] at h
  · exact h1
theorem Laid.below {w w' : World} (h : Laid w) (hb : Below w.heap.size w w') : Laid w' := (World.cell?_of_block (a := ⟨0, 0, none⟩) (hb.block 0 h.pos)).trans h
theorem Laid.sys {B : Nat} {w0 w : World} {L : Lo} (h : Laid w0) (S : Sys B w0 L w) (hB : 0 < B) : Laid w := (World.cell?_of_block (a := ⟨0, 0, none⟩) (S.toBelow.block 0 hB)).trans h
theorem asNil_any (t : Value) (w : World) : Calls Tryd.prog 92 #[.nilIface, t] w fun e w' => e = .returned (.bool false) ∧ Below w.heap.size w w' :=
  (As.as_nil t w).mono fun e w' ⟨h1, h2⟩ => ⟨h1, by subst h2; exact Below.refl _ _⟩
theorem asHit_any {gf gt : Nat} {v0 : Value} {w : World} (hg : Laid w) (ht : w.heap[gt]? = some (cel 143 [v0])) :
    Calls Tryd.prog 92 #[.iface 143 (.pointer (some ⟨gf, 0, none⟩)), .iface 145 (.pointer (some ⟨gt, 0, none⟩))] w fun e w' => e = .returned (.bool true) ∧ Sys gt w [(gt, cel 143 [.pointer (some ⟨gf, 0, none⟩)])] w' := by
  have hlt := (Array.getElem?_eq_some_iff.1 ht).1
  refine (As.as_hit ⟨gf, 0, none⟩ ⟨gt, 0, none⟩ v0 w hg (by simp [World.cell?, ht]) (by simp [World.frozen?, ht])).mono fun e w' ⟨h1, h2⟩ => ⟨h1, ?_⟩
  subst h2
  have S0 := Sys.start1 (Nat.le_refl gt) ht
  have S1 := S0.box (.cells #[.pointer (some ⟨gt, 0, none⟩)] 145)
  have S2 := S1.box (.cells #[.pointer (some ⟨1, 145, none⟩), .pointer (some ⟨w.heap.size, 0, none⟩), .int .u64 150] 175)
  have S3 := S2.box (.cells #[.pointer (some ⟨1, 145, none⟩), .pointer (some ⟨w.heap.size, 0, none⟩), .int .u64 150] 175)
  have S4 := S3.box (.cells #[.pointer (some ⟨gf, 0, none⟩)] 143)
  generalize hW : (((w.alloc (.cells #[.pointer (some ⟨gt, 0, none⟩)] 145)).alloc (.cells #[.pointer (some ⟨1, 145, none⟩), .pointer (some ⟨w.heap.size, 0, none⟩), .int .u64 150] 175)).alloc (.cells #[.pointer (some ⟨1, 145, none⟩), .pointer (some ⟨w.heap.size, 0, none⟩), .int .u64 150] 175)).alloc (.cells #[.pointer (some ⟨gf, 0, none⟩)] 143) = W at S4 ⊢
  have hWg : W.heap[gt]? = some (cel 143 [v0]) := (S4.own (gt, cel 143 [v0]) (by simp)).2
  have S5 := S4.drop (L' := [(gt, cel 143 [v0])]) (by repeat (first | exact List.Sublist.refl _ | refine List.Sublist.cons _ ?_)) (fun e he => by
    simp only [List.mem_cons, List.not_mem_nil, or_false] at he ⊢
    rcases he with rfl | rfl | rfl | rfl | rfl <;> first | (left; rfl) | (right; simp; done) | (right; simp; omega))
  refine S5.turn (i := 0) (o := cel 143 [v0]) rfl rfl rfl rfl rfl ?_ ?_ ?_
  · simp [World.setCell]
  · simp [World.setCell, Array.getElem?_modify, hWg]
  · intro k hk hne
    exact Below.heap_setCell _ _ _ _ hne
/-- what run answers. -/
def RunR (b : Bas) (s : Sta) (ts : List Tick) (w : World) (v : Value) (w' : World) : Prop :=
  ((runE b s ts ≠ 0 ∧ v = .tuple ⟨[.slice none 0 0, .int .i64 (runE b s ts)]⟩) ∨
   (runE b s ts = 0 ∧ staErr b s = 0 ∧ ts.length ≤ 300 ∧ (∀ k, k < ts.length → errAt b s ts k = 0) ∧ ∃ r ms, v = .tuple ⟨[svV r, .int .i64 0]⟩ ∧ MomRow w' (Btw w.heap.size w'.heap.size) r ms ∧ ms.map Mom.p = momsAt b s ts ts.length)) ∧ Below w.heap.size w w'
theorem badAt_errs {b : Bas} {s : Sta} {ts : List Tick} (h : badAt b s ts = none) : ∀ k, k < ts.length → errAt b s ts k = 0 := by
  unfold badAt at h
  rw [List.find?_eq_none] at h
  intro k hk
  simpa using h k (by simpa using hk)
theorem badAt_err {b : Bas} {s : Sta} {ts : List Tick} {k : Nat} (h : badAt b s ts = some k) : errAt b s ts k ≠ 0 := by
  unfold badAt at h
  rw [List.find?_range_eq_some] at h
  simpa using h.1
theorem runE_bad {b : Bas} {s : Sta} {ts : List Tick} (h : staErr b s ≠ 0) : runE b s ts = staErr b s := by unfold runE; rw [if_pos h]
theorem runE_long {b : Bas} {s : Sta} {ts : List Tick} (h : staErr b s = 0) (h1 : 300 < ts.length) : runE b s ts = 3 := by unfold runE; rw [if_neg (by simp [h]), if_pos h1]
theorem runE_some {b : Bas} {s : Sta} {ts : List Tick} {k : Nat} (h : staErr b s = 0) (h1 : ¬ 300 < ts.length) (h2 : badAt b s ts = some k) : runE b s ts = errAt b s ts k := by unfold runE; rw [if_neg (by simp [h]), if_neg h1, h2]
theorem runE_none {b : Bas} {s : Sta} {ts : List Tick} (h : staErr b s = 0) (h1 : ¬ 300 < ts.length) (h2 : badAt b s ts = none) : runE b s ts = 0 := by unfold runE; rw [if_neg (by simp [h]), if_neg h1, h2]
theorem targ_con : conB (Tryd.prog.underlying 145) = true := by kernel_rfl
set_option maxHeartbeats 8000000 in
theorem run_any {p : BV} {b : Bas} {q r : SV} {s : Sta} {ts : List Tick} {w : World} (hL : Laid w) (hb : BasAt w w.heap.size p b) (hq : IntsAt w (Lt w.heap.size) q s.fil) (ht : TksAt w (Lt w.heap.size) r ts) :
    Calls Tryd.prog 55 #[basV p b, staV q s, svV r] w fun e w' => ∃ v, e = .returned v ∧ RunR b s ts w v w' := by
  obtain ⟨A, n, c⟩ := r
  have hn := ht.len
  have hmax := ht.max
  simp only at hn hmax
  subst hn
  simp only [basV, basC, staV, staC, svV]
  refine enter Tryd.func55 rfl Tryd.ntmps55 rfl ?_; simp only [frame, Nat.zero_add, Nat.reduceAdd]
  repeat (first | (refine M0 ?_; first | refine O0 ?_ | refine z1 tok rfl ?_ | refine O1 rfl ?_ rfl | refine O2 rfl ?_ | refine O3 rfl ?_ rfl | refine U0 _ (Ev.call (f := 19) (ck rfl) rfl (fun w S => (checkState_any (hb.sys S) (hq.arg S) :))) rfl ?_ | refine O4 rfl rfl rfl (fun _ _ => ?_) | refine O5 tok rfl rfl rfl (fun _ _ => ?_) | refine U0 _ (U2 rfl) rfl ?_ | refine U0 _ (U3 tok rfl rfl rfl rfl rfl) rfl ?_ | refine z3 tok rfl ?_ | refine U0 _ (U4 rfl rfl) rfl ?_ | refine U0 _ (U5 rfl rfl) rfl ?_) | (refine M1 ?_; first | refine J0 ?_ | refine J1 ?_ | refine J2 mixed rfl (by kernel_rfl) ?_ | refine J3 mixed rfl rfl (by kernel_rfl) ?_ | refine J4 ?_ | refine J5 ?_ | refine J6 ?_ | refine J7 ?_ | refine J8 rfl ?_ | refine J9 rfl ?_) | (refine M2 ?_; first | refine I0 ?_ | refine I1 ?_ | refine I2 ?_ | refine I3 ?_ | refine I4 ?_ | refine I5 ?_ | refine I6 rfl ?_ | refine I7 ?_ | refine I8 ?_ | refine z4 ?_) | (refine M3 ?_; first | refine O6 ?_ | refine z2 tok rfl ?_ | refine O8 rfl ?_ | refine O7 rfl ?_ rfl | refine O9 rfl ?_ rfl | refine U1 _ (Ev.call (f := 19) (ck rfl) rfl (fun w S => (checkState_any (hb.sys S) (hq.arg S) :))) rfl ?_ | refine U1 _ (U4 rfl rfl) rfl ?_ | refine U1 _ (U5 rfl rfl) rfl ?_ | refine U1 _ (U2 rfl) rfl ?_ | refine U1 _ (U3 tok rfl rfl rfl rfl rfl) rfl ?_) | (refine M4 ?_; first | refine M6 ?_ | refine U6 rfl (by kernel_rfl) ?_ | refine U7 (by kernel_rfl) ?_) | (refine M5 ?_; first | exact M7 | refine U8 rfl ?_ | refine U9 rfl rfl ?_ ?_))
  rename_i g3 hg3 g4 hg4
  refine XL.split _ _ rfl (fun h0 => ?_) (fun h0 => ?_) <;> rw [h0]
  rotate_left
  · have hE : staErr b s ≠ 0 := by simpa using h0
    repeat (first | (refine M0 ?_; first | refine O0 ?_ | refine z1 tok rfl ?_ | refine O1 rfl ?_ rfl | refine O2 rfl ?_ | refine O3 rfl ?_ rfl | refine O4 rfl rfl rfl (fun _ _ => ?_) | refine O5 tok rfl rfl rfl (fun _ _ => ?_) | refine U0 _ (U2 rfl) rfl ?_ | refine U0 _ (U3 tok rfl rfl rfl rfl rfl) rfl ?_ | refine z3 tok rfl ?_ | refine U0 _ (U4 rfl rfl) rfl ?_ | refine U0 _ (U5 rfl rfl) rfl ?_) | (refine M1 ?_; first | refine J0 ?_ | refine J1 ?_ | refine J2 mixed rfl (by kernel_rfl) ?_ | refine J3 mixed rfl rfl (by kernel_rfl) ?_ | refine J4 ?_ | refine J5 ?_ | refine J6 ?_ | refine J7 ?_ | refine J8 rfl ?_ | refine J9 rfl ?_) | (refine M2 ?_; first | refine I0 ?_ | refine I1 ?_ | refine I2 ?_ | refine I3 ?_ | refine I4 ?_ | refine I5 ?_ | refine I6 rfl ?_ | refine I7 ?_ | refine I8 ?_ | refine z4 ?_) | (refine M3 ?_; first | refine O6 ?_ | refine z2 tok rfl ?_ | refine O8 rfl ?_ | refine O7 rfl ?_ rfl | refine O9 rfl ?_ rfl | refine U1 _ (U4 rfl rfl) rfl ?_ | refine U1 _ (U5 rfl rfl) rfl ?_ | refine U1 _ (U2 rfl) rfl ?_ | refine U1 _ (U3 tok rfl rfl rfl rfl rfl) rfl ?_) | (refine M4 ?_; first | refine M6 ?_ | refine U6 rfl (by kernel_rfl) ?_ | refine U7 (by kernel_rfl) ?_) | (refine M5 ?_; first | exact M7 | refine U8 rfl ?_ | refine U9 rfl rfl ?_ ?_))
    refine XC.cond _ rfl (fun h1 => ?_) (fun h1 => absurd hE (by simpa using h1))
    repeat (first | (refine M0 ?_; first | refine O0 ?_ | refine z1 tok rfl ?_ | refine O1 rfl ?_ rfl | refine O2 rfl ?_ | refine O3 rfl ?_ rfl | refine O4 rfl rfl rfl (fun _ _ => ?_) | refine O5 tok rfl rfl rfl (fun _ _ => ?_) | refine U0 _ (U2 rfl) rfl ?_ | refine U0 _ (U3 tok rfl rfl rfl rfl rfl) rfl ?_ | refine z3 tok rfl ?_ | refine U0 _ (U4 rfl rfl) rfl ?_ | refine U0 _ (U5 rfl rfl) rfl ?_) | (refine M1 ?_; first | refine J0 ?_ | refine J1 ?_ | refine J2 mixed rfl (by kernel_rfl) ?_ | refine J3 mixed rfl rfl (by kernel_rfl) ?_ | refine J4 ?_ | refine J5 ?_ | refine J6 ?_ | refine J7 ?_ | refine J8 rfl ?_ | refine J9 rfl ?_) | (refine M2 ?_; first | refine I0 ?_ | refine I1 ?_ | refine I2 ?_ | refine I3 ?_ | refine I4 ?_ | refine I5 ?_ | refine I6 rfl ?_ | refine I7 ?_ | refine I8 ?_ | refine z4 ?_) | (refine M3 ?_; first | refine O6 ?_ | refine z2 tok rfl ?_ | refine O8 rfl ?_ | refine O7 rfl ?_ rfl | refine O9 rfl ?_ rfl | refine U1 _ (U4 rfl rfl) rfl ?_ | refine U1 _ (U5 rfl rfl) rfl ?_ | refine U1 _ (U2 rfl) rfl ?_ | refine U1 _ (U3 tok rfl rfl rfl rfl rfl) rfl ?_) | (refine M4 ?_; first | refine M6 ?_ | refine U6 rfl (by kernel_rfl) ?_ | refine U7 (by kernel_rfl) ?_) | (refine M5 ?_; first | exact M7 | refine U8 rfl ?_ | refine U9 rfl rfl ?_ ?_))
    refine XE.retg tok Tryd.results55 rfl (by simp only [and_self, and_true]) (fun w' S => ?_)
    exact ⟨_, rfl, .inl ⟨by rw [runE_bad hE]; exact hE, by rw [runE_bad hE]; rfl⟩, S.toBelow⟩
  have hE : staErr b s = 0 := by simpa using h0
  obtain ⟨ho, hs⟩ := staOk_of hE
  repeat (first | (refine M0 ?_; first | refine O0 ?_ | refine z1 tok rfl ?_ | refine O1 rfl ?_ rfl | refine O2 rfl ?_ | refine O3 rfl ?_ rfl | refine O4 rfl rfl rfl (fun _ _ => ?_) | refine O5 tok rfl rfl rfl (fun _ _ => ?_) | refine U0 _ (U2 rfl) rfl ?_ | refine U0 _ (U3 tok rfl rfl rfl rfl rfl) rfl ?_ | refine z3 tok rfl ?_ | refine U0 _ (U4 rfl rfl) rfl ?_ | refine U0 _ (U5 rfl rfl) rfl ?_) | (refine M1 ?_; first | refine J0 ?_ | refine J1 ?_ | refine J2 mixed rfl (by kernel_rfl) ?_ | refine J3 mixed rfl rfl (by kernel_rfl) ?_ | refine J4 ?_ | refine J5 ?_ | refine J6 ?_ | refine J7 ?_ | refine J8 rfl ?_ | refine J9 rfl ?_) | (refine M2 ?_; first | refine I0 ?_ | refine I1 ?_ | refine I2 ?_ | refine I3 ?_ | refine I4 ?_ | refine I5 ?_ | refine I6 rfl ?_ | refine I7 ?_ | refine I8 ?_ | refine z4 ?_) | (refine M3 ?_; first | refine O6 ?_ | refine z2 tok rfl ?_ | refine O8 rfl ?_ | refine O7 rfl ?_ rfl | refine O9 rfl ?_ rfl | refine U1 _ (U4 rfl rfl) rfl ?_ | refine U1 _ (U5 rfl rfl) rfl ?_ | refine U1 _ (U2 rfl) rfl ?_ | refine U1 _ (U3 tok rfl rfl rfl rfl rfl) rfl ?_) | (refine M4 ?_; first | refine M6 ?_ | refine U6 rfl (by kernel_rfl) ?_ | refine U7 (by kernel_rfl) ?_) | (refine M5 ?_; first | exact M7 | refine U8 rfl ?_ | refine U9 rfl rfl ?_ ?_))
  refine XC.cond _ rfl (fun h1 => ?_) (fun h1 => ?_)
  · have h3 : 300 < ts.length := by
      have : (300 : Int) < ts.length := by simpa using h1
      omega
    repeat (first | (refine M0 ?_; first | refine O0 ?_ | refine z1 tok rfl ?_ | refine O1 rfl ?_ rfl | refine O2 rfl ?_ | refine O3 rfl ?_ rfl | refine O4 rfl rfl rfl (fun _ _ => ?_) | refine O5 tok rfl rfl rfl (fun _ _ => ?_) | refine U0 _ (U2 rfl) rfl ?_ | refine U0 _ (U3 tok rfl rfl rfl rfl rfl) rfl ?_ | refine z3 tok rfl ?_ | refine U0 _ (U4 rfl rfl) rfl ?_ | refine U0 _ (U5 rfl rfl) rfl ?_) | (refine M1 ?_; first | refine J0 ?_ | refine J1 ?_ | refine J2 mixed rfl (by kernel_rfl) ?_ | refine J3 mixed rfl rfl (by kernel_rfl) ?_ | refine J4 ?_ | refine J5 ?_ | refine J6 ?_ | refine J7 ?_ | refine J8 rfl ?_ | refine J9 rfl ?_) | (refine M2 ?_; first | refine I0 ?_ | refine I1 ?_ | refine I2 ?_ | refine I3 ?_ | refine I4 ?_ | refine I5 ?_ | refine I6 rfl ?_ | refine I7 ?_ | refine I8 ?_ | refine z4 ?_) | (refine M3 ?_; first | refine O6 ?_ | refine z2 tok rfl ?_ | refine O8 rfl ?_ | refine O7 rfl ?_ rfl | refine O9 rfl ?_ rfl | refine U1 _ (U4 rfl rfl) rfl ?_ | refine U1 _ (U5 rfl rfl) rfl ?_ | refine U1 _ (U2 rfl) rfl ?_ | refine U1 _ (U3 tok rfl rfl rfl rfl rfl) rfl ?_) | (refine M4 ?_; first | refine M6 ?_ | refine U6 rfl (by kernel_rfl) ?_ | refine U7 (by kernel_rfl) ?_) | (refine M5 ?_; first | exact M7 | refine U8 rfl ?_ | refine U9 rfl rfl ?_ ?_))
    refine XE.retg tok Tryd.results55 rfl (by simp only [and_self, and_true]) (fun w' S => ?_)
    exact ⟨_, rfl, .inl ⟨by rw [runE_long hE h3]; decide, by rw [runE_long hE h3]; rfl⟩, S.toBelow⟩
  have h3 : ¬ 300 < ts.length := by
    have : ¬ (300 : Int) < ts.length := by simpa using h1
    omega
  repeat (first | (refine M0 ?_; first | refine O0 ?_ | refine z1 tok rfl ?_ | refine O1 rfl ?_ rfl | refine O2 rfl ?_ | refine O3 rfl ?_ rfl | refine O4 rfl rfl rfl (fun _ _ => ?_) | refine O5 tok rfl rfl rfl (fun _ _ => ?_) | refine U0 _ (U2 rfl) rfl ?_ | refine U0 _ (U3 tok rfl rfl rfl rfl rfl) rfl ?_ | refine z3 tok rfl ?_ | refine U0 _ (U4 rfl rfl) rfl ?_ | refine U0 _ (U5 rfl rfl) rfl ?_) | (refine M1 ?_; first | refine J0 ?_ | refine J1 ?_ | refine J2 mixed rfl (by kernel_rfl) ?_ | refine J3 mixed rfl rfl (by kernel_rfl) ?_ | refine J4 ?_ | refine J5 ?_ | refine J6 ?_ | refine J7 ?_ | refine J8 rfl ?_ | refine J9 rfl ?_) | (refine M2 ?_; first | refine I0 ?_ | refine I1 ?_ | refine I2 ?_ | refine I3 ?_ | refine I4 ?_ | refine I5 ?_ | refine I6 rfl ?_ | refine I7 ?_ | refine I8 ?_ | refine z4 ?_) | (refine M3 ?_; first | refine O6 ?_ | refine z2 tok rfl ?_ | refine O8 rfl ?_ | refine O7 rfl ?_ rfl | refine O9 rfl ?_ rfl | refine U1 _ (U4 rfl rfl) rfl ?_ | refine U1 _ (U5 rfl rfl) rfl ?_ | refine U1 _ (U2 rfl) rfl ?_ | refine U1 _ (U3 tok rfl rfl rfl rfl rfl) rfl ?_) | (refine M4 ?_; first | refine M6 ?_ | refine U6 rfl (by kernel_rfl) ?_ | refine U7 (by kernel_rfl) ?_) | (refine M5 ?_; first | exact M7 | refine U8 rfl ?_ | refine U9 rfl rfl ?_ ?_))
  refine XC.cond _ rfl (fun h2 => absurd hE (by simpa using h2)) (fun h2 => ?_)
  repeat (first | (refine M0 ?_; first | refine O0 ?_ | refine z1 tok rfl ?_ | refine O1 rfl ?_ rfl | refine O2 rfl ?_ | refine O3 rfl ?_ rfl | refine O4 rfl rfl rfl (fun _ _ => ?_) | refine O5 tok rfl rfl rfl (fun _ _ => ?_) | refine U0 _ (U2 rfl) rfl ?_ | refine U0 _ (U3 tok rfl rfl rfl rfl rfl) rfl ?_ | refine z3 tok rfl ?_ | refine U0 _ (U4 rfl rfl) rfl ?_ | refine U0 _ (U5 rfl rfl) rfl ?_) | (refine M1 ?_; first | refine J0 ?_ | refine J1 ?_ | refine J2 mixed rfl (by kernel_rfl) ?_ | refine J3 mixed rfl rfl (by kernel_rfl) ?_ | refine J4 ?_ | refine J5 ?_ | refine J6 ?_ | refine J7 ?_ | refine J8 rfl ?_ | refine J9 rfl ?_) | (refine M2 ?_; first | refine I0 ?_ | refine I1 ?_ | refine I2 ?_ | refine I3 ?_ | refine I4 ?_ | refine I5 ?_ | refine I6 rfl ?_ | refine I7 ?_ | refine I8 ?_ | refine z4 ?_) | (refine M3 ?_; first | refine O6 ?_ | refine z2 tok rfl ?_ | refine O8 rfl ?_ | refine O7 rfl ?_ rfl | refine O9 rfl ?_ rfl | refine U1 _ (U4 rfl rfl) rfl ?_ | refine U1 _ (U5 rfl rfl) rfl ?_ | refine U1 _ (U2 rfl) rfl ?_ | refine U1 _ (U3 tok rfl rfl rfl rfl rfl) rfl ?_) | (refine M4 ?_; first | refine M6 ?_ | refine U6 rfl (by kernel_rfl) ?_ | refine U7 (by kernel_rfl) ?_) | (refine M5 ?_; first | exact M7 | refine U8 rfl ?_ | refine U9 rfl rfl ?_ ?_))
  refine XL.call (fst := []) (cap := []) (ck rfl) rfl rfl rfl (List.Sublist.refl _) (fun w1 v w2 => AllR b s ts w1 v w2)
    (fun w1 S1 => (all_any (p := p) (q := q) (r := ⟨A, ts.length, c⟩) (hb.sys S1) (hq.arg S1) (ht.arg S1) ho hs (by omega)).mono fun e w' ⟨v, h, h4⟩ => ⟨v, h, h4, h4.2⟩) (fun w1 v w2 S1 hR hB S2 => ?_)
  rcases hR.1 with ⟨hbad, rm, ms, rfl, hrow, hms⟩ | ⟨k, gf, hbad, rfl, hgf, hcell⟩
  · simp only [svV]
    repeat (first | (refine M0 ?_; first | refine O0 ?_ | refine z1 tok rfl ?_ | refine O1 rfl ?_ rfl | refine O2 rfl ?_ | refine O3 rfl ?_ rfl | refine U0 _ (Ev.makeI targ_con rfl) rfl ?_ | refine U0 _ (Ev.call (f := 92) (ck rfl) rfl (fun w S => asNil_any _ w)) rfl ?_ | refine O4 rfl rfl rfl (fun _ _ => ?_) | refine O5 tok rfl rfl rfl (fun _ _ => ?_) | refine U0 _ (U2 rfl) rfl ?_ | refine U0 _ (U3 tok rfl rfl rfl rfl rfl) rfl ?_ | refine z3 tok rfl ?_ | refine U0 _ (U4 rfl rfl) rfl ?_ | refine U0 _ (U5 rfl rfl) rfl ?_) | (refine M1 ?_; first | refine J0 ?_ | refine J1 ?_ | refine J2 mixed rfl (by kernel_rfl) ?_ | refine J3 mixed rfl rfl (by kernel_rfl) ?_ | refine J4 ?_ | refine J5 ?_ | refine J6 ?_ | refine J7 ?_ | refine J8 rfl ?_ | refine J9 rfl ?_) | (refine M2 ?_; first | refine I0 ?_ | refine I1 ?_ | refine I2 ?_ | refine I3 ?_ | refine I4 ?_ | refine I5 ?_ | refine I6 rfl ?_ | refine I7 ?_ | refine I8 ?_ | refine z4 ?_) | (refine M3 ?_; first | refine O6 ?_ | refine z2 tok rfl ?_ | refine O8 rfl ?_ | refine O7 rfl ?_ rfl | refine O9 rfl ?_ rfl | refine U1 _ (Ev.makeI targ_con rfl) rfl ?_ | refine U1 _ (Ev.call (f := 92) (ck rfl) rfl (fun w S => asNil_any _ w)) rfl ?_ | refine U1 _ (U4 rfl rfl) rfl ?_ | refine U1 _ (U5 rfl rfl) rfl ?_ | refine U1 _ (U2 rfl) rfl ?_ | refine U1 _ (U3 tok rfl rfl rfl rfl rfl) rfl ?_) | (refine M4 ?_; first | refine M6 ?_ | refine U6 rfl (by kernel_rfl) ?_ | refine U7 (by kernel_rfl) ?_) | (refine M5 ?_; first | exact M7 | refine U8 rfl ?_ | refine U9 rfl rfl ?_ ?_))
    refine XE.retg tok Tryd.results55 rfl (by simp only [and_self, and_true]) (fun w' S => ?_)
    have hk : Keep (Btw w1.heap.size w2.heap.size) w2 _ := Keep.made S1 (Nat.le_refl _)
    have hcl : ∀ j, Btw w1.heap.size w2.heap.size j → Btw w.heap.size w'.heap.size j := fun j hj => ⟨Nat.le_trans S1.size hj.1, Nat.lt_of_lt_of_le hj.2 S.size⟩
    have hkk := (hk.new (g := _) (o := _) (by assumption)).sysT S rfl
    refine ⟨_, rfl, .inr ⟨runE_none hE h3 hbad, hE, by omega, badAt_errs hbad, rm, ms, rfl, ⟨(hrow.rd.keep hkk).mono hcl, hrow.max, fun m hm => ?_⟩, hms⟩, S2.toBelow.trans S.toBelow⟩
    obtain ⟨i1, i2⟩ := hrow.ins m hm
    exact ⟨(i1.keep hkk).mono hcl, (i2.keep hkk).mono hcl⟩
  · repeat (first | (refine M0 ?_; first | refine O0 ?_ | refine z1 tok rfl ?_ | refine O1 rfl ?_ rfl | refine O2 rfl ?_ | refine O3 rfl ?_ rfl | refine U0 _ (Ev.makeI targ_con rfl) rfl ?_ | refine O4 rfl rfl rfl (fun _ _ => ?_) | refine O5 tok rfl rfl rfl (fun _ _ => ?_) | refine U0 _ (U2 rfl) rfl ?_ | refine U0 _ (U3 tok rfl rfl rfl rfl rfl) rfl ?_ | refine z3 tok rfl ?_ | refine U0 _ (U4 rfl rfl) rfl ?_ | refine U0 _ (U5 rfl rfl) rfl ?_) | (refine M1 ?_; first | refine J0 ?_ | refine J1 ?_ | refine J2 mixed rfl (by kernel_rfl) ?_ | refine J3 mixed rfl rfl (by kernel_rfl) ?_ | refine J4 ?_ | refine J5 ?_ | refine J6 ?_ | refine J7 ?_ | refine J8 rfl ?_ | refine J9 rfl ?_) | (refine M2 ?_; first | refine I0 ?_ | refine I1 ?_ | refine I2 ?_ | refine I3 ?_ | refine I4 ?_ | refine I5 ?_ | refine I6 rfl ?_ | refine I7 ?_ | refine I8 ?_ | refine z4 ?_) | (refine M3 ?_; first | refine O6 ?_ | refine z2 tok rfl ?_ | refine O8 rfl ?_ | refine O7 rfl ?_ rfl | refine O9 rfl ?_ rfl | refine U1 _ (Ev.makeI targ_con rfl) rfl ?_ | refine U1 _ (U4 rfl rfl) rfl ?_ | refine U1 _ (U5 rfl rfl) rfl ?_ | refine U1 _ (U2 rfl) rfl ?_ | refine U1 _ (U3 tok rfl rfl rfl rfl rfl) rfl ?_) | (refine M4 ?_; first | refine M6 ?_ | refine U6 rfl (by kernel_rfl) ?_ | refine U7 (by kernel_rfl) ?_) | (refine M5 ?_; first | exact M7 | refine U8 rfl ?_ | refine U9 rfl rfl ?_ ?_))
    rename_i gt hgt
    have hgf2 : gf < w2.heap.size := (Array.getElem?_eq_some_iff.1 hcell).1
    have hL2 : Laid w2 := hL.below S2.toBelow
    refine XL.callT (fst := []) (cap := []) (B' := gt) 0 (ck rfl) rfl rfl rfl rfl rfl (fun w3 S3 => asHit_any (gf := gf) (hL2.sys S3 hL.pos) (S3.own _ List.mem_cons_self).2) ?_
    have hnk : ∀ j, j ∈ [gt, g4, g3] → j ≠ gf := fun j hj e2 => by
      rcases List.mem_cons.1 hj with rfl | hj
      · omega
      · have := S1.keyLt j hj
        omega
    have hcv : w2.cell? ((⟨gf, 0, none⟩ : Addr).add 1) = some (.int .i64 (errAt b s ts k)) := by
      rw [add_off]; simp [World.cell?, hcell]
    repeat (first | (refine M0 ?_; first | refine O0 ?_ | refine z1 tok rfl ?_ | refine O1 rfl ?_ rfl | refine O2 rfl ?_ | refine O3 rfl ?_ rfl | refine U0 _ (Ev.load_far tok (ad := (⟨gf, 0, none⟩ : Addr).add 1) rfl rfl hgf2 (fun e he => hnk e.1 (List.mem_map.2 ⟨e, he, rfl⟩)) hcv) rfl ?_ | refine O4 rfl rfl rfl (fun _ _ => ?_) | refine O5 tok rfl rfl rfl (fun _ _ => ?_) | refine U0 _ (U2 rfl) rfl ?_ | refine U0 _ (U3 tok rfl rfl rfl rfl rfl) rfl ?_ | refine z3 tok rfl ?_ | refine U0 _ (U4 rfl rfl) rfl ?_ | refine U0 _ (U5 rfl rfl) rfl ?_) | (refine M1 ?_; first | refine J0 ?_ | refine J1 ?_ | refine J2 mixed rfl (by kernel_rfl) ?_ | refine J3 mixed rfl rfl (by kernel_rfl) ?_ | refine J4 ?_ | refine J5 ?_ | refine J6 ?_ | refine J7 ?_ | refine J8 rfl ?_ | refine J9 rfl ?_) | (refine M2 ?_; first | refine I0 ?_ | refine I1 ?_ | refine I2 ?_ | refine I3 ?_ | refine I4 ?_ | refine I5 ?_ | refine I6 rfl ?_ | refine I7 ?_ | refine I8 ?_ | refine z4 ?_) | (refine M3 ?_; first | refine O6 ?_ | refine z2 tok rfl ?_ | refine O8 rfl ?_ | refine O7 rfl ?_ rfl | refine O9 rfl ?_ rfl | refine U1 _ (Ev.load_far tok (ad := (⟨gf, 0, none⟩ : Addr).add 1) rfl rfl hgf2 (fun e he => hnk e.1 (List.mem_map.2 ⟨e, he, rfl⟩)) hcv) rfl ?_ | refine U1 _ (U4 rfl rfl) rfl ?_ | refine U1 _ (U5 rfl rfl) rfl ?_ | refine U1 _ (U2 rfl) rfl ?_ | refine U1 _ (U3 tok rfl rfl rfl rfl rfl) rfl ?_) | (refine M4 ?_; first | refine M6 ?_ | refine U6 rfl (by kernel_rfl) ?_ | refine U7 (by kernel_rfl) ?_) | (refine M5 ?_; first | exact M7 | refine U8 rfl ?_ | refine U9 rfl rfl ?_ ?_))
    refine XE.retg tok Tryd.results55 rfl (by simp only [and_self, and_true]) (fun w' S => ?_)
    exact ⟨_, rfl, .inl ⟨by rw [runE_some hE h3 hbad]; exact badAt_err hbad, by rw [runE_some hE h3 hbad]; rfl⟩, S2.toBelow.trans S.toBelow⟩
end Go.Proofs.YtoiepgcjinccpaaDoor.X
/-
  The walks of passed and of Stay.
-/
namespace Go.Proofs.YtoiepgcjinccpaaDoor.X
open Go Go.RowKit Go.Proofs.YtoiepgcjinccpaaDoor.Bs
set_option linter.unusedVariables false
/-- the level of volume v is above lim. -/
def overB (b : Bas) (lim v : Int) : Bool := decide (lim * den b v < num b v)
theorem lim_in {b : Bas} (ho : Ok b) {lim : Int} (hl : -20000 ≤ lim ∧ lim ≤ 20000) (v : Int) : i64in (lim * den b v) := by
  have hd := den_pos ho.rowsOk v
  unfold i64in
  have h1 : -(20000 * den b v) ≤ lim * den b v := by
    have := Int.mul_le_mul_of_nonneg_right hl.1 (show 0 ≤ den b v by omega)
    omega
  have h2 : lim * den b v ≤ 20000 * den b v := Int.mul_le_mul_of_nonneg_right hl.2 (show 0 ≤ den b v by omega)
  omega
section
variable {p : BV} {b : Bas} {lim : Int} {w : World} {gb gl : Nat}
set_option maxHeartbeats 4000000 in
theorem passed1_any {m : Mom} (h1 : w.heap[gb]? = some (cel 25 (basC p b))) (h2 : w.heap[gl]? = some (cel 3 [.int .i64 lim])) (hb : BasAt w w.heap.size p b) (ho : Ok b) (hv : (b.row 0).vol ≤ m.s.vol ∧ m.s.vol ≤ 1000000000) (hl : -20000 ≤ lim ∧ lim ≤ 20000) :
    Calls Tryd.prog 93 #[.agg ⟨m.c⟩, .pointer (some ⟨gb, 0, none⟩), .pointer (some ⟨gl, 0, none⟩)] w fun e w' => e = .returned (.bool (overB b lim m.s.vol)) ∧ Below w.heap.size w w' := by
  have hl1 := (Array.getElem?_eq_some_iff.1 h1).1
  have hl2 := (Array.getElem?_eq_some_iff.1 h2).1
  have hk := lim_in ho hl m.s.vol
  simp only [basC] at h1
  have hc1 : ∀ j u, (basC p b)[j]? = some u → w.cell? ((⟨gb, 0, none⟩ : Addr).add j) = some u := fun j u hj => by
    rw [add_off]; simpa [World.cell?, h1, basC] using hj
  have hc2 : w.cell? ⟨gl, 0, none⟩ = some (.int .i64 lim) := by simp [World.cell?, h2]
  simp only [Mom.c, momC, staC, floC, List.cons_append, List.nil_append]
  refine enter Tryd.func93 rfl Tryd.ntmps93 rfl ?_; simp only [frame, Nat.zero_add, Nat.reduceAdd]
  repeat (first | (refine M0 ?_; first | refine O0 ?_ | refine z1 tok rfl ?_ | refine O1 rfl ?_ rfl | refine O2 rfl ?_ | refine O3 rfl ?_ rfl | refine U0 _ (Ev.load_old_agg tok (basC p b) rfl rfl rfl hl1 hc1) rfl ?_ | refine U0 _ (Ev.load_old tok rfl rfl hl2 hc2) rfl ?_ | refine U0 _ (Ev.call (f := 67) (ck rfl) rfl (fun w S => (exact_any (hb.sys S) ho.rowsOk hv :))) rfl ?_ | refine U0 _ (Ev.call (f := 94) (ck rfl) rfl (fun w S => (above_any (n := num b m.s.vol) (d := den b m.s.vol) hk w :))) rfl ?_ | refine O4 rfl rfl rfl (fun _ _ => ?_) | refine O5 tok rfl rfl rfl (fun _ _ => ?_) | refine U0 _ (U2 rfl) rfl ?_ | refine U0 _ (U3 tok rfl rfl rfl rfl rfl) rfl ?_ | refine z3 tok rfl ?_ | refine U0 _ (U4 rfl rfl) rfl ?_ | refine U0 _ (U5 rfl rfl) rfl ?_) | (refine M1 ?_; first | refine J0 ?_ | refine J1 ?_ | refine J2 mixed rfl (by kernel_rfl) ?_ | refine J3 mixed rfl rfl (by kernel_rfl) ?_ | refine J4 ?_ | refine J5 ?_ | refine J6 ?_ | refine J7 ?_ | refine J8 rfl ?_ | refine J9 rfl ?_) | (refine M2 ?_; first | refine I0 ?_ | refine I1 ?_ | refine I2 ?_ | refine I3 ?_ | refine I4 ?_ | refine I5 ?_ | refine I6 rfl ?_ | refine I7 ?_ | refine I8 ?_ | refine z4 ?_) | (refine M3 ?_; first | refine O6 ?_ | refine z2 tok rfl ?_ | refine O8 rfl ?_ | refine O7 rfl ?_ rfl | refine O9 rfl ?_ rfl | refine U1 _ (Ev.load_old_agg tok (basC p b) rfl rfl rfl hl1 hc1) rfl ?_ | refine U1 _ (Ev.load_old tok rfl rfl hl2 hc2) rfl ?_ | refine U1 _ (Ev.call (f := 67) (ck rfl) rfl (fun w S => (exact_any (hb.sys S) ho.rowsOk hv :))) rfl ?_ | refine U1 _ (Ev.call (f := 94) (ck rfl) rfl (fun w S => (above_any (n := num b m.s.vol) (d := den b m.s.vol) hk w :))) rfl ?_ | refine U1 _ (U4 rfl rfl) rfl ?_ | refine U1 _ (U5 rfl rfl) rfl ?_ | refine U1 _ (U2 rfl) rfl ?_ | refine U1 _ (U3 tok rfl rfl rfl rfl rfl) rfl ?_) | (refine M4 ?_; first | refine M6 ?_ | refine U6 rfl (by kernel_rfl) ?_ | refine U7 (by kernel_rfl) ?_) | (refine M5 ?_; first | exact M7 | refine U8 rfl ?_ | refine U9 rfl rfl ?_ ?_))
  refine XE.retg tok Tryd.results93 rfl (by simp only [and_self, and_true]) (fun w' S => ?_)
  exact ⟨rfl, S.toBelow⟩
theorem MomRow.len {ok : Nat → Prop} {r : SV} {ms : List Mom} (h : MomRow w ok r ms) : r.n = ms.length := by
  have := h.rd.len
  rw [flat_len Mom.c 7 Mom.c_len] at this
  omega
theorem MomRow.mom {ok : Nat → Prop} {ad : Addr} {n c : Nat} {ms : List Mom} (h : MomRow w ok ⟨some ad, n, c⟩ ms) {k : Nat} {m : Mom} (hk : ms[k]? = some m) : ∀ j u, m.c[j]? = some u → w.cell? ((ad.add (k * 7)).add j) = some u := fun j u hj => by
  have hn := h.len
  have hkl := (List.getElem?_eq_some_iff.1 hk).1
  obtain ⟨ad', e, _, h1⟩ := h.rd.at_ (by simp only at hn ⊢; omega)
  cases e
  have hj3 : j < 7 := (List.getElem?_eq_some_iff.1 hj).1
  have e2 := flat_at Mom.c 7 Mom.c_len ms k j m hk hj3
  have := h1 (k * 7 + j) u (e2.trans hj)
  rw [add_add]
  exact this
set_option maxHeartbeats 4000000 in
theorem index_any {r : SV} {ms : List Mom} (hr : MomRow w (Lt w.heap.size) r ms) (h1 : w.heap[gb]? = some (cel 25 (basC p b))) (h2 : w.heap[gl]? = some (cel 3 [.int .i64 lim])) (hb : BasAt w w.heap.size p b) (ho : Ok b)
    (hv : ∀ m, m ∈ ms → (b.row 0).vol ≤ m.s.vol ∧ m.s.vol ≤ 1000000000) (hl : -20000 ≤ lim ∧ lim ≤ 20000) :
    Calls Tryd.prog 60 #[svV r, .func (.func 93) #[] #[.pointer (some ⟨gb, 0, none⟩), .pointer (some ⟨gl, 0, none⟩)]] w fun e w' => e = .returned (.int .i64 (match ms.findIdx? fun m => overB b lim m.s.vol with | some i => ((i : Nat) : Int) | none => -1)) ∧ Below w.heap.size w w' := by
  obtain ⟨A, n, c⟩ := r
  have hn := hr.len
  simp only at hn
  subst hn
  have hmax := hr.max
  simp only at hmax
  simp only [svV]
  refine enter Tryd.func60 rfl Tryd.ntmps60 rfl ?_; simp only [frame, Nat.zero_add, Nat.reduceAdd]
  repeat (first | (refine M0 ?_; first | refine O0 ?_ | refine z1 tok rfl ?_ | refine O1 rfl ?_ rfl | refine O2 rfl ?_ | refine O3 rfl ?_ rfl | refine O4 rfl rfl rfl (fun _ _ => ?_) | refine O5 tok rfl rfl rfl (fun _ _ => ?_) | refine U0 _ (U2 rfl) rfl ?_ | refine U0 _ (U3 tok rfl rfl rfl rfl rfl) rfl ?_ | refine z3 tok rfl ?_ | refine U0 _ (U4 rfl rfl) rfl ?_ | refine U0 _ (U5 rfl rfl) rfl ?_) | (refine M1 ?_; first | refine J0 ?_ | refine J1 ?_ | refine J2 mixed rfl (by kernel_rfl) ?_ | refine J3 mixed rfl rfl (by kernel_rfl) ?_ | refine J4 ?_ | refine J5 ?_ | refine J6 ?_ | refine J7 ?_ | refine J8 rfl ?_ | refine J9 rfl ?_) | (refine M2 ?_; first | refine I0 ?_ | refine I1 ?_ | refine I2 ?_ | refine I3 ?_ | refine I4 ?_ | refine I5 ?_ | refine I6 rfl ?_ | refine I7 ?_ | refine I8 ?_ | refine z4 ?_) | (refine M3 ?_; first | refine O6 ?_ | refine z2 tok rfl ?_ | refine O8 rfl ?_ | refine O7 rfl ?_ rfl | refine O9 rfl ?_ rfl | refine U1 _ (U4 rfl rfl) rfl ?_ | refine U1 _ (U5 rfl rfl) rfl ?_ | refine U1 _ (U2 rfl) rfl ?_ | refine U1 _ (U3 tok rfl rfl rfl rfl rfl) rfl ?_) | (refine M4 ?_; first | refine M6 ?_ | refine U6 rfl (by kernel_rfl) ?_ | refine U7 (by kernel_rfl) ?_) | (refine M5 ?_; first | exact M7 | refine U8 rfl ?_ | refine U9 rfl rfl ?_ ?_))
  refine XC.loopk [0, 1, 7] rfl (fun k : Nat => [(8, .int .i64 (k : Nat))]) (fun _ => []) (fun _ => w) (fun k => k ≤ ms.length ∧ ∀ j m, j < k → ms[j]? = some m → overB b lim m.s.vol = false) (fun k => ms.length - k) 0 ⟨Nat.zero_le _, fun j m h => absurd h (by omega)⟩ (by repeat (first | exact Sub.nil | refine Sub.cons rfl ?_)) (fun _ h => h) ?_
  rintro k ⟨hk, h0⟩
  dsimp only [List.cons_append, List.nil_append]
  repeat (first | (refine M0 ?_; first | refine O0 ?_ | refine z1 tok rfl ?_ | refine O1 rfl ?_ rfl | refine O2 rfl ?_ | refine O3 rfl ?_ rfl | refine O4 rfl rfl rfl (fun _ _ => ?_) | refine O5 tok rfl rfl rfl (fun _ _ => ?_) | refine U0 _ (U2 rfl) rfl ?_ | refine U0 _ (U3 tok rfl rfl rfl rfl rfl) rfl ?_ | refine z3 tok rfl ?_ | refine U0 _ (U4 rfl rfl) rfl ?_ | refine U0 _ (U5 rfl rfl) rfl ?_) | (refine M1 ?_; first | refine J0 ?_ | refine J1 ?_ | refine J2 mixed rfl (by kernel_rfl) ?_ | refine J3 mixed rfl rfl (by kernel_rfl) ?_ | refine J4 ?_ | refine J5 ?_ | refine J6 ?_ | refine J7 ?_ | refine J8 rfl ?_ | refine J9 rfl ?_) | (refine M2 ?_; first | refine I0 ?_ | refine I1 ?_ | refine I2 ?_ | refine I3 ?_ | refine I4 ?_ | refine I5 ?_ | refine I6 rfl ?_ | refine I7 ?_ | refine I8 ?_ | refine z4 ?_) | (refine M3 ?_; first | refine O6 ?_ | refine z2 tok rfl ?_ | refine O8 rfl ?_ | refine O7 rfl ?_ rfl | refine O9 rfl ?_ rfl | refine U1 _ (U4 rfl rfl) rfl ?_ | refine U1 _ (U5 rfl rfl) rfl ?_ | refine U1 _ (U2 rfl) rfl ?_ | refine U1 _ (U3 tok rfl rfl rfl rfl rfl) rfl ?_) | (refine M4 ?_; first | refine M6 ?_ | refine U6 rfl (by kernel_rfl) ?_ | refine U7 (by kernel_rfl) ?_) | (refine M5 ?_; first | exact M7 | refine U8 rfl ?_ | refine U9 rfl rfl ?_ ?_))
  refine XC.cond _ rfl (fun h3 => ?_) (fun h3 => ?_)
  · have hkn : k < ms.length := by simpa using h3
    obtain ⟨ad, rfl, hlt, _⟩ := hr.rd.at_ (by simp only; omega)
    have hmk : ms[k]? = some ms[k] := List.getElem?_eq_getElem hkn
    have hcell := hr.mom hmk
    have hvk := hv ms[k] (List.getElem_mem hkn)
    repeat (first | (refine M0 ?_; first | refine O0 ?_ | refine z1 tok rfl ?_ | refine O1 rfl ?_ rfl | refine O2 rfl ?_ | refine O3 rfl ?_ rfl | refine U0 _ (Ev.load_old_agg tok ms[k].c rfl rfl rfl (add_lt hlt) hcell) rfl ?_ | refine U0 _ (Ev.callv (f := 93) (fst := []) (cap := [.pointer (some ⟨gb, 0, none⟩), .pointer (some ⟨gl, 0, none⟩)]) (ck rfl) rfl rfl (fun w S => (passed1_any (p := p) (b := b) (lim := lim) (m := ms[k]) ((S.toBelow.block gb (Array.getElem?_eq_some_iff.1 h1).1).trans h1) ((S.toBelow.block gl (Array.getElem?_eq_some_iff.1 h2).1).trans h2) (hb.sys S) ho hvk hl :))) rfl ?_ | refine O4 rfl rfl rfl (fun _ _ => ?_) | refine O5 tok rfl rfl rfl (fun _ _ => ?_) | refine U0 _ (U2 rfl) rfl ?_ | refine U0 _ (U3 tok rfl rfl rfl rfl rfl) rfl ?_ | refine z3 tok rfl ?_ | refine U0 _ (U4 rfl rfl) rfl ?_ | refine U0 _ (U5 rfl rfl) rfl ?_) | (refine M1 ?_; first | refine J0 ?_ | refine J1 ?_ | refine J2 mixed rfl (by kernel_rfl) ?_ | refine J3 mixed rfl rfl (by kernel_rfl) ?_ | refine J4 ?_ | refine J5 ?_ | refine J6 ?_ | refine J7 ?_ | refine J8 rfl ?_ | refine J9 rfl ?_) | (refine M2 ?_; first | refine I0 ?_ | refine I1 ?_ | refine I2 ?_ | refine I3 ?_ | refine I4 ?_ | refine I5 ?_ | refine I6 rfl ?_ | refine I7 ?_ | refine I8 ?_ | refine z4 ?_) | (refine M3 ?_; first | refine O6 ?_ | refine z2 tok rfl ?_ | refine O8 rfl ?_ | refine O7 rfl ?_ rfl | refine O9 rfl ?_ rfl | refine U1 _ (Ev.load_old_agg tok ms[k].c rfl rfl rfl (add_lt hlt) hcell) rfl ?_ | refine U1 _ (Ev.callv (f := 93) (fst := []) (cap := [.pointer (some ⟨gb, 0, none⟩), .pointer (some ⟨gl, 0, none⟩)]) (ck rfl) rfl rfl (fun w S => (passed1_any (p := p) (b := b) (lim := lim) (m := ms[k]) ((S.toBelow.block gb (Array.getElem?_eq_some_iff.1 h1).1).trans h1) ((S.toBelow.block gl (Array.getElem?_eq_some_iff.1 h2).1).trans h2) (hb.sys S) ho hvk hl :))) rfl ?_ | refine U1 _ (U4 rfl rfl) rfl ?_ | refine U1 _ (U5 rfl rfl) rfl ?_ | refine U1 _ (U2 rfl) rfl ?_ | refine U1 _ (U3 tok rfl rfl rfl rfl rfl) rfl ?_) | (refine M4 ?_; first | refine M6 ?_ | refine U6 rfl (by kernel_rfl) ?_ | refine U7 (by kernel_rfl) ?_) | (refine M5 ?_; first | exact M7 | refine U8 rfl ?_ | refine U9 rfl rfl ?_ ?_))
    refine XC.cond _ rfl (fun h4 => ?_) (fun h4 => ?_)
    · repeat (first | (refine M0 ?_; first | refine O0 ?_ | refine z1 tok rfl ?_ | refine O1 rfl ?_ rfl | refine O2 rfl ?_ | refine O3 rfl ?_ rfl | refine O4 rfl rfl rfl (fun _ _ => ?_) | refine O5 tok rfl rfl rfl (fun _ _ => ?_) | refine U0 _ (U2 rfl) rfl ?_ | refine U0 _ (U3 tok rfl rfl rfl rfl rfl) rfl ?_ | refine z3 tok rfl ?_ | refine U0 _ (U4 rfl rfl) rfl ?_ | refine U0 _ (U5 rfl rfl) rfl ?_) | (refine M1 ?_; first | refine J0 ?_ | refine J1 ?_ | refine J2 mixed rfl (by kernel_rfl) ?_ | refine J3 mixed rfl rfl (by kernel_rfl) ?_ | refine J4 ?_ | refine J5 ?_ | refine J6 ?_ | refine J7 ?_ | refine J8 rfl ?_ | refine J9 rfl ?_) | (refine M2 ?_; first | refine I0 ?_ | refine I1 ?_ | refine I2 ?_ | refine I3 ?_ | refine I4 ?_ | refine I5 ?_ | refine I6 rfl ?_ | refine I7 ?_ | refine I8 ?_ | refine z4 ?_) | (refine M3 ?_; first | refine O6 ?_ | refine z2 tok rfl ?_ | refine O8 rfl ?_ | refine O7 rfl ?_ rfl | refine O9 rfl ?_ rfl | refine U1 _ (U4 rfl rfl) rfl ?_ | refine U1 _ (U5 rfl rfl) rfl ?_ | refine U1 _ (U2 rfl) rfl ?_ | refine U1 _ (U3 tok rfl rfl rfl rfl rfl) rfl ?_) | (refine M4 ?_; first | refine M6 ?_ | refine U6 rfl (by kernel_rfl) ?_ | refine U7 (by kernel_rfl) ?_) | (refine M5 ?_; first | exact M7 | refine U8 rfl ?_ | refine U9 rfl rfl ?_ ?_))
      refine XE.retg tok Tryd.results60 rfl (by simp only [and_self, and_true]) (fun w' S => ?_)
      have : ms.findIdx? (fun m => overB b lim m.s.vol) = some k := by
        rw [List.findIdx?_eq_some_iff_getElem]
        exact ⟨hkn, h4, fun j hj => by simpa using h0 j _ hj (List.getElem?_eq_getElem (by omega))⟩
      rw [this]
      exact ⟨rfl, S.toBelow⟩
    · repeat (first | (refine M0 ?_; first | refine O0 ?_ | refine z1 tok rfl ?_ | refine O1 rfl ?_ rfl | refine O2 rfl ?_ | refine O3 rfl ?_ rfl | refine O4 rfl rfl rfl (fun _ _ => ?_) | refine O5 tok rfl rfl rfl (fun _ _ => ?_) | refine U0 _ (U2 rfl) rfl ?_ | refine U0 _ (U3 tok rfl rfl rfl rfl rfl) rfl ?_ | refine z3 tok rfl ?_ | refine U0 _ (U4 rfl rfl) rfl ?_ | refine U0 _ (U5 rfl rfl) rfl ?_) | (refine M1 ?_; first | refine J0 ?_ | refine J1 ?_ | refine J2 mixed rfl (by kernel_rfl) ?_ | refine J3 mixed rfl rfl (by kernel_rfl) ?_ | refine J4 ?_ | refine J5 ?_ | refine J6 ?_ | refine J7 ?_ | refine J8 rfl ?_ | refine J9 rfl ?_) | (refine M2 ?_; first | refine I0 ?_ | refine I1 ?_ | refine I2 ?_ | refine I3 ?_ | refine I4 ?_ | refine I5 ?_ | refine I6 rfl ?_ | refine I7 ?_ | refine I8 ?_ | refine z4 ?_) | (refine M3 ?_; first | refine O6 ?_ | refine z2 tok rfl ?_ | refine O8 rfl ?_ | refine O7 rfl ?_ rfl | refine O9 rfl ?_ rfl | refine U1 _ (U4 rfl rfl) rfl ?_ | refine U1 _ (U5 rfl rfl) rfl ?_ | refine U1 _ (U2 rfl) rfl ?_ | refine U1 _ (U3 tok rfl rfl rfl rfl rfl) rfl ?_) | (refine M4 ?_; first | refine M6 ?_ | refine U6 rfl (by kernel_rfl) ?_ | refine U7 (by kernel_rfl) ?_) | (refine M5 ?_; first | exact M7 | refine U8 rfl ?_ | refine U9 rfl rfl ?_ ?_))
      refine XE.round (k + 1) ⟨hkn, fun j m hj hm => ?_⟩ (by omega) (by repeat (first | exact Sub.nil | refine Sub.cons rfl ?_)) (fun _ h => h)
      rcases Nat.lt_or_ge j k with h5 | h5
      · exact h0 j m h5 hm
      · have : j = k := by omega
        subst this
        rw [hmk] at hm
        cases hm
        exact h4
  · have hkn : ¬ k < ms.length := by simpa using h3
    repeat (first | (refine M0 ?_; first | refine O0 ?_ | refine z1 tok rfl ?_ | refine O1 rfl ?_ rfl | refine O2 rfl ?_ | refine O3 rfl ?_ rfl | refine O4 rfl rfl rfl (fun _ _ => ?_) | refine O5 tok rfl rfl rfl (fun _ _ => ?_) | refine U0 _ (U2 rfl) rfl ?_ | refine U0 _ (U3 tok rfl rfl rfl rfl rfl) rfl ?_ | refine z3 tok rfl ?_ | refine U0 _ (U4 rfl rfl) rfl ?_ | refine U0 _ (U5 rfl rfl) rfl ?_) | (refine M1 ?_; first | refine J0 ?_ | refine J1 ?_ | refine J2 mixed rfl (by kernel_rfl) ?_ | refine J3 mixed rfl rfl (by kernel_rfl) ?_ | refine J4 ?_ | refine J5 ?_ | refine J6 ?_ | refine J7 ?_ | refine J8 rfl ?_ | refine J9 rfl ?_) | (refine M2 ?_; first | refine I0 ?_ | refine I1 ?_ | refine I2 ?_ | refine I3 ?_ | refine I4 ?_ | refine I5 ?_ | refine I6 rfl ?_ | refine I7 ?_ | refine I8 ?_ | refine z4 ?_) | (refine M3 ?_; first | refine O6 ?_ | refine z2 tok rfl ?_ | refine O8 rfl ?_ | refine O7 rfl ?_ rfl | refine O9 rfl ?_ rfl | refine U1 _ (U4 rfl rfl) rfl ?_ | refine U1 _ (U5 rfl rfl) rfl ?_ | refine U1 _ (U2 rfl) rfl ?_ | refine U1 _ (U3 tok rfl rfl rfl rfl rfl) rfl ?_) | (refine M4 ?_; first | refine M6 ?_ | refine U6 rfl (by kernel_rfl) ?_ | refine U7 (by kernel_rfl) ?_) | (refine M5 ?_; first | exact M7 | refine U8 rfl ?_ | refine U9 rfl rfl ?_ ?_))
    refine XE.retg tok Tryd.results60 rfl (by simp only [and_self, and_true]) (fun w' S => ?_)
    have : ms.findIdx? (fun m => overB b lim m.s.vol) = none := by
      rw [List.findIdx?_eq_none_iff]
      intro m hm
      obtain ⟨j, hj, e⟩ := List.mem_iff_getElem.1 hm
      exact h0 j m (by omega) (by rw [List.getElem?_eq_getElem hj, e])
    rw [this]
    exact ⟨rfl, S.toBelow⟩
/-- the first moment whose level is above lim. -/
def firstOver (b : Bas) (lim : Int) (ms : List Mom) : Nat := ms.findIdx fun m => overB b lim m.s.vol
theorem first_some {b : Bas} {lim : Int} {ms : List Mom} {i : Nat} (h : ms.findIdx? (fun m => overB b lim m.s.vol) = some i) : firstOver b lim ms = i ∧ i < ms.length := by
  have h1 := List.findIdx?_eq_some_iff_getElem.1 h
  obtain ⟨hi, h2, h3⟩ := h1
  refine ⟨?_, hi⟩
  unfold firstOver
  rw [List.findIdx_eq hi]
  exact ⟨h2, fun j hj => by simpa using h3 j hj⟩
theorem first_none {b : Bas} {lim : Int} {ms : List Mom} (h : ms.findIdx? (fun m => overB b lim m.s.vol) = none) : firstOver b lim ms = ms.length := by
  rw [List.findIdx?_eq_none_iff] at h
  unfold firstOver
  exact List.findIdx_eq_length.2 fun m hm => by simpa using h m hm
set_option maxHeartbeats 4000000 in
theorem passed_any {r : SV} {ms : List Mom} (hr : MomRow w (Lt w.heap.size) r ms) (hb : BasAt w w.heap.size p b) (ho : Ok b)
    (hv : ∀ m, m ∈ ms → (b.row 0).vol ≤ m.s.vol ∧ m.s.vol ≤ 1000000000) (hl : -20000 ≤ lim ∧ lim ≤ 20000) :
    Calls Tryd.prog 57 #[basV p b, svV r, .int .i64 lim] w fun e w' => e = .returned (.int .i64 ((firstOver b lim ms : Nat) : Int)) ∧ Below w.heap.size w w' := by
  have hmax := hr.max
  have hn := hr.len
  simp only [basV, basC, svV]
  refine enter Tryd.func57 rfl Tryd.ntmps57 rfl ?_; simp only [frame, Nat.zero_add, Nat.reduceAdd]
  repeat (first | (refine M0 ?_; first | refine O0 ?_ | refine z1 tok rfl ?_ | refine O1 rfl ?_ rfl | refine O2 rfl ?_ | refine O3 rfl ?_ rfl | refine U0 _ (Ev.makeFunc rfl rfl) rfl ?_ | refine O4 rfl rfl rfl (fun _ _ => ?_) | refine O5 tok rfl rfl rfl (fun _ _ => ?_) | refine U0 _ (U2 rfl) rfl ?_ | refine U0 _ (U3 tok rfl rfl rfl rfl rfl) rfl ?_ | refine z3 tok rfl ?_ | refine U0 _ (U4 rfl rfl) rfl ?_ | refine U0 _ (U5 rfl rfl) rfl ?_) | (refine M1 ?_; first | refine J0 ?_ | refine J1 ?_ | refine J2 mixed rfl (by kernel_rfl) ?_ | refine J3 mixed rfl rfl (by kernel_rfl) ?_ | refine J4 ?_ | refine J5 ?_ | refine J6 ?_ | refine J7 ?_ | refine J8 rfl ?_ | refine J9 rfl ?_) | (refine M2 ?_; first | refine I0 ?_ | refine I1 ?_ | refine I2 ?_ | refine I3 ?_ | refine I4 ?_ | refine I5 ?_ | refine I6 rfl ?_ | refine I7 ?_ | refine I8 ?_ | refine z4 ?_) | (refine M3 ?_; first | refine O6 ?_ | refine z2 tok rfl ?_ | refine O8 rfl ?_ | refine O7 rfl ?_ rfl | refine O9 rfl ?_ rfl | refine U1 _ (Ev.makeFunc rfl rfl) rfl ?_ | refine U1 _ (U4 rfl rfl) rfl ?_ | refine U1 _ (U5 rfl rfl) rfl ?_ | refine U1 _ (U2 rfl) rfl ?_ | refine U1 _ (U3 tok rfl rfl rfl rfl rfl) rfl ?_) | (refine M4 ?_; first | refine M6 ?_ | refine U6 rfl (by kernel_rfl) ?_ | refine U7 (by kernel_rfl) ?_) | (refine M5 ?_; first | exact M7 | refine U8 rfl ?_ | refine U9 rfl rfl ?_ ?_))
  rename_i g3 hg3 g5 hg5
  repeat (first | (refine M0 ?_; first | refine O0 ?_ | refine z1 tok rfl ?_ | refine O1 rfl ?_ rfl | refine O2 rfl ?_ | refine O3 rfl ?_ rfl | refine U0 _ (Ev.callv (f := 60) (fst := []) (cap := []) (ck rfl) rfl rfl (fun w S => (index_any (p := p) (b := b) (lim := lim) (gb := g3) (gl := g5) (r := r) (ms := ms) ⟨hr.rd.arg S, hr.max, fun m hm => ⟨(hr.ins m hm).1.arg S, (hr.ins m hm).2.arg S⟩⟩ (S.own (g3, _) (List.mem_cons_of_mem _ List.mem_cons_self)).2 (S.own (g5, _) List.mem_cons_self).2 (hb.sys S) ho hv hl :))) rfl ?_ | refine O4 rfl rfl rfl (fun _ _ => ?_) | refine O5 tok rfl rfl rfl (fun _ _ => ?_) | refine U0 _ (U2 rfl) rfl ?_ | refine U0 _ (U3 tok rfl rfl rfl rfl rfl) rfl ?_ | refine z3 tok rfl ?_ | refine U0 _ (U4 rfl rfl) rfl ?_ | refine U0 _ (U5 rfl rfl) rfl ?_) | (refine M1 ?_; first | refine J0 ?_ | refine J1 ?_ | refine J2 mixed rfl (by kernel_rfl) ?_ | refine J3 mixed rfl rfl (by kernel_rfl) ?_ | refine J4 ?_ | refine J5 ?_ | refine J6 ?_ | refine J7 ?_ | refine J8 rfl ?_ | refine J9 rfl ?_) | (refine M2 ?_; first | refine I0 ?_ | refine I1 ?_ | refine I2 ?_ | refine I3 ?_ | refine I4 ?_ | refine I5 ?_ | refine I6 rfl ?_ | refine I7 ?_ | refine I8 ?_ | refine z4 ?_) | (refine M3 ?_; first | refine O6 ?_ | refine z2 tok rfl ?_ | refine O8 rfl ?_ | refine O7 rfl ?_ rfl | refine O9 rfl ?_ rfl | refine U1 _ (Ev.callv (f := 60) (fst := []) (cap := []) (ck rfl) rfl rfl (fun w S => (index_any (p := p) (b := b) (lim := lim) (gb := g3) (gl := g5) (r := r) (ms := ms) ⟨hr.rd.arg S, hr.max, fun m hm => ⟨(hr.ins m hm).1.arg S, (hr.ins m hm).2.arg S⟩⟩ (S.own (g3, _) (List.mem_cons_of_mem _ List.mem_cons_self)).2 (S.own (g5, _) List.mem_cons_self).2 (hb.sys S) ho hv hl :))) rfl ?_ | refine U1 _ (U4 rfl rfl) rfl ?_ | refine U1 _ (U5 rfl rfl) rfl ?_ | refine U1 _ (U2 rfl) rfl ?_ | refine U1 _ (U3 tok rfl rfl rfl rfl rfl) rfl ?_) | (refine M4 ?_; first | refine M6 ?_ | refine U6 rfl (by kernel_rfl) ?_ | refine U7 (by kernel_rfl) ?_) | (refine M5 ?_; first | exact M7 | refine U8 rfl ?_ | refine U9 rfl rfl ?_ ?_))
  cases hx : ms.findIdx? fun m => overB b lim m.s.vol with
  | none =>
    refine XC.cond_t rfl ?_
    repeat (first | (refine M0 ?_; first | refine O0 ?_ | refine z1 tok rfl ?_ | refine O1 rfl ?_ rfl | refine O2 rfl ?_ | refine O3 rfl ?_ rfl | refine O4 rfl rfl rfl (fun _ _ => ?_) | refine O5 tok rfl rfl rfl (fun _ _ => ?_) | refine U0 _ (U2 rfl) rfl ?_ | refine U0 _ (U3 tok rfl rfl rfl rfl rfl) rfl ?_ | refine z3 tok rfl ?_ | refine U0 _ (U4 rfl rfl) rfl ?_ | refine U0 _ (U5 rfl rfl) rfl ?_) | (refine M1 ?_; first | refine J0 ?_ | refine J1 ?_ | refine J2 mixed rfl (by kernel_rfl) ?_ | refine J3 mixed rfl rfl (by kernel_rfl) ?_ | refine J4 ?_ | refine J5 ?_ | refine J6 ?_ | refine J7 ?_ | refine J8 rfl ?_ | refine J9 rfl ?_) | (refine M2 ?_; first | refine I0 ?_ | refine I1 ?_ | refine I2 ?_ | refine I3 ?_ | refine I4 ?_ | refine I5 ?_ | refine I6 rfl ?_ | refine I7 ?_ | refine I8 ?_ | refine z4 ?_) | (refine M3 ?_; first | refine O6 ?_ | refine z2 tok rfl ?_ | refine O8 rfl ?_ | refine O7 rfl ?_ rfl | refine O9 rfl ?_ rfl | refine U1 _ (U4 rfl rfl) rfl ?_ | refine U1 _ (U5 rfl rfl) rfl ?_ | refine U1 _ (U2 rfl) rfl ?_ | refine U1 _ (U3 tok rfl rfl rfl rfl rfl) rfl ?_) | (refine M4 ?_; first | refine M6 ?_ | refine U6 rfl (by kernel_rfl) ?_ | refine U7 (by kernel_rfl) ?_) | (refine M5 ?_; first | exact M7 | refine U8 rfl ?_ | refine U9 rfl rfl ?_ ?_))
    refine XE.retg tok Tryd.results57 rfl (by simp only [and_self, and_true]) (fun w' S => ?_)
    rw [first_none hx, ← hn]
    exact ⟨rfl, S.toBelow⟩
  | some i =>
    obtain ⟨e1, e2⟩ := first_some hx
    refine XC.cond _ rfl (fun h4 => absurd h4 (by simp)) (fun h4 => ?_)
    repeat (first | (refine M0 ?_; first | refine O0 ?_ | refine z1 tok rfl ?_ | refine O1 rfl ?_ rfl | refine O2 rfl ?_ | refine O3 rfl ?_ rfl | refine O4 rfl rfl rfl (fun _ _ => ?_) | refine O5 tok rfl rfl rfl (fun _ _ => ?_) | refine U0 _ (U2 rfl) rfl ?_ | refine U0 _ (U3 tok rfl rfl rfl rfl rfl) rfl ?_ | refine z3 tok rfl ?_ | refine U0 _ (U4 rfl rfl) rfl ?_ | refine U0 _ (U5 rfl rfl) rfl ?_) | (refine M1 ?_; first | refine J0 ?_ | refine J1 ?_ | refine J2 mixed rfl (by kernel_rfl) ?_ | refine J3 mixed rfl rfl (by kernel_rfl) ?_ | refine J4 ?_ | refine J5 ?_ | refine J6 ?_ | refine J7 ?_ | refine J8 rfl ?_ | refine J9 rfl ?_) | (refine M2 ?_; first | refine I0 ?_ | refine I1 ?_ | refine I2 ?_ | refine I3 ?_ | refine I4 ?_ | refine I5 ?_ | refine I6 rfl ?_ | refine I7 ?_ | refine I8 ?_ | refine z4 ?_) | (refine M3 ?_; first | refine O6 ?_ | refine z2 tok rfl ?_ | refine O8 rfl ?_ | refine O7 rfl ?_ rfl | refine O9 rfl ?_ rfl | refine U1 _ (U4 rfl rfl) rfl ?_ | refine U1 _ (U5 rfl rfl) rfl ?_ | refine U1 _ (U2 rfl) rfl ?_ | refine U1 _ (U3 tok rfl rfl rfl rfl rfl) rfl ?_) | (refine M4 ?_; first | refine M6 ?_ | refine U6 rfl (by kernel_rfl) ?_ | refine U7 (by kernel_rfl) ?_) | (refine M5 ?_; first | exact M7 | refine U8 rfl ?_ | refine U9 rfl rfl ?_ ?_))
    refine XE.retg tok Tryd.results57 rfl (by simp only [and_self, and_true]) (fun w' S => ?_)
    rw [e1]
    exact ⟨rfl, S.toBelow⟩
end
/-- what Stay answers: the hour and the fault. -/
noncomputable def stayE (b : Bas) (s : Sta) (ts : List Tick) (lim : Int) : Int := if runE b s ts ≠ 0 then runE b s ts else if outB lim (b.row 0).level 20000 = true then 7 else 0
noncomputable def stayN (b : Bas) (s : Sta) (ts : List Tick) (lim : Int) : Int := if stayE b s ts lim ≠ 0 then 0 else (((momsAt b s ts ts.length).findIdx fun x => overB b lim x.1.vol : Nat) : Int)
theorem stay_run {b : Bas} {s : Sta} {ts : List Tick} {lim : Int} (h : runE b s ts ≠ 0) : stayE b s ts lim = runE b s ts ∧ stayN b s ts lim = 0 := by
  have : stayE b s ts lim = runE b s ts := by unfold stayE; rw [if_pos h]
  exact ⟨this, by unfold stayN; rw [this, if_pos h]⟩
theorem stay_out {b : Bas} {s : Sta} {ts : List Tick} {lim : Int} (h : runE b s ts = 0) (h1 : outB lim (b.row 0).level 20000 = true) : stayE b s ts lim = 7 ∧ stayN b s ts lim = 0 := by
  have : stayE b s ts lim = 7 := by unfold stayE; rw [if_neg (by simp [h]), if_pos h1]
  exact ⟨this, by unfold stayN; rw [this, if_pos (by decide)]⟩
theorem stay_in {b : Bas} {s : Sta} {ts : List Tick} {lim : Int} (h : runE b s ts = 0) (h1 : outB lim (b.row 0).level 20000 = false) : stayE b s ts lim = 0 ∧ stayN b s ts lim = (((momsAt b s ts ts.length).findIdx fun x => overB b lim x.1.vol : Nat) : Int) := by
  have : stayE b s ts lim = 0 := by unfold stayE; rw [if_neg (by simp [h]), if_neg (by simp [h1])]
  exact ⟨this, by unfold stayN; rw [this, if_neg (by simp)]⟩
theorem momsAt_ok {b : Bas} {s : Sta} {ts : List Tick} (ho : Ok b) (hs : StaOk b s) (h : ∀ k, k < ts.length → errAt b s ts k = 0) {ms : List Mom} (hms : ms.map Mom.p = momsAt b s ts ts.length) : ∀ m, m ∈ ms → (b.row 0).vol ≤ m.s.vol ∧ m.s.vol ≤ 1000000000 := by
  intro m hm
  have h1 : m.p ∈ momsAt b s ts ts.length := by rw [← hms]; exact List.mem_map.2 ⟨m, hm, rfl⟩
  unfold momsAt at h1
  obtain ⟨i, hi, e⟩ := List.mem_map.1 h1
  have hi' : i < ts.length := by simpa using hi
  have := (staAt_ok ho hs (ts := ts) (i + 1) fun j hj => h j (by omega)).vol
  have e2 : staAt b s ts (i + 1) = m.s := congrArg Prod.fst e
  rw [e2] at this
  exact this
theorem first_moms {b : Bas} {s : Sta} {ts : List Tick} {lim : Int} {ms : List Mom} (hms : ms.map Mom.p = momsAt b s ts ts.length) : firstOver b lim ms = (momsAt b s ts ts.length).findIdx fun x => overB b lim x.1.vol := by
  rw [← hms, List.findIdx_map]
  rfl
set_option maxHeartbeats 8000000 in
theorem Stay_any {p : BV} {b : Bas} {q r : SV} {s : Sta} {ts : List Tick} {lim : Int} {w : World} (hL : Laid w) (hb : BasAt w w.heap.size p b) (hq : IntsAt w (Lt w.heap.size) q s.fil) (ht : TksAt w (Lt w.heap.size) r ts) :
    Calls Tryd.prog 27 #[basV p b, staV q s, svV r, .int .i64 lim] w fun e w' => e = .returned (.tuple ⟨[.int .i64 (stayN b s ts lim), .int .i64 (stayE b s ts lim)]⟩) ∧ Below w.heap.size w w' := by
  simp only [basV, basC, staV, staC, svV]
  refine enter Tryd.func27 rfl Tryd.ntmps27 rfl ?_; simp only [frame, Nat.zero_add, Nat.reduceAdd]
  repeat (first | (refine M0 ?_; first | refine O0 ?_ | refine z1 tok rfl ?_ | refine O1 rfl ?_ rfl | refine O2 rfl ?_ | refine O3 rfl ?_ rfl | refine O4 rfl rfl rfl (fun _ _ => ?_) | refine O5 tok rfl rfl rfl (fun _ _ => ?_) | refine U0 _ (U2 rfl) rfl ?_ | refine U0 _ (U3 tok rfl rfl rfl rfl rfl) rfl ?_ | refine z3 tok rfl ?_ | refine U0 _ (U4 rfl rfl) rfl ?_ | refine U0 _ (U5 rfl rfl) rfl ?_) | (refine M1 ?_; first | refine J0 ?_ | refine J1 ?_ | refine J2 mixed rfl (by kernel_rfl) ?_ | refine J3 mixed rfl rfl (by kernel_rfl) ?_ | refine J4 ?_ | refine J5 ?_ | refine J6 ?_ | refine J7 ?_ | refine J8 rfl ?_ | refine J9 rfl ?_) | (refine M2 ?_; first | refine I0 ?_ | refine I1 ?_ | refine I2 ?_ | refine I3 ?_ | refine I4 ?_ | refine I5 ?_ | refine I6 rfl ?_ | refine I7 ?_ | refine I8 ?_ | refine z4 ?_) | (refine M3 ?_; first | refine O6 ?_ | refine z2 tok rfl ?_ | refine O8 rfl ?_ | refine O7 rfl ?_ rfl | refine O9 rfl ?_ rfl | refine U1 _ (U4 rfl rfl) rfl ?_ | refine U1 _ (U5 rfl rfl) rfl ?_ | refine U1 _ (U2 rfl) rfl ?_ | refine U1 _ (U3 tok rfl rfl rfl rfl rfl) rfl ?_) | (refine M4 ?_; first | refine M6 ?_ | refine U6 rfl (by kernel_rfl) ?_ | refine U7 (by kernel_rfl) ?_) | (refine M5 ?_; first | exact M7 | refine U8 rfl ?_ | refine U9 rfl rfl ?_ ?_))
  refine XL.call (fst := []) (cap := []) (ck rfl) rfl rfl rfl (List.Sublist.refl _) (fun w1 v w2 => RunR b s ts w1 v w2)
    (fun w1 S1 => (run_any (p := p) (q := q) (r := r) (hL.below S1.toBelow) (hb.sys S1) (hq.arg S1) (ht.arg S1)).mono fun e w' ⟨v, h, h4⟩ => ⟨v, h, h4, h4.2⟩) (fun w1 v w2 S1 hR hB S2 => ?_)
  rcases hR.1 with ⟨h1, rfl⟩ | ⟨h1, hE, h3, h4, rm, ms, rfl, hrow, hms⟩
  · repeat (first | (refine M0 ?_; first | refine O0 ?_ | refine z1 tok rfl ?_ | refine O1 rfl ?_ rfl | refine O2 rfl ?_ | refine O3 rfl ?_ rfl | refine O4 rfl rfl rfl (fun _ _ => ?_) | refine O5 tok rfl rfl rfl (fun _ _ => ?_) | refine U0 _ (U2 rfl) rfl ?_ | refine U0 _ (U3 tok rfl rfl rfl rfl rfl) rfl ?_ | refine z3 tok rfl ?_ | refine U0 _ (U4 rfl rfl) rfl ?_ | refine U0 _ (U5 rfl rfl) rfl ?_) | (refine M1 ?_; first | refine J0 ?_ | refine J1 ?_ | refine J2 mixed rfl (by kernel_rfl) ?_ | refine J3 mixed rfl rfl (by kernel_rfl) ?_ | refine J4 ?_ | refine J5 ?_ | refine J6 ?_ | refine J7 ?_ | refine J8 rfl ?_ | refine J9 rfl ?_) | (refine M2 ?_; first | refine I0 ?_ | refine I1 ?_ | refine I2 ?_ | refine I3 ?_ | refine I4 ?_ | refine I5 ?_ | refine I6 rfl ?_ | refine I7 ?_ | refine I8 ?_ | refine z4 ?_) | (refine M3 ?_; first | refine O6 ?_ | refine z2 tok rfl ?_ | refine O8 rfl ?_ | refine O7 rfl ?_ rfl | refine O9 rfl ?_ rfl | refine U1 _ (U4 rfl rfl) rfl ?_ | refine U1 _ (U5 rfl rfl) rfl ?_ | refine U1 _ (U2 rfl) rfl ?_ | refine U1 _ (U3 tok rfl rfl rfl rfl rfl) rfl ?_) | (refine M4 ?_; first | refine M6 ?_ | refine U6 rfl (by kernel_rfl) ?_ | refine U7 (by kernel_rfl) ?_) | (refine M5 ?_; first | exact M7 | refine U8 rfl ?_ | refine U9 rfl rfl ?_ ?_))
    refine XC.cond _ rfl (fun h5 => ?_) (fun h5 => absurd h1 (by simpa using h5))
    repeat (first | (refine M0 ?_; first | refine O0 ?_ | refine z1 tok rfl ?_ | refine O1 rfl ?_ rfl | refine O2 rfl ?_ | refine O3 rfl ?_ rfl | refine O4 rfl rfl rfl (fun _ _ => ?_) | refine O5 tok rfl rfl rfl (fun _ _ => ?_) | refine U0 _ (U2 rfl) rfl ?_ | refine U0 _ (U3 tok rfl rfl rfl rfl rfl) rfl ?_ | refine z3 tok rfl ?_ | refine U0 _ (U4 rfl rfl) rfl ?_ | refine U0 _ (U5 rfl rfl) rfl ?_) | (refine M1 ?_; first | refine J0 ?_ | refine J1 ?_ | refine J2 mixed rfl (by kernel_rfl) ?_ | refine J3 mixed rfl rfl (by kernel_rfl) ?_ | refine J4 ?_ | refine J5 ?_ | refine J6 ?_ | refine J7 ?_ | refine J8 rfl ?_ | refine J9 rfl ?_) | (refine M2 ?_; first | refine I0 ?_ | refine I1 ?_ | refine I2 ?_ | refine I3 ?_ | refine I4 ?_ | refine I5 ?_ | refine I6 rfl ?_ | refine I7 ?_ | refine I8 ?_ | refine z4 ?_) | (refine M3 ?_; first | refine O6 ?_ | refine z2 tok rfl ?_ | refine O8 rfl ?_ | refine O7 rfl ?_ rfl | refine O9 rfl ?_ rfl | refine U1 _ (U4 rfl rfl) rfl ?_ | refine U1 _ (U5 rfl rfl) rfl ?_ | refine U1 _ (U2 rfl) rfl ?_ | refine U1 _ (U3 tok rfl rfl rfl rfl rfl) rfl ?_) | (refine M4 ?_; first | refine M6 ?_ | refine U6 rfl (by kernel_rfl) ?_ | refine U7 (by kernel_rfl) ?_) | (refine M5 ?_; first | exact M7 | refine U8 rfl ?_ | refine U9 rfl rfl ?_ ?_))
    refine XE.retg tok Tryd.results27 rfl (by simp only [and_self, and_true]) (fun w' S => ?_)
    obtain ⟨e1, e2⟩ := stay_run (lim := lim) h1
    rw [e1, e2]
    exact ⟨rfl, S2.toBelow.trans S.toBelow⟩
  · obtain ⟨ho, hs⟩ := staOk_of hE
    have hbb := hb.below S2.toBelow
    simp only [svV]
    repeat (first | (refine M0 ?_; first | refine O0 ?_ | refine z1 tok rfl ?_ | refine O1 rfl ?_ rfl | refine O2 rfl ?_ | refine O3 rfl ?_ rfl | refine U0 _ (Ev.call (f := 56) (ck rfl) rfl (fun w S => (beyond_any (p := p) (hbb.sys S) ho.rowsOk lim :))) rfl ?_ | refine O4 rfl rfl rfl (fun _ _ => ?_) | refine O5 tok rfl rfl rfl (fun _ _ => ?_) | refine U0 _ (U2 rfl) rfl ?_ | refine U0 _ (U3 tok rfl rfl rfl rfl rfl) rfl ?_ | refine z3 tok rfl ?_ | refine U0 _ (U4 rfl rfl) rfl ?_ | refine U0 _ (U5 rfl rfl) rfl ?_) | (refine M1 ?_; first | refine J0 ?_ | refine J1 ?_ | refine J2 mixed rfl (by kernel_rfl) ?_ | refine J3 mixed rfl rfl (by kernel_rfl) ?_ | refine J4 ?_ | refine J5 ?_ | refine J6 ?_ | refine J7 ?_ | refine J8 rfl ?_ | refine J9 rfl ?_) | (refine M2 ?_; first | refine I0 ?_ | refine I1 ?_ | refine I2 ?_ | refine I3 ?_ | refine I4 ?_ | refine I5 ?_ | refine I6 rfl ?_ | refine I7 ?_ | refine I8 ?_ | refine z4 ?_) | (refine M3 ?_; first | refine O6 ?_ | refine z2 tok rfl ?_ | refine O8 rfl ?_ | refine O7 rfl ?_ rfl | refine O9 rfl ?_ rfl | refine U1 _ (Ev.call (f := 56) (ck rfl) rfl (fun w S => (beyond_any (p := p) (hbb.sys S) ho.rowsOk lim :))) rfl ?_ | refine U1 _ (U4 rfl rfl) rfl ?_ | refine U1 _ (U5 rfl rfl) rfl ?_ | refine U1 _ (U2 rfl) rfl ?_ | refine U1 _ (U3 tok rfl rfl rfl rfl rfl) rfl ?_) | (refine M4 ?_; first | refine M6 ?_ | refine U6 rfl (by kernel_rfl) ?_ | refine U7 (by kernel_rfl) ?_) | (refine M5 ?_; first | exact M7 | refine U8 rfl ?_ | refine U9 rfl rfl ?_ ?_))
    refine XC.cond _ rfl (fun h5 => ?_) (fun h5 => ?_)
    · repeat (first | (refine M0 ?_; first | refine O0 ?_ | refine z1 tok rfl ?_ | refine O1 rfl ?_ rfl | refine O2 rfl ?_ | refine O3 rfl ?_ rfl | refine O4 rfl rfl rfl (fun _ _ => ?_) | refine O5 tok rfl rfl rfl (fun _ _ => ?_) | refine U0 _ (U2 rfl) rfl ?_ | refine U0 _ (U3 tok rfl rfl rfl rfl rfl) rfl ?_ | refine z3 tok rfl ?_ | refine U0 _ (U4 rfl rfl) rfl ?_ | refine U0 _ (U5 rfl rfl) rfl ?_) | (refine M1 ?_; first | refine J0 ?_ | refine J1 ?_ | refine J2 mixed rfl (by kernel_rfl) ?_ | refine J3 mixed rfl rfl (by kernel_rfl) ?_ | refine J4 ?_ | refine J5 ?_ | refine J6 ?_ | refine J7 ?_ | refine J8 rfl ?_ | refine J9 rfl ?_) | (refine M2 ?_; first | refine I0 ?_ | refine I1 ?_ | refine I2 ?_ | refine I3 ?_ | refine I4 ?_ | refine I5 ?_ | refine I6 rfl ?_ | refine I7 ?_ | refine I8 ?_ | refine z4 ?_) | (refine M3 ?_; first | refine O6 ?_ | refine z2 tok rfl ?_ | refine O8 rfl ?_ | refine O7 rfl ?_ rfl | refine O9 rfl ?_ rfl | refine U1 _ (U4 rfl rfl) rfl ?_ | refine U1 _ (U5 rfl rfl) rfl ?_ | refine U1 _ (U2 rfl) rfl ?_ | refine U1 _ (U3 tok rfl rfl rfl rfl rfl) rfl ?_) | (refine M4 ?_; first | refine M6 ?_ | refine U6 rfl (by kernel_rfl) ?_ | refine U7 (by kernel_rfl) ?_) | (refine M5 ?_; first | exact M7 | refine U8 rfl ?_ | refine U9 rfl rfl ?_ ?_))
      refine XE.retg tok Tryd.results27 rfl (by simp only [and_self, and_true]) (fun w' S => ?_)
      obtain ⟨e1, e2⟩ := stay_out h1 h5
      rw [e1, e2]
      exact ⟨rfl, S2.toBelow.trans S.toBelow⟩
    · have h6 := outB_f.1 h5
      have h7 := ho.rowsOk.level 0 (by have := ho.rowsOk.n2; omega)
      have hl : -20000 ≤ lim ∧ lim ≤ 20000 := by omega
      have hk : Keep (Btw w1.heap.size w2.heap.size) w2 _ := Keep.made S1 (Nat.le_refl _)
      repeat (first | (refine M0 ?_; first | refine O0 ?_ | refine z1 tok rfl ?_ | refine O1 rfl ?_ rfl | refine O2 rfl ?_ | refine O3 rfl ?_ rfl | refine U0 _ (Ev.call (f := 57) (ck rfl) rfl (fun w S => (passed_any (p := p) (r := rm) (ms := ms) ⟨hrow.rd.sys S hk, hrow.max, fun m hm => ⟨(hrow.ins m hm).1.sys S hk, (hrow.ins m hm).2.sys S hk⟩⟩ (hbb.sys S) ho (momsAt_ok ho hs h4 hms) hl :))) rfl ?_ | refine O4 rfl rfl rfl (fun _ _ => ?_) | refine O5 tok rfl rfl rfl (fun _ _ => ?_) | refine U0 _ (U2 rfl) rfl ?_ | refine U0 _ (U3 tok rfl rfl rfl rfl rfl) rfl ?_ | refine z3 tok rfl ?_ | refine U0 _ (U4 rfl rfl) rfl ?_ | refine U0 _ (U5 rfl rfl) rfl ?_) | (refine M1 ?_; first | refine J0 ?_ | refine J1 ?_ | refine J2 mixed rfl (by kernel_rfl) ?_ | refine J3 mixed rfl rfl (by kernel_rfl) ?_ | refine J4 ?_ | refine J5 ?_ | refine J6 ?_ | refine J7 ?_ | refine J8 rfl ?_ | refine J9 rfl ?_) | (refine M2 ?_; first | refine I0 ?_ | refine I1 ?_ | refine I2 ?_ | refine I3 ?_ | refine I4 ?_ | refine I5 ?_ | refine I6 rfl ?_ | refine I7 ?_ | refine I8 ?_ | refine z4 ?_) | (refine M3 ?_; first | refine O6 ?_ | refine z2 tok rfl ?_ | refine O8 rfl ?_ | refine O7 rfl ?_ rfl | refine O9 rfl ?_ rfl | refine U1 _ (Ev.call (f := 57) (ck rfl) rfl (fun w S => (passed_any (p := p) (r := rm) (ms := ms) ⟨hrow.rd.sys S hk, hrow.max, fun m hm => ⟨(hrow.ins m hm).1.sys S hk, (hrow.ins m hm).2.sys S hk⟩⟩ (hbb.sys S) ho (momsAt_ok ho hs h4 hms) hl :))) rfl ?_ | refine U1 _ (U4 rfl rfl) rfl ?_ | refine U1 _ (U5 rfl rfl) rfl ?_ | refine U1 _ (U2 rfl) rfl ?_ | refine U1 _ (U3 tok rfl rfl rfl rfl rfl) rfl ?_) | (refine M4 ?_; first | refine M6 ?_ | refine U6 rfl (by kernel_rfl) ?_ | refine U7 (by kernel_rfl) ?_) | (refine M5 ?_; first | exact M7 | refine U8 rfl ?_ | refine U9 rfl rfl ?_ ?_))
      refine XE.retg tok Tryd.results27 rfl (by simp only [and_self, and_true]) (fun w' S => ?_)
      obtain ⟨e1, e2⟩ := stay_in h1 h5
      rw [e1, e2, ← first_moms hms]
      exact ⟨rfl, S2.toBelow.trans S.toBelow⟩
end Go.Proofs.YtoiepgcjinccpaaDoor.X
/-
  The example's basin in plain words.
-/
namespace Go.Proofs.YtoiepgcjinccpaaDoor.Bs
open Go.Proofs.YtoiepgcjinccpaaDoor.X
def exB : Bas := ⟨[⟨-1000, 0⟩, ⟨0, 1000000⟩, ⟨2000, 5000000⟩], 100, 3000, 500, [⟨⟨#[108, 111, 119]⟩, 200, 300, 50000⟩, ⟨⟨#[104, 105, 103, 104]⟩, 1000, 200, 400000⟩]⟩
def exS : Sta := ⟨1000000, [0, 0]⟩
def exT : Tick := ⟨2500, 60000, 0⟩
theorem all3 {P : Nat → Prop} (h0 : P 0) (h1 : P 1) (h2 : P 2) : ∀ j, j < 3 → P j := by
  intro j hj
  match j, hj with
  | 0, _ => exact h0
  | 1, _ => exact h1
  | 2, _ => exact h2
theorem all2 {P : Nat → Prop} (h0 : P 0) (h1 : P 1) : ∀ j, j < 2 → P j := by
  intro j hj
  match j, hj with
  | 0, _ => exact h0
  | 1, _ => exact h1
theorem ex_chk : chkE exB = 0 := by
  have h1 : firstN (rowErr exB) exB.rows.length = none := firstN_none (all3 (by kernel_rfl) (by kernel_rfl) (by kernel_rfl))
  have h2 : firstN (polErr exB) exB.pols.length = none := firstN_none (all2 (by kernel_rfl) (by kernel_rfl))
  have h3 : wide exB (great exB exB.pols.length) := fun i hi => by
    have : ∀ j, j < 2 → wideAt exB (great exB exB.pols.length) j := all2 (of_decide_eq_true (by kernel_rfl)) (of_decide_eq_true (by kernel_rfl))
    exact this i (by have : i + 1 < 3 := hi; omega)
  unfold chkE chk
  rw [if_neg (by decide), h1]
  simp only
  rw [if_neg (by decide), if_neg (by decide), h2]
  simp only
  rw [if_pos h3]
theorem ex_sta : staErr exB exS = 0 := staErr_ok ex_chk ⟨rfl, ⟨by decide, by decide⟩, fun i hi => (all2 (P := fun i => 0 ≤ exS.f i ∧ exS.f i ≤ (exB.pol i).room) (by decide) (by decide)) i hi⟩
theorem ex_step : stepE exB exS exT = 0 := by kernel_rfl
theorem ex_vol : (outS exB exS exT).vol = 1307000 := by kernel_rfl
theorem ex_leak : (outF exB exS exT).leak = 247000 := by kernel_rfl
def exTs : List Tick := [exT, exT, exT]
theorem ex_run : runE exB exS exTs = 0 := runE_none ex_sta (by decide) (badAt_none (all3 (by kernel_rfl) (by kernel_rfl) (by kernel_rfl)))
theorem ex_stayE : stayE exB exS exTs 285 = 0 := (stay_in ex_run (by decide)).1
theorem ex_stayN : stayN exB exS exTs 285 = 2 := (stay_in ex_run (by decide)).2.trans (by kernel_rfl)
end Go.Proofs.YtoiepgcjinccpaaDoor.Bs
/-
  The examples' functions; Volume at a level that is out of the basin; Awake.
-/
namespace Go.Proofs.YtoiepgcjinccpaaDoor.X
open Go Go.RowKit Go.Proofs.YtoiepgcjinccpaaDoor.Bs
set_option linter.unusedVariables false
structure BasAtP (w : World) (ok : Nat → Prop) (p : BV) (b : Bas) : Prop where
  rows : ReadsP w ok 2 p.A p.n (b.rows.flatMap rowC)
  pols : ReadsP w ok 4 p.A2 p.n2 (b.pols.flatMap polC)
  cap : p.n ≤ p.c
  len : p.n ≤ 9223372036854775807
  len2 : p.n2 ≤ 9223372036854775807
  names : ∀ q, q ∈ b.pols → q.name.size ≤ 9223372036854775807
section
variable {w w' w0 : World} {ok ok' : Nat → Prop} {B : Nat} {p : BV} {b : Bas} {L : Lo}
theorem BasAtP.keep (h : BasAtP w ok p b) (hk : ∀ k, ok k → w'.heap[k]? = w.heap[k]?) : BasAtP w' ok p b := ⟨h.rows.keep hk, h.pols.keep hk, h.cap, h.len, h.len2, h.names⟩
theorem BasAtP.mono (h : BasAtP w ok p b) (hk : ∀ k, ok k → ok' k) : BasAtP w ok' p b := ⟨h.rows.mono hk, h.pols.mono hk, h.cap, h.len, h.len2, h.names⟩
theorem BasAtP.to (h : BasAtP w (Lt B) p b) : BasAt w B p b := ⟨h.rows.to, h.pols.to, h.cap, h.len, h.len2, h.names⟩
theorem BasAtP.sys (h : BasAtP w0 ok p b) (S : Sys B w0 L w) (hk : Keep ok w0 L) : BasAt w w.heap.size p b := ((h.keep (hk.sys S)).mono (hk.lt S)).to
end
theorem ReadsP.block {w : World} {g lo n size : Nat} {ty : TypeId} {cs : List Value} (h : w.heap[g]? = some (cel ty cs)) (hg : lo ≤ g) (hl : cs.length = n * size) : ReadsP w (Btw lo w.heap.size) size (some ⟨g, 0, none⟩) n cs :=
  ⟨hl, fun _ => ⟨_, rfl, ⟨hg, (Array.getElem?_eq_some_iff.1 h).1⟩, fun j u hj => by rw [add_off]; simpa [World.cell?, h] using hj⟩⟩
set_option maxHeartbeats 4000000 in
theorem Basin_any (w : World) : Calls Tryd.prog 39 #[] w fun e w' => ∃ v, e = .returned v ∧ (∃ p, v = basV p exB ∧ BasAtP w' (Btw w.heap.size w'.heap.size) p exB) ∧ Below w.heap.size w w' := by
  refine enter Tryd.func39 rfl Tryd.ntmps39 rfl ?_; simp only [frame, Nat.zero_add, Nat.reduceAdd]
  repeat (first | (refine M0 ?_; first | refine O0 ?_ | refine z1 tok rfl ?_ | refine O1 rfl ?_ rfl | refine O2 rfl ?_ | refine O3 rfl ?_ rfl | refine O4 rfl rfl rfl (fun _ _ => ?_) | refine O5 tok rfl rfl rfl (fun _ _ => ?_) | refine U0 _ (U2 rfl) rfl ?_ | refine U0 _ (U3 tok rfl rfl rfl rfl rfl) rfl ?_ | refine z3 tok rfl ?_ | refine U0 _ (U4 rfl rfl) rfl ?_ | refine U0 _ (U5 rfl rfl) rfl ?_ | refine XL.buildSlice tok rfl rfl rfl rfl rfl rfl rfl rfl rfl (fun _ _ => ?_)) | (refine M1 ?_; first | refine J0 ?_ | refine J1 ?_ | refine J2 mixed rfl (by kernel_rfl) ?_ | refine J3 mixed rfl rfl (by kernel_rfl) ?_ | refine J4 ?_ | refine J5 ?_ | refine J6 ?_ | refine J7 ?_ | refine J8 rfl ?_ | refine J9 rfl ?_) | (refine M2 ?_; first | refine I0 ?_ | refine I1 ?_ | refine I2 ?_ | refine I3 ?_ | refine I4 ?_ | refine I5 ?_ | refine I6 rfl ?_ | refine I7 ?_ | refine I8 ?_ | refine z4 ?_) | (refine M3 ?_; first | refine O6 ?_ | refine z2 tok rfl ?_ | refine O8 rfl ?_ | refine O7 rfl ?_ rfl | refine O9 rfl ?_ rfl | refine U1 _ (U4 rfl rfl) rfl ?_ | refine U1 _ (U5 rfl rfl) rfl ?_ | refine U1 _ (U2 rfl) rfl ?_ | refine U1 _ (U3 tok rfl rfl rfl rfl rfl) rfl ?_) | (refine M4 ?_; first | refine M6 ?_ | refine U6 rfl (by kernel_rfl) ?_ | refine U7 (by kernel_rfl) ?_) | (refine M5 ?_; first | exact M7 | refine U8 rfl ?_ | refine U9 rfl rfl ?_ ?_))
  rename_i g0 hg0 g1 hg1 g2 hg2
  refine XE.retg tok Tryd.results39 rfl (by simp only [and_self, and_true]) (fun w' S => ?_)
  refine ⟨_, rfl, ⟨⟨some ⟨g1, 0, none⟩, 3, 3, some ⟨g2, 0, none⟩, 2, 2⟩, rfl, ?_⟩, S.toBelow⟩
  exact ⟨ReadsP.block (S.own (g1, _) (List.mem_cons_of_mem _ List.mem_cons_self)).2 hg1 rfl, ReadsP.block (S.own (g2, _) List.mem_cons_self).2 hg2 rfl, Nat.le_refl _, by simp, by simp, by decide⟩
set_option maxHeartbeats 4000000 in
theorem State_any (w : World) : Calls Tryd.prog 41 #[] w fun e w' => ∃ v, e = .returned v ∧ (∃ q, v = staV q exS ∧ IntsAt w' (Btw w.heap.size w'.heap.size) q exS.fil) ∧ Below w.heap.size w w' := by
  refine enter Tryd.func41 rfl Tryd.ntmps41 rfl ?_; simp only [frame, Nat.zero_add, Nat.reduceAdd]
  repeat (first | (refine M0 ?_; first | refine O0 ?_ | refine z1 tok rfl ?_ | refine O1 rfl ?_ rfl | refine O2 rfl ?_ | refine O3 rfl ?_ rfl | refine O4 rfl rfl rfl (fun _ _ => ?_) | refine O5 tok rfl rfl rfl (fun _ _ => ?_) | refine U0 _ (U2 rfl) rfl ?_ | refine U0 _ (U3 tok rfl rfl rfl rfl rfl) rfl ?_ | refine z3 tok rfl ?_ | refine U0 _ (U4 rfl rfl) rfl ?_ | refine U0 _ (U5 rfl rfl) rfl ?_ | refine XL.buildSlice tok rfl rfl rfl rfl rfl rfl rfl rfl rfl (fun _ _ => ?_)) | (refine M1 ?_; first | refine J0 ?_ | refine J1 ?_ | refine J2 mixed rfl (by kernel_rfl) ?_ | refine J3 mixed rfl rfl (by kernel_rfl) ?_ | refine J4 ?_ | refine J5 ?_ | refine J6 ?_ | refine J7 ?_ | refine J8 rfl ?_ | refine J9 rfl ?_) | (refine M2 ?_; first | refine I0 ?_ | refine I1 ?_ | refine I2 ?_ | refine I3 ?_ | refine I4 ?_ | refine I5 ?_ | refine I6 rfl ?_ | refine I7 ?_ | refine I8 ?_ | refine z4 ?_) | (refine M3 ?_; first | refine O6 ?_ | refine z2 tok rfl ?_ | refine O8 rfl ?_ | refine O7 rfl ?_ rfl | refine O9 rfl ?_ rfl | refine U1 _ (U4 rfl rfl) rfl ?_ | refine U1 _ (U5 rfl rfl) rfl ?_ | refine U1 _ (U2 rfl) rfl ?_ | refine U1 _ (U3 tok rfl rfl rfl rfl rfl) rfl ?_) | (refine M4 ?_; first | refine M6 ?_ | refine U6 rfl (by kernel_rfl) ?_ | refine U7 (by kernel_rfl) ?_) | (refine M5 ?_; first | exact M7 | refine U8 rfl ?_ | refine U9 rfl rfl ?_ ?_))
  rename_i g0 hg0 g1 hg1
  refine XE.retg tok Tryd.results41 rfl (by simp only [and_self, and_true]) (fun w' S => ?_)
  exact ⟨_, rfl, ⟨⟨some ⟨g1, 0, none⟩, 2, 2⟩, rfl, ReadsP.block (S.own (g1, _) List.mem_cons_self).2 hg1 rfl, by simp⟩, S.toBelow⟩
theorem Tick_any (w : World) : Calls Tryd.prog 40 #[] w fun e w' => e = .returned (tickV exT) ∧ Below w.heap.size w w' := by
  refine enter Tryd.func40 rfl Tryd.ntmps40 rfl ?_; simp only [frame, Nat.zero_add, Nat.reduceAdd]
  repeat (first | (refine M0 ?_; first | refine O0 ?_ | refine z1 tok rfl ?_ | refine O1 rfl ?_ rfl | refine O2 rfl ?_ | refine O3 rfl ?_ rfl | refine O4 rfl rfl rfl (fun _ _ => ?_) | refine O5 tok rfl rfl rfl (fun _ _ => ?_) | refine U0 _ (U2 rfl) rfl ?_ | refine U0 _ (U3 tok rfl rfl rfl rfl rfl) rfl ?_ | refine z3 tok rfl ?_ | refine U0 _ (U4 rfl rfl) rfl ?_ | refine U0 _ (U5 rfl rfl) rfl ?_) | (refine M1 ?_; first | refine J0 ?_ | refine J1 ?_ | refine J2 mixed rfl (by kernel_rfl) ?_ | refine J3 mixed rfl rfl (by kernel_rfl) ?_ | refine J4 ?_ | refine J5 ?_ | refine J6 ?_ | refine J7 ?_ | refine J8 rfl ?_ | refine J9 rfl ?_) | (refine M2 ?_; first | refine I0 ?_ | refine I1 ?_ | refine I2 ?_ | refine I3 ?_ | refine I4 ?_ | refine I5 ?_ | refine I6 rfl ?_ | refine I7 ?_ | refine I8 ?_ | refine z4 ?_) | (refine M3 ?_; first | refine O6 ?_ | refine z2 tok rfl ?_ | refine O8 rfl ?_ | refine O7 rfl ?_ rfl | refine O9 rfl ?_ rfl | refine U1 _ (U4 rfl rfl) rfl ?_ | refine U1 _ (U5 rfl rfl) rfl ?_ | refine U1 _ (U2 rfl) rfl ?_ | refine U1 _ (U3 tok rfl rfl rfl rfl rfl) rfl ?_) | (refine M4 ?_; first | refine M6 ?_ | refine U6 rfl (by kernel_rfl) ?_ | refine U7 (by kernel_rfl) ?_) | (refine M5 ?_; first | exact M7 | refine U8 rfl ?_ | refine U9 rfl rfl ?_ ?_))
  refine XE.retg tok Tryd.results40 rfl (by simp only [and_self, and_true]) (fun w' S => ?_)
  exact ⟨rfl, S.toBelow⟩
set_option maxHeartbeats 4000000 in
theorem Volume_out {p : BV} {b : Bas} {lev : Int} {w : World} (hb : BasAt w w.heap.size p b) (hc : chkE b = 0) (hl : outB lev (b.row 0).level 20000 = true) :
    Calls Tryd.prog 36 #[basV p b, .int .i64 lev] w fun e w' => e = .returned (.tuple ⟨[.int .i64 0, .int .i64 7]⟩) ∧ Below w.heap.size w w' := by
  obtain ⟨A, n, c, A2, n2, c2⟩ := p
  have hn := hb.n_eq
  simp only at hn
  subst hn
  have ho := (ok_of hc).rowsOk
  have h2 := ho.n2
  have hmax := hb.len
  simp only at hmax
  simp only [basV, basC]
  refine enter Tryd.func36 rfl Tryd.ntmps36 rfl ?_; simp only [frame, Nat.zero_add, Nat.reduceAdd]
  repeat (first | (refine M0 ?_; first | refine O0 ?_ | refine z1 tok rfl ?_ | refine O1 rfl ?_ rfl | refine O2 rfl ?_ | refine O3 rfl ?_ rfl | refine U0 _ (Ev.call (f := 50) (ck rfl) rfl (fun w S => (valid_any (hb.sys S) :))) rfl ?_ | refine O4 rfl rfl rfl (fun _ _ => ?_) | refine O5 tok rfl rfl rfl (fun _ _ => ?_) | refine U0 _ (U2 rfl) rfl ?_ | refine U0 _ (U3 tok rfl rfl rfl rfl rfl) rfl ?_ | refine z3 tok rfl ?_ | refine U0 _ (U4 rfl rfl) rfl ?_ | refine U0 _ (U5 rfl rfl) rfl ?_) | (refine M1 ?_; first | refine J0 ?_ | refine J1 ?_ | refine J2 mixed rfl (by kernel_rfl) ?_ | refine J3 mixed rfl rfl (by kernel_rfl) ?_ | refine J4 ?_ | refine J5 ?_ | refine J6 ?_ | refine J7 ?_ | refine J8 rfl ?_ | refine J9 rfl ?_) | (refine M2 ?_; first | refine I0 ?_ | refine I1 ?_ | refine I2 ?_ | refine I3 ?_ | refine I4 ?_ | refine I5 ?_ | refine I6 rfl ?_ | refine I7 ?_ | refine I8 ?_ | refine z4 ?_) | (refine M3 ?_; first | refine O6 ?_ | refine z2 tok rfl ?_ | refine O8 rfl ?_ | refine O7 rfl ?_ rfl | refine O9 rfl ?_ rfl | refine U1 _ (Ev.call (f := 50) (ck rfl) rfl (fun w S => (valid_any (hb.sys S) :))) rfl ?_ | refine U1 _ (U4 rfl rfl) rfl ?_ | refine U1 _ (U5 rfl rfl) rfl ?_ | refine U1 _ (U2 rfl) rfl ?_ | refine U1 _ (U3 tok rfl rfl rfl rfl rfl) rfl ?_) | (refine M4 ?_; first | refine M6 ?_ | refine U6 rfl (by kernel_rfl) ?_ | refine U7 (by kernel_rfl) ?_) | (refine M5 ?_; first | exact M7 | refine U8 rfl ?_ | refine U9 rfl rfl ?_ ?_))
  refine XC.cond _ rfl (fun h => absurd hc (by simpa using h)) (fun h => ?_)
  obtain ⟨ad, rfl, hlt⟩ := hb.rows.addr (by simp only; omega)
  repeat (first | (refine M0 ?_; first | refine O0 ?_ | refine z1 tok rfl ?_ | refine O1 rfl ?_ rfl | refine O2 rfl ?_ | refine O3 rfl ?_ rfl | refine U0 _ (Ev.load_old tok rfl rfl (add_lt hlt) (hb.rowLevel (i := 0) (by omega))) rfl ?_ | refine U0 _ (Ev.call (f := 51) (ck rfl) rfl (fun w S => out_any _ _ _ w)) rfl ?_ | refine O4 rfl rfl rfl (fun _ _ => ?_) | refine O5 tok rfl rfl rfl (fun _ _ => ?_) | refine U0 _ (U2 rfl) rfl ?_ | refine U0 _ (U3 tok rfl rfl rfl rfl rfl) rfl ?_ | refine z3 tok rfl ?_ | refine U0 _ (U4 rfl rfl) rfl ?_ | refine U0 _ (U5 rfl rfl) rfl ?_) | (refine M1 ?_; first | refine J0 ?_ | refine J1 ?_ | refine J2 mixed rfl (by kernel_rfl) ?_ | refine J3 mixed rfl rfl (by kernel_rfl) ?_ | refine J4 ?_ | refine J5 ?_ | refine J6 ?_ | refine J7 ?_ | refine J8 rfl ?_ | refine J9 rfl ?_) | (refine M2 ?_; first | refine I0 ?_ | refine I1 ?_ | refine I2 ?_ | refine I3 ?_ | refine I4 ?_ | refine I5 ?_ | refine I6 rfl ?_ | refine I7 ?_ | refine I8 ?_ | refine z4 ?_) | (refine M3 ?_; first | refine O6 ?_ | refine z2 tok rfl ?_ | refine O8 rfl ?_ | refine O7 rfl ?_ rfl | refine O9 rfl ?_ rfl | refine U1 _ (Ev.load_old tok rfl rfl (add_lt hlt) (hb.rowLevel (i := 0) (by omega))) rfl ?_ | refine U1 _ (Ev.call (f := 51) (ck rfl) rfl (fun w S => out_any _ _ _ w)) rfl ?_ | refine U1 _ (U4 rfl rfl) rfl ?_ | refine U1 _ (U5 rfl rfl) rfl ?_ | refine U1 _ (U2 rfl) rfl ?_ | refine U1 _ (U3 tok rfl rfl rfl rfl rfl) rfl ?_) | (refine M4 ?_; first | refine M6 ?_ | refine U6 rfl (by kernel_rfl) ?_ | refine U7 (by kernel_rfl) ?_) | (refine M5 ?_; first | exact M7 | refine U8 rfl ?_ | refine U9 rfl rfl ?_ ?_))
  refine XC.cond _ rfl (fun h4 => ?_) (fun h4 => absurd hl (by rw [h4]; decide))
  repeat (first | (refine M0 ?_; first | refine O0 ?_ | refine z1 tok rfl ?_ | refine O1 rfl ?_ rfl | refine O2 rfl ?_ | refine O3 rfl ?_ rfl | refine O4 rfl rfl rfl (fun _ _ => ?_) | refine O5 tok rfl rfl rfl (fun _ _ => ?_) | refine U0 _ (U2 rfl) rfl ?_ | refine U0 _ (U3 tok rfl rfl rfl rfl rfl) rfl ?_ | refine z3 tok rfl ?_ | refine U0 _ (U4 rfl rfl) rfl ?_ | refine U0 _ (U5 rfl rfl) rfl ?_) | (refine M1 ?_; first | refine J0 ?_ | refine J1 ?_ | refine J2 mixed rfl (by kernel_rfl) ?_ | refine J3 mixed rfl rfl (by kernel_rfl) ?_ | refine J4 ?_ | refine J5 ?_ | refine J6 ?_ | refine J7 ?_ | refine J8 rfl ?_ | refine J9 rfl ?_) | (refine M2 ?_; first | refine I0 ?_ | refine I1 ?_ | refine I2 ?_ | refine I3 ?_ | refine I4 ?_ | refine I5 ?_ | refine I6 rfl ?_ | refine I7 ?_ | refine I8 ?_ | refine z4 ?_) | (refine M3 ?_; first | refine O6 ?_ | refine z2 tok rfl ?_ | refine O8 rfl ?_ | refine O7 rfl ?_ rfl | refine O9 rfl ?_ rfl | refine U1 _ (U4 rfl rfl) rfl ?_ | refine U1 _ (U5 rfl rfl) rfl ?_ | refine U1 _ (U2 rfl) rfl ?_ | refine U1 _ (U3 tok rfl rfl rfl rfl rfl) rfl ?_) | (refine M4 ?_; first | refine M6 ?_ | refine U6 rfl (by kernel_rfl) ?_ | refine U7 (by kernel_rfl) ?_) | (refine M5 ?_; first | exact M7 | refine U8 rfl ?_ | refine U9 rfl rfl ?_ ?_))
  refine XE.retg tok Tryd.results36 rfl (by simp only [and_self, and_true]) (fun w' S => ?_)
  exact ⟨rfl, S.toBelow⟩
set_option maxHeartbeats 8000000 in
theorem Awake_any {w : World} (hL : Laid w) : Calls Tryd.prog 23 #[] w fun e w' => e = .returned (.bool true) ∧ Below w.heap.size w w' := by
  refine enter Tryd.func23 rfl Tryd.ntmps23 rfl ?_; simp only [frame, Nat.zero_add, Nat.reduceAdd]
  repeat (first | (refine M0 ?_; first | refine O0 ?_ | refine z1 tok rfl ?_ | refine O1 rfl ?_ rfl | refine O2 rfl ?_ | refine O3 rfl ?_ rfl | refine O4 rfl rfl rfl (fun _ _ => ?_) | refine O5 tok rfl rfl rfl (fun _ _ => ?_) | refine U0 _ (U2 rfl) rfl ?_ | refine U0 _ (U3 tok rfl rfl rfl rfl rfl) rfl ?_ | refine z3 tok rfl ?_ | refine U0 _ (U4 rfl rfl) rfl ?_ | refine U0 _ (U5 rfl rfl) rfl ?_) | (refine M1 ?_; first | refine J0 ?_ | refine J1 ?_ | refine J2 mixed rfl (by kernel_rfl) ?_ | refine J3 mixed rfl rfl (by kernel_rfl) ?_ | refine J4 ?_ | refine J5 ?_ | refine J6 ?_ | refine J7 ?_ | refine J8 rfl ?_ | refine J9 rfl ?_) | (refine M2 ?_; first | refine I0 ?_ | refine I1 ?_ | refine I2 ?_ | refine I3 ?_ | refine I4 ?_ | refine I5 ?_ | refine I6 rfl ?_ | refine I7 ?_ | refine I8 ?_ | refine z4 ?_) | (refine M3 ?_; first | refine O6 ?_ | refine z2 tok rfl ?_ | refine O8 rfl ?_ | refine O7 rfl ?_ rfl | refine O9 rfl ?_ rfl | refine U1 _ (U4 rfl rfl) rfl ?_ | refine U1 _ (U5 rfl rfl) rfl ?_ | refine U1 _ (U2 rfl) rfl ?_ | refine U1 _ (U3 tok rfl rfl rfl rfl rfl) rfl ?_) | (refine M4 ?_; first | refine M6 ?_ | refine U6 rfl (by kernel_rfl) ?_ | refine U7 (by kernel_rfl) ?_) | (refine M5 ?_; first | exact M7 | refine U8 rfl ?_ | refine U9 rfl rfl ?_ ?_))
  refine XL.call (fst := []) (cap := []) (ck rfl) rfl rfl rfl (List.Sublist.refl _) (fun w1 v w2 => ∃ p, v = basV p exB ∧ BasAtP w2 (Btw w1.heap.size w2.heap.size) p exB) (fun w1 S1 => Basin_any w1) (fun w1 v w2 S1 ⟨p1, hv1, hb1⟩ hB1 S2 => ?_)
  subst hv1
  refine XL.call (fst := []) (cap := []) (ck rfl) rfl rfl rfl (List.Sublist.refl _) (fun w1 v w2 => ∃ q, v = staV q exS ∧ IntsAt w2 (Btw w1.heap.size w2.heap.size) q exS.fil) (fun w1 S1 => State_any w1) (fun w3 v w4 S3 ⟨q1, hv2, hq1⟩ hB2 S4 => ?_)
  subst hv2
  have k1 : Keep (Btw w1.heap.size w2.heap.size) w2 _ := Keep.made S1 (Nat.le_refl _)
  have hb4 := hb1.keep (k1.sys S4)
  have k4 : Keep (Btw w1.heap.size w2.heap.size) w4 _ := k1.later S3 hB2.size
  have kq : Keep (Btw w3.heap.size w4.heap.size) w4 _ := Keep.made S3 (Nat.le_refl _)
  repeat (first | (refine M0 ?_; first | refine O0 ?_ | refine z1 tok rfl ?_ | refine O1 rfl ?_ rfl | refine O2 rfl ?_ | refine O3 rfl ?_ rfl | refine U0 _ (Ev.call (f := 40) (ck rfl) rfl (fun w S => Tick_any w)) rfl ?_ | refine O4 rfl rfl rfl (fun _ _ => ?_) | refine O5 tok rfl rfl rfl (fun _ _ => ?_) | refine U0 _ (U2 rfl) rfl ?_ | refine U0 _ (U3 tok rfl rfl rfl rfl rfl) rfl ?_ | refine z3 tok rfl ?_ | refine U0 _ (U4 rfl rfl) rfl ?_ | refine U0 _ (U5 rfl rfl) rfl ?_) | (refine M1 ?_; first | refine J0 ?_ | refine J1 ?_ | refine J2 mixed rfl (by kernel_rfl) ?_ | refine J3 mixed rfl rfl (by kernel_rfl) ?_ | refine J4 ?_ | refine J5 ?_ | refine J6 ?_ | refine J7 ?_ | refine J8 rfl ?_ | refine J9 rfl ?_) | (refine M2 ?_; first | refine I0 ?_ | refine I1 ?_ | refine I2 ?_ | refine I3 ?_ | refine I4 ?_ | refine I5 ?_ | refine I6 rfl ?_ | refine I7 ?_ | refine I8 ?_ | refine z4 ?_) | (refine M3 ?_; first | refine O6 ?_ | refine z2 tok rfl ?_ | refine O8 rfl ?_ | refine O7 rfl ?_ rfl | refine O9 rfl ?_ rfl | refine U1 _ (Ev.call (f := 40) (ck rfl) rfl (fun w S => Tick_any w)) rfl ?_ | refine U1 _ (U4 rfl rfl) rfl ?_ | refine U1 _ (U5 rfl rfl) rfl ?_ | refine U1 _ (U2 rfl) rfl ?_ | refine U1 _ (U3 tok rfl rfl rfl rfl rfl) rfl ?_) | (refine M4 ?_; first | refine M6 ?_ | refine U6 rfl (by kernel_rfl) ?_ | refine U7 (by kernel_rfl) ?_) | (refine M5 ?_; first | exact M7 | refine U8 rfl ?_ | refine U9 rfl rfl ?_ ?_))
  have hW4 := S2.toBelow.trans S4.toBelow
  refine XL.call (fst := []) (cap := []) (ck rfl) rfl rfl rfl (List.Sublist.refl _) (fun w1 v w2 => StepCR exB exS exT w1 v w2)
    (fun w5 S5 => (Step_any (p := p1) (q := q1) (hb4.sys S5 k4) (hq1.sys S5 kq)).mono fun e w' ⟨v, h, h4⟩ => ⟨v, h, h4, h4.choose_spec.choose_spec.2.2.2⟩) (fun w5 v w6 S5 hR hB3 S6 => ?_)
  obtain ⟨q2, r2, rfl, _, _, _⟩ := hR
  obtain ⟨f1, f2, f3⟩ := full_0 (t := exT) ex_sta
  rw [f1, f2, f3, ex_step]
  simp only [staV, staC, floV, floC, ex_vol, ex_leak]
  have hW6 := hW4.trans S6.toBelow
  repeat (first | (refine M0 ?_; first | refine O0 ?_ | refine z1 tok rfl ?_ | refine O1 rfl ?_ rfl | refine O2 rfl ?_ | refine O3 rfl ?_ rfl | refine O4 rfl rfl rfl (fun _ _ => ?_) | refine O5 tok rfl rfl rfl (fun _ _ => ?_) | refine U0 _ (U2 rfl) rfl ?_ | refine U0 _ (U3 tok rfl rfl rfl rfl rfl) rfl ?_ | refine z3 tok rfl ?_ | refine U0 _ (U4 rfl rfl) rfl ?_ | refine U0 _ (U5 rfl rfl) rfl ?_) | (refine M1 ?_; first | refine J0 ?_ | refine J1 ?_ | refine J2 mixed rfl (by kernel_rfl) ?_ | refine J3 mixed rfl rfl (by kernel_rfl) ?_ | refine J4 ?_ | refine J5 ?_ | refine J6 ?_ | refine J7 ?_ | refine J8 rfl ?_ | refine J9 rfl ?_) | (refine M2 ?_; first | refine I0 ?_ | refine I1 ?_ | refine I2 ?_ | refine I3 ?_ | refine I4 ?_ | refine I5 ?_ | refine I6 rfl ?_ | refine I7 ?_ | refine I8 ?_ | refine z4 ?_) | (refine M3 ?_; first | refine O6 ?_ | refine z2 tok rfl ?_ | refine O8 rfl ?_ | refine O7 rfl ?_ rfl | refine O9 rfl ?_ rfl | refine U1 _ (U4 rfl rfl) rfl ?_ | refine U1 _ (U5 rfl rfl) rfl ?_ | refine U1 _ (U2 rfl) rfl ?_ | refine U1 _ (U3 tok rfl rfl rfl rfl rfl) rfl ?_) | (refine M4 ?_; first | refine M6 ?_ | refine U6 rfl (by kernel_rfl) ?_ | refine U7 (by kernel_rfl) ?_) | (refine M5 ?_; first | exact M7 | refine U8 rfl ?_ | refine U9 rfl rfl ?_ ?_))
  refine XL.call (fst := []) (cap := []) (ck rfl) rfl rfl rfl (List.Sublist.refl _) (fun w1 v w2 => ∃ p, v = basV p exB ∧ BasAtP w2 (Btw w1.heap.size w2.heap.size) p exB) (fun w1 S1 => Basin_any w1) (fun w7 v w8 S7 ⟨p3, hv3, hb3⟩ hB8 S8 => ?_)
  subst hv3
  have hW8 := hW6.trans S8.toBelow
  have k7 : Keep (Btw w7.heap.size w8.heap.size) w8 _ := Keep.made S7 (Nat.le_refl _)
  refine XL.call (fst := []) (cap := []) (ck rfl) rfl rfl rfl (List.Sublist.refl _) (fun w1 v w2 => ∃ q, v = staV q exS ∧ IntsAt w2 (Btw w1.heap.size w2.heap.size) q exS.fil) (fun w1 S1 => State_any w1) (fun w9 v w10 S9 ⟨q3, hv4, hq3⟩ hB10 S10 => ?_)
  subst hv4
  have hW10 := hW8.trans S10.toBelow
  have hb10 := hb3.keep (k7.sys S10)
  have k10 := k7.later S9 hB10.size
  have kq3 : Keep (Btw w9.heap.size w10.heap.size) w10 _ := Keep.made S9 (Nat.le_refl _)
  repeat (first | (refine M0 ?_; first | refine O0 ?_ | refine z1 tok rfl ?_ | refine O1 rfl ?_ rfl | refine O2 rfl ?_ | refine O3 rfl ?_ rfl | refine U0 _ (Ev.call (f := 40) (ck rfl) rfl (fun w S => Tick_any w)) rfl ?_ | refine O4 rfl rfl rfl (fun _ _ => ?_) | refine O5 tok rfl rfl rfl (fun _ _ => ?_) | refine U0 _ (U2 rfl) rfl ?_ | refine U0 _ (U3 tok rfl rfl rfl rfl rfl) rfl ?_ | refine z3 tok rfl ?_ | refine U0 _ (U4 rfl rfl) rfl ?_ | refine U0 _ (U5 rfl rfl) rfl ?_) | (refine M1 ?_; first | refine J0 ?_ | refine J1 ?_ | refine J2 mixed rfl (by kernel_rfl) ?_ | refine J3 mixed rfl rfl (by kernel_rfl) ?_ | refine J4 ?_ | refine J5 ?_ | refine J6 ?_ | refine J7 ?_ | refine J8 rfl ?_ | refine J9 rfl ?_) | (refine M2 ?_; first | refine I0 ?_ | refine I1 ?_ | refine I2 ?_ | refine I3 ?_ | refine I4 ?_ | refine I5 ?_ | refine I6 rfl ?_ | refine I7 ?_ | refine I8 ?_ | refine z4 ?_) | (refine M3 ?_; first | refine O6 ?_ | refine z2 tok rfl ?_ | refine O8 rfl ?_ | refine O7 rfl ?_ rfl | refine O9 rfl ?_ rfl | refine U1 _ (Ev.call (f := 40) (ck rfl) rfl (fun w S => Tick_any w)) rfl ?_ | refine U1 _ (U4 rfl rfl) rfl ?_ | refine U1 _ (U5 rfl rfl) rfl ?_ | refine U1 _ (U2 rfl) rfl ?_ | refine U1 _ (U3 tok rfl rfl rfl rfl rfl) rfl ?_) | (refine M4 ?_; first | refine M6 ?_ | refine U6 rfl (by kernel_rfl) ?_ | refine U7 (by kernel_rfl) ?_) | (refine M5 ?_; first | exact M7 | refine U8 rfl ?_ | refine U9 rfl rfl ?_ ?_))
  simp only [tickV, tickC]
  refine XL.buildSlice tok rfl rfl rfl rfl rfl rfl rfl rfl rfl (fun gt hgt => ?_)
  refine XL.step _ (Ev.call (f := 27) (ck rfl) rfl (fun w' S => (Stay_any (p := p3) (q := q3) (s := exS) (ts := exTs) (r := ⟨some ⟨gt, 0, none⟩, 3, 3⟩) (lim := 285) (hL.below (hW10.trans S.toBelow)) (hb10.sys S (k10.new hgt)) (hq3.sys S (kq3.new hgt)) ⟨(ReadsP.block (S.own (gt, _) List.mem_cons_self).2 (Nat.zero_le _) rfl).mono fun j hj => hj.2, by simp⟩ :))) rfl ?_
  rw [ex_stayN, ex_stayE]
  repeat (first | (refine M0 ?_; first | refine O0 ?_ | refine z1 tok rfl ?_ | refine O1 rfl ?_ rfl | refine O2 rfl ?_ | refine O3 rfl ?_ rfl | refine O4 rfl rfl rfl (fun _ _ => ?_) | refine O5 tok rfl rfl rfl (fun _ _ => ?_) | refine U0 _ (U2 rfl) rfl ?_ | refine U0 _ (U3 tok rfl rfl rfl rfl rfl) rfl ?_ | refine z3 tok rfl ?_ | refine U0 _ (U4 rfl rfl) rfl ?_ | refine U0 _ (U5 rfl rfl) rfl ?_) | (refine M1 ?_; first | refine J0 ?_ | refine J1 ?_ | refine J2 mixed rfl (by kernel_rfl) ?_ | refine J3 mixed rfl rfl (by kernel_rfl) ?_ | refine J4 ?_ | refine J5 ?_ | refine J6 ?_ | refine J7 ?_ | refine J8 rfl ?_ | refine J9 rfl ?_) | (refine M2 ?_; first | refine I0 ?_ | refine I1 ?_ | refine I2 ?_ | refine I3 ?_ | refine I4 ?_ | refine I5 ?_ | refine I6 rfl ?_ | refine I7 ?_ | refine I8 ?_ | refine z4 ?_) | (refine M3 ?_; first | refine O6 ?_ | refine z2 tok rfl ?_ | refine O8 rfl ?_ | refine O7 rfl ?_ rfl | refine O9 rfl ?_ rfl | refine U1 _ (U4 rfl rfl) rfl ?_ | refine U1 _ (U5 rfl rfl) rfl ?_ | refine U1 _ (U2 rfl) rfl ?_ | refine U1 _ (U3 tok rfl rfl rfl rfl rfl) rfl ?_) | (refine M4 ?_; first | refine M6 ?_ | refine U6 rfl (by kernel_rfl) ?_ | refine U7 (by kernel_rfl) ?_) | (refine M5 ?_; first | exact M7 | refine U8 rfl ?_ | refine U9 rfl rfl ?_ ?_))
  refine XL.call (fst := []) (cap := []) (ck rfl) rfl rfl rfl (List.Sublist.refl _) (fun w1 v w2 => ∃ p, v = basV p exB ∧ BasAtP w2 (Btw w1.heap.size w2.heap.size) p exB) (fun w1 S1 => Basin_any w1) (fun w11 v w12 S11 ⟨p4, hv5, hb5⟩ hB12 S12 => ?_)
  subst hv5
  have k11 : Keep (Btw w11.heap.size w12.heap.size) w12 _ := Keep.made S11 (Nat.le_refl _)
  repeat (first | (refine M0 ?_; first | refine O0 ?_ | refine z1 tok rfl ?_ | refine O1 rfl ?_ rfl | refine O2 rfl ?_ | refine O3 rfl ?_ rfl | refine U0 _ (Ev.call (f := 36) (ck rfl) rfl (fun w S => (Volume_out (p := p4) (b := exB) (lev := -1001) (hb5.sys S k11) ex_chk (by decide) :))) rfl ?_ | refine O4 rfl rfl rfl (fun _ _ => ?_) | refine O5 tok rfl rfl rfl (fun _ _ => ?_) | refine U0 _ (U2 rfl) rfl ?_ | refine U0 _ (U3 tok rfl rfl rfl rfl rfl) rfl ?_ | refine z3 tok rfl ?_ | refine U0 _ (U4 rfl rfl) rfl ?_ | refine U0 _ (U5 rfl rfl) rfl ?_) | (refine M1 ?_; first | refine J0 ?_ | refine J1 ?_ | refine J2 mixed rfl (by kernel_rfl) ?_ | refine J3 mixed rfl rfl (by kernel_rfl) ?_ | refine J4 ?_ | refine J5 ?_ | refine J6 ?_ | refine J7 ?_ | refine J8 rfl ?_ | refine J9 rfl ?_) | (refine M2 ?_; first | refine I0 ?_ | refine I1 ?_ | refine I2 ?_ | refine I3 ?_ | refine I4 ?_ | refine I5 ?_ | refine I6 rfl ?_ | refine I7 ?_ | refine I8 ?_ | refine z4 ?_) | (refine M3 ?_; first | refine O6 ?_ | refine z2 tok rfl ?_ | refine O8 rfl ?_ | refine O7 rfl ?_ rfl | refine O9 rfl ?_ rfl | refine U1 _ (Ev.call (f := 36) (ck rfl) rfl (fun w S => (Volume_out (p := p4) (b := exB) (lev := -1001) (hb5.sys S k11) ex_chk (by decide) :))) rfl ?_ | refine U1 _ (U4 rfl rfl) rfl ?_ | refine U1 _ (U5 rfl rfl) rfl ?_ | refine U1 _ (U2 rfl) rfl ?_ | refine U1 _ (U3 tok rfl rfl rfl rfl rfl) rfl ?_) | (refine M4 ?_; first | refine M6 ?_ | refine U6 rfl (by kernel_rfl) ?_ | refine U7 (by kernel_rfl) ?_) | (refine M5 ?_; first | exact M7 | refine U8 rfl ?_ | refine U9 rfl rfl ?_ ?_))
  refine XE.retg tok Tryd.results23 rfl (by simp only [and_self, and_true]) (fun w' S => ?_)
  exact ⟨rfl, hW10.trans (S12.toBelow.trans S.toBelow)⟩
end Go.Proofs.YtoiepgcjinccpaaDoor.X
/-
  The law BasinSteps.
-/
namespace Go.Proofs.YtoiepgcjinccpaaDoor.X
open Go Go.RowKit Go.Proofs.YtoiepgcjinccpaaDoor.Bs
set_option linter.unusedVariables false
end Go.Proofs.YtoiepgcjinccpaaDoor.X
